/- BuKc: BcA BcB BcC. -/
import Derived.Test.YtiibohocdbaekaaGreatAmCBuK9
import Derived.Test.YtiibohocdbaekaaGreatAmCBuKb
import Derived.Test.YtiibohocdbaekaaGreatAmCNmKa
import Derived.Test.YtiibohocdbaekaaGreatAmCCodeK
set_option linter.unusedVariables false
set_option linter.unusedSimpArgs false
set_option linter.unusedSectionVars false
set_option maxRecDepth 100000
open Nat (reduceEqDiff)
namespace Go.Am
open Ca No
namespace Ca
theorem q50 {c:Ca} {line st:Int} {d:L8} (h:(c.fill line st d).2.2=22):c.pos line=none/\c.room line=none:=by
 unfold Ca.fill at h;cases hp:c.pos line with
 | some i=>rw [hp] at h;exact absurd (show (21:Int)=22 from h) (by decide)
 | none =>
  rw [hp] at h;cases hr:c.room line with
  | none=>exact ⟨rfl,rfl⟩
  | some i=>rw [hr] at h;exact absurd (show (0:Int)=22 from h) (by decide)
end Ca
def cQ (c:Ca) (line:Int) (e:En):Bool:=e.line.toNat % c.cW == line.toNat % c.cW && (e.r || e.w)
theorem q5h (p:Nat->Bool) (a w:Nat) (h:∀ i,p i=true ↔ a<=i/\i<a+w):∀ n,a+w<=n->((List.range n).filter p).length=w:=by
 have lo:∀ n,n<=a->((List.range n).filter p).length=0:=λ n hn=>by
  rw [jm,List.filter_eq_nil_iff];intro i hi q;have:=(h i).1 q;have:=FC.1 hi;omega
 have bT:∀ k,k<=w->((List.range (a+k)).filter p).length=k:=by
  intro k
  induction k with
  | zero=>exact λ _=>lo _ (qf _)
  | succ k ih =>
   intro hk;rw [<-kx,List.range_succ,JR,qx,ih (by omega),List.filter_cons_of_pos ((h _).2 ⟨by omega,by omega⟩)];rfl
 intro n hn;obtain ⟨d,rfl⟩:=Nat.exists_eq_add_of_le hn
 induction d with
 | zero=>exact bT w (qf _)
 | succ d ih =>
  rw [<-kx,List.range_succ,JR,qx,ih (by omega),List.filter_cons_of_neg (λ q=>by have:=(h _).1 q;omega)];rfl
theorem q52 {lines:Int} {c:Ca} {line:Int} {ys:List En} (hc:CI lines c) (hy:ys.Perm (c.sl.filter λ e=>e.st != 0)) (hr:c.room line=none):(ys.filter (cQ c line)).length=c.ways:=by
 rw [(hy.filter _).length_eq,List.filter_filter];have e:c.sl=(List.range c.sl.length).map c.en:=by
  refine jp λ k=>?_;rcases zt k c.sl.length with q|q
  ·rw [rO q,xg,ku q];rfl
  ·rw [xz q,xz (by rw [xu,jq];exact q)]
 have key:∀ i,i<c.sl.length->((cQ c line (c.en i) && ((c.en i).st != 0))=true ↔ c.fr line<=i/\i<c.fr line+c.ways):=λ i hi=>by
  constructor
  ·intro h;simp only [xh,bne_iff_ne,ne_eq] at h;obtain ⟨h1,h2⟩:=h;unfold cQ at h1;simp only [xh,AN] at h1;have:=(hc.ok i hi h2).2.2.2.1;rw [h1.1] at this;unfold fr;rw [<-this];have w0:=hc.w0;have d:=Nat.div_add_mod i c.ways;have m:=Nat.mod_lt i w0;rw [Nat.mul_comm] at d;omega
  ·rintro ⟨h1,h2⟩;obtain ⟨k,rfl⟩:=Nat.exists_eq_add_of_le h1;obtain ⟨r1,r2⟩:=qza hr k (by omega);have:=(hc.ok _ hi r1).2.2.2.1;rw [hc.xU line (by omega)] at this;simp only [xh,bne_iff_ne,ne_eq];refine ⟨?_,r1⟩;unfold cQ;rw [this]
   simpa using r2
 have fl:c.fr line+c.ways<=c.sl.length:=by
  have:=hc.gk line (k:=c.ways-1) (by have:=hc.w0;omega);have:=hc.w0;omega
 rw [e,List.filter_map,xu];have:=q5h (λ i=>decide (c.fr line<=i/\i<c.fr line+c.ways)) (c.fr line) c.ways (λ i=>by simp) c.sl.length fl;rw [<-this];congr 1;refine List.filter_congr λ i hi=>?_;have hi:=FC.1 hi;have k:=key i hi;show (cQ c line (c.en i) && ((c.en i).st != 0))=_
 by_cases q:c.fr line<=i/\i<c.fr line+c.ways
 ·rw [k.2 q,Af q]
 ·rw [AO q];cases hv:cQ c line (c.en i) && ((c.en i).st != 0) with
  | false=>rfl
  | true=>exact absurd (k.1 hv) q
inductive IB (n:No) (m:Mg) (k:Int):Prop where
 | full (hm:m.k=14\/m.k=15) (hr:n.c.room m.line=none) (hk:k=3)
 | taken (x:En) (hm:m.k=11\/m.k=12\/m.k=13) (hx:n.c.find m.line=some x) (hw:x.w=true\/x.r=true/\m.k ≠ 12) (hk:k=if m.line=0 then 2 else 1)
theorem q1q (n:No) (m:Mg) (st:Int):(n.bV m st).1.live=n.live/\(n.bV m st).1.code=n.code:=by
 unfold bV gone;split
 ·split<;>exact ⟨rfl,rfl⟩
 ·exact ⟨rfl,rfl⟩
theorem BN (n:No) (m:Mg) (hl:n.live=true) (hd:(n.fill m).1.live=false):n.c.room m.line=none/\(n.fill m).1.code=3:=by
 unfold No.fill at *;generalize (if m.k=15 then (2:Int) else 1)=st at *;unfold fG at *;split at hd
 ·rename_i q;rw [ql q];exact ⟨(q50 q).2,(q1q ..).2⟩
 ·rw [(q1q ..).1,hl] at hd;cases hd
theorem P9 (n:No) (x:En) (too:Bool) (hl:n.live=true) (hd:(n.lost x too).live=false):(x.w=true\/x.r=true/\too=true)/\(n.lost x too).code=if x.line=0 then 2 else 1:=by
 unfold lost at *;split at hd
 ·rename_i q;rw [ql q];refine ⟨by simpa using q,?_⟩;split<;>rfl
 ·rw [hl] at hd;cases hd
theorem Lj {lines:Int} {c:Ca} (hc:CI lines c) {l:Int} {x:En} (h:c.find l=some x):x.line=l /\ ∃ i,i<c.sl.length/\x=c.en i/\(c.en i).st ≠ 0:=by
 obtain ⟨i,hp,rfl⟩:=CS h;obtain ⟨-,h1,h2,h3,-⟩:=hc.aN hp;exact ⟨h3,i,h1,rfl,h2⟩
theorem vU {n:No} (hc:CI n.lines n.c) (m:Mg) (hl:n.live=true) (hd:(n.az m).1.live=false):m.core=n.core/\0<=m.line/\IB n m (n.az m).1.code:=by
 unfold az at *;split at hd
 ·rw [hl] at hd;cases hd
 rename_i q;have q1:m.core=n.core:=zl λ w=>q (.inl w);have q2:0<=m.line:=zl λ w=>q (.inr (.inl (by omega)));have q3:n.cR m ((n.c.find m.line).getD .zero):=zl λ w=>q (.inr (.inr (.inr w)));rw [qg q];refine ⟨q1,q2,?_⟩;split at hd
 ·rename_i k;rw [ql k];cases hf:n.c.find m.line with
  | none =>
   rw [hf] at hd;exact absurd hd (by show ¬ n.live=false;rw [hl];decide)
  | some x =>
   rw [hf] at hd;obtain ⟨a,b⟩:=P9 n x true hl hd;rw [(Lj hc hf).1] at b;exact .taken x (.inl k) hf (a.imp id λ w=>⟨w.1,by omega⟩) b
 rename_i k11;rw [qg k11];split at hd
 ·rename_i k;rw [ql k];cases hf:n.c.find m.line with
  | none=>rw [hf] at hd;rw [show n.live=false from hd] at hl;cases hl
  | some x =>
   rw [hf] at hd;simp only at hd ⊢;split at hd
   ·rename_i k12;obtain ⟨a,b⟩:=P9 n x false hl hd;rw [(Lj hc hf).1] at b;rw [ql k12];exact .taken x (.inr (.inl k12)) hf (a.imp id λ w=>by cases w.2) b
   ·rename_i k12;obtain ⟨a,b⟩:=P9 n x true hl hd;rw [(Lj hc hf).1] at b;rw [qg k12];exact .taken x (.inr (.inr (k.resolve_left k12))) hf (a.imp id λ w=>⟨w.1,k12⟩) b
 rename_i k23;rw [qg k23];split at hd
 ·rw [show n.live=false from hd] at hl;cases hl
 rename_i k16;rw [qg k16];cases hf:n.c.find m.line with
 | some x=>rw [hf] at hd;rw [show n.live=false from hd] at hl;cases hl
 | none =>
  rw [hf] at hd;have:=BN { n with out:=⟨0,0,0,.zero⟩ } m hl hd;refine .full ?_ this.1 this.2;unfold cR at q3;omega
inductive JF (n:No) (x:Bt) (k:Int):Prop where
 | done (h:x.k=4)
 | told (h:x.k=5) (h0:x.n ≠ 0) (hk:k=x.n)
 | gone (e:En) (h:x.k=6) (hx:n.c.find x.n=some e) (hw:(e.r || e.w)=true) (hk:k=4)
theorem yD (n:No) (k l:Int):(n.ask k l).1.live=n.live:=by unfold No.ask;split<;>rfl
theorem vD {n:No} (x:Bt) (hl:n.live=true) (hd:(n.call x).1.live=false):JF n x (n.call x).1.code:=by
 have no:∀ {p:Prop},n.live=false->p:=λ q=>by rw [hl] at q;cases q
 unfold No.call at *;split at hd
 ·unfold No.load at hd;split at hd
  ·cases hf:n.c.find (ln x.n) with
   | none=>rw [hf] at hd;exact no ((yD ..).symm.trans hd)
   | some _=>rw [hf] at hd;exact no hd
  ·exact no hd
 rename_i k0;rw [qg k0];split at hd
 ·unfold No.store at hd;split at hd
  ·split at hd
   ·exact no hd
   ·exact no ((yD ..).symm.trans hd)
  ·exact no hd
 rename_i k1;rw [qg k1];split at hd
 ·unfold No.fq at hd;rw [hl] at hd;split at hd
  ·exact no hd
  ·exact no hd
 rename_i k2;rw [qg k2];split at hd
 ·unfold No.begin at hd;rw [hl] at hd;exact no hd
 rename_i k3;rw [qg k3]
 by_cases k4:x.k=4
 ·exact .done k4
 rw [qg k4] at hd ⊢;split at hd
 ·rename_i k5;rw [ql k5];unfold No.abort at *;rw [hl] at hd ⊢;simp only [xa] at hd ⊢;split at hd
  ·exact no hd
  ·rename_i q;rw [qg q];exact .told k5 (by omega) rfl
 rename_i k5;rw [qg k5];split at hd
 ·rename_i k6;rw [ql k6];unfold No.aH at *;split at hd
  ·exact no hd
  ·rename_i q;rw [qg q];cases hf:n.c.find x.n with
   | none=>rw [hf] at hd;exact no hd
   | some e =>
    rw [hf] at hd;have g:∀ (z:No) (y:En),(z.gone y).1.live=z.live/\(z.gone y).1.code=z.code:=λ z y=>by unfold No.gone;split<;>exact ⟨rfl,rfl⟩
    simp only [(g _ _).1] at hd;simp only [(g _ _).2]
    by_cases w:(e.r || e.w)=true
    ·refine .gone e k6 hf w ?_;rw [ql w];rfl
    ·rw [qg w] at hd;exact no hd
 ·exact no hd
inductive Pz (b:Bu) (x:Bt) (c:Nat) (n:No) (k:Int):Prop where
 | call (h7:x.k ≠ 7) (hc:x.c=c) (h:JF n x k)
 | msg (m:Mg) (h7:x.k=7) (h0:0<=x.n) (hm:b.fl[x.n.toNat]? = some m) (hc:m.core=c) (hl:0<=m.line) (h:IB n m k)
theorem vV {b:Bu} {V:Int->L8} (hI:BuI b V) (x:Bt) {c:Nat} {n n':No} (hn:b.ns[c]? = some n) (hn':(b.step x).ns[c]? = some n') (hl:n.live=true) (hd:n'.live=false):Pz b x c n n'.code:=by
 have hcl:=(qe.1 hn).1;have wn:=hI.nw c n hn;have same:∀ {p:Prop},b.ns[c]? = some n'->p:=λ q=>by
  rw [hn] at q;injection q with q;rw [<-q,hl] at hd;cases hd
 unfold Bu.step at hn';split at hn'
 ·rename_i k7;split at hn'
  ·rename_i hr;unfold Bu.ti at hn';obtain ⟨m,hm⟩:∃ m,b.fl[x.n.toNat]? = some m:=⟨_,qy (by omega)⟩
   rw [hm] at hn';simp only at hn';obtain ⟨mk,mc,ml⟩:=hI.mw m (zg hm);split at hn'
   ·split at hn'
    ·exact same hn'
    ·exact same hn'
   ·split at hn'
    ·rename_i z hz;have hn':(b.ns.set m.core.toNat (z.az m).1)[c]? = some n':=hn'
     by_cases e:m.core.toNat=c
     ·rw [e,qu hcl] at hn';injection hn' with hn'
      rw [e,hn] at hz;injection hz with hz
      subst hz;rw [<-hn'] at hd ⊢;obtain ⟨a1,a2,a3⟩:=vU wn.ni.ci m hl hd;exact .msg m k7 hr.1 hm (by omega) a2 a3
     ·rw [qm e] at hn';exact same hn'
    ·exact same hn'
  ·exact same hn'
 rename_i k7;split at hn'
 ·rename_i c0;cases hz:b.ns[x.c.toNat]? with
  | none=>rw [hz] at hn';exact same hn'
  | some z =>
   rw [hz] at hn';have hn':(b.ns.set x.c.toNat (z.call x).1)[c]? = some n':=hn'
   by_cases e:x.c.toNat=c
   ·rw [e,qu hcl] at hn';injection hn' with hn'
    rw [e,hn] at hz;injection hz with hz
    subst hz;rw [<-hn'] at hd ⊢;exact .call k7 (by omega) (vD x hl hd)
   ·rw [qm e] at hn';exact same hn'
 ·exact same hn'
def kZ (l:Int) (ys:List En):En:=ys.foldl (λ e y=>if y.line=l then y else e) .zero
theorem q3r {l:Int} {ys:List En} {i:Nat} {y:En} (h:ys[i]? = some y):kZ l (ys.take (i+1))=if y.line=l then y else kZ l (ys.take i):=by
 unfold kZ;rw [yq,h];simp
theorem q13 {l:Int} {x:En}:∀ (ys:List En) (e:En),(∀ y ∈ ys,y.line=l->y=x)->(e=x\/x ∈ ys/\x.line=l)->ys.foldl (λ e y=>if y.line=l then y else e) e=x
 | [],e,_,h=>h.elim id λ q=>nomatch q.1
 | y::ys,e,hu,h=>by
  rw [Fj];refine q13 ys _ (λ z hz=>hu z (yx _ hz)) ?_
  by_cases q:y.line=l
  ·rw [ql q];exact .inl (hu y (vv ..) q)
  ·rw [qg q];rcases h with h|⟨h,hl⟩
   ·exact .inl h
   ·rcases zr.1 h with h|h
    ·rw [h] at hl;exact absurd hl q
    ·exact .inr ⟨h,hl⟩
theorem qu8 {lines:Int} {c:Ca} (hc:CI lines c) {ys:List En} (hy:ys.Perm (c.sl.filter λ e=>e.st != 0)) {l:Int} {x:En} (h:c.find l=some x):kZ l ys=x:=by
 obtain ⟨h1,i,hi,hx,hs⟩:=Lj hc h;have mem:∀ y,y ∈ ys -> ∃ j,j<c.sl.length/\c.en j=y/\(c.en j).st ≠ 0:=λ y q=>by
  have h2:=hy.mem_iff.1 q;rw [va] at h2;obtain ⟨j,hj⟩:=ki h2.1;obtain ⟨a,b⟩:=yA hj;exact ⟨j,b,a,by rw [a];simpa using h2.2⟩
 refine q13 ys .zero (λ y q e=>?_) (.inr ⟨hy.mem_iff.2 (va.2 ⟨by rw [hx];exact zg (rO hi),by rw [hx];simpa using hs⟩),h1⟩);obtain ⟨j,hj,rfl,hjs⟩:=mem y q;rw [hx,hc.uq j i hj hi hjs hs (by rw [e,<-h1,hx])]
end Go.Am
namespace Go.Am
open Go.Proofs Ca
open Lang (ints)
variable {M:aA} [MK M]
theorem xN (H:AHeap):Op.eq .ptr false [.nilp,.nilp] H=some (.bool true):=rfl
theorem q6o {H0:AHeap}:nG M KL [] [] (λ _=>False) (λ _=>False) H0 []:=by
 intro Y R S W0 H1 hnx hN hR0 hW0 loc locS step;have h:zq M KL [.fn (.yield Y) [] []] H1 λ _ H'=>H'=H1:=by
  refine qk1 ?_;simp only [↓qd,qp,aa,reduceIte,reduceEqDiff,qk2]
 obtain ⟨v,H',hc,rfl⟩:=h.elim;exact ⟨v,_,W0,hc,Fr.refl _,λ b hb=>⟨hW0 b hb,.inl hb⟩,.inl hR0⟩
theorem yS (H:AHeap):zq M CE [.nilp] H λ v H'=>v=.nils/\Fr Em H H':=by
 refine qk0 ?_;obtain ⟨w0,wa,wb,w4,w9⟩:=Oh M ⟨none,CE⟩;obtain ⟨H1,e1⟩:∃ X,X=H.alloc (OR [.nils] dM):=⟨_,rfl⟩
 have f1:Fr Em H H1:=by rw [e1];exact (Fr.refl H).alloc _
 have n1:H1.next=H.next+1:=by rw [e1,xd]
 have g1:H1.get H.next=some (OR [.nils] dM):=by rw [e1,qw]
 have hs:zq M Hn [.nilp] H1 λ v H'=>v=.fn (.func KL) [] []/\H'=H1:=by
  refine qhi ?_;obtain ⟨w0,w2,w10⟩:=qhj M ⟨none,Hn⟩;simp only [↓qd,qp,aa,reduceIte,reduceEqDiff,w0,w2,xN]
 simp only [↓qd,qp,aa,reduceIte,reduceEqDiff,w0,<-e1,w4];refine C3.q hs λ v H2 ⟨hv,hh⟩=>?_;rw [hv,hh];refine gN.iter (fn:=JT) (lp:=FE) (pa:=Lm 0) (pb:=Kg 0) qjz Ll.1 Ll.2 (by decide) qix qiy
  (q6o (M:=M) (H0:=H1)) (λ i V Hx=>V H.next/\Hx.get H.next=some (OR [.nils] dM)) (λ _ _ _=>False) (λ x=>x=H.next) (qf _) ?_ ?_ ?_ ?_ ?_ ?_ ?_ ?_
 ·exact λ x hx=>hx.elim (λ q=>q.elim) λ q=>q.elim
 ·exact λ x hx=>by omega
 ·exact ⟨rfl,g1⟩
 ·exact λ i V Ha Hb h hs hn=>⟨h.1,by rw [hs _ h.1];exact h.2⟩
 ·exact λ e V Ha Hb h _ _=>h
 ·exact λ L i lr lb x hx=>by cases hx
 ·intro d V Hd hd1 hd2 hgd hfd hVd hP;have lq:Op.ae [.ptr H.next 0] Hd=some .nils:=xp (qz hP.2) 0;have fE:Fr Em H Hd:=f1.trans hfd λ y q=>.inr (q.elim (λ q=>by omega) False.elim);simp only [↓qd,qp,aa,reduceIte,reduceEqDiff,w9,lq,zX];exact ⟨hgd,fE.set (.inr (by omega)) _⟩
 ·exact λ e d V Hd _ _ _ _ _ _ h=>h.elim
section
variable {H0 H:AHeap} {B:Nat} {s:Bs} {b:Bu} {own:Nat->Nat}
def Nl (H:AHeap) (b:Bu) (c:Nat) (v:AV) (H':AHeap):Prop:=(v=.nils\/H.next<=aF v) /\ ∃ ys,du ao 21 H' v ys/\ys.length<=40 /\ ∀ n,b.ns[c]? = some n->ys.Perm (n.c.sl.filter λ e=>e.st != 0)
theorem qxt (h:dg H0 H B s b own) (hb:BB b) (c:Nat):zq M qic [.ptr B 0,.int .i64 (c:Int)] H λ v H'=>Fr Em H H'/\Nl H b c v H':=by
 refine qn4 ?_;simp only [↓qd,qp,aa,reduceIte,reduceEqDiff,qn5];refine C3.q (rv (M:=M) h hb.N4 (c:Int)) λ v H2 ⟨hh,q1,q2⟩=>?_;cases hn:b.ns[c]? with
 | none =>
  have:=List.getElem?_eq_none_iff.1 hn;rw [q2 (by omega),hh];simp only [↓qd,qp,aa,reduceIte,reduceEqDiff,qn];refine C3.q (yS (M:=M) H) λ v H3 ⟨hv,f3⟩=>?_;rw [hv];simp only [↓qd,qp,aa,reduceIte,reduceEqDiff];exact ⟨f3,.inl rfl,[],(show du ao 21 H3 .nils [] from cq.sl (e:=qr) (Own.nil ..)),xx _,λ n q=>by rw [hn] at q;cases q⟩
 | some n =>
  have hl:=(qe.1 hn).1;obtain ⟨A,hA,hv⟩:=q1 ⟨by omega,by omega⟩;rw [x9] at hA;rw [hv,hh];have nr:=h.no _ n A hn hA;simp only [↓qd,qp,aa,reduceIte,reduceEqDiff,qn];refine C3.q (q6l (M:=M) nr) λ v H3 ⟨ys,h1,h2,h3,h4⟩=>?_;simp only [↓qd,qp,aa,reduceIte,reduceEqDiff];refine ⟨h3,?_,ys,cq.sl h1,xj h2.len nr.len,λ n' q=>by rw [hn] at q;injection q with q;subst q;exact h2.perm⟩
  by_cases q:v=.nils
  ·exact .inl q
  ·exact .inr (h4 _ ⟨q,rfl⟩)
theorem q4m (h:dg H0 H B s b own) (hb:BB b) {c:Nat} {n:No} (hn:b.ns[c]? = some n):zq M qlo [.ptr B 0,.int .i64 (c:Int)] H λ v H'=>v=.int .i64 n.code/\H'=H:=by
 refine qt4 ?_;simp only [↓qd,qp,aa,reduceIte,reduceEqDiff,qt5];refine C3.q (rv (M:=M) h hb.N4 (c:Int)) λ v H2 ⟨hh,q1,_⟩=>?_;have hl:=(qe.1 hn).1;obtain ⟨A,hA,hv⟩:=q1 ⟨by omega,by omega⟩;rw [x9] at hA;rw [hv,hh];have nr:=h.no _ n A hn hA;have l16:Op.ae [.ptr A.r 16] H=some (.int .i64 n.code):=(nr.ld 16).trans (zS n A.b A.bv).2.2.2.2.2.2.1;simp only [↓qd,qp,aa,reduceIte,reduceEqDiff,qn];refine C3.q (R:=λ v H'=>v=.int .i64 n.code/\H'=H) ?_ λ v H3 ⟨hv,hh⟩=>?_
 ·refine qpz ?_;obtain ⟨w0,w2,w10⟩:=qp0 M ⟨none,qjt⟩;simp only [↓qd,qp,aa,reduceIte,reduceEqDiff,w0,w2,kv,w10,qi,l16]
 rw [hv,hh];simp only [↓qd,qp,aa,reduceIte,reduceEqDiff]
end
theorem q51 {H:AHeap} {lv:AV} {ys:List En} {l c s w line:Int} {ca:Ca} (hy:du ao 21 H lv ys) (hl:ys.length<=40) (hs:0<s) (es:ca.cW=s.toNat) (h0:∀ y ∈ ys,0<=y.line) (l0:0<=line) :
 zq M LU [lv,.agg (bo l c s w),.int .i64 line] H λ v H'=>v=.bool (decide (((ys.filter (cQ ca line)).length:Int)=w))/\Fr Em H H':=by
 refine qyk ?_;obtain ⟨w0,w4,w23,w9,w15,w22⟩:=qyl M ⟨none,LU⟩;obtain ⟨H1,e1⟩:∃ X,X=H.alloc (OR (bo l c s w) yf):=⟨_,rfl⟩
 have f1:Fr Em H H1:=by rw [e1];exact (Fr.refl H).alloc _
 have g1:H1.get H.next=some (OR (bo l c s w) yf):=by rw [e1,qw]
 have ld2:Op.ae [.ptr H.next 2] H1=some (.int .i64 s):=xp (qz g1) 2;have ld3:Op.ae [.ptr H.next 3] H1=some (.int .i64 w):=xp (qz g1) 3;have hy1:=hy.em f1;obtain ⟨ln,rfl⟩:∃ ln:Nat,line=(ln:Int):=⟨line.toNat,by omega⟩
 have r2:Op.bin .rem [.int .i64 (ln:Int),.int .i64 s]=some (.int .i64 ((ln % s.toNat:Nat):Int)):=tY hs;simp only [↓qd,qp,aa,reduceIte,reduceEqDiff,w0,xk,<-e1,w4];refine aR.intro (λ m E Hx=>∃ (i:Nat),E=[(8,.int .i64 (i:Int)),(7,.int .i64 (((ys.take i).filter (cQ ca (ln:Int))).length:Int)),(6,.bool false),(4,.ptr H.next 0),(0,lv),(2,.int .i64 (ln:Int))]/\m=ys.length-i/\i<=ys.length/\H1=Hx) ?_ ?_
 ·exact ⟨_,_,⟨0,rfl,rfl,xx _,rfl⟩,by simp only [↓qd,qp,aa,reduceIte,reduceEqDiff,BW,List.filter_nil,vq]⟩
 rintro m E Hx ⟨i,rfl,rfl,hi,rfl⟩
 by_cases q:(i:Int)<((ys.length:Nat):Int)
 ·obtain ⟨y,hyi⟩:∃ y,ys[i]? = some y:=⟨_,qy (by omega)⟩
  have y0:=h0 y (zg hyi);obtain ⟨a,ha⟩:∃ a:Nat,y.line=(a:Int):=⟨y.line.toNat,by omega⟩
  have ix:=hy1.idx hyi (z:=(i:Int)) rfl .i64;have l0:Op.ae [.ptr (aF lv) (bI 21 lv i)] H1=some (.int .i64 (a:Int)):=by rw [du.jW (enc:=ao) (size:=21) zd hy1 hyi (by decide),<-ha];rfl
  have lr:Op.ae [.ptr (aF lv) (bI 21 lv i+2)] H1=some (.bool y.r):=du.ae (enc:=ao) (size:=21) zd hy1 hyi (j:=2) (by decide);have lw:Op.ae [.ptr (aF lv) (bI 21 lv i+3)] H1=some (.bool y.w):=du.ae (enc:=ao) (size:=21) zd hy1 hyi (j:=3) (by decide);have r1:Op.bin .rem [.int .i64 (a:Int),.int .i64 s]=some (.int .i64 ((a % s.toNat:Nat):Int)):=tY hs;have wi:ak .i64 ((i:Int)+1)=((i+1:Nat):Int):=by rw [xm (by omega) (by omega)];omega
  have tl:(ys.take i).length=i:=by rw [ja];omega
  have kl:((ys.take i).filter (cQ ca (ln:Int))).length<=40:=by have:=vh (cQ ca (ln:Int)) (ys.take i);omega
  obtain ⟨k,hk⟩:∃ k,k=((ys.take i).filter (cQ ca (ln:Int))).length:=⟨_,rfl⟩
  rw [<-hk] at kl;have wk:ak .i64 ((k:Int)+1)=((k+1:Nat):Int):=by rw [xm (by omega) (by omega)];omega
  have nx:((ys.take (i+1)).filter (cQ ca (ln:Int))).length=if cQ ca (ln:Int) y=true then k+1 else k:=by
   rw [yq,hyi,JR,qx,<-hk];show k+([y].filter (cQ ca (ln:Int))).length=_
   by_cases z:cQ ca (ln:Int) y=true
   ·rw [ql z,List.filter_cons_of_pos z];rfl
   ·rw [qg z,List.filter_cons_of_neg z];rfl
  have is:cQ ca (ln:Int) y=(decide (a % s.toNat=ln % s.toNat) && (y.r || y.w)):=by
   unfold cQ;rw [es,ha,x9,x9];rfl
  rw [<-hk];have fin:∀ k':Nat,k'=(if cQ ca (ln:Int) y=true then k+1 else k) -> ∃ (n':Nat) (E':Env),(∃ (i:Nat),E'=[(8,.int .i64 (i:Int)),(7,.int .i64 (((ys.take i).filter (cQ ca (ln:Int))).length:Int)),(6,.bool false),(4,.ptr H.next 0),(0,lv),(2,.int .i64 (ln:Int))]/\n'=ys.length-i/\i<=ys.length)/\E'=[(8,.int .i64 ((i+1:Nat):Int)),(7,.int .i64 (k':Int)),(6,.bool false),(4,.ptr H.next 0),(0,lv),(2,.int .i64 (ln:Int))]/\n'<ys.length-i:=λ k' e=>⟨_,_,⟨i+1,rfl,rfl,by omega⟩,by rw [nx,e],by omega⟩
  by_cases z:a % s.toNat=ln % s.toNat
  ·have z1:(((a % s.toNat:Nat):Int)=((ln % s.toNat:Nat):Int)):=by rw [z]
   rw [Af z] at is;cases hr:y.r with
   | true =>
    rw [hr] at lr is;have is:cQ ca (ln:Int) y=true:=is;simp only [↓qd,qp,aa,reduceIte,reduceEqDiff,w9,hy1.len,q,w15,ix,l0,ld2,r1,r2,xc z1,lr,wk,w22,wi];obtain ⟨n',E',h1,h2,h3⟩:=fin (k+1) (by rw [ql is]);exact ⟨n',E',h1,by rw [h2];simp only [↓qd,qp,aa,reduceIte,reduceEqDiff],h3⟩
   | false =>
    rw [hr] at lr is;cases hw:y.w with
    | true =>
     rw [hw] at lw is;have is:cQ ca (ln:Int) y=true:=is;simp only [↓qd,qp,aa,reduceIte,reduceEqDiff,w9,hy1.len,q,w15,ix,l0,ld2,r1,r2,xc z1,lr,lw,wk,w22,wi];obtain ⟨n',E',h1,h2,h3⟩:=fin (k+1) (by rw [ql is]);exact ⟨n',E',h1,by rw [h2];simp only [↓qd,qp,aa,reduceIte,reduceEqDiff],h3⟩
    | false =>
     rw [hw] at lw is;have is:¬ cQ ca (ln:Int) y=true:=by rw [is];decide
     simp only [↓qd,qp,aa,reduceIte,reduceEqDiff,w9,hy1.len,q,w15,ix,l0,ld2,r1,r2,xc z1,lr,lw,w22,wi];obtain ⟨n',E',h1,h2,h3⟩:=fin k (by rw [qg is]);exact ⟨n',E',h1,by rw [h2];simp only [↓qd,qp,aa,reduceIte,reduceEqDiff],h3⟩
  ·have z1:¬ (((a % s.toNat:Nat):Int)=((ln % s.toNat:Nat):Int)):=by omega
   rw [AO z] at is;have is:¬ cQ ca (ln:Int) y=true:=by rw [is];simp
   simp only [↓qd,qp,aa,reduceIte,reduceEqDiff,w9,hy1.len,q,w15,ix,l0,ld2,r1,r2,z1,w22,wi];obtain ⟨n',E',h1,h2,h3⟩:=fin k (by rw [qg is]);exact ⟨n',E',h1,by rw [h2];simp only [↓qd,qp,aa,reduceIte,reduceEqDiff],h3⟩
 ·have ei:i=ys.length:=by omega
  simp only [↓qd,qp,aa,reduceIte,reduceEqDiff,w9,hy1.len,q,w23,ld3];rw [ei,Gw];exact ⟨rfl,f1⟩
end Go.Am
namespace Go.Am
open Go.Proofs Ca
open Lang (ints)
variable {M:aA} [MK M]
theorem PQ:Op.build (ao .zero) [] []=some (.agg (ao .zero)):=rfl
inductive Cau (ca:Ca) (ys:List En) (w:Int) (x:Bt) (m:Mg) (c:Nat) (k:Int):Prop where
 | told (h:x.k=5) (hc:x.c=c) (hk:k=x.n)
 | gone (e:En) (h:x.k=6) (hc:x.c=c) (hx:kZ x.n ys=e) (hw:(e.r || e.w)=true) (hk:k=4)
 | full (h:x.k=7) (hc:m.core=c) (hl:0<=m.line) (hm:m.k=14\/m.k=15) (hr:((ys.filter (cQ ca m.line)).length:Int)=w) (hk:k=3)
 | taken (e:En) (h:x.k=7) (hc:m.core=c) (hm:m.k=11\/m.k=12\/m.k=13) (hx:kZ m.line ys=e) (hw:e.w=true\/e.r=true/\m.k ≠ 12) (hk:k=if m.line=0 then 2 else 1)
theorem q3d {H:AHeap} {lv:AV} {ys:List En} {l co s w k:Int} {ca:Ca} {x:Bt} {m:Mg} {c:Nat} (hy:du ao 21 H lv ys) (hl:ys.length<=40) (hs:0<s) (es:ca.cW=s.toNat) (h0:∀ y ∈ ys,0<=y.line) (hc:Cau ca ys w x m c k) :
 zq M FX [.agg (cV x),.agg (ai m),.int .i64 (c:Int),lv,.agg (bo l co s w)] H λ v H'=>v=.int .i64 k/\Fr Em H H':=by
 refine qwi ?_;obtain ⟨w0,w4,w6,w12,w31,w17,w70,w45,w23,w57,w30⟩:=qwj M ⟨none,FX⟩;obtain ⟨H1,e1⟩:∃ X,X=H.alloc (OR (cV x) vj):=⟨_,rfl⟩
 obtain ⟨H2,e2⟩:∃ X,X=H1.alloc (OR (ai m) qt):=⟨_,rfl⟩
 obtain ⟨H3,e3⟩:∃ X,X=H2.alloc (OR (bo l co s w) yf):=⟨_,rfl⟩
 obtain ⟨H4,e4⟩:∃ X,X=H3.alloc (OR (ao .zero) qr):=⟨_,rfl⟩
 have n1:H1.next=H.next+1:=by rw [e1,xd]
 have n2:H2.next=H1.next+1:=by rw [e2,xd]
 have n3:H3.next=H2.next+1:=by rw [e3,xd]
 have n4:H4.next=H3.next+1:=by rw [e4,xd]
 have f1:Fr Em H H1:=by rw [e1];exact (Fr.refl H).alloc _
 have f2:Fr Em H1 H2:=by rw [e2];exact (Fr.refl H1).alloc _
 have f3:Fr Em H2 H3:=by rw [e3];exact (Fr.refl H2).alloc _
 have f4:Fr Em H3 H4:=by rw [e4];exact (Fr.refl H3).alloc _
 have f34:Fr Em H2 H4:=f3.trans f4 λ _ q=>q.elim;have f24:Fr Em H1 H4:=f2.trans f34 λ _ q=>q.elim;have f14:Fr Em H H4:=f1.trans f24 λ _ q=>q.elim;have gx:H4.get H.next=some (OR (cV x) vj):=by rw [f24.ah _ (by omega) id,e1,qw]
 have gm:H4.get H1.next=some (OR (ai m) qt):=by rw [f34.ah _ (by omega) id,e2,qw]
 have gs:H4.get H2.next=some (OR (bo l co s w) yf):=by rw [f4.ah _ (by omega) id,e3,qw]
 have ge:H4.get H3.next=some (OR (ao .zero) qr):=by rw [e4,qw]
 have hy4:=hy.em f14;have st:=iH ge (zd _) (zd .zero) (oH _);obtain ⟨H5,e5⟩:∃ X,X=H4.set H3.next (OR (ao .zero) qr):=⟨_,rfl⟩
 rw [<-e5] at st;have f5:Fr (On H3.next) H4 H5:=by rw [e5];exact (Fr.refl H4).set (W:=On H3.next) (.inl rfl) _
 have g5:H5.get H3.next=some (OR (ao .zero) qr):=by rw [e5,xb]
 -- what stays
 have row:∀ {Hx:AHeap},Fr (On H3.next) H4 Hx -> ∀ j,Op.ae [.ptr H.next j] Hx=(cV x)[j]?:=λ f j=>xp (qz (by rw [f.ah _ (by omega) (λ (q:H.next=H3.next)=>by omega)];exact gx)) j;have rom:∀ {Hx:AHeap},Fr (On H3.next) H4 Hx -> ∀ j,Op.ae [.ptr H1.next j] Hx=(ai m)[j]?:=λ f j=>xp (qz (by rw [f.ah _ (by omega) (λ (q:H1.next=H3.next)=>by omega)];exact gm)) j;have ros:∀ {Hx:AHeap},Fr (On H3.next) H4 Hx->Op.aG 4 [.ptr H2.next 0] Hx=some (.agg (bo l co s w)):=λ f=>fU (by rw [f.ah _ (by omega) (λ (q:H2.next=H3.next)=>by omega)];exact gs) rfl;have slt:∀ {Hx:AHeap},Fr (On H3.next) H4 Hx->du ao 21 Hx lv ys:=λ {Hx} f=>by
  by_cases hn:ys.length=0
  ·exact Sl.fr hy4 f (.inl hn)
  ·exact Sl.fr hy4 f (.inr λ (q:aF lv=H3.next)=>by have:=(Sl.at (by decide:0<21) hy (i:=0) (by omega)).1;omega)
 have fin:∀ {Hx:AHeap},Fr (On H3.next) H4 Hx->Fr Em H Hx:=λ f=>f14.trans f λ y (q:y=H3.next)=>.inr (by omega);have loop:∀ (E0:Env) (L:Int),kW ((13,.int .i64 0) :: [(12,.int .i64 L),(11,.ptr H3.next 0),(10,.int .i64 0),(9,.ptr H2.next 0),(6,.ptr H1.next 0),(5,.ptr H.next 0),(2,.int .i64 (c:Int)),(3,lv)]) ((13,.int .i64 0)::E0)->(∀ (Hx:AHeap) (i:Int),Fr (On H3.next) H4 Hx->Hx.get H3.next=some (OR (ao (kZ L ys)) qr)->W M ⟨none,FX⟩ (qna 31) true (c6 M [.tmp 10] (kO λ v H'=>v=.int .i64 k/\Fr Em H H')) [(13,.int .i64 i),(12,.int .i64 L),(11,.ptr H3.next 0),(10,.int .i64 0),(9,.ptr H2.next 0),(6,.ptr H1.next 0),(5,.ptr H.next 0),(2,.int .i64 (c:Int)),(3,lv)] [] Hx) ->
  W M ⟨none,FX⟩ (qna 12) true (c6 M [.tmp 10] (kO λ v H'=>v=.int .i64 k/\Fr Em H H')) E0 [] H5:=λ E0 L hsub hQ=>by
  simp only [↓qd,qp,aa,reduceIte,reduceEqDiff,w12];refine aR.intro (λ m E Hx=>∃ (i:Nat),E=[(13,.int .i64 (i:Int)),(12,.int .i64 L),(11,.ptr H3.next 0),(10,.int .i64 0),(9,.ptr H2.next 0),(6,.ptr H1.next 0),(5,.ptr H.next 0),(2,.int .i64 (c:Int)),(3,lv)]/\m=ys.length-i/\i<=ys.length/\Fr (On H3.next) H4 Hx/\Hx.get H3.next=some (OR (ao (kZ L (ys.take i))) qr)) ?_ ?_
  ·exact ⟨_,_,⟨0,rfl,rfl,xx _,f5,g5⟩,hsub⟩
  rintro m' E Hx ⟨i,rfl,rfl,hi,fx,gx'⟩;have sl:=slt fx
  by_cases q:(i:Int)<((ys.length:Nat):Int)
  ·obtain ⟨y,hyi⟩:∃ y,ys[i]? = some y:=⟨_,qy (by omega)⟩
   have ix:=sl.idx hyi (z:=(i:Int)) rfl .i64;have l0:Op.ae [.ptr (aF lv) (bI 21 lv i)] Hx=some (.int .i64 y.line):=by rw [du.jW (enc:=ao) (size:=21) zd sl hyi (by decide)];rfl
   have ln:=du.aG (enc:=ao) (size:=21) zd (by decide) sl hyi;have wi:ak .i64 ((i:Int)+1)=((i+1:Nat):Int):=by rw [xm (by omega) (by omega)];omega
   have nx:=q3r (l:=L) hyi
   by_cases e:y.line=L
   ·rw [ql e] at nx;have sx:=iH gx' (zd _) (zd y) (oH _);simp only [↓qd,qp,aa,reduceIte,reduceEqDiff,w17,sl.len,q,w23,ix,l0,xc e,ln,sx,w30,wi];exact ⟨_,_,⟨i+1,rfl,rfl,by omega,fx.set (W:=On H3.next) (.inl rfl) _,by rw [xb,nx]⟩,by simp only [↓qd,qp,aa,reduceIte,reduceEqDiff],by omega⟩
   ·rw [qg e] at nx;simp only [↓qd,qp,aa,reduceIte,reduceEqDiff,w17,sl.len,q,w23,ix,l0,e,w30,wi];exact ⟨_,_,⟨i+1,rfl,rfl,by omega,fx,by rw [nx];exact gx'⟩,by simp only [↓qd,qp,aa,reduceIte,reduceEqDiff],by omega⟩
  ·have ei:i=ys.length:=by omega
   rw [ei,Gw] at gx';simp only [↓qd,qp,aa,reduceIte,reduceEqDiff,w17,sl.len,q];exact hQ Hx _ fx gx'
 have lkm:=rom f5 2;have lkm':Op.ae [.ptr H1.next 2] H5=some (.int .i64 m.line):=lkm;simp only [↓qd,qp,aa,reduceIte,reduceEqDiff,w0,xk,<-e1,<-e2,<-e3,eZ,PQ,<-e4,st,w4,lkm'];have ld:∀ {Hx:AHeap},Fr (On H3.next) H4 Hx->Op.ae [.ptr H.next 0] Hx=some (.int .i64 x.k)/\Op.ae [.ptr H.next 1] Hx=some (.int .i64 x.c)/\Op.ae [.ptr H.next 2] Hx=some (.int .i64 x.n)/\Op.ae [.ptr H1.next 0] Hx=some (.int .i64 m.k)/\Op.ae [.ptr H1.next 1] Hx=some (.int .i64 m.core)/\Op.ae [.ptr H1.next 2] Hx=some (.int .i64 m.line):=λ f=>⟨row f 0,row f 1,row f 2,rom f 0,rom f 1,rom f 2⟩
 have lde:∀ {Hx:AHeap} {e:En},Hx.get H3.next=some (OR (ao e) qr)->Op.ae [.ptr H3.next 2] Hx=some (.bool e.r)/\Op.ae [.ptr H3.next 3] Hx=some (.bool e.w):=λ g=>⟨xp (qz g) 2,xp (qz g) 3⟩
 obtain ⟨a0,a1,a2,b0,b1,b2⟩:=ld f5;rcases hc with ⟨hx,hc,hk⟩|⟨e,hx,hc,he,hw,hk⟩|⟨hx,hc,hl0,hm,hr,hk⟩|⟨e,hx,hc,hm,he,hw,hk⟩
 ·rw [hx] at a0;simp only [↓qd,qp,aa,reduceIte,reduceEqDiff,Int.reduceEq,w6,a0];refine loop _ m.line (by simp only [↓qd,qp,aa,reduceIte,reduceEqDiff]) λ Hx i fx gx'=>?_;obtain ⟨c0,c1,c2,d0,d1,d2⟩:=ld fx;rw [hx] at c0;rw [hc] at c1;simp only [↓qd,qp,aa,reduceIte,reduceEqDiff,Int.reduceEq,Int.reduceNe,Int.reduceLT,w31,c0,c1,c2,hk];exact fin fx
 ·rw [hx] at a0;simp only [↓qd,qp,aa,reduceIte,reduceEqDiff,Int.reduceEq,w6,a0,a2];refine loop _ x.n (by simp only [↓qd,qp,aa,reduceIte,reduceEqDiff]) λ Hx i fx gx'=>?_;obtain ⟨c0,c1,c2,d0,d1,d2⟩:=ld fx;rw [hx] at c0;rw [hc] at c1;rw [he] at gx';obtain ⟨lr,lw⟩:=lde gx';cases hr:e.r with
  | true =>
   rw [hr] at lr;simp only [↓qd,qp,aa,reduceIte,reduceEqDiff,Int.reduceEq,Int.reduceNe,Int.reduceLT,w31,c0,c1,lr,hk];exact fin fx
  | false =>
   rw [hr] at lr hw;rw [show e.w=true from hw] at lw;simp only [↓qd,qp,aa,reduceIte,reduceEqDiff,Int.reduceEq,Int.reduceNe,Int.reduceLT,w31,c0,c1,lr,lw,hk];exact fin fx
 ·rw [hx] at a0;simp only [↓qd,qp,aa,reduceIte,reduceEqDiff,Int.reduceEq,w6,a0];refine loop _ m.line (by simp only [↓qd,qp,aa,reduceIte,reduceEqDiff]) λ Hx i fx gx'=>?_;obtain ⟨c0,c1,c2,d0,d1,d2⟩:=ld fx;rw [hx] at c0;rw [hc] at d1;have r4:=ros fx;have fs:zq M LU [lv,.agg (bo l co s w),.int .i64 m.line] Hx λ v H'=>v=.bool true/\Fr Em Hx H':=(q51 (M:=M) (slt fx) hl hs es h0 hl0).mono λ v H' ⟨hv,f⟩=>⟨by rw [hv,Af hr],f⟩
  rcases hm with hm|hm
  ·rw [hm] at d0;simp only [↓qd,qp,aa,reduceIte,reduceEqDiff,Int.reduceEq,Int.reduceNe,Int.reduceLT,w31,c0,w45,d1,d0,r4];refine C3.q fs λ v H6 ⟨hv,f6⟩=>?_;rw [hv];simp only [↓qd,qp,aa,reduceIte,reduceEqDiff,hk];exact fin (fx.em f6)
  ·rw [hm] at d0;simp only [↓qd,qp,aa,reduceIte,reduceEqDiff,Int.reduceEq,Int.reduceNe,Int.reduceLT,w31,c0,w45,d1,d0,r4];refine C3.q fs λ v H6 ⟨hv,f6⟩=>?_;rw [hv];simp only [↓qd,qp,aa,reduceIte,reduceEqDiff,hk];exact fin (fx.em f6)
 ·rw [hx] at a0;simp only [↓qd,qp,aa,reduceIte,reduceEqDiff,Int.reduceEq,w6,a0];refine loop _ m.line (by simp only [↓qd,qp,aa,reduceIte,reduceEqDiff]) λ Hx i fx gx'=>?_;obtain ⟨c0,c1,c2,d0,d1,d2⟩:=ld fx;rw [hx] at c0;rw [hc] at d1;rw [he] at gx';obtain ⟨lr,lw⟩:=lde gx';have z:∀ {Q:Prop},(m.line=0->k=2->Q)->(¬ m.line=0->k=1->Q)->Q:=λ h1 h2=>by
   by_cases q:m.line=0
   ·rw [ql q] at hk;exact h1 q hk
   ·rw [qg q] at hk;exact h2 q hk
  rcases hm with hm|hm|hm
  ·rw [hm] at d0;rcases hw with hw|⟨hw,-⟩
   ·rw [hw] at lw;cases hr:e.r with
    | true =>
     rw [hr] at lr;refine z (λ q e=>?_) λ q e=>?_
     ·simp only [↓qd,qp,aa,reduceIte,reduceEqDiff,Int.reduceEq,Int.reduceNe,Int.reduceLT,w31,c0,w45,d1,d0,w57,lr,xc q,e];exact fin fx
     ·simp only [↓qd,qp,aa,reduceIte,reduceEqDiff,Int.reduceEq,Int.reduceNe,Int.reduceLT,w31,c0,w45,d1,d0,w57,lr,q,w70,e];exact fin fx
    | false =>
     rw [hr] at lr;refine z (λ q e=>?_) λ q e=>?_
     ·simp only [↓qd,qp,aa,reduceIte,reduceEqDiff,Int.reduceEq,Int.reduceNe,Int.reduceLT,w31,c0,w45,d1,d0,w57,lr,lw,xc q,e];exact fin fx
     ·simp only [↓qd,qp,aa,reduceIte,reduceEqDiff,Int.reduceEq,Int.reduceNe,Int.reduceLT,w31,c0,w45,d1,d0,w57,lr,lw,q,w70,e];exact fin fx
   ·rw [hw] at lr;refine z (λ q e=>?_) λ q e=>?_
    ·simp only [↓qd,qp,aa,reduceIte,reduceEqDiff,Int.reduceEq,Int.reduceNe,Int.reduceLT,w31,c0,w45,d1,d0,w57,lr,xc q,e];exact fin fx
    ·simp only [↓qd,qp,aa,reduceIte,reduceEqDiff,Int.reduceEq,Int.reduceNe,Int.reduceLT,w31,c0,w45,d1,d0,w57,lr,q,w70,e];exact fin fx
  ·rw [hm] at d0;have hw:e.w=true:=hw.elim id λ w=>absurd hm w.2;rw [hw] at lw;cases hr:e.r with
   | true =>
    rw [hr] at lr;refine z (λ q e=>?_) λ q e=>?_
    ·simp only [↓qd,qp,aa,reduceIte,reduceEqDiff,Int.reduceEq,Int.reduceNe,Int.reduceLT,w31,c0,w45,d1,d0,w57,lr,lw,xc q,e];exact fin fx
    ·simp only [↓qd,qp,aa,reduceIte,reduceEqDiff,Int.reduceEq,Int.reduceNe,Int.reduceLT,w31,c0,w45,d1,d0,w57,lr,lw,q,w70,e];exact fin fx
   | false =>
    rw [hr] at lr;refine z (λ q e=>?_) λ q e=>?_
    ·simp only [↓qd,qp,aa,reduceIte,reduceEqDiff,Int.reduceEq,Int.reduceNe,Int.reduceLT,w31,c0,w45,d1,d0,w57,lr,lw,xc q,e];exact fin fx
    ·simp only [↓qd,qp,aa,reduceIte,reduceEqDiff,Int.reduceEq,Int.reduceNe,Int.reduceLT,w31,c0,w45,d1,d0,w57,lr,lw,q,w70,e];exact fin fx
  ·rw [hm] at d0;rcases hw with hw|⟨hw,-⟩
   ·rw [hw] at lw;cases hr:e.r with
    | true =>
     rw [hr] at lr;refine z (λ q e=>?_) λ q e=>?_
     ·simp only [↓qd,qp,aa,reduceIte,reduceEqDiff,Int.reduceEq,Int.reduceNe,Int.reduceLT,w31,c0,w45,d1,d0,w57,lr,xc q,e];exact fin fx
     ·simp only [↓qd,qp,aa,reduceIte,reduceEqDiff,Int.reduceEq,Int.reduceNe,Int.reduceLT,w31,c0,w45,d1,d0,w57,lr,q,w70,e];exact fin fx
    | false =>
     rw [hr] at lr;refine z (λ q e=>?_) λ q e=>?_
     ·simp only [↓qd,qp,aa,reduceIte,reduceEqDiff,Int.reduceEq,Int.reduceNe,Int.reduceLT,w31,c0,w45,d1,d0,w57,lr,lw,xc q,e];exact fin fx
     ·simp only [↓qd,qp,aa,reduceIte,reduceEqDiff,Int.reduceEq,Int.reduceNe,Int.reduceLT,w31,c0,w45,d1,d0,w57,lr,lw,q,w70,e];exact fin fx
   ·rw [hw] at lr;refine z (λ q e=>?_) λ q e=>?_
    ·simp only [↓qd,qp,aa,reduceIte,reduceEqDiff,Int.reduceEq,Int.reduceNe,Int.reduceLT,w31,c0,w45,d1,d0,w57,lr,xc q,e];exact fin fx
    ·simp only [↓qd,qp,aa,reduceIte,reduceEqDiff,Int.reduceEq,Int.reduceNe,Int.reduceLT,w31,c0,w45,d1,d0,w57,lr,q,w70,e];exact fin fx
end Go.Am
