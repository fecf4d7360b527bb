/- BuK8: BsD BsE BsF. -/
import Derived.Test.YtiibohocdbaekaaGreatAmCBuK7
set_option linter.unusedVariables false
set_option linter.unusedSimpArgs false
set_option linter.unusedSectionVars false
set_option maxRecDepth 100000
open Nat (reduceEqDiff)
namespace Go.Am
open Go.Proofs Ca
open Lang (ints)
variable {M:aA} [MK M]
def Bu.ti (b:Bu) (i:Nat):Bu:=match b.fl[i]? with
 | none=>b
 | some m=>if m.k<=7 then match b.l[m.line.toNat]?,b.m[m.line.toNat]? with
  | some x,some w=>{ b with m:=b.m.set m.line.toNat (x.az w m).2.1,l:=b.l.set m.line.toNat (x.az w m).1,fl:=b.fl.eraseIdx i++(x.az w m).2.2 }
  | _,_=>b
  else match b.ns[m.core.toNat]? with
   | some n=>{ b with ns:=b.ns.set m.core.toNat (n.az m).1,fl:=b.fl.eraseIdx i++(n.az m).2 }
   | none=>b
section
variable {H0 H:AHeap} {B:Nat} {s:Bs} {b:Bu} {own:Nat->Nat} {c:Int} {n:No}
theorem dg.quiet (h:dg H0 H B s b own) {c:Nat} {n n':No} {A:Na} {H1:AHeap} (hn:b.ns[c]? = some n) (hA:s.ad[c]? = some A) (ht:nM H0 H A.r A.b A.sv A.bv n' H1):iB H0 H B s (b.put c (n',[])) H1:=by
 obtain ⟨s',o',h1,q1,f1⟩:=h.node hn hA ht;refine ⟨s',o',?_,q1,f1⟩;have:b.put c (n',[]) = { b with ns:=b.ns.set c n' }:=by unfold Bu.put;simp
 rw [this];exact h1
theorem Mw {H1:AHeap} {e:AV} {n':No} (h:dg H0 H B s b own) (hb:BB b) (c0:0<=c) (hn:b.ns[c.toNat]? = some n) {f:Nat} {cap:List AV}
 (hf:∀ {A:Na},s.ad[c.toNat]? = some A->zq M f ([AV.ptr A.r 0]++cap) H λ v H'=>v=e/\bR H0 H' A.r A.b A.sv A.bv n' A.ks/\Fr (fw A.r A.b A.sv A.bv) H H'):zq M Ix [.ptr B 0,.int .i64 c,.fn (.func f) [] cap] H λ v H'=>v=e/\iB H0 H B s (b.put c.toNat (n',[])) H':=by
 refine qlx ?_;obtain ⟨w0,w4,w12⟩:=qly M ⟨none,Ix⟩;simp only [↓qd,qp,aa,reduceIte,reduceEqDiff,w0];refine C3.q (rv (M:=M) h hb.N4 c) λ v H1 ⟨hh,h1,_⟩=>?_;obtain ⟨A,hA,hv⟩:=h1 (su hn c0);rw [hv,hh];have t0:=xc (show (0:Int)=0 from rfl);simp only [↓qd,qp,aa,reduceIte,reduceEqDiff,qn,w4,t0,w12];refine C3.q (hf hA) λ v H2 ⟨hv2,hnr,hf2⟩=>?_;rw [hv2];simp only [↓qd,qp,aa,reduceIte,reduceEqDiff];exact h.quiet hn hA (hnr.t hf2)
theorem Ng (h:dg H0 H B s b own) (hb:BB b) (hc:¬ (0<=c/\c<b.ns.length)) (fv:AV):zq M Ix [.ptr B 0,.int .i64 c,fv] H λ v H'=>v=.int .i64 2/\H'=H:=by
 refine qlx ?_;obtain ⟨w0,w4,w12⟩:=qly M ⟨none,Ix⟩;simp only [↓qd,qp,aa,reduceIte,reduceEqDiff,w0];refine C3.q (rv (M:=M) h hb.N4 c) λ v H1 ⟨hh,_,h1⟩=>?_;rw [h1 hc,hh];have t2:¬ (2:Int)=0:=by decide
 simp only [↓qd,qp,aa,reduceIte,reduceEqDiff,qn,w4,t2]
theorem q2s (h:dg H0 H B s b own) (hb:BB b) (c0:0<=c) (hn:b.ns[c.toNat]? = some n):zq M Qc [.ptr B 0,.int .i64 c] H λ v H'=>v=.int .i64 (if n.live=true then 41 else 0)/\iB H0 H B s (b.put c.toNat (n.begin,[])) H':=by
 refine qkn ?_;simp only [↓qd,qp,aa,reduceIte,reduceEqDiff,qko];refine C3.q (Mw (M:=M) (H1:=H) h hb c0 hn (cap:=[]) λ {A} hA=>qz1 (M:=M) (h.no _ n A hn hA)) λ v H2 ⟨hv,hp⟩=>?_;rw [hv];simp only [↓qd,qp,aa,reduceIte,reduceEqDiff];exact hp
theorem vT (h:dg H0 H B s b own) (hb:BB b) (hc:¬ (0<=c/\c<b.ns.length)):zq M Qc [.ptr B 0,.int .i64 c] H λ v H'=>v=.int .i64 2/\H'=H:=by
 refine qkn ?_;simp only [↓qd,qp,aa,reduceIte,reduceEqDiff,qko];refine C3.q (Ng (M:=M) h hb hc _) λ v H2 ⟨hv,hh⟩=>?_;rw [hv,hh];simp only [↓qd,qp,aa,reduceIte,reduceEqDiff]
theorem qzr (h:dg H0 H B s b own) (hb:BB b) (c0:0<=c) (hn:b.ns[c.toNat]? = some n):zq M Ni [.ptr B 0,.int .i64 c] H λ v H'=>v=.int .i64 (if n.live=true then 0 else 40)/\iB H0 H B s (b.put c.toNat (n.bj,[])) H':=by
 refine qjv ?_;simp only [↓qd,qp,aa,reduceIte,reduceEqDiff,qjw];refine C3.q (Mw (M:=M) (H1:=H) h hb c0 hn (cap:=[]) λ {A} hA=>qwx (M:=M) (h.no _ n A hn hA)) λ v H2 ⟨hv,hp⟩=>?_;rw [hv];simp only [↓qd,qp,aa,reduceIte,reduceEqDiff];exact hp
theorem q4n (h:dg H0 H B s b own) (hb:BB b) (hc:¬ (0<=c/\c<b.ns.length)):zq M Ni [.ptr B 0,.int .i64 c] H λ v H'=>v=.int .i64 2/\H'=H:=by
 refine qjv ?_;simp only [↓qd,qp,aa,reduceIte,reduceEqDiff,qjw];refine C3.q (Ng (M:=M) h hb hc _) λ v H2 ⟨hv,hh⟩=>?_;rw [hv,hh];simp only [↓qd,qp,aa,reduceIte,reduceEqDiff]
theorem qzw {A:Na} {t:Nat} {k:Int} (nr:bR H0 H A.r A.b A.sv A.bv n A.ks) (hl:Op.ae [.ptr t 0] H=some (.int .i64 k)):zq M GF ([.ptr A.r 0] ++ [.ptr t 0]) H λ v H'=>v=.int .i64 (n.abort k).2/\bR H0 H' A.r A.b A.sv A.bv (n.abort k).1 A.ks/\Fr (fw A.r A.b A.sv A.bv) H H':=by
 refine qn2 ?_;simp only [↓qd,qp,aa,reduceIte,reduceEqDiff,qn3,hl];refine C3.q (q2q (M:=M) nr k) λ v H2 ⟨hv,hp⟩=>?_;rw [hv];simp only [↓qd,qp,aa,reduceIte,reduceEqDiff];exact hp
theorem qvm (h:dg H0 H B s b own) (hb:BB b) (c0:0<=c) (hn:b.ns[c.toNat]? = some n) (k:Int):zq M Nz [.ptr B 0,.int .i64 c,.int .i64 k] H λ v H'=>iB H0 H B s (b.put c.toNat ((n.abort k).1,[])) H':=by
 refine qkl ?_;obtain ⟨H1,e1⟩:∃ X,X=H.alloc (OR [.int .i64 k] eM):=⟨_,rfl⟩
 have f1:Fr Em H H1:=by rw [e1];exact (Fr.refl H).alloc _
 have g1:H1.get H.next=some (OR [.int .i64 k] eM):=by rw [e1,qw]
 have ca:AV.cells (.int .i64 k)=[.int .i64 k]:=rfl;have l1:Op.ae [.ptr H.next 0] H1=some (.int .i64 k):=xp (qz g1) 0;have mk:Op.cA GF 0 [.ptr H.next 0]=some (.fn (.func GF) [] [.ptr H.next 0]):=rfl;simp only [↓qd,qp,aa,reduceIte,reduceEqDiff,qkm,ca,<-e1,mk];have h1:=h.em f1;refine C3.q (Mw (M:=M) (H1:=H1) (e:=.int .i64 (n.abort k).2) (n':=(n.abort k).1) h1 hb c0 hn (cap:=[.ptr H.next 0]) λ {A} hA=>qzw (M:=M) (h1.no _ n A hn hA) l1) λ v H2 ⟨hv,hp⟩=>?_;simp only [↓qd,qp,aa,reduceIte,reduceEqDiff];exact iB.pre f1 hp
theorem qzq (h:dg H0 H B s b own) (hb:BB b) (hc:¬ (0<=c/\c<b.ns.length)) (k:Int):zq M Nz [.ptr B 0,.int .i64 c,.int .i64 k] H λ v H'=>Fr Em H H':=by
 refine qkl ?_;obtain ⟨H1,e1⟩:∃ X,X=H.alloc (OR [.int .i64 k] eM):=⟨_,rfl⟩
 have f1:Fr Em H H1:=by rw [e1];exact (Fr.refl H).alloc _
 have ca:AV.cells (.int .i64 k)=[.int .i64 k]:=rfl;have mk:Op.cA GF 0 [.ptr H.next 0]=some (.fn (.func GF) [] [.ptr H.next 0]):=rfl;simp only [↓qd,qp,aa,reduceIte,reduceEqDiff,qkm,ca,<-e1,mk];refine C3.q (Ng (M:=M) (h.em f1) hb hc _) λ v H2 ⟨hv,hh⟩=>?_;rw [hh];simp only [↓qd,qp,aa,reduceIte,reduceEqDiff];exact f1
theorem zM {fv:AV} {fl:List Mg} (h:Sk ai qt 11 H fv fl) {i:Nat} (hi:i<fl.length) (hl:fl.length<=1000000):zq M OD [fv,.int .i64 (i:Int),.int .i64 ((i+1:Nat):Int)] H λ v H'=>Sk ai qt 11 H' v (fl.eraseIdx i)/\Fr (aI fv) H H' /\ ∀ z,aI v z->aI fv z:=by
 refine qjk ?_;obtain ⟨w0,w4,w12⟩:=qjl M ⟨none,OD⟩;rcases h with ⟨-,rfl⟩|⟨b,j,alt,r,hk⟩
 ·simp at hi
 obtain ⟨v0,v1,v2,v3,H1,v4,H2,a0,a1,a2,a3,a6,a4,a5,b5,f5⟩:=hk.del xq vk (by decide) hi (zero:=ai ⟨0,0,0,.zero⟩) (xq _) (vk _) 88;have hln:=(hk.sl xq).len;have ne:¬ (i:Int)=((i+1:Nat):Int):=by omega
 simp only [↓qd,qp,aa,reduceIte,reduceEqDiff,w0,hln,a0,w4,ne,w12,a1,a2,a3,a6,a4,mZ,a5];exact ⟨.inr ⟨_,_,_,_,b5⟩,f5.mono λ z hz (q:z=b)=>by rw [q];exact hk.on,λ z hz=>by rw [b5.KG hz];exact hk.on⟩
theorem dg.dir (h:dg H0 H B s b own) {i:Nat} {x x':De} {a a':AV} {w':L8} {H':AHeap} (hx:s.xs[i]? = some (x,a)) (he:cC H' s.D s.mp s.lv s.ev b.ns.length (b.m.set i w') s.xs i x' a') (f:Fr s.dw H H') (hz:∀ z,aI a' z->aI a z\/H.next<=z) :
 ∃ s' own2,dg H0 H' B s' { b with m:=b.m.set i w',l:=b.l.set i x' } own2/\(∀ z,jF B s' z->jF B s z\/H.next<=z)/\Fr (jF B s) H H':=by
 have fB:Fr (jF B s) H H':=f.mono λ z _ q=>.inr (.inl q);have ne:∀ {z k:Nat},own z=k->k ≠ 1 -> ¬ s.dw z:=λ e1 e2 q=>e2 (by rw [<-e1];exact h.oD _ q);have H0n:H0.next<=H.next:=by have:=h.lo B (.inl rfl);have:=h.lt;omega
 have hi:=(qe.1 hx).1;have hdw:∀ z,Bs.dw { s with xs:=s.xs.set i (x',a') } z->s.dw z\/H.next<=z:=λ z q=>by
  rcases q with q|q|q|q|⟨k,y,c,hk,q⟩
  ·exact .inl (.inl q)
  ·exact .inl (.inr (.inl q))
  ·exact .inl (.inr (.inr (.inl q)))
  ·exact .inl (.inr (.inr (.inr (.inl q))))
  ·have hk:(s.xs.set i (x',a'))[k]? = some (y,c):=hk
   by_cases e:k=i
   ·subst e;rw [qu hi] at hk;injection hk with hk;injection hk with _ hk;subst hk
    exact (hz z q).elim (λ q=>.inl (.inr (.inr (.inr (.inr ⟨k,x,a,hx,q⟩))))) .inr
   ·rw [qm (yt e)] at hk;exact .inl (.inr (.inr (.inr (.inr ⟨k,y,c,hk,q⟩))))
 have hW:∀ z,jF B { s with xs:=s.xs.set i (x',a') } z->jF B s z\/H.next<=z:=λ z q=>by
  rcases q with q|q|q|q|q
  ·exact .inl (.inl q)
  ·exact (hdw z q).elim (λ q=>.inl (.inr (.inl q))) .inr
  ·exact .inl (.inr (.inr (.inl q)))
  ·exact .inl (.inr (.inr (.inr (.inl q))))
  ·exact .inl (.inr (.inr (.inr (.inr q))))
 have ow:∀ {z:Nat},z<H.next->c7 own H.next 1 z=own z:=λ q=>ql q
 refine ⟨{ s with xs:=s.xs.set i (x',a') },c7 own H.next 1,⟨?_,qk h.lt f.next,he.d,?_,?_,λ c n A hn hA=>?_,h.al,?_,?_,λ z q=>?_,λ z q=>?_,λ z q=>?_,λ c A hA z q=>?_,λ z q=>?_⟩,hW,fB⟩
 ·simp only [qv];rw [f.ah _ h.lt (ne h.oB (by decide))];exact h.row
 ·simp only [List.map_set,h.dx]
 ·exact Own.fr h.nv f λ z hz q=>ne (h.oN z hz) (by decide) q
 ·refine (h.no c n A hn hA).off f λ z w=>⟨h.lo z (.inr (.inl w)),λ w2=>?_⟩
  have:=h.oC c A hA z w2;have:=h.oD z w;omega
 ·exact h.fl.fr f λ z hz q=>ne (h.oF z hz) (by decide) q
 ·rw [ow h.lt];exact h.oB
 ·unfold c7;split
  ·rcases hdw z q with w|w
   ·exact h.oD z w
   ·omega
  ·rfl
 ·rw [ow (h.low (.inr (.inr (.inl q))))];exact h.oN z q
 ·rw [ow (h.low (.inr (.inr (.inr (.inl q)))))];exact h.oF z q
 ·rw [ow (h.low (.inr (.inr (.inr (.inr ⟨c,A,hA,q⟩)))))];exact h.oC c A hA z q
 ·rcases hW z q with w|w
  ·exact h.lo z w
  ·omega
end
end Go.Am
namespace Go.Am
open Go.Proofs Ca
open Lang (ints)
variable {M:aA} [MK M]
theorem qyg (x:De) (w:L8) (m:Mg):(x.az w m).2.2.length<=4:=by
 have hb:∀ (y:De) n,(y.begin n w).2.length<=4:=λ y n=>by
  unfold De.begin;split
  ·simp
  ·split
   ·simp
   ·rw [xu];unfold nd;exact vh ..
 have hr:∀ (y:De) w' (q:Prop) [Decidable q] (r:List Mg),r.length<=3->(y.pU w' q r).2.2.length<=4:=λ y w' q _ r h=>by
  unfold De.pU;split
  ·simp only [qx,ky,vq];omega
  ·simp only;omega
 unfold De.az;split;· simp
 split
 ·split
  ·simp
  ·exact hb _ _
 split;· exact hr _ _ _ _ (by simp)
 split;· exact hr _ _ _ _ (by simp)
 split;· exact hr _ _ _ _ (by simp)
 split;· exact hr _ _ _ _ (by simp)
 cases x.wt with
 | nil=>simp
 | cons n r=>exact hb _ _
section
variable {H0 H:AHeap} {B:Nat} {s:Bs} {b:Bu} {own:Nat->Nat} {V:Int->L8}
theorem q2w (h:dg H0 H B s b own) (hb:BB b) {i:Int} (hi:¬ (0<=i/\i<b.fl.length)):zq M HZ [.ptr B 0,.int .i64 i] H λ v H'=>v=.tuple [.agg (ai ⟨0,0,0,.zero⟩),.int .i64 50]/\Fr Em H H':=by
 refine qih ?_;obtain ⟨w0,w2,-,-,-,-⟩:=qii M ⟨none,HZ⟩;obtain ⟨H1,e1⟩:∃ X,X=H.alloc (OR (ai ⟨0,0,0,.zero⟩) qt):=⟨_,rfl⟩
 have f1:Fr Em H H1:=by rw [e1];exact (Fr.refl H).alloc _
 have g1:H1.get H.next=some (OR (ai ⟨0,0,0,.zero⟩) qt):=by rw [e1,qw]
 have st:=iH g1 (xq _) (xq ⟨0,0,0,.zero⟩) (vk _);have ln:=fU (xb H1 H.next (OR (ai ⟨0,0,0,.zero⟩) qt)) (xq ⟨0,0,0,.zero⟩);have h1:=h.em f1;have hln:=h1.fl.len xq;have fin:Fr Em H (H1.set H.next (OR (ai ⟨0,0,0,.zero⟩) qt)):=f1.set (.inr (qf _)) _
 by_cases q0:i<0
 ·simp only [↓qd,qp,aa,reduceIte,reduceEqDiff,w0,mZ,<-e1,w2,kv,xc q0,BV,st,ln];exact fin
 have q1:((b.fl.length:Nat):Int)<=i:=by omega
 simp only [↓qd,qp,aa,reduceIte,reduceEqDiff,w0,mZ,<-e1,w2,kv,q0,qi,h1.l2,hln,xc q1,BV,st,ln];exact fin
theorem qxr (h:dg H0 H B s b own) (hb:BB b) (hI:BuI b V) (hwl:∀ x ∈ b.l,x.wt.length<=900000) {i:Nat} {m:Mg} (hm:b.fl[i]? = some m):zq M HZ [.ptr B 0,.int .i64 (i:Int)] H λ v H'=>v=.tuple [.agg (ai m),.int .i64 0]/\iB H0 H B s (b.ti i) H':=by
 have hil:=(qe.1 hm).1;have hfl:=hb.fl;have N4:=hI.N4;obtain ⟨mk,mc,ml⟩:=hI.mw m (zg hm);refine qih ?_;obtain ⟨w0,w2,w17,w21,w23,w29⟩:=qii M ⟨none,HZ⟩;obtain ⟨H1,e1⟩:∃ X,X=H.alloc (OR (ai ⟨0,0,0,.zero⟩) qt):=⟨_,rfl⟩
 have f1:Fr Em H H1:=by rw [e1];exact (Fr.refl H).alloc _
 have n1:H1.next=H.next+1:=by rw [e1,xd]
 have g1:H1.get H.next=some (OR (ai ⟨0,0,0,.zero⟩) qt):=by rw [e1,qw]
 have h1:=h.em f1;have hsl:=h1.fl.sl xq;have hln:=h1.fl.len xq;have q0:¬ (i:Int)<0:=by omega
 have q1:¬ ((b.fl.length:Nat):Int)<=(i:Int):=by omega
 have ix:=hsl.idx hm (z:=(i:Int)) rfl .i64;have ld:=hsl.aG xq (by decide) hm;obtain ⟨H2,e2⟩:∃ X,X=H1.alloc (OR (ai ⟨0,0,0,.zero⟩) qt):=⟨_,rfl⟩
 have g2:H2.get H1.next=some (OR (ai ⟨0,0,0,.zero⟩) qt):=by rw [e2,qw]
 have st2:=iH g2 (xq _) (xq m) (vk m);obtain ⟨H3,e3⟩:∃ X,X=H2.set H1.next (OR (ai m) qt):=⟨_,rfl⟩
 rw [<-e3] at st2;have f12:Fr Em H1 H2:=by rw [e2];exact (Fr.refl H1).alloc _
 have f13:Fr Em H1 H3:=by rw [e3];exact f12.set (.inr (qf _)) _
 have n3:H3.next=H.next+2:=by rw [e3,C8,e2,xd,n1]
 have g3:H3.get H1.next=some (OR (ai m) qt):=by rw [e3,xb]
 have g3z:H3.get H.next=some (OR (ai ⟨0,0,0,.zero⟩) qt):=by rw [f13.ah _ (by omega) id];exact g1
 have h3:=h1.em f13;have wi:ak .i64 ((i:Int)+1)=((i+1:Nat):Int):=by rw [xm (by omega) (by omega)];omega
 have F3:Fr Em H H3:=f1.trans f13 λ _ q=>q.elim;simp only [↓qd,qp,aa,reduceIte,reduceEqDiff,w0,mZ,<-e1,w2,kv,q0,qi,h1.l2,hln,q1,w17,ix,ld,<-e2,st2,h3.l2,wi];refine C3.q (zM (M:=M) h3.fl hil (by omega)) λ v4 H4 ⟨k4,f4,o4⟩=>?_;obtain ⟨H5,s5,s',c7,h5,o5,f5⟩:=h3.wF k4 f4 (λ z hz=>.inl (o4 z hz));have lo3:∀ z,jF B s z->z<H.next:=λ z hz=>h.low hz
 have sub5:∀ z,jF B s' z->jF B s z\/H3.next<=z:=o5
 have keep5:∀ z,z<H3.next->H.next<=z->H5.get z=H3.get z:=λ z q1 q2=>f5.ah z q1 λ w=>by have:=lo3 z w;omega
 have lk5:Op.ae [.ptr H1.next 0] H5=some (.int .i64 m.k):=xp (qz (show H5.get H1.next=some (OR (ai m) qt) from by rw [keep5 _ (by omega) (by omega)];exact g3)) 0;have lc5:Op.ae [.ptr H1.next 1] H5=some (.int .i64 m.core):=xp (qz (show H5.get H1.next=some (OR (ai m) qt) from by rw [keep5 _ (by omega) (by omega)];exact g3)) 1;have lU5:Op.aG 11 [.ptr H1.next 0] H5=some (.agg (ai m)):=fU (by rw [keep5 _ (by omega) (by omega)];exact g3) (xq m);have mk1:Op.cA vp 1 [.ptr s'.D 0]=some (.fn (.func vp) [.ptr s'.D 0] []):=rfl;have m5:=f5.next
 -- behind the hearing
 have fin:∀ {H7:AHeap} {b':Bu},iB H0 H5 B s' b' H7->(∃ Hx,Op.aG 11 [.ptr H1.next 0] H7=some (.agg (ai m))/\Op.store 11 [.ptr H.next 0,.agg (ai m)] H7=some (.undef,Hx)/\Op.aG 11 [.ptr H.next 0] Hx=some (.agg (ai m))/\iB H0 H B s b' Hx):=λ {H7 b'} hp=>by
  obtain ⟨s7,o7,h7,q7,f7⟩:=hp;have keep7:∀ z,z<H3.next->H.next<=z->H7.get z=H3.get z:=λ z w1 w2=>by
   rw [f7.ah z (by omega) λ w=>(sub5 z w).elim (λ w=>by have:=lo3 z w;omega) λ w=>by omega];exact keep5 z w1 w2
  have gz:H7.get H.next=some (OR (ai ⟨0,0,0,.zero⟩) qt):=by rw [keep7 _ (by omega) (by omega)];exact g3z
  have m7:=f7.next
  have sub7:∀ z,jF B s7 z->jF B s z\/H3.next<=z:=λ z hz=>(q7 z hz).elim (sub5 z) λ w=>.inr (by omega)
  refine ⟨_,fU (by rw [keep7 _ (by omega) (by omega)];exact g3) (xq m),iH gz (xq _) (xq m) (vk m),fU (xb ..) (xq m),s7,o7,h7.fr ((Fr.refl H7).set (W:=On H.next) (.inl rfl) _) λ z hz=>?_,λ z hz=>(sub7 z hz).elim .inl λ w=>.inr (by omega),?_⟩
  ·have hz:z=H.next:=hz
   subst hz;refine ⟨by have:=h.lo B (.inl rfl);have:=h.lt;omega,λ w=>(sub7 _ w).elim (λ w=>by have:=lo3 _ w;omega) λ w=>by omega⟩
  ·refine ((((F3.mono λ _ _ q=>q.elim).trans f5 λ z q=>.inl q).trans f7 λ z q=>?_).set (.inr (qf _)) _);exact (sub5 z q).elim .inl λ w=>.inr (by omega)
 have hel:(b.fl.eraseIdx i).length<=b.fl.length:=List.length_eraseIdx_le ..;simp only [↓qd,qp,aa,reduceIte,reduceEqDiff,qi,s5,w21,h5.l0,mk1,w23,lk5];unfold Bu.ti;rw [hm]
 by_cases k7:m.k<=7
 ·have nk:¬ 7<m.k:=by omega
  simp only [ql k7];obtain ⟨x,w,hx,hw,he⟩:=hI.entry ml.1 ml.2;rw [hx,hw];have hxx:∃ a,s'.xs[m.line.toNat]? = some (x,a):=by
   have hl:=(qe.1 hx).1;have hl2:m.line.toNat<s'.xs.length:=by
    have:=congrArg List.length h5.dx;rw [xu] at this;have:s'.xs.length=b.l.length:=this;omega
   refine ⟨(s'.xs[m.line.toNat]).2,?_⟩;rw [qy hl2];have e:=congrArg (λ l=>l[m.line.toNat]?) h5.dx;simp only [xg,qy hl2,GR] at e;have e:some (s'.xs[m.line.toNat]).1=some x:=e.trans hx;injection e with e
   rw [<-e]
  obtain ⟨a,hxa⟩:=hxx;simp only [↓qd,qp,aa,reduceIte,reduceEqDiff,nk,w29,lU5];refine C3.q (q2x (M:=M) (m:=m) h5.d hxa hw he.xi ml.1 mc.1 mc.2 (hwl x (zg hx))) λ v6 H6 ⟨⟨ov,e,hv6,hms⟩,a',en6,f6,o6⟩=>?_;rw [hv6];obtain ⟨s6,own6,h6,q6,g6⟩:=h5.dir hxa en6 f6 o6;have hlen:=qyg x w m;simp only [↓qd,qp,aa,reduceIte,reduceEqDiff,qn];refine C3.q (Om (M:=M) h6 hms.1 (by show (b.fl.eraseIdx i).length+_<=_;omega)) λ v7 H7 hp=>?_;obtain ⟨Hx,l7,s7,l8,hpx⟩:=fin (iB.then g6 q6 hp);simp only [↓qd,qp,aa,reduceIte,reduceEqDiff,l7,s7,l8];exact hpx
 ·have nk:7<m.k:=by omega
  simp only [qg k7];obtain ⟨n,hn,hnw⟩:=hI.core mc.1 mc.2;rw [hn];obtain ⟨ni,bk,us⟩:=hb.no _ n hn;obtain ⟨A,hA,nr⟩:=h5.cP hn;have hx:(s'.ad.map Na.r)[m.core.toNat]? = some A.r:=by rw [xg,hA];rfl
  have ixn:=h5.nv.sl.idx hx (z:=m.core) (by omega) .i64;have ldn:Op.ae [.ptr (aF s'.nv) (bI 1 s'.nv m.core.toNat)] H5=some (.ptr A.r 0):=h5.nv.sl.jW qx7 hx (by decide);have mk2:Op.cA kz 1 [.ptr A.r 0]=some (.fn (.func kz) [.ptr A.r 0] []):=rfl;simp only [↓qd,qp,aa,reduceIte,reduceEqDiff,xc nk,h5.l1,qi,lc5,ixn,ldn,mk2,w29,lU5];refine C3.q (q4q (M:=M) nr ni.ci bk (by omega) m) λ v6 H6 ⟨⟨ov,e,hv6,hms⟩,ht⟩=>?_;rw [hv6];obtain ⟨s6,own6,h6,q6,g6⟩:=h5.node hn hA ht;have hlen:=q12 n m;simp only [↓qd,qp,aa,reduceIte,reduceEqDiff,qn];refine C3.q (Om (M:=M) h6 hms.1 (by show (b.fl.eraseIdx i).length+_<=_;omega)) λ v7 H7 hp=>?_;obtain ⟨Hx,l7,s7,l8,hpx⟩:=fin (iB.then g6 q6 hp);simp only [↓qd,qp,aa,reduceIte,reduceEqDiff,l7,s7,l8];exact hpx
end
end Go.Am
namespace Go.Am
open Go.Proofs Ca
open Lang (ints)
variable {M:aA} [MK M]
theorem KC {α:Type} (enc:α->List AV) (x:α):∀ n:Nat,(List.replicate n x).flatMap enc=dG n (enc x)
 | 0=>rfl
 | n+1=>by rw [IK,zx,KC enc x n,dG,lG]
def rM (l:Int):Prop:=2<=l/\l<=64
instance (l:Int):Decidable (rM l):=inferInstanceAs (Decidable (_/\_))
def Ci (H:AHeap) (l:Int) (v:AV) (H':AHeap):Prop:=Fr Em H H'/\(¬ rM l/\v=.tuple [.nilp,.int .i64 2]\/rM l /\ ∃ mp lv,v=.tuple [.ptr mp 0,.int .i64 0]/\zW H' mp lv (List.replicate l.toNat .zero)/\H.next<=mp/\H.next<=aF lv)
theorem q0q {H:AHeap} (l:Int):zq M Ny [.int .i64 l] H (Ci H l):=by
 refine q6j ?_;obtain ⟨w0,w2,w10⟩:=q6k M ⟨none,Ny⟩
 by_cases h1:l<2
 ·simp only [↓qd,qp,aa,reduceIte,reduceEqDiff,w0,w2,h1];exact ⟨Fr.refl _,.inl ⟨λ q=>by have:=q.1;omega,rfl⟩⟩
 by_cases h2:64<l
 ·simp only [↓qd,qp,aa,reduceIte,reduceEqDiff,w0,w2,h1,h2];exact ⟨Fr.refl _,.inl ⟨λ q=>by have:=q.2;omega,rfl⟩⟩
 obtain ⟨a,rfl⟩:=jb (show 0<=l by omega);have mk:=Ls j0 64 (cJ .zero) a .i64 .i64 (by omega) (by omega);rw [<-KC] at mk;obtain ⟨H1,e1⟩:∃ X,X=H.alloc (OR ((List.replicate a L8.zero).flatMap cJ) j0):=⟨_,rfl⟩
 have f1:Fr Em H H1:=by rw [e1];exact (Fr.refl H).alloc _
 have n1:H1.next=H.next+1:=by rw [e1,xd]
 obtain ⟨sv,hsv⟩:∃ sv:AV,sv=.slice H.next 0 a a:=⟨_,rfl⟩
 have hst:Op.sliceTo a a H.next=sv:=by rw [hsv];rfl
 have hsb:aF sv=H.next:=by rw [hsv];rfl
 have bd:Op.build [.nils] [(0,1)] [sv]=some (.agg [sv]):=by rw [hsv];rfl
 obtain ⟨H2,e2⟩:∃ X,X=H1.alloc (OR [sv] M5):=⟨_,rfl⟩
 have f2:Fr Em H1 H2:=by rw [e2];exact (Fr.refl H1).alloc _
 have g2:H2.get H1.next=some (OR [sv] M5):=by rw [e2,qw]
 simp only [↓qd,qp,aa,reduceIte,reduceEqDiff,w0,w2,h1,h2,w10,lZ,mk,hst,<-e1,bd,xk,<-e2];refine ⟨f1.trans f2 λ _ q=>q.elim,.inr ⟨⟨by omega,by omega⟩,_,sv,rfl,⟨g2,by rw [e2,xd];omega,⟨H.next,?_,?_,?_⟩,by omega,by rw [zb];omega⟩,by omega,by omega⟩⟩
 ·rw [zb];exact hsv
 ·rw [e2,xd];omega
 ·rw [f2.ah _ (by omega) id,e1,qw];rfl
def mB:De:=⟨0,0,⟨0,0,0,.zero⟩,0,0,[]⟩
def fA:De:={ mB with ow:=-1 }
theorem eXZ:[AV.int .i64 0,.int .u8 0,.int .i64 0,.int .i64 0,.int .i64 0,.int .u64 0,.int .u64 0,.int .u64 0,.int .u64 0,.int .u64 0,.int .u64 0,.int .u64 0,.int .u64 0,.int .i64 0,.int .u8 0,.nils]=eh (mB,.nils):=rfl
def oM (n i:Nat):List (De × AV):=(List.range n).map λ k=>(if k<i then fA else mB,.nils)
theorem tO (n:Nat):oM n 0=List.replicate n (mB,.nils):=by
 unfold oM;apply jp;intro j;rw [xg];rcases zt j n with q|q
 ·rw [ku q,Jx,ql q];simp
 ·rw [xz (by rw [jq];exact q),xz (by rw [zb];exact q)];rfl
theorem Cn (n:Nat):oM n n=List.replicate n (fA,.nils):=by
 unfold oM;apply jp;intro j;rw [xg];rcases zt j n with q|q
 ·rw [ku q,Jx,ql q];simp [q]
 ·rw [xz (by rw [jq];exact q),xz (by rw [zb];exact q)];rfl
theorem Kr {n i j:Nat} (h:j<n):(oM n i)[j]? = some (if j<i then fA else mB,.nils):=by
 unfold oM;rw [xg,ku h];rfl
theorem wJ {n i:Nat} (h:i<n):(oM n i).set i (fA,.nils)=oM n (i+1):=by
 have hl:∀ k,(oM n k).length=n:=λ k=>by unfold oM;rw [xu,jq]
 apply jp;intro j
 by_cases q:j=i
 ·subst q;rw [qu (by rw [hl];exact h),Kr h,ql (by omega)]
 ·rw [qm (yt q)];rcases zt j n with w|w
  ·rw [Kr w,Kr w]
   by_cases e:j<i
   ·rw [ql e,ql (by omega)]
   ·rw [qg e,qg (by omega)]
  ·rw [xz (by rw [hl];exact w),xz (by rw [hl];exact w)]
theorem Lh {n i k:Nat} {x:De} {a:AV} (h:(oM n i)[k]? = some (x,a)):a=.nils/\x.wt=[]:=by
 unfold oM at h;rw [xg,xe] at h;obtain ⟨j,-,e⟩:=h;injection e with e1 e2
 refine ⟨e2.symm,?_⟩;rw [<-e1];split<;>rfl
def rz (l c:Int):Prop:=rM l/\1<=c/\c<=4
instance (l c:Int):Decidable (rz l c):=inferInstanceAs (Decidable (_/\_))
def AD (H:AHeap) (l c:Int) (v:AV) (H':AHeap):Prop:=Fr Em H H'/\(¬ rz l c/\v=.tuple [.nilp,.int .i64 2]\/rz l c /\ ∃ D mp lv ev,v=.tuple [.ptr D 0,.int .i64 0]/\iT H' D mp lv ev c (List.replicate l.toNat .zero) (List.replicate l.toNat (fA,.nils)) /\ ∀ z,iR D mp lv ev (List.replicate l.toNat (fA,.nils)) z->H.next<=z)
theorem qz9 {H:AHeap} (l c:Int):zq M O4 [.int .i64 l,.int .i64 c] H (AD H l c):=by
 refine q5j ?_;obtain ⟨w0,w4,w12,w14,w31,w19,w25,w30⟩:=q5k M ⟨none,O4⟩;simp only [↓qd,qp,aa,reduceIte,reduceEqDiff,w0];refine C3.q (q0q (M:=M) l) λ v H1 ⟨f1,hv⟩=>?_;rcases hv with ⟨hm,rfl⟩|⟨hm,mp,lv,rfl,me,a1,a2⟩
 ·have t2:¬ (2:Int)=0:=by decide
  simp only [↓qd,qp,aa,reduceIte,reduceEqDiff,qn,w4,t2];exact ⟨f1,.inl ⟨λ q=>hm q.1,rfl⟩⟩
 have t0:=xc (show (0:Int)=0 from rfl)
 by_cases h1:c<1
 ·simp only [↓qd,qp,aa,reduceIte,reduceEqDiff,qn,w4,t0,h1];exact ⟨f1,.inl ⟨λ q=>by have:=q.2.1;omega,rfl⟩⟩
 by_cases h2:4<c
 ·simp only [↓qd,qp,aa,reduceIte,reduceEqDiff,qn,w4,t0,h1,h2];exact ⟨f1,.inl ⟨λ q=>by have:=q.2.2;omega,rfl⟩⟩
 have hml:=hm;obtain ⟨m1,m2⟩:=hml;obtain ⟨n,rfl⟩:=jb (show 0<=l by omega);have mk:=Ls HS 144 (eh (mB,.nils)) n .i64 .i64 (by omega) (by omega);rw [<-KC eh] at mk;obtain ⟨H2,e2⟩:∃ X,X=H1.alloc (OR ((List.replicate n (mB,AV.nils)).flatMap eh) HS):=⟨_,rfl⟩
 have f2:Fr Em H1 H2:=by rw [e2];exact (Fr.refl H1).alloc _
 have n2:H2.next=H1.next+1:=by rw [e2,xd]
 obtain ⟨sv,hsv⟩:∃ sv:AV,sv=.slice H1.next 0 n n:=⟨_,rfl⟩
 have hst:Op.sliceTo n n H1.next=sv:=by rw [hsv];rfl
 have hsb:aF sv=H1.next:=by rw [hsv];rfl
 have bd:Op.build [.nilp,.int .i64 0,.nils] [(0,1),(1,1),(2,1)] [.ptr mp 0,.int .i64 c,sv]=some (.agg [.ptr mp 0,.int .i64 c,sv]):=by rw [hsv];rfl
 obtain ⟨H3,e3⟩:∃ X,X=H2.alloc (OR [.ptr mp 0,.int .i64 c,sv] MB):=⟨_,rfl⟩
 have f3:Fr Em H2 H3:=by rw [e3];exact (Fr.refl H2).alloc _
 have n3:H3.next=H1.next+2:=by rw [e3,xd,n2]
 have g3:H3.get H2.next=some (OR [.ptr mp 0,.int .i64 c,sv] MB):=by rw [e3,qw]
 have f13:Fr Em H1 H3:=f2.trans f3 λ _ q=>q.elim;have ml:=me.lt;have mls:=me.ls.lt;have r3:dR eh HS 16 H3 sv (oM n 0):=by
  rw [tO];refine ⟨H1.next,by rw [zb];exact hsv,by omega,?_⟩;rw [f3.ah _ (by omega) id,e2,qw]
 have m1':=f1.next
 have d3:iT H3 H2.next mp lv sv c (List.replicate n .zero) (oM n 0) :=
  ⟨g3,by omega,me.fr f13 id id,r3,λ i x a hx=>by rw [(Lh hx).1,(Lh hx).2];exact Sk.nil _,⟨by omega,by omega,by omega,by omega,by omega⟩,λ i x a hx z hz=>by rw [(Lh hx).1] at hz;exact absurd rfl hz.1,λ i j x y a b hx _ _ z hz=>by rw [(Lh hx).1] at hz;exact absurd rfl hz.1,by rw [zb];unfold oM;rw [xu,jq]⟩
 have hn3:H.next<=H1.next:=f1.next
 have ld2:∀ {Hx:AHeap} {i:Nat},iT Hx H2.next mp lv sv c (List.replicate n .zero) (oM n i)->Op.ae [.ptr H2.next 2] Hx=some sv:=λ h=>xp (qz h.row) 2
 have hln:Op.dC [sv]=some (.int .i64 ((n:Nat):Int)):=by rw [hsv];rfl
 simp only [↓qd,qp,aa,reduceIte,reduceEqDiff,qn,w4,t0,h1,h2,w12,eXZ,mk,hst,<-e2,bd,xk,<-e3,w14,qi,ld2 d3,hln];refine aR.intro (λ k E Hx=>∃ (i:Nat),E=[(36,.int .i64 (i:Int)),(35,.int .i64 ((n:Nat):Int)),(8,.ptr H2.next 0)]/\k=n-i/\i<=n/\iT Hx H2.next mp lv sv c (List.replicate n .zero) (oM n i)/\Fr Em H Hx) ?_ ?_
 ·exact ⟨_,_,⟨0,rfl,rfl,xx _,d3,f1.trans f13 λ _ q=>q.elim⟩,by simp only [↓qd,qp,aa,reduceIte,reduceEqDiff]⟩
 rintro k E Hx ⟨i,rfl,rfl,hi,hd,hf⟩;rcases zt i n with hlt|hge
 ·have q1:(i:Int)<((n:Nat):Int):=by omega
  have hx:=Kr (i:=i) hlt;rw [qg (Ai i)] at hx;have en:=cC.of hd hx;have ix:Op.aQ 16 [sv,.int .i64 (i:Int)]=some (.ptr (aF sv) (bI 16 sv i)):=(hd.es.sl tz).idx hx rfl .i64;obtain ⟨H5,s5,en5,f5⟩:=en.s0 (-1);have wj:ak .i64 ((i:Int)+1)=((i+1:Nat):Int):=by rw [xm (by omega) (by omega)];omega
  have d5:iT H5 H2.next mp lv sv c (List.replicate n .zero) (oM n (i+1)):=by rw [<-wJ hlt];exact en5.d
  simp only [↓qd,qp,aa,reduceIte,reduceEqDiff,w19,q1,w25,qi,ld2 hd,ix,s5,w30,wj];exact ⟨_,_,⟨i+1,rfl,rfl,by omega,d5,hf.trans f5 λ z (q:z=aF sv)=>.inr (by omega)⟩,by simp only [↓qd,qp,aa,reduceIte,reduceEqDiff],by omega⟩
 ·have hiw:i=n:=by omega
  have q1:¬ (i:Int)<((n:Nat):Int):=by omega
  subst hiw;simp only [↓qd,qp,aa,reduceIte,reduceEqDiff,w19,q1,w31];rw [Cn] at hd;refine ⟨hf,.inr ⟨⟨hm,by omega,by omega⟩,_,mp,lv,sv,rfl,hd,λ z hz=>?_⟩⟩;rcases hz with rfl|rfl|rfl|rfl|⟨k,x,a,hk,hz⟩
  ·omega
  ·exact a1
  ·exact a2
  ·omega
  ·rw [x9,Jx] at hk;split at hk
   ·injection hk with hk;injection hk with _ hk;rw [<-hk] at hz;exact absurd rfl hz.1
   ·cases hk
end Go.Am
