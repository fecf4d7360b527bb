/- BuK8: BsD BsE BsF. -/
import Derived.Test.YtiibohocdbaekaaAmMBuK7
set_option linter.unusedVariables false
set_option linter.unusedSimpArgs false
set_option linter.unusedSectionVars false
set_option maxRecDepth 100000
open Nat (reduceEqDiff)
namespace Go.Am
open Go.Proofs Ca
open Lang (ints)
variable {M:aL} [MK M]
def Bu.tG (b:Bu) (i:Nat):Bu:=match b.fl[i]? with
 | none=>b
 | some m=>if m.k<=7 then match b.l[m.line.toNat]?,b.m[m.line.toNat]? with
  | some x,some w=>{ b with m:=b.m.set m.line.toNat (x.az w m).2.1,l:=b.l.set m.line.toNat (x.az w m).1,fl:=b.fl.eraseIdx i++(x.az w m).2.2 }
  | _,_=>b
  else match b.ns[m.core.toNat]? with
   | some n=>{ b with ns:=b.ns.set m.core.toNat (n.az m).1,fl:=b.fl.eraseIdx i++(n.az m).2 }
   | none=>b
section
variable {H0 H:AHeap} {B:Nat} {s:Bs} {b:Bu} {own:Nat->Nat} {c:Int} {n:No}
theorem cR.quiet (h:cR H0 H B s b own) {c:Nat} {n n':No} {A:Na} {H1:AHeap} (hn:b.ns[c]? = some n) (hA:s.ad[c]? = some A) (ht:lQ H0 H A.r A.b A.sv A.bv n' H1):gi H0 H B s (b.put c (n',[])) H1:=by
 obtain ⟨s',o',h1,q1,f1⟩:=h.node hn hA ht;refine ⟨s',o',?_,q1,f1⟩;have:b.put c (n',[]) = { b with ns:=b.ns.set c n' }:=by unfold Bu.put;simp
 rw [this];exact h1
theorem Lk {H1:AHeap} {e:AV} {n':No} (h:cR H0 H B s b own) (hb:BB b) (c0:0<=c) (hn:b.ns[c.toNat]? = some n) {f:Nat} {cap:List AV}
 (hf:∀ {A:Na},s.ad[c.toNat]? = some A->jx M f ([AV.ptr A.r 0]++cap) H λ v H'=>v=e/\bY H0 H' A.r A.b A.sv A.bv n' A.ks/\Fr (eM A.r A.b A.sv A.bv) H H'):jx M uh [.ptr B 0,.int .i64 c,.fn (.func f) [] cap] H λ v H'=>v=e/\gi H0 H B s (b.put c.toNat (n',[])) H':=by
 refine qop ?_;obtain ⟨w0,w4,w12⟩:=qoq M ⟨none,uh⟩;simp only [↓qi,xd,reduceIte,reduceEqDiff,w0];refine C3.q (rv (M:=M) h hb.N4 c) λ v H1 ⟨hh,h1,_⟩=>?_;obtain ⟨A,hA,hv⟩:=h1 (qE hn c0);rw [hv,hh];have t0:=xf (show (0:Int)=0 from rfl);simp only [↓qi,xd,reduceIte,reduceEqDiff,qr,w4,t0,w12];refine C3.q (hf hA) λ v H2 ⟨hv2,hnr,hf2⟩=>?_;rw [hv2];simp only [↓qi,xd,reduceIte,reduceEqDiff];exact h.quiet hn hA (hnr.t hf2)
theorem Nm (h:cR H0 H B s b own) (hb:BB b) (hc:¬ (0<=c/\c<b.ns.length)) (fv:AV):jx M uh [.ptr B 0,.int .i64 c,fv] H λ v H'=>v=.int .i64 2/\H'=H:=by
 refine qop ?_;obtain ⟨w0,w4,w12⟩:=qoq M ⟨none,uh⟩;simp only [↓qi,xd,reduceIte,reduceEqDiff,w0];refine C3.q (rv (M:=M) h hb.N4 c) λ v H1 ⟨hh,_,h1⟩=>?_;rw [h1 hc,hh];have t2:¬ (2:Int)=0:=by decide
 simp only [↓qi,xd,reduceIte,reduceEqDiff,qr,w4,t2]
theorem q5x (h:cR H0 H B s b own) (hb:BB b) (c0:0<=c) (hn:b.ns[c.toNat]? = some n):jx M DL [.ptr B 0,.int .i64 c] H λ v H'=>v=.int .i64 (if n.live=true then 41 else 0)/\gi H0 H B s (b.put c.toNat (n.begin,[])) H':=by
 refine qmy ?_;simp only [↓qi,xd,reduceIte,reduceEqDiff,qmz];refine C3.q (Lk (M:=M) (H1:=H) h hb c0 hn (cap:=[]) λ {A} hA=>q3f (M:=M) (h.no _ n A hn hA)) λ v H2 ⟨hv,hp⟩=>?_;rw [hv];simp only [↓qi,xd,reduceIte,reduceEqDiff];exact hp
theorem rO (h:cR H0 H B s b own) (hb:BB b) (hc:¬ (0<=c/\c<b.ns.length)):jx M DL [.ptr B 0,.int .i64 c] H λ v H'=>v=.int .i64 2/\H'=H:=by
 refine qmy ?_;simp only [↓qi,xd,reduceIte,reduceEqDiff,qmz];refine C3.q (Nm (M:=M) h hb hc _) λ v H2 ⟨hv,hh⟩=>?_;rw [hv,hh];simp only [↓qi,xd,reduceIte,reduceEqDiff]
theorem q26 (h:cR H0 H B s b own) (hb:BB b) (c0:0<=c) (hn:b.ns[c.toNat]? = some n):jx M B9 [.ptr B 0,.int .i64 c] H λ v H'=>v=.int .i64 (if n.live=true then 0 else 40)/\gi H0 H B s (b.put c.toNat (n.bl,[])) H':=by
 refine qlz ?_;simp only [↓qi,xd,reduceIte,reduceEqDiff,ql0];refine C3.q (Lk (M:=M) (H1:=H) h hb c0 hn (cap:=[]) λ {A} hA=>q0g (M:=M) (h.no _ n A hn hA)) λ v H2 ⟨hv,hp⟩=>?_;rw [hv];simp only [↓qi,xd,reduceIte,reduceEqDiff];exact hp
theorem q7l (h:cR H0 H B s b own) (hb:BB b) (hc:¬ (0<=c/\c<b.ns.length)):jx M B9 [.ptr B 0,.int .i64 c] H λ v H'=>v=.int .i64 2/\H'=H:=by
 refine qlz ?_;simp only [↓qi,xd,reduceIte,reduceEqDiff,ql0];refine C3.q (Nm (M:=M) h hb hc _) λ v H2 ⟨hv,hh⟩=>?_;rw [hv,hh];simp only [↓qi,xd,reduceIte,reduceEqDiff]
theorem q3a {A:Na} {t:Nat} {k:Int} (nr:bY H0 H A.r A.b A.sv A.bv n A.ks) (hl:Op.aa [.ptr t 0] H=some (.int .i64 k)):jx M y8 ([.ptr A.r 0] ++ [.ptr t 0]) H λ v H'=>v=.int .i64 (n.abort k).2/\bY H0 H' A.r A.b A.sv A.bv (n.abort k).1 A.ks/\Fr (eM A.r A.b A.sv A.bv) H H':=by
 refine qrg ?_;simp only [↓qi,xd,reduceIte,reduceEqDiff,qrh,hl];refine C3.q (q5v (M:=M) nr k) λ v H2 ⟨hv,hp⟩=>?_;rw [hv];simp only [↓qi,xd,reduceIte,reduceEqDiff];exact hp
theorem qy4 (h:cR H0 H B s b own) (hb:BB b) (c0:0<=c) (hn:b.ns[c.toNat]? = some n) (k:Int):jx M EP [.ptr B 0,.int .i64 c,.int .i64 k] H λ v H'=>gi H0 H B s (b.put c.toNat ((n.abort k).1,[])) H':=by
 refine qmu ?_;obtain ⟨H1,e1⟩:∃ X,X=H.alloc (OR [.int .i64 k] cV):=⟨_,rfl⟩
 have f1:Fr Em H H1:=by rw [e1];exact (Fr.refl H).alloc _
 have g1:H1.get H.next=some (OR [.int .i64 k] cV):=by rw [e1,qy]
 have ca:AV.cells (.int .i64 k)=[.int .i64 k]:=rfl;have l1:Op.aa [.ptr H.next 0] H1=some (.int .i64 k):=ze (xb g1) 0;have mk:Op.bZ y8 0 [.ptr H.next 0]=some (.fn (.func y8) [] [.ptr H.next 0]):=rfl;simp only [↓qi,xd,reduceIte,reduceEqDiff,qmv,ca,<-e1,mk];have h1:=h.em f1;refine C3.q (Lk (M:=M) (H1:=H1) (e:=.int .i64 (n.abort k).2) (n':=(n.abort k).1) h1 hb c0 hn (cap:=[.ptr H.next 0]) λ {A} hA=>q3a (M:=M) (h1.no _ n A hn hA) l1) λ v H2 ⟨hv,hp⟩=>?_;simp only [↓qi,xd,reduceIte,reduceEqDiff];exact gi.pre f1 hp
theorem q25 (h:cR H0 H B s b own) (hb:BB b) (hc:¬ (0<=c/\c<b.ns.length)) (k:Int):jx M EP [.ptr B 0,.int .i64 c,.int .i64 k] H λ v H'=>Fr Em H H':=by
 refine qmu ?_;obtain ⟨H1,e1⟩:∃ X,X=H.alloc (OR [.int .i64 k] cV):=⟨_,rfl⟩
 have f1:Fr Em H H1:=by rw [e1];exact (Fr.refl H).alloc _
 have ca:AV.cells (.int .i64 k)=[.int .i64 k]:=rfl;have mk:Op.bZ y8 0 [.ptr H.next 0]=some (.fn (.func y8) [] [.ptr H.next 0]):=rfl;simp only [↓qi,xd,reduceIte,reduceEqDiff,qmv,ca,<-e1,mk];refine C3.q (Nm (M:=M) (h.em f1) hb hc _) λ v H2 ⟨hv,hh⟩=>?_;rw [hh];simp only [↓qi,xd,reduceIte,reduceEqDiff];exact f1
theorem tq {fv:AV} {fl:List Mg} (h:Sk ai qo 11 H fv fl) {i:Nat} (hi:i<fl.length) (hl:fl.length<=1000000):jx M yt [fv,.int .i64 (i:Int),.int .i64 ((i+1:Nat):Int)] H λ v H'=>Sk ai qo 11 H' v (fl.eraseIdx i)/\Fr (bC fv) H H' /\ ∀ z,bC v z->bC fv z:=by
 refine qlr ?_;obtain ⟨w0,w4,w12⟩:=qls M ⟨none,yt⟩;rcases h with ⟨-,rfl⟩|⟨b,j,alt,r,hk⟩
 ·simp at hi
 obtain ⟨v0,v1,v2,v3,H1,v4,H2,a0,a1,a2,a3,a6,a4,a5,b5,f5⟩:=hk.del za kM (by decide) hi (zero:=ai ⟨0,0,0,.zero⟩) (za _) (kM _) 88;have hln:=(hk.sl za).len;have ne:¬ (i:Int)=((i+1:Nat):Int):=by omega
 simp only [↓qi,xd,reduceIte,reduceEqDiff,w0,hln,a0,w4,ne,w12,a1,a2,a3,a6,a4,mZ,a5];exact ⟨.inr ⟨_,_,_,_,b5⟩,f5.mono λ z hz (q:z=b)=>by rw [q];exact hk.on,λ z hz=>by rw [b5.Jg hz];exact hk.on⟩
theorem cR.dir (h:cR H0 H B s b own) {i:Nat} {x x':De} {a a':AV} {w':L8} {H':AHeap} (hx:s.xs[i]? = some (x,a)) (he:cD H' s.D s.mp s.lv s.ev b.ns.length (b.m.set i w') s.xs i x' a') (f:Fr s.dw H H') (hz:∀ z,bC a' z->bC a z\/H.next<=z) :
 ∃ s' own2,cR H0 H' B s' { b with m:=b.m.set i w',l:=b.l.set i x' } own2/\(∀ z,gE B s' z->gE B s z\/H.next<=z)/\Fr (gE B s) H H':=by
 have fB:Fr (gE B s) H H':=f.mono λ z _ q=>.inr (.inl q);have ne:∀ {z k:Nat},own z=k->k ≠ 1 -> ¬ s.dw z:=λ e1 e2 q=>e2 (by rw [<-e1];exact h.oD _ q);have H0n:H0.next<=H.next:=by have:=h.lo B (.inl rfl);have:=h.lt;omega
 have hi:=(qj.1 hx).1;have hdw:∀ z,Bs.dw { s with xs:=s.xs.set i (x',a') } z->s.dw z\/H.next<=z:=λ z q=>by
  rcases q with q|q|q|q|⟨k,y,c,hk,q⟩
  ·exact .inl (.inl q)
  ·exact .inl (.inr (.inl q))
  ·exact .inl (.inr (.inr (.inl q)))
  ·exact .inl (.inr (.inr (.inr (.inl q))))
  ·have hk:(s.xs.set i (x',a'))[k]? = some (y,c):=hk
   by_cases e:k=i
   ·subst e;rw [xg hi] at hk;injection hk with hk;injection hk with _ hk;subst hk
    exact (hz z q).elim (λ q=>.inl (.inr (.inr (.inr (.inr ⟨k,x,a,hx,q⟩))))) .inr
   ·rw [xt (ve e)] at hk;exact .inl (.inr (.inr (.inr (.inr ⟨k,y,c,hk,q⟩))))
 have hW:∀ z,gE B { s with xs:=s.xs.set i (x',a') } z->gE B s z\/H.next<=z:=λ z q=>by
  rcases q with q|q|q|q|q
  ·exact .inl (.inl q)
  ·exact (hdw z q).elim (λ q=>.inl (.inr (.inl q))) .inr
  ·exact .inl (.inr (.inr (.inl q)))
  ·exact .inl (.inr (.inr (.inr (.inl q))))
  ·exact .inl (.inr (.inr (.inr (.inr q))))
 have ow:∀ {z:Nat},z<H.next->eh own H.next 1 z=own z:=λ q=>qm q
 refine ⟨{ s with xs:=s.xs.set i (x',a') },eh own H.next 1,⟨?_,qp h.lt f.next,he.d,?_,?_,λ c n A hn hA=>?_,h.al,?_,?_,λ z q=>?_,λ z q=>?_,λ z q=>?_,λ c A hA z q=>?_,λ z q=>?_⟩,hW,fB⟩
 ·simp only [xc];rw [f.ae _ h.lt (ne h.oB (by decide))];exact h.row
 ·simp only [List.map_set,h.dx]
 ·exact Own.fr h.nv f λ z hz q=>ne (h.oN z hz) (by decide) q
 ·refine (h.no c n A hn hA).off f λ z w=>⟨h.lo z (.inr (.inl w)),λ w2=>?_⟩
  have:=h.oC c A hA z w2;have:=h.oD z w;omega
 ·exact h.fl.fr f λ z hz q=>ne (h.oF z hz) (by decide) q
 ·rw [ow h.lt];exact h.oB
 ·unfold eh;split
  ·rcases hdw z q with w|w
   ·exact h.oD z w
   ·omega
  ·rfl
 ·rw [ow (h.low (.inr (.inr (.inl q))))];exact h.oN z q
 ·rw [ow (h.low (.inr (.inr (.inr (.inl q)))))];exact h.oF z q
 ·rw [ow (h.low (.inr (.inr (.inr (.inr ⟨c,A,hA,q⟩)))))];exact h.oC c A hA z q
 ·rcases hW z q with w|w
  ·exact h.lo z w
  ·omega
end
end Go.Am
namespace Go.Am
open Go.Proofs Ca
open Lang (ints)
variable {M:aL} [MK M]
theorem q1x (x:De) (w:L8) (m:Mg):(x.az w m).2.2.length<=4:=by
 have hb:∀ (y:De) n,(y.begin n w).2.length<=4:=λ y n=>by
  unfold De.begin;split
  ·simp
  ·split
   ·simp
   ·rw [zg];unfold lC;exact List.length_filter_le ..
 have hr:∀ (y:De) w' (q:Prop) [Decidable q] (r:List Mg),r.length<=3->(y.nU w' q r).2.2.length<=4:=λ y w' q _ r h=>by
  unfold De.nU;split
  ·simp only [qx,yi,xK];omega
  ·simp only;omega
 unfold De.az;split;· simp
 split
 ·split
  ·simp
  ·exact hb _ _
 split;· exact hr _ _ _ _ (by simp)
 split;· exact hr _ _ _ _ (by simp)
 split;· exact hr _ _ _ _ (by simp)
 split;· exact hr _ _ _ _ (by simp)
 cases x.wt with
 | nil=>simp
 | cons n r=>exact hb _ _
section
variable {H0 H:AHeap} {B:Nat} {s:Bs} {b:Bu} {own:Nat->Nat} {V:Int->L8}
theorem q50 (h:cR H0 H B s b own) (hb:BB b) {i:Int} (hi:¬ (0<=i/\i<b.fl.length)):jx M wg [.ptr B 0,.int .i64 i] H λ v H'=>v=.tuple [.agg (ai ⟨0,0,0,.zero⟩),.int .i64 50]/\Fr Em H H':=by
 refine qkc ?_;obtain ⟨w0,w2,-,-,-,-⟩:=qkd M ⟨none,wg⟩;obtain ⟨H1,e1⟩:∃ X,X=H.alloc (OR (ai ⟨0,0,0,.zero⟩) qo):=⟨_,rfl⟩
 have f1:Fr Em H H1:=by rw [e1];exact (Fr.refl H).alloc _
 have g1:H1.get H.next=some (OR (ai ⟨0,0,0,.zero⟩) qo):=by rw [e1,qy]
 have st:=fG g1 (za _) (za ⟨0,0,0,.zero⟩) (kM _);have ln:=fm (xe H1 H.next (OR (ai ⟨0,0,0,.zero⟩) qo)) (za ⟨0,0,0,.zero⟩);have h1:=h.em f1;have hln:=h1.fl.len za;have fin:Fr Em H (H1.set H.next (OR (ai ⟨0,0,0,.zero⟩) qo)):=f1.set (.inr (qh _)) _
 by_cases q0:i<0
 ·simp only [↓qi,xd,reduceIte,reduceEqDiff,w0,mZ,<-e1,w2,yh,xf q0,zI,st,ln];exact fin
 have q1:((b.fl.length:Nat):Int)<=i:=by omega
 simp only [↓qi,xd,reduceIte,reduceEqDiff,w0,mZ,<-e1,w2,yh,q0,qg,h1.l2,hln,xf q1,zI,st,ln];exact fin
theorem q07 (h:cR H0 H B s b own) (hb:BB b) (hI:BuI b V) (hwl:∀ x ∈ b.l,x.wt.length<=900000) {i:Nat} {m:Mg} (hm:b.fl[i]? = some m):jx M wg [.ptr B 0,.int .i64 (i:Int)] H λ v H'=>v=.tuple [.agg (ai m),.int .i64 0]/\gi H0 H B s (b.tG i) H':=by
 have hil:=(qj.1 hm).1;have hfl:=hb.fl;have N4:=hI.N4;obtain ⟨mk,mc,ml⟩:=hI.mw m (ja hm);refine qkc ?_;obtain ⟨w0,w2,w17,w21,w23,w29⟩:=qkd M ⟨none,wg⟩;obtain ⟨H1,e1⟩:∃ X,X=H.alloc (OR (ai ⟨0,0,0,.zero⟩) qo):=⟨_,rfl⟩
 have f1:Fr Em H H1:=by rw [e1];exact (Fr.refl H).alloc _
 have n1:H1.next=H.next+1:=by rw [e1,xp]
 have g1:H1.get H.next=some (OR (ai ⟨0,0,0,.zero⟩) qo):=by rw [e1,qy]
 have h1:=h.em f1;have hsl:=h1.fl.sl za;have hln:=h1.fl.len za;have q0:¬ (i:Int)<0:=by omega
 have q1:¬ ((b.fl.length:Nat):Int)<=(i:Int):=by omega
 have ix:=hsl.idx hm (z:=(i:Int)) rfl .i64;have ld:=hsl.ao za (by decide) hm;obtain ⟨H2,e2⟩:∃ X,X=H1.alloc (OR (ai ⟨0,0,0,.zero⟩) qo):=⟨_,rfl⟩
 have g2:H2.get H1.next=some (OR (ai ⟨0,0,0,.zero⟩) qo):=by rw [e2,qy]
 have st2:=fG g2 (za _) (za m) (kM m);obtain ⟨H3,e3⟩:∃ X,X=H2.set H1.next (OR (ai m) qo):=⟨_,rfl⟩
 rw [<-e3] at st2;have f12:Fr Em H1 H2:=by rw [e2];exact (Fr.refl H1).alloc _
 have f13:Fr Em H1 H3:=by rw [e3];exact f12.set (.inr (qh _)) _
 have n3:H3.next=H.next+2:=by rw [e3,Fp,e2,xp,n1]
 have g3:H3.get H1.next=some (OR (ai m) qo):=by rw [e3,xe]
 have g3z:H3.get H.next=some (OR (ai ⟨0,0,0,.zero⟩) qo):=by rw [f13.ae _ (by omega) id];exact g1
 have h3:=h1.em f13;have wi:aW .i64 ((i:Int)+1)=((i+1:Nat):Int):=by rw [vl (by omega) (by omega)];omega
 have F3:Fr Em H H3:=f1.trans f13 λ _ q=>q.elim;simp only [↓qi,xd,reduceIte,reduceEqDiff,w0,mZ,<-e1,w2,yh,q0,qg,h1.l2,hln,q1,w17,ix,ld,<-e2,st2,h3.l2,wi];refine C3.q (tq (M:=M) h3.fl hil (by omega)) λ v4 H4 ⟨k4,f4,o4⟩=>?_;obtain ⟨H5,s5,s',eh,h5,o5,f5⟩:=h3.ua k4 f4 (λ z hz=>.inl (o4 z hz));have lo3:∀ z,gE B s z->z<H.next:=λ z hz=>h.low hz
 have sub5:∀ z,gE B s' z->gE B s z\/H3.next<=z:=o5
 have keep5:∀ z,z<H3.next->H.next<=z->H5.get z=H3.get z:=λ z q1 q2=>f5.ae z q1 λ w=>by have:=lo3 z w;omega
 have lk5:Op.aa [.ptr H1.next 0] H5=some (.int .i64 m.k):=ze (xb (show H5.get H1.next=some (OR (ai m) qo) from by rw [keep5 _ (by omega) (by omega)];exact g3)) 0;have lc5:Op.aa [.ptr H1.next 1] H5=some (.int .i64 m.core):=ze (xb (show H5.get H1.next=some (OR (ai m) qo) from by rw [keep5 _ (by omega) (by omega)];exact g3)) 1;have lU5:Op.ao 11 [.ptr H1.next 0] H5=some (.agg (ai m)):=fm (by rw [keep5 _ (by omega) (by omega)];exact g3) (za m);have mk1:Op.bZ y9 1 [.ptr s'.D 0]=some (.fn (.func y9) [.ptr s'.D 0] []):=rfl;have m5:=f5.next
 -- behind the hearing
 have fin:∀ {H7:AHeap} {b':Bu},gi H0 H5 B s' b' H7->(∃ Hx,Op.ao 11 [.ptr H1.next 0] H7=some (.agg (ai m))/\Op.store 11 [.ptr H.next 0,.agg (ai m)] H7=some (.undef,Hx)/\Op.ao 11 [.ptr H.next 0] Hx=some (.agg (ai m))/\gi H0 H B s b' Hx):=λ {H7 b'} hp=>by
  obtain ⟨s7,o7,h7,q7,f7⟩:=hp;have keep7:∀ z,z<H3.next->H.next<=z->H7.get z=H3.get z:=λ z w1 w2=>by
   rw [f7.ae z (by omega) λ w=>(sub5 z w).elim (λ w=>by have:=lo3 z w;omega) λ w=>by omega];exact keep5 z w1 w2
  have gz:H7.get H.next=some (OR (ai ⟨0,0,0,.zero⟩) qo):=by rw [keep7 _ (by omega) (by omega)];exact g3z
  have m7:=f7.next
  have sub7:∀ z,gE B s7 z->gE B s z\/H3.next<=z:=λ z hz=>(q7 z hz).elim (sub5 z) λ w=>.inr (by omega)
  refine ⟨_,fm (by rw [keep7 _ (by omega) (by omega)];exact g3) (za m),fG gz (za _) (za m) (kM m),fm (xe ..) (za m),s7,o7,h7.fr ((Fr.refl H7).set (W:=On H.next) (.inl rfl) _) λ z hz=>?_,λ z hz=>(sub7 z hz).elim .inl λ w=>.inr (by omega),?_⟩
  ·have hz:z=H.next:=hz
   subst hz;refine ⟨by have:=h.lo B (.inl rfl);have:=h.lt;omega,λ w=>(sub7 _ w).elim (λ w=>by have:=lo3 _ w;omega) λ w=>by omega⟩
  ·refine ((((F3.mono λ _ _ q=>q.elim).trans f5 λ z q=>.inl q).trans f7 λ z q=>?_).set (.inr (qh _)) _);exact (sub5 z q).elim .inl λ w=>.inr (by omega)
 have hel:(b.fl.eraseIdx i).length<=b.fl.length:=List.length_eraseIdx_le ..;simp only [↓qi,xd,reduceIte,reduceEqDiff,qg,s5,w21,h5.l0,mk1,w23,lk5];unfold Bu.tG;rw [hm]
 by_cases k7:m.k<=7
 ·have nk:¬ 7<m.k:=by omega
  simp only [qm k7];obtain ⟨x,w,hx,hw,he⟩:=hI.entry ml.1 ml.2;rw [hx,hw];have hxx:∃ a,s'.xs[m.line.toNat]? = some (x,a):=by
   have hl:=(qj.1 hx).1;have hl2:m.line.toNat<s'.xs.length:=by
    have:=congrArg List.length h5.dx;rw [zg] at this;have:s'.xs.length=b.l.length:=this;omega
   refine ⟨(s'.xs[m.line.toNat]).2,?_⟩;rw [qz hl2];have e:=congrArg (λ l=>l[m.line.toNat]?) h5.dx;simp only [xj,qz hl2,Ff] at e;have e:some (s'.xs[m.line.toNat]).1=some x:=e.trans hx;injection e with e
   rw [<-e]
  obtain ⟨a,hxa⟩:=hxx;simp only [↓qi,xd,reduceIte,reduceEqDiff,nk,w29,lU5];refine C3.q (q51 (M:=M) (m:=m) h5.d hxa hw he.xi ml.1 mc.1 mc.2 (hwl x (ja hx))) λ v6 H6 ⟨⟨ov,e,hv6,hms⟩,a',en6,f6,o6⟩=>?_;rw [hv6];obtain ⟨s6,own6,h6,q6,g6⟩:=h5.dir hxa en6 f6 o6;have hlen:=q1x x w m;simp only [↓qi,xd,reduceIte,reduceEqDiff,qr];refine C3.q (Me (M:=M) h6 hms.1 (by show (b.fl.eraseIdx i).length+_<=_;omega)) λ v7 H7 hp=>?_;obtain ⟨Hx,l7,s7,l8,hpx⟩:=fin (gi.then g6 q6 hp);simp only [↓qi,xd,reduceIte,reduceEqDiff,l7,s7,l8];exact hpx
 ·have nk:7<m.k:=by omega
  simp only [qe k7];obtain ⟨n,hn,hnw⟩:=hI.core mc.1 mc.2;rw [hn];obtain ⟨ni,bk,us⟩:=hb.no _ n hn;obtain ⟨A,hA,nr⟩:=h5.cu hn;have hx:(s'.ad.map Na.r)[m.core.toNat]? = some A.r:=by rw [xj,hA];rfl
  have ixn:=h5.nv.sl.idx hx (z:=m.core) (by omega) .i64;have ldn:Op.aa [.ptr (aN s'.nv) (cr 1 s'.nv m.core.toNat)] H5=some (.ptr A.r 0):=h5.nv.sl.mh MM hx (by decide);have mk2:Op.bZ j8 1 [.ptr A.r 0]=some (.fn (.func j8) [.ptr A.r 0] []):=rfl;simp only [↓qi,xd,reduceIte,reduceEqDiff,xf nk,h5.l1,qg,lc5,ixn,ldn,mk2,w29,lU5];refine C3.q (q7o (M:=M) nr ni.ci bk (by omega) m) λ v6 H6 ⟨⟨ov,e,hv6,hms⟩,ht⟩=>?_;rw [hv6];obtain ⟨s6,own6,h6,q6,g6⟩:=h5.node hn hA ht;have hlen:=q46 n m;simp only [↓qi,xd,reduceIte,reduceEqDiff,qr];refine C3.q (Me (M:=M) h6 hms.1 (by show (b.fl.eraseIdx i).length+_<=_;omega)) λ v7 H7 hp=>?_;obtain ⟨Hx,l7,s7,l8,hpx⟩:=fin (gi.then g6 q6 hp);simp only [↓qi,xd,reduceIte,reduceEqDiff,l7,s7,l8];exact hpx
end
end Go.Am
namespace Go.Am
open Go.Proofs Ca
open Lang (ints)
variable {M:aL} [MK M]
theorem Je {α:Type} (enc:α->List AV) (x:α):∀ n:Nat,(List.replicate n x).flatMap enc=dh n (enc x)
 | 0=>rfl
 | n+1=>by rw [HI,ju,Je enc x n,dh,jF]
def pM (l:Int):Prop:=2<=l/\l<=64
instance (l:Int):Decidable (pM l):=inferInstanceAs (Decidable (_/\_))
def zC (H:AHeap) (l:Int) (v:AV) (H':AHeap):Prop:=Fr Em H H'/\(¬ pM l/\v=.tuple [.nilp,.int .i64 2]\/pM l /\ ∃ mp lv,v=.tuple [.ptr mp 0,.int .i64 0]/\wD H' mp lv (List.replicate l.toNat .zero)/\H.next<=mp/\H.next<=aN lv)
theorem q3z {H:AHeap} (l:Int):jx M Dx [.int .i64 l] H (zC H l):=by
 refine q9e ?_;obtain ⟨w0,w2,w10⟩:=q9f M ⟨none,Dx⟩
 by_cases h1:l<2
 ·simp only [↓qi,xd,reduceIte,reduceEqDiff,w0,w2,h1];exact ⟨Fr.refl _,.inl ⟨λ q=>by have:=q.1;omega,rfl⟩⟩
 by_cases h2:64<l
 ·simp only [↓qi,xd,reduceIte,reduceEqDiff,w0,w2,h1,h2];exact ⟨Fr.refl _,.inl ⟨λ q=>by have:=q.2;omega,rfl⟩⟩
 obtain ⟨a,rfl⟩:=ke (show 0<=l by omega);have mk:=JS zf 64 (bS .zero) a .i64 .i64 (by omega) (by omega);rw [<-Je] at mk;obtain ⟨H1,e1⟩:∃ X,X=H.alloc (OR ((List.replicate a L8.zero).flatMap bS) zf):=⟨_,rfl⟩
 have f1:Fr Em H H1:=by rw [e1];exact (Fr.refl H).alloc _
 have n1:H1.next=H.next+1:=by rw [e1,xp]
 obtain ⟨sv,hsv⟩:∃ sv:AV,sv=.slice H.next 0 a a:=⟨_,rfl⟩
 have hst:Op.sliceTo a a H.next=sv:=by rw [hsv];rfl
 have hsb:aN sv=H.next:=by rw [hsv];rfl
 have bd:Op.build [.nils] [(0,1)] [sv]=some (.agg [sv]):=by rw [hsv];rfl
 obtain ⟨H2,e2⟩:∃ X,X=H1.alloc (OR [sv] Jr):=⟨_,rfl⟩
 have f2:Fr Em H1 H2:=by rw [e2];exact (Fr.refl H1).alloc _
 have g2:H2.get H1.next=some (OR [sv] Jr):=by rw [e2,qy]
 simp only [↓qi,xd,reduceIte,reduceEqDiff,w0,w2,h1,h2,w10,lZ,mk,hst,<-e1,bd,x9,<-e2];refine ⟨f1.trans f2 λ _ q=>q.elim,.inr ⟨⟨by omega,by omega⟩,_,sv,rfl,⟨g2,by rw [e2,xp];omega,⟨H.next,?_,?_,?_⟩,by omega,by rw [zj];omega⟩,by omega,by omega⟩⟩
 ·rw [zj];exact hsv
 ·rw [e2,xp];omega
 ·rw [f2.ae _ (by omega) id,e1,qy];rfl
def kN:De:=⟨0,0,⟨0,0,0,.zero⟩,0,0,[]⟩
def eL:De:={ kN with ow:=-1 }
theorem eXZ:[AV.int .i64 0,.int .u8 0,.int .i64 0,.int .i64 0,.int .i64 0,.int .u64 0,.int .u64 0,.int .u64 0,.int .u64 0,.int .u64 0,.int .u64 0,.int .u64 0,.int .u64 0,.int .i64 0,.int .u8 0,.nils]=dN (kN,.nils):=rfl
def mT (n i:Nat):List (De × AV):=(List.range n).map λ k=>(if k<i then eL else kN,.nils)
theorem vU (n:Nat):mT n 0=List.replicate n (kN,.nils):=by
 unfold mT;apply ky;intro j;rw [xj];rcases jr j n with q|q
 ·rw [vn q,Gg,qm q];simp
 ·rw [zr (by rw [yj];exact q),zr (by rw [zj];exact q)];rfl
theorem yJ (n:Nat):mT n n=List.replicate n (eL,.nils):=by
 unfold mT;apply ky;intro j;rw [xj];rcases jr j n with q|q
 ·rw [vn q,Gg,qm q];simp [q]
 ·rw [zr (by rw [yj];exact q),zr (by rw [zj];exact q)];rfl
theorem J4 {n i j:Nat} (h:j<n):(mT n i)[j]? = some (if j<i then eL else kN,.nils):=by
 unfold mT;rw [xj,vn h];rfl
theorem tP {n i:Nat} (h:i<n):(mT n i).set i (eL,.nils)=mT n (i+1):=by
 have hl:∀ k,(mT n k).length=n:=λ k=>by unfold mT;rw [zg,yj]
 apply ky;intro j
 by_cases q:j=i
 ·subst q;rw [xg (by rw [hl];exact h),J4 h,qm (by omega)]
 ·rw [xt (ve q)];rcases jr j n with w|w
  ·rw [J4 w,J4 w]
   by_cases e:j<i
   ·rw [qm e,qm (by omega)]
   ·rw [qe e,qe (by omega)]
  ·rw [zr (by rw [hl];exact w),zr (by rw [hl];exact w)]
theorem JY {n i k:Nat} {x:De} {a:AV} (h:(mT n i)[k]? = some (x,a)):a=.nils/\x.wt=[]:=by
 unfold mT at h;rw [xj,xh] at h;obtain ⟨j,-,e⟩:=h;injection e with e1 e2
 refine ⟨e2.symm,?_⟩;rw [<-e1];split<;>rfl
def pU (l c:Int):Prop:=pM l/\1<=c/\c<=4
instance (l c:Int):Decidable (pU l c):=inferInstanceAs (Decidable (_/\_))
def xL (H:AHeap) (l c:Int) (v:AV) (H':AHeap):Prop:=Fr Em H H'/\(¬ pU l c/\v=.tuple [.nilp,.int .i64 2]\/pU l c /\ ∃ D mp lv ev,v=.tuple [.ptr D 0,.int .i64 0]/\iv H' D mp lv ev c (List.replicate l.toNat .zero) (List.replicate l.toNat (eL,.nils)) /\ ∀ z,gY D mp lv ev (List.replicate l.toNat (eL,.nils)) z->H.next<=z)
theorem q3m {H:AHeap} (l c:Int):jx M Dl [.int .i64 l,.int .i64 c] H (xL H l c):=by
 refine q8i ?_;obtain ⟨w0,w4,w12,w14,w31,w19,w25,w30⟩:=q8j M ⟨none,Dl⟩;simp only [↓qi,xd,reduceIte,reduceEqDiff,w0];refine C3.q (q3z (M:=M) l) λ v H1 ⟨f1,hv⟩=>?_;rcases hv with ⟨hm,rfl⟩|⟨hm,mp,lv,rfl,me,a1,a2⟩
 ·have t2:¬ (2:Int)=0:=by decide
  simp only [↓qi,xd,reduceIte,reduceEqDiff,qr,w4,t2];exact ⟨f1,.inl ⟨λ q=>hm q.1,rfl⟩⟩
 have t0:=xf (show (0:Int)=0 from rfl)
 by_cases h1:c<1
 ·simp only [↓qi,xd,reduceIte,reduceEqDiff,qr,w4,t0,h1];exact ⟨f1,.inl ⟨λ q=>by have:=q.2.1;omega,rfl⟩⟩
 by_cases h2:4<c
 ·simp only [↓qi,xd,reduceIte,reduceEqDiff,qr,w4,t0,h1,h2];exact ⟨f1,.inl ⟨λ q=>by have:=q.2.2;omega,rfl⟩⟩
 have hml:=hm;obtain ⟨m1,m2⟩:=hml;obtain ⟨n,rfl⟩:=ke (show 0<=l by omega);have mk:=JS Ft 144 (dN (kN,.nils)) n .i64 .i64 (by omega) (by omega);rw [<-Je dN] at mk;obtain ⟨H2,e2⟩:∃ X,X=H1.alloc (OR ((List.replicate n (kN,AV.nils)).flatMap dN) Ft):=⟨_,rfl⟩
 have f2:Fr Em H1 H2:=by rw [e2];exact (Fr.refl H1).alloc _
 have n2:H2.next=H1.next+1:=by rw [e2,xp]
 obtain ⟨sv,hsv⟩:∃ sv:AV,sv=.slice H1.next 0 n n:=⟨_,rfl⟩
 have hst:Op.sliceTo n n H1.next=sv:=by rw [hsv];rfl
 have hsb:aN sv=H1.next:=by rw [hsv];rfl
 have bd:Op.build [.nilp,.int .i64 0,.nils] [(0,1),(1,1),(2,1)] [.ptr mp 0,.int .i64 c,sv]=some (.agg [.ptr mp 0,.int .i64 c,sv]):=by rw [hsv];rfl
 obtain ⟨H3,e3⟩:∃ X,X=H2.alloc (OR [.ptr mp 0,.int .i64 c,sv] JP):=⟨_,rfl⟩
 have f3:Fr Em H2 H3:=by rw [e3];exact (Fr.refl H2).alloc _
 have n3:H3.next=H1.next+2:=by rw [e3,xp,n2]
 have g3:H3.get H2.next=some (OR [.ptr mp 0,.int .i64 c,sv] JP):=by rw [e3,qy]
 have f13:Fr Em H1 H3:=f2.trans f3 λ _ q=>q.elim;have ml:=me.lt;have mls:=me.ls.lt;have r3:dp dN Ft 16 H3 sv (mT n 0):=by
  rw [vU];refine ⟨H1.next,by rw [zj];exact hsv,by omega,?_⟩;rw [f3.ae _ (by omega) id,e2,qy]
 have m1':=f1.next
 have d3:iv H3 H2.next mp lv sv c (List.replicate n .zero) (mT n 0) :=
  ⟨g3,by omega,me.fr f13 id id,r3,λ i x a hx=>by rw [(JY hx).1,(JY hx).2];exact Sk.nil _,⟨by omega,by omega,by omega,by omega,by omega⟩,λ i x a hx z hz=>by rw [(JY hx).1] at hz;exact absurd rfl hz.1,λ i j x y a b hx _ _ z hz=>by rw [(JY hx).1] at hz;exact absurd rfl hz.1,by rw [zj];unfold mT;rw [zg,yj]⟩
 have hn3:H.next<=H1.next:=f1.next
 have ld2:∀ {Hx:AHeap} {i:Nat},iv Hx H2.next mp lv sv c (List.replicate n .zero) (mT n i)->Op.aa [.ptr H2.next 2] Hx=some sv:=λ h=>ze (xb h.row) 2
 have hln:Op.bJ [sv]=some (.int .i64 ((n:Nat):Int)):=by rw [hsv];rfl
 simp only [↓qi,xd,reduceIte,reduceEqDiff,qr,w4,t0,h1,h2,w12,eXZ,mk,hst,<-e2,bd,x9,<-e3,w14,qg,ld2 d3,hln];refine bu.intro (λ k E Hx=>∃ (i:Nat),E=[(36,.int .i64 (i:Int)),(35,.int .i64 ((n:Nat):Int)),(8,.ptr H2.next 0)]/\k=n-i/\i<=n/\iv Hx H2.next mp lv sv c (List.replicate n .zero) (mT n i)/\Fr Em H Hx) ?_ ?_
 ·exact ⟨_,_,⟨0,rfl,rfl,zq _,d3,f1.trans f13 λ _ q=>q.elim⟩,by simp only [↓qi,xd,reduceIte,reduceEqDiff]⟩
 rintro k E Hx ⟨i,rfl,rfl,hi,hd,hf⟩;rcases jr i n with hlt|hge
 ·have q1:(i:Int)<((n:Nat):Int):=by omega
  have hx:=J4 (i:=i) hlt;rw [qe (wN i)] at hx;have en:=cD.of hd hx;have ix:Op.aP 16 [sv,.int .i64 (i:Int)]=some (.ptr (aN sv) (cr 16 sv i)):=(hd.es.sl rD).idx hx rfl .i64;obtain ⟨H5,s5,en5,f5⟩:=en.s0 (-1);have wj:aW .i64 ((i:Int)+1)=((i+1:Nat):Int):=by rw [vl (by omega) (by omega)];omega
  have d5:iv H5 H2.next mp lv sv c (List.replicate n .zero) (mT n (i+1)):=by rw [<-tP hlt];exact en5.d
  simp only [↓qi,xd,reduceIte,reduceEqDiff,w19,q1,w25,qg,ld2 hd,ix,s5,w30,wj];exact ⟨_,_,⟨i+1,rfl,rfl,by omega,d5,hf.trans f5 λ z (q:z=aN sv)=>.inr (by omega)⟩,by simp only [↓qi,xd,reduceIte,reduceEqDiff],by omega⟩
 ·have hiw:i=n:=by omega
  have q1:¬ (i:Int)<((n:Nat):Int):=by omega
  subst hiw;simp only [↓qi,xd,reduceIte,reduceEqDiff,w19,q1,w31];rw [yJ] at hd;refine ⟨hf,.inr ⟨⟨hm,by omega,by omega⟩,_,mp,lv,sv,rfl,hd,λ z hz=>?_⟩⟩;rcases hz with rfl|rfl|rfl|rfl|⟨k,x,a,hk,hz⟩
  ·omega
  ·exact a1
  ·exact a2
  ·omega
  ·rw [zl,Gg] at hk;split at hk
   ·injection hk with hk;injection hk with _ hk;rw [<-hk] at hz;exact absurd rfl hz.1
   ·cases hk
end Go.Am
