/- BuK8: BsD BsE BsF. -/
import Derived.Test.YtiibohocdbaekaaAmRBuK7
set_option linter.unusedVariables false
set_option linter.unusedSimpArgs false
set_option linter.unusedSectionVars false
set_option maxRecDepth 100000
open Nat (reduceEqDiff)
namespace Go.Am
open Go.Proofs Ca
open Lang (ints)
variable {M:aO} [MK M]
def Bu.lK (b:Bu) (i:Nat):Bu:=match b.fl[i]? with
 | none=>b
 | some m=>if m.k<=7 then match b.l[m.line.toNat]?,b.m[m.line.toNat]? with
  | some x,some w=>{ b with m:=b.m.set m.line.toNat (x.av w m).2.1,l:=b.l.set m.line.toNat (x.av w m).1,fl:=b.fl.eraseIdx i++(x.av w m).2.2 }
  | _,_=>b
  else match b.ns[m.core.toNat]? with
   | some n=>{ b with ns:=b.ns.set m.core.toNat (n.av m).1,fl:=b.fl.eraseIdx i++(n.av m).2 }
   | none=>b
section
variable {H0 H:AHeap} {B:Nat} {s:Bs} {b:Bu} {own:Nat->Nat} {c:Int} {n:No}
theorem c6.quiet (h:c6 H0 H B s b own) {c:Nat} {n n':No} {A:Na} {H1:AHeap} (hn:b.ns[c]? = some n) (hA:s.ad[c]? = some A) (ht:mh H0 H A.r A.b A.sv A.bv n' H1):gB H0 H B s (b.put c (n',[])) H1:=by
 obtain ⟨s',o',h1,q1,f1⟩:=h.node hn hA ht;refine ⟨s',o',?_,q1,f1⟩;have:b.put c (n',[]) = { b with ns:=b.ns.set c n' }:=by unfold Bu.put;simp
 rw [this];exact h1
theorem MG {H1:AHeap} {e:AV} {n':No} (h:c6 H0 H B s b own) (hb:BB b) (c0:0<=c) (hn:b.ns[c.toNat]? = some n) {f:Nat} {cap:List AV}
 (hf:∀ {A:Na},s.ad[c.toNat]? = some A->jv M f ([AV.ptr A.r 0]++cap) H λ v H'=>v=e/\cd H0 H' A.r A.b A.sv A.bv n' A.ks/\Fr (eQ A.r A.b A.sv A.bv) H H'):jv M sI [.ptr B 0,.int .i64 c,.fn (.func f) [] cap] H λ v H'=>v=e/\gB H0 H B s (b.put c.toNat (n',[])) H':=by
 refine qoi ?_;obtain ⟨w0,w4,w12⟩:=qoj M ⟨none,sI⟩;simp only [↓qh,xa,reduceIte,reduceEqDiff,w0];refine C3.q (qN (M:=M) h hb.N4 c) λ v H1 ⟨hh,h1,_⟩=>?_;obtain ⟨A,hA,hv⟩:=h1 (qU hn c0);rw [hv,hh];have t0:=xj (show (0:Int)=0 from rfl);simp only [↓qh,xa,reduceIte,reduceEqDiff,qp,w4,t0,w12];refine C3.q (hf hA) λ v H2 ⟨hv2,hnr,hf2⟩=>?_;rw [hv2];simp only [↓qh,xa,reduceIte,reduceEqDiff];exact h.quiet hn hA (hnr.t hf2)
theorem LY (h:c6 H0 H B s b own) (hb:BB b) (hc:¬ (0<=c/\c<b.ns.length)) (fv:AV):jv M sI [.ptr B 0,.int .i64 c,fv] H λ v H'=>v=.int .i64 2/\H'=H:=by
 refine qoi ?_;obtain ⟨w0,w4,w12⟩:=qoj M ⟨none,sI⟩;simp only [↓qh,xa,reduceIte,reduceEqDiff,w0];refine C3.q (qN (M:=M) h hb.N4 c) λ v H1 ⟨hh,_,h1⟩=>?_;rw [h1 hc,hh];have t2:¬ (2:Int)=0:=by decide
 simp only [↓qh,xa,reduceIte,reduceEqDiff,qp,w4,t2]
theorem q5w (h:c6 H0 H B s b own) (hb:BB b) (c0:0<=c) (hn:b.ns[c.toNat]? = some n):jv M CR [.ptr B 0,.int .i64 c] H λ v H'=>v=.int .i64 (if n.live=true then 41 else 0)/\gB H0 H B s (b.put c.toNat (n.begin,[])) H':=by
 refine qms ?_;simp only [↓qh,xa,reduceIte,reduceEqDiff,qmt];refine C3.q (MG (M:=M) (H1:=H) h hb c0 hn (cap:=[]) λ {A} hA=>q28 (M:=M) (h.no _ n A hn hA)) λ v H2 ⟨hv,hp⟩=>?_;rw [hv];simp only [↓qh,xa,reduceIte,reduceEqDiff];exact hp
theorem sN (h:c6 H0 H B s b own) (hb:BB b) (hc:¬ (0<=c/\c<b.ns.length)):jv M CR [.ptr B 0,.int .i64 c] H λ v H'=>v=.int .i64 2/\H'=H:=by
 refine qms ?_;simp only [↓qh,xa,reduceIte,reduceEqDiff,qmt];refine C3.q (LY (M:=M) h hb hc _) λ v H2 ⟨hv,hh⟩=>?_;rw [hv,hh];simp only [↓qh,xa,reduceIte,reduceEqDiff]
theorem q2z (h:c6 H0 H B s b own) (hb:BB b) (c0:0<=c) (hn:b.ns[c.toNat]? = some n):jv M EH [.ptr B 0,.int .i64 c] H λ v H'=>v=.int .i64 (if n.live=true then 0 else 40)/\gB H0 H B s (b.put c.toNat (n.bn,[])) H':=by
 refine qlq ?_;simp only [↓qh,xa,reduceIte,reduceEqDiff,qlr];refine C3.q (MG (M:=M) (H1:=H) h hb c0 hn (cap:=[]) λ {A} hA=>qz9 (M:=M) (h.no _ n A hn hA)) λ v H2 ⟨hv,hp⟩=>?_;rw [hv];simp only [↓qh,xa,reduceIte,reduceEqDiff];exact hp
theorem q7i (h:c6 H0 H B s b own) (hb:BB b) (hc:¬ (0<=c/\c<b.ns.length)):jv M EH [.ptr B 0,.int .i64 c] H λ v H'=>v=.int .i64 2/\H'=H:=by
 refine qlq ?_;simp only [↓qh,xa,reduceIte,reduceEqDiff,qlr];refine C3.q (LY (M:=M) h hb hc _) λ v H2 ⟨hv,hh⟩=>?_;rw [hv,hh];simp only [↓qh,xa,reduceIte,reduceEqDiff]
theorem q23 {A:Na} {t:Nat} {k:Int} (nr:cd H0 H A.r A.b A.sv A.bv n A.ks) (hl:Op.aa [.ptr t 0] H=some (.int .i64 k)):jv M yz ([.ptr A.r 0] ++ [.ptr t 0]) H λ v H'=>v=.int .i64 (n.abort k).2/\cd H0 H' A.r A.b A.sv A.bv (n.abort k).1 A.ks/\Fr (eQ A.r A.b A.sv A.bv) H H':=by
 refine qq9 ?_;simp only [↓qh,xa,reduceIte,reduceEqDiff,qra,hl];refine C3.q (q5u (M:=M) nr k) λ v H2 ⟨hv,hp⟩=>?_;rw [hv];simp only [↓qh,xa,reduceIte,reduceEqDiff];exact hp
theorem qyv (h:c6 H0 H B s b own) (hb:BB b) (c0:0<=c) (hn:b.ns[c.toNat]? = some n) (k:Int):jv M E4 [.ptr B 0,.int .i64 c,.int .i64 k] H λ v H'=>gB H0 H B s (b.put c.toNat ((n.abort k).1,[])) H':=by
 refine qmo ?_;obtain ⟨H1,e1⟩:∃ X,X=H.alloc (OR [.int .i64 k] dF):=⟨_,rfl⟩
 have f1:Fr Em H H1:=by rw [e1];exact (Fr.refl H).alloc _
 have g1:H1.get H.next=some (OR [.int .i64 k] dF):=by rw [e1,qx]
 have ca:AV.cells (.int .i64 k)=[.int .i64 k]:=rfl;have l1:Op.aa [.ptr H.next 0] H1=some (.int .i64 k):=zf (xb g1) 0;have mk:Op.cB yz 0 [.ptr H.next 0]=some (.fn (.func yz) [] [.ptr H.next 0]):=rfl;simp only [↓qh,xa,reduceIte,reduceEqDiff,qmp,ca,<-e1,mk];have h1:=h.em f1;refine C3.q (MG (M:=M) (H1:=H1) (e:=.int .i64 (n.abort k).2) (n':=(n.abort k).1) h1 hb c0 hn (cap:=[.ptr H.next 0]) λ {A} hA=>q23 (M:=M) (h1.no _ n A hn hA) l1) λ v H2 ⟨hv,hp⟩=>?_;simp only [↓qh,xa,reduceIte,reduceEqDiff];exact gB.pre f1 hp
theorem q2y (h:c6 H0 H B s b own) (hb:BB b) (hc:¬ (0<=c/\c<b.ns.length)) (k:Int):jv M E4 [.ptr B 0,.int .i64 c,.int .i64 k] H λ v H'=>Fr Em H H':=by
 refine qmo ?_;obtain ⟨H1,e1⟩:∃ X,X=H.alloc (OR [.int .i64 k] dF):=⟨_,rfl⟩
 have f1:Fr Em H H1:=by rw [e1];exact (Fr.refl H).alloc _
 have ca:AV.cells (.int .i64 k)=[.int .i64 k]:=rfl;have mk:Op.cB yz 0 [.ptr H.next 0]=some (.fn (.func yz) [] [.ptr H.next 0]):=rfl;simp only [↓qh,xa,reduceIte,reduceEqDiff,qmp,ca,<-e1,mk];refine C3.q (LY (M:=M) (h.em f1) hb hc _) λ v H2 ⟨hv,hh⟩=>?_;rw [hh];simp only [↓qh,xa,reduceIte,reduceEqDiff];exact f1
theorem uN {fv:AV} {fl:List Mg} (h:Sk ai qk 11 H fv fl) {i:Nat} (hi:i<fl.length) (hl:fl.length<=1000000):jv M yt [fv,.int .i64 (i:Int),.int .i64 ((i+1:Nat):Int)] H λ v H'=>Sk ai qk 11 H' v (fl.eraseIdx i)/\Fr (bH fv) H H' /\ ∀ z,bH v z->bH fv z:=by
 refine qli ?_;obtain ⟨w0,w4,w12⟩:=qlj M ⟨none,yt⟩;rcases h with ⟨-,rfl⟩|⟨b,j,alt,r,hk⟩
 ·simp at hi
 obtain ⟨v0,v1,v2,v3,H1,v4,H2,a0,a1,a2,a3,a6,a4,a5,b5,f5⟩:=hk.del xu jS (by decide) hi (zero:=ai ⟨0,0,0,.zero⟩) (xu _) (jS _) 88;have hln:=(hk.sl xu).len;have ne:¬ (i:Int)=((i+1:Nat):Int):=by omega
 simp only [↓qh,xa,reduceIte,reduceEqDiff,w0,hln,a0,w4,ne,w12,a1,a2,a3,a6,a4,mZ,a5];exact ⟨.inr ⟨_,_,_,_,b5⟩,f5.mono λ z hz (q:z=b)=>by rw [q];exact hk.on,λ z hz=>by rw [b5.Je hz];exact hk.on⟩
theorem c6.dir (h:c6 H0 H B s b own) {i:Nat} {x x':De} {a a':AV} {w':L8} {H':AHeap} (hx:s.xs[i]? = some (x,a)) (he:cG H' s.D s.mp s.lv s.ev b.ns.length (b.m.set i w') s.xs i x' a') (f:Fr s.dw H H') (hz:∀ z,bH a' z->bH a z\/H.next<=z) :
 ∃ s' own2,c6 H0 H' B s' { b with m:=b.m.set i w',l:=b.l.set i x' } own2/\(∀ z,iz B s' z->iz B s z\/H.next<=z)/\Fr (iz B s) H H':=by
 have fB:Fr (iz B s) H H':=f.mono λ z _ q=>.inr (.inl q);have ne:∀ {z k:Nat},own z=k->k ≠ 1 -> ¬ s.dw z:=λ e1 e2 q=>e2 (by rw [<-e1];exact h.oD _ q);have H0n:H0.next<=H.next:=by have:=h.lo B (.inl rfl);have:=h.lt;omega
 have hi:=(ql.1 hx).1;have hdw:∀ z,Bs.dw { s with xs:=s.xs.set i (x',a') } z->s.dw z\/H.next<=z:=λ z q=>by
  rcases q with q|q|q|q|⟨k,y,c,hk,q⟩
  ·exact .inl (.inl q)
  ·exact .inl (.inr (.inl q))
  ·exact .inl (.inr (.inr (.inl q)))
  ·exact .inl (.inr (.inr (.inr (.inl q))))
  ·have hk:(s.xs.set i (x',a'))[k]? = some (y,c):=hk
   by_cases e:k=i
   ·subst e;rw [xp hi] at hk;injection hk with hk;injection hk with _ hk;subst hk
    exact (hz z q).elim (λ q=>.inl (.inr (.inr (.inr (.inr ⟨k,x,a,hx,q⟩))))) .inr
   ·rw [xx (vp e)] at hk;exact .inl (.inr (.inr (.inr (.inr ⟨k,y,c,hk,q⟩))))
 have hW:∀ z,iz B { s with xs:=s.xs.set i (x',a') } z->iz B s z\/H.next<=z:=λ z q=>by
  rcases q with q|q|q|q|q
  ·exact .inl (.inl q)
  ·exact (hdw z q).elim (λ q=>.inl (.inr (.inl q))) .inr
  ·exact .inl (.inr (.inr (.inl q)))
  ·exact .inl (.inr (.inr (.inr (.inl q))))
  ·exact .inl (.inr (.inr (.inr (.inr q))))
 have ow:∀ {z:Nat},z<H.next->eR own H.next 1 z=own z:=λ q=>qm q
 refine ⟨{ s with xs:=s.xs.set i (x',a') },eR own H.next 1,⟨?_,qn h.lt f.next,he.d,?_,?_,λ c n A hn hA=>?_,h.al,?_,?_,λ z q=>?_,λ z q=>?_,λ z q=>?_,λ c A hA z q=>?_,λ z q=>?_⟩,hW,fB⟩
 ·simp only [qz];rw [f.ae _ h.lt (ne h.oB (by decide))];exact h.row
 ·simp only [List.map_set,h.dx]
 ·exact Own.fr h.nv f λ z hz q=>ne (h.oN z hz) (by decide) q
 ·refine (h.no c n A hn hA).off f λ z w=>⟨h.lo z (.inr (.inl w)),λ w2=>?_⟩
  have:=h.oC c A hA z w2;have:=h.oD z w;omega
 ·exact h.fl.fr f λ z hz q=>ne (h.oF z hz) (by decide) q
 ·rw [ow h.lt];exact h.oB
 ·unfold eR;split
  ·rcases hdw z q with w|w
   ·exact h.oD z w
   ·omega
  ·rfl
 ·rw [ow (h.low (.inr (.inr (.inl q))))];exact h.oN z q
 ·rw [ow (h.low (.inr (.inr (.inr (.inl q)))))];exact h.oF z q
 ·rw [ow (h.low (.inr (.inr (.inr (.inr ⟨c,A,hA,q⟩)))))];exact h.oC c A hA z q
 ·rcases hW z q with w|w
  ·exact h.lo z w
  ·omega
end
end Go.Am
namespace Go.Am
open Go.Proofs Ca
open Lang (ints)
variable {M:aO} [MK M]
theorem q1r (x:De) (w:L8) (m:Mg):(x.av w m).2.2.length<=4:=by
 have hb:∀ (y:De) n,(y.begin n w).2.length<=4:=λ y n=>by
  unfold De.begin;split
  ·simp
  ·split
   ·simp
   ·rw [zb];unfold jR;exact List.length_filter_le ..
 have hr:∀ (y:De) w' (q:Prop) [Decidable q] (r:List Mg),r.length<=3->(y.lY w' q r).2.2.length<=4:=λ y w' q _ r h=>by
  unfold De.lY;split
  ·simp only [qu,jx,vx];omega
  ·simp only;omega
 unfold De.av;split;· simp
 split
 ·split
  ·simp
  ·exact hb _ _
 split;· exact hr _ _ _ _ (by simp)
 split;· exact hr _ _ _ _ (by simp)
 split;· exact hr _ _ _ _ (by simp)
 split;· exact hr _ _ _ _ (by simp)
 cases x.wt with
 | nil=>simp
 | cons n r=>exact hb _ _
section
variable {H0 H:AHeap} {B:Nat} {s:Bs} {b:Bu} {own:Nat->Nat} {V:Int->L8}
theorem q5z (h:c6 H0 H B s b own) (hb:BB b) {i:Int} (hi:¬ (0<=i/\i<b.fl.length)):jv M ky [.ptr B 0,.int .i64 i] H λ v H'=>v=.tuple [.agg (ai ⟨0,0,0,.zero⟩),.int .i64 50]/\Fr Em H H':=by
 refine qj2 ?_;obtain ⟨w0,w2,-,-,-,-⟩:=qj3 M ⟨none,ky⟩;obtain ⟨H1,e1⟩:∃ X,X=H.alloc (OR (ai ⟨0,0,0,.zero⟩) qk):=⟨_,rfl⟩
 have f1:Fr Em H H1:=by rw [e1];exact (Fr.refl H).alloc _
 have g1:H1.get H.next=some (OR (ai ⟨0,0,0,.zero⟩) qk):=by rw [e1,qx]
 have st:=iw g1 (xu _) (xu ⟨0,0,0,.zero⟩) (jS _);have ln:=fQ (xd H1 H.next (OR (ai ⟨0,0,0,.zero⟩) qk)) (xu ⟨0,0,0,.zero⟩);have h1:=h.em f1;have hln:=h1.fl.len xu;have fin:Fr Em H (H1.set H.next (OR (ai ⟨0,0,0,.zero⟩) qk)):=f1.set (.inr (qg _)) _
 by_cases q0:i<0
 ·simp only [↓qh,xa,reduceIte,reduceEqDiff,w0,mZ,<-e1,w2,yk,xj q0,Aj,st,ln];exact fin
 have q1:((b.fl.length:Nat):Int)<=i:=by omega
 simp only [↓qh,xa,reduceIte,reduceEqDiff,w0,mZ,<-e1,w2,yk,q0,qf,h1.l2,hln,xj q1,Aj,st,ln];exact fin
theorem qsg (h:c6 H0 H B s b own) (hb:BB b) (hI:BuI b V) (hwl:∀ x ∈ b.l,x.wt.length<=900000) {i:Nat} {m:Mg} (hm:b.fl[i]? = some m):jv M ky [.ptr B 0,.int .i64 (i:Int)] H λ v H'=>v=.tuple [.agg (ai m),.int .i64 0]/\gB H0 H B s (b.lK i) H':=by
 have hil:=(ql.1 hm).1;have hfl:=hb.fl;have N4:=hI.N4;obtain ⟨mk,mc,ml⟩:=hI.mw m (jf hm);refine qj2 ?_;obtain ⟨w0,w2,w17,w21,w23,w29⟩:=qj3 M ⟨none,ky⟩;obtain ⟨H1,e1⟩:∃ X,X=H.alloc (OR (ai ⟨0,0,0,.zero⟩) qk):=⟨_,rfl⟩
 have f1:Fr Em H H1:=by rw [e1];exact (Fr.refl H).alloc _
 have n1:H1.next=H.next+1:=by rw [e1,xn]
 have g1:H1.get H.next=some (OR (ai ⟨0,0,0,.zero⟩) qk):=by rw [e1,qx]
 have h1:=h.em f1;have hsl:=h1.fl.sl xu;have hln:=h1.fl.len xu;have q0:¬ (i:Int)<0:=by omega
 have q1:¬ ((b.fl.length:Nat):Int)<=(i:Int):=by omega
 have ix:=hsl.idx hm (z:=(i:Int)) rfl .i64;have ld:=hsl.aq xu (by decide) hm;obtain ⟨H2,e2⟩:∃ X,X=H1.alloc (OR (ai ⟨0,0,0,.zero⟩) qk):=⟨_,rfl⟩
 have g2:H2.get H1.next=some (OR (ai ⟨0,0,0,.zero⟩) qk):=by rw [e2,qx]
 have st2:=iw g2 (xu _) (xu m) (jS m);obtain ⟨H3,e3⟩:∃ X,X=H2.set H1.next (OR (ai m) qk):=⟨_,rfl⟩
 rw [<-e3] at st2;have f12:Fr Em H1 H2:=by rw [e2];exact (Fr.refl H1).alloc _
 have f13:Fr Em H1 H3:=by rw [e3];exact f12.set (.inr (qg _)) _
 have n3:H3.next=H.next+2:=by rw [e3,F0,e2,xn,n1]
 have g3:H3.get H1.next=some (OR (ai m) qk):=by rw [e3,xd]
 have g3z:H3.get H.next=some (OR (ai ⟨0,0,0,.zero⟩) qk):=by rw [f13.ae _ (by omega) id];exact g1
 have h3:=h1.em f13;have wi:aZ .i64 ((i:Int)+1)=((i+1:Nat):Int):=by rw [wx (by omega) (by omega)];omega
 have F3:Fr Em H H3:=f1.trans f13 λ _ q=>q.elim;simp only [↓qh,xa,reduceIte,reduceEqDiff,w0,mZ,<-e1,w2,yk,q0,qf,h1.l2,hln,q1,w17,ix,ld,<-e2,st2,h3.l2,wi];refine C3.q (uN (M:=M) h3.fl hil (by omega)) λ v4 H4 ⟨k4,f4,o4⟩=>?_;obtain ⟨H5,s5,s',eR,h5,o5,f5⟩:=h3.uI k4 f4 (λ z hz=>.inl (o4 z hz));have lo3:∀ z,iz B s z->z<H.next:=λ z hz=>h.low hz
 have sub5:∀ z,iz B s' z->iz B s z\/H3.next<=z:=o5
 have keep5:∀ z,z<H3.next->H.next<=z->H5.get z=H3.get z:=λ z q1 q2=>f5.ae z q1 λ w=>by have:=lo3 z w;omega
 have lk5:Op.aa [.ptr H1.next 0] H5=some (.int .i64 m.k):=zf (xb (show H5.get H1.next=some (OR (ai m) qk) from by rw [keep5 _ (by omega) (by omega)];exact g3)) 0;have lc5:Op.aa [.ptr H1.next 1] H5=some (.int .i64 m.core):=zf (xb (show H5.get H1.next=some (OR (ai m) qk) from by rw [keep5 _ (by omega) (by omega)];exact g3)) 1;have lU5:Op.aq 11 [.ptr H1.next 0] H5=some (.agg (ai m)):=fQ (by rw [keep5 _ (by omega) (by omega)];exact g3) (xu m);have mk1:Op.cB y8 1 [.ptr s'.D 0]=some (.fn (.func y8) [.ptr s'.D 0] []):=rfl;have m5:=f5.next
 -- behind the hearing
 have fin:∀ {H7:AHeap} {b':Bu},gB H0 H5 B s' b' H7->(∃ Hx,Op.aq 11 [.ptr H1.next 0] H7=some (.agg (ai m))/\Op.store 11 [.ptr H.next 0,.agg (ai m)] H7=some (.undef,Hx)/\Op.aq 11 [.ptr H.next 0] Hx=some (.agg (ai m))/\gB H0 H B s b' Hx):=λ {H7 b'} hp=>by
  obtain ⟨s7,o7,h7,q7,f7⟩:=hp;have keep7:∀ z,z<H3.next->H.next<=z->H7.get z=H3.get z:=λ z w1 w2=>by
   rw [f7.ae z (by omega) λ w=>(sub5 z w).elim (λ w=>by have:=lo3 z w;omega) λ w=>by omega];exact keep5 z w1 w2
  have gz:H7.get H.next=some (OR (ai ⟨0,0,0,.zero⟩) qk):=by rw [keep7 _ (by omega) (by omega)];exact g3z
  have m7:=f7.next
  have sub7:∀ z,iz B s7 z->iz B s z\/H3.next<=z:=λ z hz=>(q7 z hz).elim (sub5 z) λ w=>.inr (by omega)
  refine ⟨_,fQ (by rw [keep7 _ (by omega) (by omega)];exact g3) (xu m),iw gz (xu _) (xu m) (jS m),fQ (xd ..) (xu m),s7,o7,h7.fr ((Fr.refl H7).set (W:=On H.next) (.inl rfl) _) λ z hz=>?_,λ z hz=>(sub7 z hz).elim .inl λ w=>.inr (by omega),?_⟩
  ·have hz:z=H.next:=hz
   subst hz;refine ⟨by have:=h.lo B (.inl rfl);have:=h.lt;omega,λ w=>(sub7 _ w).elim (λ w=>by have:=lo3 _ w;omega) λ w=>by omega⟩
  ·refine ((((F3.mono λ _ _ q=>q.elim).trans f5 λ z q=>.inl q).trans f7 λ z q=>?_).set (.inr (qg _)) _);exact (sub5 z q).elim .inl λ w=>.inr (by omega)
 have hel:(b.fl.eraseIdx i).length<=b.fl.length:=List.length_eraseIdx_le ..;simp only [↓qh,xa,reduceIte,reduceEqDiff,qf,s5,w21,h5.l0,mk1,w23,lk5];unfold Bu.lK;rw [hm]
 by_cases k7:m.k<=7
 ·have nk:¬ 7<m.k:=by omega
  simp only [qm k7];obtain ⟨x,w,hx,hw,he⟩:=hI.entry ml.1 ml.2;rw [hx,hw];have hxx:∃ a,s'.xs[m.line.toNat]? = some (x,a):=by
   have hl:=(ql.1 hx).1;have hl2:m.line.toNat<s'.xs.length:=by
    have:=congrArg List.length h5.dx;rw [zb] at this;have:s'.xs.length=b.l.length:=this;omega
   refine ⟨(s'.xs[m.line.toNat]).2,?_⟩;rw [qv hl2];have e:=congrArg (λ l=>l[m.line.toNat]?) h5.dx;simp only [xm,qv hl2,FI] at e;have e:some (s'.xs[m.line.toNat]).1=some x:=e.trans hx;injection e with e
   rw [<-e]
  obtain ⟨a,hxa⟩:=hxx;simp only [↓qh,xa,reduceIte,reduceEqDiff,nk,w29,lU5];refine C3.q (q50 (M:=M) (m:=m) h5.d hxa hw he.xi ml.1 mc.1 mc.2 (hwl x (jf hx))) λ v6 H6 ⟨⟨ov,e,hv6,hms⟩,a',en6,f6,o6⟩=>?_;rw [hv6];obtain ⟨s6,own6,h6,q6,g6⟩:=h5.dir hxa en6 f6 o6;have hlen:=q1r x w m;simp only [↓qh,xa,reduceIte,reduceEqDiff,qp];refine C3.q (KJ (M:=M) h6 hms.1 (by show (b.fl.eraseIdx i).length+_<=_;omega)) λ v7 H7 hp=>?_;obtain ⟨Hx,l7,s7,l8,hpx⟩:=fin (gB.then g6 q6 hp);simp only [↓qh,xa,reduceIte,reduceEqDiff,l7,s7,l8];exact hpx
 ·have nk:7<m.k:=by omega
  simp only [qd k7];obtain ⟨n,hn,hnw⟩:=hI.core mc.1 mc.2;rw [hn];obtain ⟨ni,bk,us⟩:=hb.no _ n hn;obtain ⟨A,hA,nr⟩:=h5.cE hn;have hx:(s'.ad.map Na.r)[m.core.toNat]? = some A.r:=by rw [xm,hA];rfl
  have ixn:=h5.nv.sl.idx hx (z:=m.core) (by omega) .i64;have ldn:Op.aa [.ptr (aM s'.nv) (cu 1 s'.nv m.core.toNat)] H5=some (.ptr A.r 0):=h5.nv.sl.lT q1k hx (by decide);have mk2:Op.cB ke 1 [.ptr A.r 0]=some (.fn (.func ke) [.ptr A.r 0] []):=rfl;simp only [↓qh,xa,reduceIte,reduceEqDiff,xj nk,h5.l1,qf,lc5,ixn,ldn,mk2,w29,lU5];refine C3.q (q7l (M:=M) nr ni.ci bk (by omega) m) λ v6 H6 ⟨⟨ov,e,hv6,hms⟩,ht⟩=>?_;rw [hv6];obtain ⟨s6,own6,h6,q6,g6⟩:=h5.node hn hA ht;have hlen:=q47 n m;simp only [↓qh,xa,reduceIte,reduceEqDiff,qp];refine C3.q (KJ (M:=M) h6 hms.1 (by show (b.fl.eraseIdx i).length+_<=_;omega)) λ v7 H7 hp=>?_;obtain ⟨Hx,l7,s7,l8,hpx⟩:=fin (gB.then g6 q6 hp);simp only [↓qh,xa,reduceIte,reduceEqDiff,l7,s7,l8];exact hpx
end
end Go.Am
namespace Go.Am
open Go.Proofs Ca
open Lang (ints)
variable {M:aO} [MK M]
theorem Jn {α:Type} (enc:α->List AV) (x:α):∀ n:Nat,(List.replicate n x).flatMap enc=dq n (enc x)
 | 0=>rfl
 | n+1=>by rw [Ix,jt,Jn enc x n,dq,jH]
def pE (l:Int):Prop:=2<=l/\l<=64
instance (l:Int):Decidable (pE l):=inferInstanceAs (Decidable (_/\_))
def xG (H:AHeap) (l:Int) (v:AV) (H':AHeap):Prop:=Fr Em H H'/\(¬ pE l/\v=.tuple [.nilp,.int .i64 2]\/pE l /\ ∃ mp lv,v=.tuple [.ptr mp 0,.int .i64 0]/\wK H' mp lv (List.replicate l.toNat .zero)/\H.next<=mp/\H.next<=aM lv)
theorem q3t {H:AHeap} (l:Int):jv M Eo [.int .i64 l] H (xG H l):=by
 refine q9h ?_;obtain ⟨w0,w2,w10⟩:=q9i M ⟨none,Eo⟩
 by_cases h1:l<2
 ·simp only [↓qh,xa,reduceIte,reduceEqDiff,w0,w2,h1];exact ⟨Fr.refl _,.inl ⟨λ q=>by have:=q.1;omega,rfl⟩⟩
 by_cases h2:64<l
 ·simp only [↓qh,xa,reduceIte,reduceEqDiff,w0,w2,h1,h2];exact ⟨Fr.refl _,.inl ⟨λ q=>by have:=q.2;omega,rfl⟩⟩
 obtain ⟨a,rfl⟩:=kj (show 0<=l by omega);have mk:=J4 je 64 (cN .zero) a .i64 .i64 (by omega) (by omega);rw [<-Jn] at mk;obtain ⟨H1,e1⟩:∃ X,X=H.alloc (OR ((List.replicate a L8.zero).flatMap cN) je):=⟨_,rfl⟩
 have f1:Fr Em H H1:=by rw [e1];exact (Fr.refl H).alloc _
 have n1:H1.next=H.next+1:=by rw [e1,xn]
 obtain ⟨sv,hsv⟩:∃ sv:AV,sv=.slice H.next 0 a a:=⟨_,rfl⟩
 have hst:Op.sliceTo a a H.next=sv:=by rw [hsv];rfl
 have hsb:aM sv=H.next:=by rw [hsv];rfl
 have bd:Op.build [.nils] [(0,1)] [sv]=some (.agg [sv]):=by rw [hsv];rfl
 obtain ⟨H2,e2⟩:∃ X,X=H1.alloc (OR [sv] Kb):=⟨_,rfl⟩
 have f2:Fr Em H1 H2:=by rw [e2];exact (Fr.refl H1).alloc _
 have g2:H2.get H1.next=some (OR [sv] Kb):=by rw [e2,qx]
 simp only [↓qh,xa,reduceIte,reduceEqDiff,w0,w2,h1,h2,w10,lZ,mk,hst,<-e1,bd,xw,<-e2];refine ⟨f1.trans f2 λ _ q=>q.elim,.inr ⟨⟨by omega,by omega⟩,_,sv,rfl,⟨g2,by rw [e2,xn];omega,⟨H.next,?_,?_,?_⟩,by omega,by rw [za];omega⟩,by omega,by omega⟩⟩
 ·rw [za];exact hsv
 ·rw [e2,xn];omega
 ·rw [f2.ae _ (by omega) id,e1,qx];rfl
def kT:De:=⟨0,0,⟨0,0,0,.zero⟩,0,0,[]⟩
def eC:De:={ kT with ow:=-1 }
theorem eXZ:[AV.int .i64 0,.int .u8 0,.int .i64 0,.int .i64 0,.int .i64 0,.int .u64 0,.int .u64 0,.int .u64 0,.int .u64 0,.int .u64 0,.int .u64 0,.int .u64 0,.int .u64 0,.int .i64 0,.int .u8 0,.nils]=dP (kT,.nils):=rfl
def m8 (n i:Nat):List (De × AV):=(List.range n).map λ k=>(if k<i then eC else kT,.nils)
theorem rG (n:Nat):m8 n 0=List.replicate n (kT,.nils):=by
 unfold m8;apply kx;intro j;rw [xm];rcases jp j n with q|q
 ·rw [vv q,HE,qm q];simp
 ·rw [zm (by rw [yl];exact q),zm (by rw [za];exact q)];rfl
theorem xV (n:Nat):m8 n n=List.replicate n (eC,.nils):=by
 unfold m8;apply kx;intro j;rw [xm];rcases jp j n with q|q
 ·rw [vv q,HE,qm q];simp [q]
 ·rw [zm (by rw [yl];exact q),zm (by rw [za];exact q)];rfl
theorem Jw {n i j:Nat} (h:j<n):(m8 n i)[j]? = some (if j<i then eC else kT,.nils):=by
 unfold m8;rw [xm,vv h];rfl
theorem vQ {n i:Nat} (h:i<n):(m8 n i).set i (eC,.nils)=m8 n (i+1):=by
 have hl:∀ k,(m8 n k).length=n:=λ k=>by unfold m8;rw [zb,yl]
 apply kx;intro j
 by_cases q:j=i
 ·subst q;rw [xp (by rw [hl];exact h),Jw h,qm (by omega)]
 ·rw [xx (vp q)];rcases jp j n with w|w
  ·rw [Jw w,Jw w]
   by_cases e:j<i
   ·rw [qm e,qm (by omega)]
   ·rw [qd e,qd (by omega)]
  ·rw [zm (by rw [hl];exact w),zm (by rw [hl];exact w)]
theorem Jj {n i k:Nat} {x:De} {a:AV} (h:(m8 n i)[k]? = some (x,a)):a=.nils/\x.wt=[]:=by
 unfold m8 at h;rw [xm,xf] at h;obtain ⟨j,-,e⟩:=h;injection e with e1 e2
 refine ⟨e2.symm,?_⟩;rw [<-e1];split<;>rfl
def pY (l c:Int):Prop:=pE l/\1<=c/\c<=4
instance (l c:Int):Decidable (pY l c):=inferInstanceAs (Decidable (_/\_))
def zL (H:AHeap) (l c:Int) (v:AV) (H':AHeap):Prop:=Fr Em H H'/\(¬ pY l c/\v=.tuple [.nilp,.int .i64 2]\/pY l c /\ ∃ D mp lv ev,v=.tuple [.ptr D 0,.int .i64 0]/\iq H' D mp lv ev c (List.replicate l.toNat .zero) (List.replicate l.toNat (eC,.nils)) /\ ∀ z,gY D mp lv ev (List.replicate l.toNat (eC,.nils)) z->H.next<=z)
theorem q3g {H:AHeap} (l c:Int):jv M ER [.int .i64 l,.int .i64 c] H (zL H l c):=by
 refine q8h ?_;obtain ⟨w0,w4,w12,w14,w31,w19,w25,w30⟩:=q8i M ⟨none,ER⟩;simp only [↓qh,xa,reduceIte,reduceEqDiff,w0];refine C3.q (q3t (M:=M) l) λ v H1 ⟨f1,hv⟩=>?_;rcases hv with ⟨hm,rfl⟩|⟨hm,mp,lv,rfl,me,a1,a2⟩
 ·have t2:¬ (2:Int)=0:=by decide
  simp only [↓qh,xa,reduceIte,reduceEqDiff,qp,w4,t2];exact ⟨f1,.inl ⟨λ q=>hm q.1,rfl⟩⟩
 have t0:=xj (show (0:Int)=0 from rfl)
 by_cases h1:c<1
 ·simp only [↓qh,xa,reduceIte,reduceEqDiff,qp,w4,t0,h1];exact ⟨f1,.inl ⟨λ q=>by have:=q.2.1;omega,rfl⟩⟩
 by_cases h2:4<c
 ·simp only [↓qh,xa,reduceIte,reduceEqDiff,qp,w4,t0,h1,h2];exact ⟨f1,.inl ⟨λ q=>by have:=q.2.2;omega,rfl⟩⟩
 have hml:=hm;obtain ⟨m1,m2⟩:=hml;obtain ⟨n,rfl⟩:=kj (show 0<=l by omega);have mk:=J4 FW 144 (dP (kT,.nils)) n .i64 .i64 (by omega) (by omega);rw [<-Jn dP] at mk;obtain ⟨H2,e2⟩:∃ X,X=H1.alloc (OR ((List.replicate n (kT,AV.nils)).flatMap dP) FW):=⟨_,rfl⟩
 have f2:Fr Em H1 H2:=by rw [e2];exact (Fr.refl H1).alloc _
 have n2:H2.next=H1.next+1:=by rw [e2,xn]
 obtain ⟨sv,hsv⟩:∃ sv:AV,sv=.slice H1.next 0 n n:=⟨_,rfl⟩
 have hst:Op.sliceTo n n H1.next=sv:=by rw [hsv];rfl
 have hsb:aM sv=H1.next:=by rw [hsv];rfl
 have bd:Op.build [.nilp,.int .i64 0,.nils] [(0,1),(1,1),(2,1)] [.ptr mp 0,.int .i64 c,sv]=some (.agg [.ptr mp 0,.int .i64 c,sv]):=by rw [hsv];rfl
 obtain ⟨H3,e3⟩:∃ X,X=H2.alloc (OR [.ptr mp 0,.int .i64 c,sv] JQ):=⟨_,rfl⟩
 have f3:Fr Em H2 H3:=by rw [e3];exact (Fr.refl H2).alloc _
 have n3:H3.next=H1.next+2:=by rw [e3,xn,n2]
 have g3:H3.get H2.next=some (OR [.ptr mp 0,.int .i64 c,sv] JQ):=by rw [e3,qx]
 have f13:Fr Em H1 H3:=f2.trans f3 λ _ q=>q.elim;have ml:=me.lt;have mls:=me.ls.lt;have r3:dA dP FW 16 H3 sv (m8 n 0):=by
  rw [rG];refine ⟨H1.next,by rw [za];exact hsv,by omega,?_⟩;rw [f3.ae _ (by omega) id,e2,qx]
 have m1':=f1.next
 have d3:iq H3 H2.next mp lv sv c (List.replicate n .zero) (m8 n 0) :=
  ⟨g3,by omega,me.fr f13 id id,r3,λ i x a hx=>by rw [(Jj hx).1,(Jj hx).2];exact Sk.nil _,⟨by omega,by omega,by omega,by omega,by omega⟩,λ i x a hx z hz=>by rw [(Jj hx).1] at hz;exact absurd rfl hz.1,λ i j x y a b hx _ _ z hz=>by rw [(Jj hx).1] at hz;exact absurd rfl hz.1,by rw [za];unfold m8;rw [zb,yl]⟩
 have hn3:H.next<=H1.next:=f1.next
 have ld2:∀ {Hx:AHeap} {i:Nat},iq Hx H2.next mp lv sv c (List.replicate n .zero) (m8 n i)->Op.aa [.ptr H2.next 2] Hx=some sv:=λ h=>zf (xb h.row) 2
 have hln:Op.bB [sv]=some (.int .i64 ((n:Nat):Int)):=by rw [hsv];rfl
 simp only [↓qh,xa,reduceIte,reduceEqDiff,qp,w4,t0,h1,h2,w12,eXZ,mk,hst,<-e2,bd,xw,<-e3,w14,qf,ld2 d3,hln];refine bG.intro (λ k E Hx=>∃ (i:Nat),E=[(36,.int .i64 (i:Int)),(35,.int .i64 ((n:Nat):Int)),(8,.ptr H2.next 0)]/\k=n-i/\i<=n/\iq Hx H2.next mp lv sv c (List.replicate n .zero) (m8 n i)/\Fr Em H Hx) ?_ ?_
 ·exact ⟨_,_,⟨0,rfl,rfl,zl _,d3,f1.trans f13 λ _ q=>q.elim⟩,by simp only [↓qh,xa,reduceIte,reduceEqDiff]⟩
 rintro k E Hx ⟨i,rfl,rfl,hi,hd,hf⟩;rcases jp i n with hlt|hge
 ·have q1:(i:Int)<((n:Nat):Int):=by omega
  have hx:=Jw (i:=i) hlt;rw [qd (wJ i)] at hx;have en:=cG.of hd hx;have ix:Op.aS 16 [sv,.int .i64 (i:Int)]=some (.ptr (aM sv) (cu 16 sv i)):=(hd.es.sl rh).idx hx rfl .i64;obtain ⟨H5,s5,en5,f5⟩:=en.s0 (-1);have wj:aZ .i64 ((i:Int)+1)=((i+1:Nat):Int):=by rw [wx (by omega) (by omega)];omega
  have d5:iq H5 H2.next mp lv sv c (List.replicate n .zero) (m8 n (i+1)):=by rw [<-vQ hlt];exact en5.d
  simp only [↓qh,xa,reduceIte,reduceEqDiff,w19,q1,w25,qf,ld2 hd,ix,s5,w30,wj];exact ⟨_,_,⟨i+1,rfl,rfl,by omega,d5,hf.trans f5 λ z (q:z=aM sv)=>.inr (by omega)⟩,by simp only [↓qh,xa,reduceIte,reduceEqDiff],by omega⟩
 ·have hiw:i=n:=by omega
  have q1:¬ (i:Int)<((n:Nat):Int):=by omega
  subst hiw;simp only [↓qh,xa,reduceIte,reduceEqDiff,w19,q1,w31];rw [xV] at hd;refine ⟨hf,.inr ⟨⟨hm,by omega,by omega⟩,_,mp,lv,sv,rfl,hd,λ z hz=>?_⟩⟩;rcases hz with rfl|rfl|rfl|rfl|⟨k,x,a,hk,hz⟩
  ·omega
  ·exact a1
  ·exact a2
  ·omega
  ·rw [ze,HE] at hk;split at hk
   ·injection hk with hk;injection hk with _ hk;rw [<-hk] at hz;exact absurd rfl hz.1
   ·cases hk
end Go.Am
