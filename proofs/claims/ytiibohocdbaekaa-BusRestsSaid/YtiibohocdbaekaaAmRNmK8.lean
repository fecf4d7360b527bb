/- NmK8: NiA NiB NiC NiD. -/
import Derived.Test.YtiibohocdbaekaaAmRCodeK
import Derived.Test.YtiibohocdbaekaaAmRNmK7
import Derived.Test.YtiibohocdbaekaaAmRNmK0
set_option linter.unusedVariables false
set_option linter.unusedSimpArgs false
set_option linter.unusedSectionVars false
set_option maxRecDepth 100000
open Nat (reduceEqDiff)
namespace Go.Am
open Go.Proofs Ca
open Lang (ints)
variable {M:aO} [MK M]
def jL (ks:List Nat) (z:Int):Int:=match cr (λ i=>(ks[i]?.getD 0:Int) == z) ks.length with
 | some i=>i
 | none=>-1
section
variable {H H0:AHeap} {v:AV} {ks:List Nat}
theorem JT (h:ep dZ 1 H v ks) {i:Nat} (hi:i<ks.length):Op.aS 1 [v,.int .i64 (i:Int)]=some (.ptr (aM v) (cu 1 v i))/\Op.aa [.ptr (aM v) (cu 1 v i)] H=some (.int .i64 (ks[i]?.getD 0:Nat)):=by
 have hx:ks[i]? = some ks[i]:=by simp [hi]
 refine ⟨h.idx hx rfl .i64,?_⟩;rw [h.lT tq hx (by decide),hx];rfl
theorem q6p (h:ep dZ 1 H v ks) (hl:ks.length<=1000000) (z:Int):jv M DM [v,.int .i64 z] H λ r H'=>r=.int .i64 (jL ks z)/\H'=H:=by
 refine qqy ?_;obtain ⟨w0,w2,w25,w7,w13,w24⟩:=qqz M ⟨none,DM⟩;simp only [↓qh,xa,reduceIte,reduceEqDiff,w0,w2,h.len];refine bG.intro (λ n E Hx=>∃ i:Nat,E=[(8,.int .i64 (i:Int)),(7,.int .i64 ((ks.length:Nat):Int)),(0,v),(1,.int .i64 z)]/\n=ks.length-i/\i<=ks.length/\Hx=H /\ ∀ k,k<i->((ks[k]?.getD 0:Int) == z)=false) ?_ ?_
 ·exact ⟨_,_,⟨0,rfl,rfl,zl _,rfl,λ k hk=>by omega⟩,by simp only [↓qh,xa,reduceIte,reduceEqDiff]⟩
 rintro n E Hx ⟨i,rfl,rfl,hi,rfl,hno⟩;rcases jp i ks.length with hlt|hge
 ·have q1:(i:Int)<((ks.length:Nat):Int):=by omega
  obtain ⟨ix,ld⟩:=JT h hlt;have wj:aZ .i64 ((i:Int)+1)=((i+1:Nat):Int):=by rw [wx (by omega) (by omega)];omega
  by_cases q:z=((ks[i]?.getD 0:Nat):Int)
  ·simp only [↓qh,xa,reduceIte,reduceEqDiff,w7,q1,w13,ix,ld,xj q];unfold jL;rw [Fx hlt (by simp [<-q]) hno]
  ·simp only [↓qh,xa,reduceIte,reduceEqDiff,w7,q1,w13,ix,ld,q,w24,wj];refine ⟨_,_,⟨i+1,rfl,rfl,by omega,λ k hk=>?_⟩,by simp only [↓qh,xa,reduceIte,reduceEqDiff],by omega⟩
   by_cases e:k=i
   ·rw [e];simpa using λ w=>q w.symm
   ·exact hno k (by omega)
 ·have q1:¬ (i:Int)<((ks.length:Nat):Int):=by omega
  have e:i=ks.length:=by omega
  subst e;simp only [↓qh,xa,reduceIte,reduceEqDiff,w7,q1,w25];unfold jL;rw [Ce hno]
theorem yD {z:Int}:0<=jL ks z ↔ z ∈ ints ks:=by
 unfold jL;cases hf:cr (λ i=>(ks[i]?.getD 0:Int) == z) ks.length with
 | some i =>
  obtain ⟨a,b,-⟩:=Dg hf;refine ⟨λ _=>?_,λ _=>by show (0:Int)<=(i:Nat);omega⟩;have hx:ks[i]? = some ks[i]:=by simp [a]
  rw [hx] at b;have b:((ks[i]:Nat):Int)=z:=by simpa using b
  rw [<-b];exact Bk.2 ⟨ks[i],jf hx,rfl⟩
 | none =>
  refine ⟨λ q=>by have q:(0:Int) <= -1:=q;omega,λ q=>?_⟩;exfalso;obtain ⟨k,hk,e⟩:=Bk.1 q;obtain ⟨i,hi⟩:=wz hk;have:=MN hf i (ql.1 hi).1;rw [hi] at this;have e:((k:Nat):Int)=z:=e;simp [e] at this
theorem qpr (h:ep dZ 1 H v ks) (hl:ks.length<=1000000) (z:Int):jv M vz [v,.int .i64 z] H λ r H'=>r=.bool (decide (z ∈ ints ks))/\H'=H:=by
 refine qnt ?_;simp only [↓qh,xa,reduceIte,reduceEqDiff,qnu];refine C3.q (q6p (M:=M) h hl z) λ r H1 ⟨hr,hh⟩=>?_;rw [hr,hh];simp only [↓qh,xa,reduceIte,reduceEqDiff];exact congrArg AV.bool (decide_eq_decide.2 yD)
theorem qya {t:Nat} {line:Int} (x:Int) (hl:Op.aa [.ptr t 2] H=some (.int .i64 line)):jv M EE [.int .i64 x,.ptr t 0] H λ r H'=>r=.bool (decide (x=line))/\H'=H:=by
 refine qqp ?_
 by_cases q:x=line
 ·simp only [↓qh,xa,reduceIte,reduceEqDiff,qje,hl,xj q]
 ·simp only [↓qh,xa,reduceIte,reduceEqDiff,qje,hl,q]
abbrev As (t:Nat):AV:=.fn (.func EE) [] [.ptr t 0]
theorem q3o {t:Nat} {line:Int} (hl:Op.aa [.ptr t 2] H=some (.int .i64 line)) (h:ep dZ 1 H v ks) (hk:ks.length<=1000000):jv M vg [v,As t] H λ r H'=>r=.int .i64 (jL ks line)/\H'=H:=by
 refine qmh ?_;obtain ⟨w0,w2,w25,w7,w13,w24⟩:=qmi M ⟨none,vg⟩;simp only [↓qh,xa,reduceIte,reduceEqDiff,w0,w2,h.len];refine bG.intro (λ n E Hx=>∃ i:Nat,E=[(8,.int .i64 (i:Int)),(7,.int .i64 ((ks.length:Nat):Int)),(0,v),(1,As t)]/\n=ks.length-i/\i<=ks.length/\Hx=H /\ ∀ k,k<i->((ks[k]?.getD 0:Int) == line)=false) ?_ ?_
 ·exact ⟨_,_,⟨0,rfl,rfl,zl _,rfl,λ k hk=>by omega⟩,by simp only [↓qh,xa,reduceIte,reduceEqDiff]⟩
 rintro n E Hx ⟨i,rfl,rfl,hi,rfl,hno⟩;rcases jp i ks.length with hlt|hge
 ·have q1:(i:Int)<((ks.length:Nat):Int):=by omega
  obtain ⟨ix,ld⟩:=JT h hlt;have wj:aZ .i64 ((i:Int)+1)=((i+1:Nat):Int):=by rw [wx (by omega) (by omega)];omega
  simp only [↓qh,xa,reduceIte,reduceEqDiff,w7,q1,w13,ix,ld];refine C3.q (qya (M:=M) _ hl) λ r H1 ⟨hr,hh⟩=>?_;rw [hr,hh]
  by_cases q:((ks[i]?.getD 0:Nat):Int)=line
  ·simp only [↓qh,xa,reduceIte,reduceEqDiff,q];unfold jL;rw [Fx hlt (by simp [q]) hno]
  ·simp only [↓qh,xa,reduceIte,reduceEqDiff,q,w24,wj];refine ⟨_,_,⟨i+1,rfl,rfl,by omega,λ k hk=>?_⟩,by simp only [↓qh,xa,reduceIte,reduceEqDiff],by omega⟩
   by_cases e:k=i
   ·rw [e];simpa using q
   ·exact hno k (by omega)
 ·have q1:¬ (i:Int)<((ks.length:Nat):Int):=by omega
  have e:i=ks.length:=by omega
  subst e;simp only [↓qh,xa,reduceIte,reduceEqDiff,w7,q1,w25];unfold jL;rw [Ce hno]
theorem q8r (ks:List Nat) (rest:List AV) {i:Nat} (hi:i<ks.length) (y:Nat):(ks.flatMap dZ++rest).take i ++ [AV.int .i64 (y:Int)]++(ks.flatMap dZ++rest).drop (i+1)=(ks.set i y).flatMap dZ++rest:=by
 have hl:=nV ks;rw [kc (by omega),kw (by omega),<-zi];congr 1;rw [Fw,Fw,List.map_set,List.set_eq_take_append_cons_drop,qm (by rw [zb];exact hi)];simp
theorem iT.zC {e:Nat} (h:iT e H0 H v ks) {i:Nat} (hi:i<ks.length) (y:Nat):∃ H',Op.store 1 [.ptr (aM v) (cu 1 v i),.int .i64 (y:Int)] H=some (.undef,H')/\iT e H0 H' v (ks.set i y)/\Fr (bH v) H H':=by
 rcases h.own with ⟨rfl,rfl⟩|⟨b,m,rest,rfl,q1,q2,q3,q4⟩
 ·simp at hi
 ·have st:=q4d q4 (o:=i) (n:=1) (v:=.int .i64 (y:Int)) rfl (by rw [qu,nV];omega) rfl;have hc:AV.cells (.int .i64 (y:Int))=[.int .i64 (y:Int)]:=rfl;rw [hc,q8r ks rest hi] at st;have ho:cu 1 (AV.gslice b 0 m 1 0 ks.length) i=i:=by simp [cu]
  rw [ho];refine ⟨_,st,⟨.inr ⟨b,m,rest,by rw [qz],q1,q2,by rw [qz];exact q3,xd ..⟩,h.fr.set (.inr q2) _⟩,(Fr.refl H).set (W:=bH (AV.gslice b 0 m 1 0 ks.length)) (.inl ⟨by simp,rfl⟩) _⟩
theorem Jh:∀ n:Nat,dq n [AV.int .i64 0]=(List.replicate n 0).flatMap dZ
 | 0=>rfl
 | n+1=>by rw [dq,Ix,jt,<-Jh n];rfl
theorem iT.iG {e:Nat} (h:iT e H0 H v ks) {k:Nat} (hk:k<=ks.length):∃ v2 H',Op.aR 1 [some 0,none,none] [v,.int .i64 (k:Int)]=some v2/\Op.de [.int .i64 0] [v2] H=some (.tuple [],H')/\iT e H0 H' v (ks.take k++List.replicate (ks.length-k) 0)/\Fr (bH v) H H':=by
 rcases h.own with ⟨rfl,rfl⟩|⟨b,m,rest,rfl,q1,q2,q3,q4⟩
 ·have:k=0:=by simpa using hk
  subst this;have hbn:bound none 0 0=some 0:=rfl;refine ⟨.nils,H,by simp only [Op.aR,arg,iV,ji,qi,dh,hbn];rfl,rfl,h,Fr.refl _⟩
 ·have e1:∀ n,Nat.beq n n=true:=λ n=>by simp
  have hb1:∀ d m,bound none d m=some d:=λ _ _=>rfl;refine ⟨.gslice b (0+k) m 1 (cond (Nat.beq k 0) 0 (0*1)) (ks.length-k),?_⟩;have sl:Op.aR 1 [some 0,none,none] [AV.gslice b 0 m 1 0 ks.length,.int .i64 (k:Int)]=some (.gslice b (0+k) m 1 (cond (Nat.beq k 0) 0 (0*1)) (ks.length-k)):=by
   simp only [Op.aR,arg,iV,ji,qi,dh,hb1,pI (z:=(k:Int)) (k:=k) rfl hk .i64,e1,yo (show ks.length<=m-0 by omega),yo (zl m),jc,xe]
  have hle:(ks.take k).length=k:=by rw [j9];omega
  by_cases hz:ks.length-k=0
  ·refine ⟨H,sl,?_,?_,Fr.refl _⟩
   ·rw [hz];rfl
   ·have e2:ks.take k++List.replicate (ks.length-k) 0=ks:=by rw [hz,List.replicate_zero,x9,zw (by omega)]
    rw [e2];exact h
  ·have hlv:dS (.gslice b (0+k) m 1 (cond (Nat.beq k 0) 0 (0*1)) (ks.length-k))=some (ks.length-k):=rfl;have hb0:Nat.beq (ks.length-k) 0=false:=by cases hq:Nat.beq (ks.length-k) 0 with|false=>rfl|true=>rw [zr] at hq;exact absurd hq hz
   have hlt:Nat.blt 0 (ks.length-k)=true:=by unfold Nat.blt;exact yo (by omega)
   have hlt2:Nat.blt (0+k+0) m=true:=by unfold Nat.blt;exact yo (by omega)
   have he:elemAt 1 (.gslice b (0+k) m 1 (cond (Nat.beq k 0) 0 (0*1)) (ks.length-k)) 0=some (b,(0+k)*1+0*1):=by
    simp only [elemAt,hlt,e1,hlt2,jc,xe]
   have hst:H.store b ((0+k)*1+0*1) (dq (ks.length-k) [.int .i64 0])=some (H.set b (.grown m 1 ((ks.take k++List.replicate (ks.length-k) 0).flatMap dZ++rest) e (0,0))):=by
    have ha:ba (dq (ks.length-k) [AV.int .i64 0])=true:=by
     rw [Jh,nU,Fw];simp [br]
    have ht:cP (0,0) ((0+k)*1+0*1) (cz (dq (ks.length-k) [AV.int .i64 0]))=true:=by simp [cP]
    simp only [AHeap.store,ha,xe,q4,ht,vW];have hrl:(dq (ks.length-k) [AV.int .i64 0]).length=ks.length-k:=by rw [Jh,nV,za]
    have ek:(0+k)*1+0*1=k:=by omega
    have t1:(ks.flatMap dZ++rest).take k=(ks.take k).flatMap dZ:=by
     rw [kc (by rw [nV];exact hk),Fw,Fw,List.map_take]
    have t2:(ks.flatMap dZ++rest).drop (k+(ks.length-k))=rest:=by
     rw [show k+(ks.length-k)=(ks.flatMap dZ).length by rw [nV];omega,List.drop_left]
    rw [ek,qm (by rw [hrl,qu,nV];omega),qi,hrl,t1,t2,Jh,<-j7]
   refine ⟨H.set b (.grown m 1 ((ks.take k++List.replicate (ks.length-k) 0).flatMap dZ++rest) e (0,0)),sl,?_,⟨.inr ⟨b,m,rest,?_,q1,q2,?_,xd ..⟩,h.fr.set (.inr q2) _⟩,(Fr.refl H).set (W:=bH (AV.gslice b 0 m 1 0 ks.length)) (.inl ⟨by simp,rfl⟩) _⟩
   ·have hz1:[AV.int .i64 0].length=1:=rfl;simp only [Op.de,hlv,qi,hb0,zd,hz1,he,hst]
   ·rw [qu,hle,za];congr 1;omega
   ·rw [qu,hle,za];omega
def qA (ks:List Nat) (line:Int):List Nat:=ks.filter λ k=>((k:Nat):Int) != line
theorem q3e {t:Nat} {line:Int} {e:Nat} (hl:∀ {Hx:AHeap},Fr (bH v) H Hx->Op.aa [.ptr t 2] Hx=some (.int .i64 line)) (h:iT e H0 H v ks) (hk:ks.length<=1000000) :
 jv M yr [v,As t] H λ r H'=>iT e H0 H' r (qA ks line)/\Fr (bH v) H H' /\ ∀ x,bH r x->bH v x:=by
 refine qlf ?_;obtain ⟨w0,w4,w12,w35,w17,w23,w34⟩:=qlg M ⟨none,yr⟩;simp only [↓qh,xa,reduceIte,reduceEqDiff,w0];refine C3.q (q3o (M:=M) (hl (Fr.refl _)) h.sl hk) λ r H1 ⟨hr,hh⟩=>?_;rw [hr,hh];cases hf:cr (λ i=>(ks[i]?.getD 0:Int) == line) ks.length with
 | none =>
  have e1:jL ks line = -1:=by unfold jL;rw [hf]
  have e2:qA ks line=ks:=by
   unfold qA;rw [List.filter_eq_self];intro k hk';obtain ⟨i,hi⟩:=wz hk';have:=MN hf i (ql.1 hi).1;rw [hi] at this
   simpa using this
  rw [e1,e2];have t1:=xj (show (-1:Int) = -1 from rfl);simp only [↓qh,xa,reduceIte,reduceEqDiff,w4,t1];exact ⟨h,Fr.refl _,λ x q=>q⟩
 | some i0 =>
  obtain ⟨a1,a2,a3⟩:=Dg hf;have e1:jL ks line=(i0:Int):=by unfold jL;rw [hf]
  rw [e1];have t1:¬ (i0:Int) = -1:=by omega
  have wj:aZ .i64 ((i0:Int)+1)=((i0+1:Nat):Int):=by rw [wx (by omega) (by omega)];omega
  -- what is kept of the first ones
  have ae:∀ j,(ks.take (j+1)).filter (λ k=>((k:Nat):Int) != line)=(ks.take j).filter (λ k=>((k:Nat):Int) != line)++(match ks[j]? with|none=>[] | some k=>if ((k:Nat):Int)=line then [] else [k]):=λ j=>by
   rw [FC,List.filter_append];congr 1;cases ks[j]? with
   | none=>rfl
   | some k=>by_cases q:((k:Nat):Int)=line<;>simp [q]
  have h0:(ks.take i0).filter (λ k=>((k:Nat):Int) != line)=ks.take i0:=by
   rw [List.filter_eq_self];intro k hk';obtain ⟨i,hi⟩:=wz hk';rw [ku] at hi;split at hi
   ·rename_i hlt;have:=a3 i hlt;rw [hi] at this
    simpa using this
   ·cases hi
  have hx0:ks[i0]? = some ks[i0]:=by simp [a1]
  have h1:(ks.take (i0+1)).filter (λ k=>((k:Nat):Int) != line)=ks.take i0:=by
   rw [ae,h0,hx0];rw [hx0] at a2;have a2:((ks[i0]:Nat):Int)=line:=by simpa using a2
   simp [a2]
  simp only [↓qh,xa,reduceIte,reduceEqDiff,w4,t1,w12,wj];refine bG.intro (λ n E Hx=>∃ (i j:Nat) (zs:List Nat),E=[(6,.int .i64 (j:Int)),(5,.int .i64 (i:Int)),(0,v),(1,As t)]/\n=ks.length-j/\i<j/\j<=ks.length/\zs.length=ks.length/\zs.take i=(ks.take j).filter (λ k=>((k:Nat):Int) != line)/\zs.drop j=ks.drop j/\iT e H0 Hx v zs/\Fr (bH v) H Hx) ?_ ?_
  ·exact ⟨_,_,⟨i0,i0+1,ks,rfl,rfl,by omega,by omega,rfl,h1.symm,rfl,h,Fr.refl _⟩,by simp only [↓qh,xa,reduceIte,reduceEqDiff]⟩
  rintro n E Hx ⟨i,j,zs,rfl,rfl,hij,hj,hzl,hzt,hzd,hs,hfr⟩;have hln:=hs.sl.len;rw [hzl] at hln;rcases jp j ks.length with hlt|hge
  ·have q1:(j:Int)<((ks.length:Nat):Int):=by omega
   obtain ⟨ix,ld⟩:=JT hs.sl (i:=j) (by omega);obtain ⟨ix',-⟩:=JT hs.sl (i:=i) (by omega);have hzj:zs[j]? = ks[j]?:=by
    have:=congrArg (λ l=>l[0]?) hzd
    simpa [yb] using this
   obtain ⟨k,hkj⟩:∃ k,ks[j]? = some k:=⟨ks[j],by simp [hlt]⟩
   rw [hzj,hkj] at ld;have ld:Op.aa [.ptr (aM v) (cu 1 v j)] Hx=some (.int .i64 (k:Int)):=ld;have wj:aZ .i64 ((j:Int)+1)=((j+1:Nat):Int):=by rw [wx (by omega) (by omega)];omega
   have wi:aZ .i64 ((i:Int)+1)=((i+1:Nat):Int):=by rw [wx (by omega) (by omega)];omega
   have hd2:∀ l:List Nat,l.drop (j+1)=(l.drop j).drop 1:=λ l=>by rw [BO]
   simp only [↓qh,xa,reduceIte,reduceEqDiff,w17,hln,q1,w23,ix,ld];refine C3.q (qya (M:=M) _ (hl hfr)) λ r H2 ⟨hr,hh⟩=>?_;rw [hr,hh]
   by_cases q:(k:Int)=line
   ·simp only [↓qh,xa,reduceIte,reduceEqDiff,xj q,w34,wj];exact ⟨_,_,⟨i,j+1,zs,rfl,rfl,by omega,by omega,hzl,by rw [ae,hkj,hzt];simp [q],by rw [hd2,hzd,<-hd2],hs,hfr⟩,by simp only [↓qh,xa,reduceIte,reduceEqDiff],by omega⟩
   ·obtain ⟨H3,s3,hs3,f3⟩:=hs.zC (i:=i) (by omega) k;simp only [↓qh,xa,reduceIte,reduceEqDiff,q,ix',s3,wi,w34,wj];refine ⟨_,_,⟨i+1,j+1,zs.set i k,rfl,rfl,by omega,by omega,by rw [qz];exact hzl,?_,?_,hs3,hfr.trans f3 λ _ q=>.inl q⟩,by simp only [↓qh,xa,reduceIte,reduceEqDiff],by omega⟩
    ·rw [ae,hkj,<-hzt,FC,xp (by omega),List.take_set_of_le (qg i)];simp [q]
    ·rw [List.drop_set_of_lt (by omega),hd2,hzd,<-hd2]
  ·have q1:¬ (j:Int)<((ks.length:Nat):Int):=by omega
   have ej:j=ks.length:=by omega
   subst ej;rw [zw (qg _)] at hzt;obtain ⟨v2,H3,c1,c2,c3,c4⟩:=hs.iG (k:=i) (by omega);obtain ⟨v3,d1,d2,d3⟩:=c3.cut (k:=i) (by rw [qu,j9,za];omega) rfl .i64;have ef:(zs.take i++List.replicate (zs.length-i) 0).take i=qA ks line:=by
    rw [kc (by rw [j9];omega),List.take_take,Nat.min_self,hzt];rfl
   rw [ef] at d2;simp only [↓qh,xa,reduceIte,reduceEqDiff,w17,hln,q1,w35,c1,c2,d1];exact ⟨d2,hfr.trans c4 λ _ q=>.inl q,d3⟩
end
end Go.Am
namespace Go.Am
open Go.Proofs Ca
open Lang (ints)
variable {M:aO} [MK M]
def ai (m:Mg):List AV:=.int .i64 m.k::.int .i64 m.core::.int .i64 m.line::cN m.d
theorem xu (m:Mg):(ai m).length=11:=by simp [ai,cN,m.d.h]
theorem jS (m:Mg):ba (ai m)=true:=by rw [nU];simp [ai,cN,br]
def kZ (n:No) (b:Nat) (bv:AV):List AV:=.int .i64 n.core::.int .i64 n.lines::.ptr b 0::(ai n.out ++ [bv,.bool n.live,.int .i64 n.code])
structure cd (H0 H:AHeap) (r b:Nat) (sv bv:AV) (n:No) (ks:List Nat):Prop where
 row:H.get r=some (OR (kZ n b bv) FV)
 lt:r<H.next
 ca:cK H b sv n.c
 bk:iT dF H0 H bv ks
 eq:n.au=ints ks
 lr:H0.next<=r
 lb:H0.next<=b
 ls:H0.next<=aM sv
 n1:r ≠ b
 n2:r ≠ aM sv
 o1:¬ bH bv r
 o2:¬ bH bv b
 o3:¬ bH bv (aM sv)
 li:2<=n.lines/\n.lines<=64
 len:n.c.sl.length<=40
def eQ (r b:Nat) (sv bv:AV):Nat->Prop:=λ x=>x=r\/iC b sv x\/bH bv x
def mh (H0 H:AHeap) (r b:Nat) (sv bv:AV) (n':No) (H':AHeap):Prop:=∃ bv' ks',cd H0 H' r b sv bv' n' ks'/\Fr (eQ r b sv bv) H H' /\ ∀ x,bH bv' x->bH bv x\/H.next<=x
section
variable {H0 H:AHeap} {r b:Nat} {sv bv:AV} {n:No} {ks:List Nat}
theorem cd.em {H':AHeap} (h:cd H0 H r b sv bv n ks) (f:Fr Em H H'):cd H0 H' r b sv bv n ks :=
 ⟨by rw [f.ae _ h.lt id];exact h.row,qn h.lt f.next,h.ca.em f,h.bk.em f,h.eq,h.lr,h.lb,h.ls,h.n1,h.n2,h.o1,h.o2,h.o3,h.li,h.len⟩
theorem cd.same (h:cd H0 H r b sv bv n ks) {H':AHeap} (f:Fr Em H H'):mh H0 H r b sv bv n H':=⟨bv,ks,h.em f,f.mono λ _ _ q=>q.elim,λ x q=>.inl q⟩
theorem AE (n:No) (b:Nat) (bv:AV):(kZ n b bv)[0]? = some (.int .i64 n.core)/\(kZ n b bv)[1]? = some (.int .i64 n.lines)/\(kZ n b bv)[2]? = some (.ptr b 0)/\(kZ n b bv)[3]? = some (.int .i64 n.out.k)/\(kZ n b bv)[14]? = some bv/\(kZ n b bv)[15]? = some (.bool n.live)/\(kZ n b bv)[16]? = some (.int .i64 n.code)/\((kZ n b bv).drop 3).take 11=ai n.out/\(kZ n b bv).length=17:=by
 obtain ⟨core,lines,c,⟨k,co,l,⟨d,hd⟩⟩,au,live,code⟩:=n
 match d,hd with
 | [d0,d1,d2,d3,d4,d5,d6,d7],_=>exact ⟨rfl,rfl,rfl,rfl,rfl,rfl,rfl,rfl,rfl⟩
theorem cd.ld (h:cd H0 H r b sv bv n ks) (k:Nat):Op.aa [.ptr r k] H=(kZ n b bv)[k]?:=zf (xb h.row) k
theorem cd.l0 (h:cd H0 H r b sv bv n ks):Op.aa [.ptr r 0] H=some (.int .i64 n.core):=(h.ld 0).trans (AE n b bv).1
theorem cd.l1 (h:cd H0 H r b sv bv n ks):Op.aa [.ptr r 1] H=some (.int .i64 n.lines):=(h.ld 1).trans (AE n b bv).2.1
theorem cd.l2 (h:cd H0 H r b sv bv n ks):Op.aa [.ptr r 2] H=some (.ptr b 0):=(h.ld 2).trans (AE n b bv).2.2.1
theorem cd.l3 (h:cd H0 H r b sv bv n ks):Op.aa [.ptr r 3] H=some (.int .i64 n.out.k):=(h.ld 3).trans (AE n b bv).2.2.2.1
theorem cd.py (h:cd H0 H r b sv bv n ks):Op.aa [.ptr r 14] H=some bv:=(h.ld 14).trans (AE n b bv).2.2.2.2.1
theorem cd.eO (h:cd H0 H r b sv bv n ks):Op.aa [.ptr r 15] H=some (.bool n.live):=(h.ld 15).trans (AE n b bv).2.2.2.2.2.1
theorem cd.lo (h:cd H0 H r b sv bv n ks):Op.aq 11 [.ptr r 3] H=some (.agg (ai n.out)):=by
 obtain ⟨-,-,-,-,-,-,-,e,l⟩:=AE n b bv;rw [wF (xb h.row) (by rw [l];decide),e]
theorem cd.put (h:cd H0 H r b sv bv n ks) {n':No} {o m:Nat} {u:AV} (hu:u.cells.length=m) (ho:ba u.cells=true) (hm:o+m<=17) (e:(kZ n b bv).take o++u.cells++(kZ n b bv).drop (o+m)=kZ n' b bv) (hc:n'.c=n.c) (hb:n'.au=n.au) (hl:n'.lines=n.lines) :
 ∃ H',Op.store m [.ptr r o,u] H=some (.undef,H')/\cd H0 H' r b sv bv n' ks/\Fr (On r) H H':=by
 have st:=po h.row (o:=o) (n:=m) (v:=u) hu (by rw [(AE n b bv).2.2.2.2.2.2.2.2];exact hm) ho;rw [e] at st;have f:Fr (On r) H (H.set r (OR (kZ n' b bv) FV)):=(Fr.refl H).set (W:=On r) (.inl rfl) _;refine ⟨_,st,⟨xd ..,h.lt,by rw [hc];exact h.ca.fr f (λ (q:b=r)=>h.n1 q.symm) (λ (q:aM sv=r)=>h.n2 q.symm),h.bk.nX f (h.bk.fr.set (.inr h.lr) _) (λ x hx (q:x=r)=>h.o1 (q ▸ hx)),by rw [hb];exact h.eq,h.lr,h.lb,h.ls,h.n1,h.n2,h.o1,h.o2,h.o3,by rw [hl];exact h.li,by rw [hc];exact h.len⟩,f⟩
theorem cd.mz (h:cd H0 H r b sv bv n ks) (q:Bool):∃ H',Op.store 1 [.ptr r 15,.bool q] H=some (.undef,H')/\cd H0 H' r b sv bv { n with live:=q } ks/\Fr (On r) H H' :=
 h.put (n':={ n with live:=q }) (o:=15) (m:=1) (u:=.bool q) rfl rfl (by decide) (by
  obtain ⟨core,lines,c,⟨k,co,l,⟨d,hd⟩⟩,au,live,code⟩:=n
  match d,hd with
  | [d0,d1,d2,d3,d4,d5,d6,d7],_=>rfl) rfl rfl rfl
theorem cd.pA (h:cd H0 H r b sv bv n ks) (k:Int):∃ H',Op.store 1 [.ptr r 16,.int .i64 k] H=some (.undef,H')/\cd H0 H' r b sv bv { n with code:=k } ks/\Fr (On r) H H' :=
 h.put (n':={ n with code:=k }) (o:=16) (m:=1) (u:=.int .i64 k) rfl rfl (by decide) (by
  obtain ⟨core,lines,c,⟨k,co,l,⟨d,hd⟩⟩,au,live,code⟩:=n
  match d,hd with
  | [d0,d1,d2,d3,d4,d5,d6,d7],_=>rfl) rfl rfl rfl
theorem cd.tX (h:cd H0 H r b sv bv n ks) (m:Mg):∃ H',Op.store 11 [.ptr r 3,.agg (ai m)] H=some (.undef,H')/\cd H0 H' r b sv bv { n with out:=m } ks/\Fr (On r) H H' :=
 h.put (n':={ n with out:=m }) (o:=3) (m:=11) (u:=.agg (ai m)) (by rw [xw];exact xu m) (by rw [xw];exact jS m) (by decide) (by
  obtain ⟨core,lines,c,⟨k,co,l,⟨d,hd⟩⟩,au,live,code⟩:=n;obtain ⟨k',co',l',⟨d',hd'⟩⟩:=m
  match d,hd,d',hd' with
  | [d0,d1,d2,d3,d4,d5,d6,d7],_,[e0,e1,e2,e3,e4,e5,e6,e7],_=>rfl) rfl rfl rfl
theorem cd.eI (h:cd H0 H r b sv bv n ks) {c:Ca} {H':AHeap} (hc:cK H' b sv c) (f:Fr (iC b sv) H H') (hl:c.sl.length<=40):cd H0 H' r b sv bv { n with c:=c } ks :=
 ⟨by rw [f.ae _ h.lt (λ q=>q.elim h.n1 h.n2)];exact h.row,qn h.lt f.next,hc,h.bk.nX f (h.bk.fr.trans f λ x q=>q.elim (λ q=>.inr (by rw [q];exact h.lb)) λ q=>.inr (by rw [q];exact h.ls)) (λ x hx q=>q.elim (λ q=>h.o2 (q ▸ hx)) λ q=>h.o3 (q ▸ hx)),h.eq,h.lr,h.lb,h.ls,h.n1,h.n2,h.o1,h.o2,h.o3,h.li,hl⟩
theorem mh.of {n':No} {H':AHeap} {ks':List Nat} (h:cd H0 H' r b sv bv n' ks') (f:Fr (eQ r b sv bv) H H'):mh H0 H r b sv bv n' H':=⟨bv,ks',h,f,λ x q=>.inl q⟩
theorem Ci {H1 H2:AHeap} (f:Fr (On r) H1 H2):Fr (eQ r b sv bv) H1 H2:=f.mono λ _ _ q=>.inl q
theorem pk {H1 H2:AHeap} (f:Fr (iC b sv) H1 H2):Fr (eQ r b sv bv) H1 H2:=f.mono λ _ _ q=>.inr (.inl q)
theorem iB {H1 H2:AHeap} (f:Fr Em H1 H2):Fr (eQ r b sv bv) H1 H2:=f.mono λ _ _ q=>q.elim
theorem fI {H1 H2 H3:AHeap} (f:Fr (eQ r b sv bv) H1 H2) (g:Fr (eQ r b sv bv) H2 H3):Fr (eQ r b sv bv) H1 H3:=f.trans g λ _ q=>.inl q
theorem KC (h:cd H0 H r b sv bv n ks) (a:Int):jv M wY [.ptr r 0,.int .i64 a] H λ v H'=>v=.int .i64 (if n.may a then 0 else 2)/\H'=H:=by
 refine qwk ?_;obtain ⟨w0,w2,w17⟩:=qwl M ⟨none,wY⟩;have hl:=h.li;have wm:aZ .i64 (n.lines*8)=n.lines*8:=wx (by omega) (by omega)
 by_cases h1:a<0
 ·have hm:¬ n.may a:=λ q=>by have:=q.1;omega
  simp only [↓qh,xa,reduceIte,reduceEqDiff,w0,w2,yk,h1];rw [qd hm]
 by_cases h2:n.lines*8<=a
 ·have hm:¬ n.may a:=λ q=>by have:=q.2;omega
  simp only [↓qh,xa,reduceIte,reduceEqDiff,w0,w2,yk,h1,qf,h.l1,wm,h2];rw [qd hm]
 ·have hm:n.may a:=⟨by omega,by omega⟩
  simp only [↓qh,xa,reduceIte,reduceEqDiff,w0,w2,yk,h1,qf,h.l1,wm,h2,w17];rw [qm hm]
theorem mZ:[AV.int .i64 0,.int .i64 0,.int .i64 0,.int .u64 0,.int .u64 0,.int .u64 0,.int .u64 0,.int .u64 0,.int .u64 0,.int .u64 0,.int .u64 0]=ai ⟨0,0,0,.zero⟩:=rfl
theorem JL (k co l:Int):Op.build (ai ⟨0,0,0,.zero⟩) [(0,1),(1,1),(2,1)] [.int .i64 k,.int .i64 co,.int .i64 l]=some (.agg (ai ⟨k,co,l,.zero⟩)):=rfl
theorem wC (h:cd H0 H r b sv bv n ks) (k line:Int):jv M yh [.ptr r 0,.int .i64 k,.int .i64 line] H λ v H'=>v=.agg (ai (n.msg k line))/\Fr Em H H':=by
 refine qwn ?_;obtain ⟨H1,e1⟩:∃ X,X=H.alloc (OR (ai ⟨0,0,0,.zero⟩) qk):=⟨_,rfl⟩
 have f1:Fr Em H H1:=by rw [e1];exact (Fr.refl H).alloc _
 have g1:H1.get H.next=some (OR (ai ⟨0,0,0,.zero⟩) qk):=by rw [e1,qx]
 have s1:=iw g1 (xu _) (xu (n.msg k line)) (jS _);have ld:=fQ (xd H1 H.next (OR (ai (n.msg k line)) qk)) (xu _);have bd:Op.build (ai ⟨0,0,0,.zero⟩) [(0,1),(1,1),(2,1)] [.int .i64 k,.int .i64 n.core,.int .i64 line]=some (.agg (ai (n.msg k line))):=JL ..;simp only [↓qh,xa,reduceIte,reduceEqDiff,qwo,mZ,<-e1,qf,(h.em f1).l0,bd,s1,ld];exact f1.set (.inr (qg _)) _
theorem q88 (h:cd H0 H r b sv bv n ks):jv M C0 [.ptr r 0] H λ v H'=>v=.bool n.live/\H'=H:=by
 refine ql4 ?_;simp only [↓qh,xa,reduceIte,reduceEqDiff,ql5,iP,qf,h.eO]
theorem AK (h:cd H0 H r b sv bv n ks) (k:Int):jv M va [.ptr r 0,.int .i64 k] H λ _ H'=>cd H0 H' r b sv bv (n.dB k) ks/\Fr (eQ r b sv bv) H H':=by
 refine qr2 ?_;simp only [↓qh,xa,reduceIte,reduceEqDiff,qr3,qf,h.l2];refine C3.q (q1f (M:=M) h.ca h.len) λ _ H1 ⟨h1,f1⟩=>?_;have hn1:=h.eI h1 f1 (by show (n.c.sl.map back).length<=40;rw [zb];exact h.len);obtain ⟨H2,s2,h2,f2⟩:=hn1.mz false;obtain ⟨H3,s3,h3,f3⟩:=h2.pA k;simp only [↓qh,xa,reduceIte,reduceEqDiff,qf,s2,s3];exact ⟨h3,fI (fI (pk f1) (Ci f2)) (Ci f3)⟩
theorem q5u (h:cd H0 H r b sv bv n ks) (k:Int):jv M CP [.ptr r 0,.int .i64 k] H λ v H'=>v=.int .i64 (n.abort k).2/\cd H0 H' r b sv bv (n.abort k).1 ks/\Fr (eQ r b sv bv) H H':=by
 refine qrt ?_;obtain ⟨w0,w2,w23,w16⟩:=qru M ⟨none,CP⟩;have eO:=h.eO;cases hl:n.live with
 | false =>
  have ea:n.abort k=(n,40):=by unfold No.abort;rw [hl];rfl
  rw [hl] at eO;rw [ea];simp only [↓qh,xa,reduceIte,reduceEqDiff,w0,w2,yk,qf,eO];exact ⟨h,Fr.refl _⟩
 | true =>
  rw [hl] at eO
  by_cases h1:k<1
  ·have ea:n.abort k=(n,2):=by unfold No.abort;rw [hl,qm rfl,qm (.inl h1)]
   rw [ea];simp only [↓qh,xa,reduceIte,reduceEqDiff,w0,w2,yk,qf,eO,w16,h1];exact ⟨h,Fr.refl _⟩
  by_cases h2:7<k
  ·have ea:n.abort k=(n,2):=by unfold No.abort;rw [hl,qm rfl,qm (.inr h2)]
   rw [ea];simp only [↓qh,xa,reduceIte,reduceEqDiff,w0,w2,yk,qf,eO,w16,h1,h2];exact ⟨h,Fr.refl _⟩
  have ea:n.abort k=(n.dB k,0):=by unfold No.abort;rw [hl,qm rfl,qd (by omega)]
  rw [ea];simp only [↓qh,xa,reduceIte,reduceEqDiff,w0,w2,yk,qf,eO,w16,h1,h2,w23];refine C3.q (AK (M:=M) h k) λ _ H1 ⟨h1',f1⟩=>?_;simp only [↓qh,xa,reduceIte,reduceEqDiff];exact ⟨h1',f1⟩
end
end Go.Am
namespace Go.Am
open Go.Proofs Ca
open Lang (ints)
variable {M:aO} [MK M]
def ir (H H':AHeap) (v:AV) (ms:List Mg):Prop:=ep ai 11 H' v ms/\(ms ≠ []->H.next<=aM v)
theorem ir.nil (H H':AHeap):ir H H' .nils []:=⟨⟨rfl,rfl⟩,λ q=>absurd rfl q⟩
theorem rB (m:Mg):Op.buildSlice qk 1 (ai ⟨0,0,0,.zero⟩) [(0,11)] [.agg (ai m)]=some (OR (ai m) qk,Op.sliceTo 1 1):=M6 qk 11 (ai ⟨0,0,0,.zero⟩) (.agg (ai m)) (xu _) (by rw [xw];exact xu m)
theorem CM {H:AHeap} (m:Mg):dA ai qk 11 (H.alloc (OR (ai m) qk)) (Op.sliceTo 1 1 H.next) [m]:=⟨H.next,rfl,by rw [xn];omega,by rw [qx];simp⟩
theorem Ec {H H0:AHeap} (m:Mg) (h:H0.next<=H.next):ir H0 (H.alloc (OR (ai m) qk)) (Op.sliceTo 1 1 H.next) [m]:=⟨(CM m).sl xu,λ _=>h⟩
section
variable {H0 H:AHeap} {r b:Nat} {sv bv:AV} {n:No} {ks:List Nat}
theorem cd.kl (h:cd H0 H r b sv bv n ks):n.au.length=ks.length:=by rw [h.eq];unfold ints;rw [zb]
theorem Nx (h:cd H0 H r b sv bv n ks) (hk:n.au.length<=900000) (k line:Int):jv M Aw [.ptr r 0,.int .i64 k,.int .i64 line] H λ v H'=>ir H H' v (n.ask k line).2/\cd H0 H' r b sv bv (n.ask k line).1 ks/\Fr (eQ r b sv bv) H H':=by
 refine qwh ?_;obtain ⟨w0,w2,w10⟩:=qwi M ⟨none,Aw⟩;have hkl:=h.kl
 by_cases h1:n.out.k=0
 ·simp only [↓qh,xa,reduceIte,reduceEqDiff,w0,w2,qf,h.l3,xj h1,h.py];refine C3.q (qpr (M:=M) h.bk.sl (by omega) line) λ v H1 ⟨hv,hh⟩=>?_;rw [hv,hh,<-h.eq]
  by_cases h2:line ∈ n.au
  ·have ea:n.ask k line=(n,[]):=by unfold No.ask;rw [qm (.inr h2)]
   rw [ea];simp only [↓qh,xa,reduceIte,reduceEqDiff,xj h2];exact ⟨ir.nil ..,h,Fr.refl _⟩
  ·have ea:n.ask k line=({ n with out:=n.msg k line },[n.msg k line]):=by unfold No.ask;rw [qd (λ q=>q.elim (λ q=>q h1) h2)]
   rw [ea];simp only [↓qh,xa,reduceIte,reduceEqDiff,h2,w10];refine C3.q (wC (M:=M) h k line) λ v H2 ⟨hv,f2⟩=>?_;rw [hv];obtain ⟨H3,s3,h3,f3⟩:=(h.em f2).tX (n.msg k line);have lo:=h3.lo;have f23:Fr (eQ r b sv bv) H H3:=fI (iB f2) (Ci f3);simp only [↓qh,xa,reduceIte,reduceEqDiff,qf,s3,lo,mZ,rB];exact ⟨Ec _ f23.next,h3.em ((Fr.refl H3).alloc _),fI f23 (iB ((Fr.refl H3).alloc _))⟩
 ·have ea:n.ask k line=(n,[]):=by unfold No.ask;rw [qm (.inl h1)]
  rw [ea];simp only [↓qh,xa,reduceIte,reduceEqDiff,w0,w2,qf,h.l3,h1];exact ⟨ir.nil ..,h,Fr.refl _⟩
theorem fF {H1:AHeap} (e:En):Op.store 21 [.ptr H1.next 0,.agg (aA e)] (H1.alloc (OR (aA .zero) qt))=some (.undef,(H1.alloc (OR (aA .zero) qt)).set H1.next (OR (aA e) qt)):=iw (qx ..) (ja _) (ja e) (qS e)
theorem wB {H1:AHeap} (o o':bN):Fr Em H1 ((H1.alloc o).set H1.next o'):=((Fr.refl H1).alloc _).set (.inr (qg _)) _
theorem qyj {line:Int} (h:cd H0 H r b sv bv n ks) (hci:CI n.lines n.c):jv M DL [.ptr r 0,.int .i64 line] H λ v H'=>v=.bool (n.owned line)/\Fr Em H H':=by
 refine qr5 ?_;simp only [↓qh,xa,reduceIte,reduceEqDiff,qr6,qf,h.l2];refine C3.q (J9 (M:=M) h.ca hci line) λ v H1 ⟨hv,f1⟩=>?_;rw [hv];unfold lX No.owned;cases hf:n.c.find line with
 | none =>
  simp only [↓qh,xa,reduceIte,reduceEqDiff,qp,eZ,fF];exact f1.trans (wB _ _) λ _ q=>q.elim
 | some e =>
  have l1:Op.aa [.ptr H1.next 1] ((H1.alloc (OR (aA .zero) qt)).set H1.next (OR (aA e) qt))=some (.int .i64 e.st):=zf (xb (xd ..)) 1;have fe:Fr Em H ((H1.alloc (OR (aA .zero) qt)).set H1.next (OR (aA e) qt)):=f1.trans (wB _ _) λ _ q=>q.elim
  by_cases q:e.st=2
  ·simp only [↓qh,xa,reduceIte,reduceEqDiff,qp,eZ,fF,l1,xj q];exact ⟨by rw [q];rfl,fe⟩
  ·simp only [↓qh,xa,reduceIte,reduceEqDiff,qp,eZ,fF,l1,q];exact ⟨by simp [q],fe⟩
def nu (H0 H:AHeap) (r b:Nat) (sv bv:AV) (n:No) (ks:List Nat) (a:Int) (v:AV) (H':AHeap):Prop:=(∃ ov,v=.tuple [.int .u64 (n.load a).2.1,.bool (n.load a).2.2.1,ov,.int .i64 (n.load a).2.2.2.2]/\ir H H' ov (n.load a).2.2.2.1)/\cd H0 H' r b sv bv (n.load a).1 ks/\Fr (eQ r b sv bv) H H'
theorem q9b (h:cd H0 H r b sv bv n ks) (hci:CI n.lines n.c) (hk:n.au.length<=900000) (hu:n.c.us+1<=1000000) (a:Int):jv M BN [.ptr r 0,.int .i64 a] H (nu H0 H r b sv bv n ks a):=by
 refine qtl ?_;obtain ⟨w0,w2,w12,w14,w24,w30⟩:=qtm M ⟨none,BN⟩;simp only [↓qh,xa,reduceIte,reduceEqDiff,w0,w2];refine C3.q (KC (M:=M) h a) λ v H1 ⟨hv,hh⟩=>?_;rw [hv,hh]
 by_cases hm:n.may a
 case neg =>
  have ea:n.load a=(n,0,false,[],2):=by unfold No.load;rw [qd hm]
  have t2:¬ (2:Int)=0:=by decide
  rw [qd hm];unfold nu;rw [ea];simp only [↓qh,xa,reduceIte,reduceEqDiff,t2];exact ⟨⟨.nils,rfl,ir.nil ..⟩,h,Fr.refl _⟩
 rw [qm hm];have hl:=h.li;obtain ⟨m1,m2⟩:=hm;obtain ⟨a',rfl⟩:=kj m1;have hal:a'<1000000:=by omega
 have eln:No.ln (Int.ofNat a')=((a' / 8:Nat):Int):=rfl;have t0:=xj (show (0:Int)=0 from rfl);simp only [↓qh,xa,reduceIte,reduceEqDiff,t0,w12,vV hal,w14,qf,h.l2];refine C3.q (J9 (M:=M) h.ca hci ((a' / 8:Nat):Int)) λ v H1 ⟨hv,f1⟩=>?_;rw [hv];have hmm:n.may (a':Int):=⟨m1,m2⟩
 unfold lX;cases hf:n.c.find ((a' / 8:Nat):Int) with
 | none =>
  have ea:n.load (a':Int)=((n.ask 1 ((a' / 8:Nat):Int)).1,0,false,(n.ask 1 ((a' / 8:Nat):Int)).2,0):=by
   unfold No.load;rw [qm hmm];show (match n.c.find ((a' / 8:Nat):Int) with|none=>_|some _=>_)=_;rw [hf];rfl
  have fb:Fr Em H ((H1.alloc (OR (aA .zero) qt)).set H1.next (OR (aA .zero) qt)):=f1.trans (wB _ _) λ _ q=>q.elim;simp only [↓qh,xa,reduceIte,reduceEqDiff,qp,eZ,fF];refine C3.q (Nx (M:=M) (h.em fb) hk 1 ((a' / 8:Nat):Int)) λ v H2 ⟨hms,hn,hfr⟩=>?_;unfold nu;rw [ea];simp only [↓qh,xa,reduceIte,reduceEqDiff];refine ⟨⟨v,rfl,hms.1,λ q=>xt fb.next (hms.2 q)⟩,hn,fI (iB fb) hfr⟩
 | some e =>
  obtain ⟨i,hp,rfl⟩:=E6 hf;have fb:Fr Em H ((H1.alloc (OR (aA .zero) qt)).set H1.next (OR (aA (n.c.en i)) qt)):=f1.trans (wB _ _) λ _ q=>q.elim;obtain ⟨Hb,hHb⟩:∃ X,X=(H1.alloc (OR (aA .zero) qt)).set H1.next (OR (aA (n.c.en i)) qt):=⟨_,rfl⟩
  rw [<-hHb] at fb;have hb:=h.em fb;have eO:=hb.eO
  -- behind the mark
  have fin:∀ {Hc:AHeap} {c:Ca},cd H0 Hc r b sv bv { n with c:=c } ks->CI n.lines c->c.us+1<=1000000->Fr (eQ r b sv bv) H Hc->c=(if n.live then n.c.mark ((a' / 8:Nat):Int) false else n.c)->c.pos ((a' / 8:Nat):Int)=some i -> ∀ {E:Env},lk E 0=some (.ptr r 0)->lk E 1=some (.int .i64 (a':Int)) ->
   W M ⟨none,BN⟩ (jy 30) true (aP M [.tmp 4,.tmp 5,.tmp 6,.tmp 7] (lM (nu H0 H r b sv bv n ks (a':Int)))) E [] Hc:=by
   intro Hc c hc hci' hus hfr ec hpos E h0 h1;have ea:n.load (a':Int)=({ n with c:=(c.word a').1 },(c.word a').2.getD 0,true,[],0):=by
    unfold No.load;rw [qm hmm];show (match n.c.find ((a' / 8:Nat):Int) with|none=>_|some _=>_)=_;rw [hf,ec];rfl
   simp only [↓qh,xa,reduceIte,reduceEqDiff,w30,h0,qf,hc.l2,h1];refine C3.q (q2w (M:=M) hc.ca hci' hus hal) λ v H3 ⟨hv,h3,f3⟩=>?_;rw [hv];have hw:(c.word a').2=some ((c.en i).d.get (a' % 8)):=by unfold Ca.word;rw [hpos]
   unfold pB;rw [hpos];have hlen:(c.word a').1.sl.length<=40:=by
    have:=hc.len;unfold Ca.word;rw [hpos];show (c.sl.set i _).length<=40;rw [qz];exact this
   have hn:=hc.eI h3 f3 hlen;unfold nu;rw [ea,hw];simp only [↓qh,xa,reduceIte,reduceEqDiff,qp];exact ⟨⟨.nils,rfl,ir.nil ..⟩,hn,fI hfr (pk f3)⟩
  cases hlv:n.live with
  | false =>
   rw [hlv] at eO;simp only [↓qh,xa,reduceIte,reduceEqDiff,qp,eZ,fF,<-hHb,w24,qf,eO];exact fin (c:=n.c) (by have:({ n with c:=n.c }:No)=n:=rfl;rw [this];exact hb) hci hu (iB fb) (by rw [hlv];rfl) hp rfl rfl
  | true =>
   rw [hlv] at eO;simp only [↓qh,xa,reduceIte,reduceEqDiff,qp,eZ,fF,<-hHb,w24,qf,eO,hb.l2];refine C3.q (q1w (M:=M) hb.ca hci ((a' / 8:Nat):Int) false) λ _ H3 ⟨h3,f3⟩=>?_;have em:n.c.mark ((a' / 8:Nat):Int) false=n.c.set i { n.c.en i with r:=true }:=by unfold Ca.mark;rw [qd (by decide),i9,hp]
   have hlen:(n.c.mark ((a' / 8:Nat):Int) false).sl.length<=40:=by rw [em];show (n.c.sl.set i _).length<=40;rw [qz];exact h.len
   have hpos:(n.c.mark ((a' / 8:Nat):Int) false).pos ((a' / 8:Nat):Int)=some i:=by
    rw [em];have sh:ry n.c { n.c.set i { n.c.en i with r:=true } with us:=n.c.us }:=ry.set n.c.us rfl rfl;exact (sh.pos _).trans hp
   simp only [↓qh,xa,reduceIte,reduceEqDiff];exact fin (c:=n.c.mark ((a' / 8:Nat):Int) false) (hb.eI h3 f3 hlen) (hci.mark _ _) (by rw [em];exact hu) (fI (iB fb) (pk f3)) (by rw [hlv];rfl) hpos rfl rfl
end
end Go.Am
namespace Go.Am
open Go.Proofs Ca
open Lang (ints)
variable {M:aO} [MK M]
section
variable {H0 H:AHeap} {r b:Nat} {sv bv:AV} {n:No} {ks:List Nat}
theorem q9p {line:Int} (h:n.owned line=true):∃ i,n.c.pos line=some i/\(n.c.en i).st=2:=by
 unfold No.owned at h;cases hf:n.c.find line with
 | none=>rw [hf] at h;cases h
 | some x =>
  rw [hf] at h;obtain ⟨i,hp,rfl⟩:=E6 hf;exact ⟨i,hp,by simpa using h⟩
theorem JC (c:Ca) (line:Int) (wr:Bool):(c.mark line wr).us=c.us/\(c.mark line wr).sl.length=c.sl.length:=by
 unfold Ca.mark;cases wr with
 | true =>
  rw [qm rfl];cases c.fJ line 2 with
  | none=>exact ⟨rfl,rfl⟩
  | some i =>
   show (if (c.en i).w then c else c.set i _).us=_/\(if (c.en i).w then c else c.set i _).sl.length=_;split
   ·exact ⟨rfl,rfl⟩
   ·exact ⟨rfl,qz⟩
 | false =>
  rw [qd (by decide)];cases c.fJ line 0 with
  | none=>exact ⟨rfl,rfl⟩
  | some i=>exact ⟨rfl,qz⟩
theorem Ka (c:Ca) (a:Nat) (y:Int):(c.put a y).sl.length=c.sl.length/\((c.put a y).us=c.us\/(c.put a y).us=c.us+1):=by
 unfold Ca.put;cases c.fJ ((a / 8:Nat):Int) 2 with
 | none=>exact ⟨rfl,.inl rfl⟩
 | some i=>exact ⟨qz,.inr rfl⟩
theorem Is (c:Ca) (a:Nat):(c.word a).1.sl.length=c.sl.length/\((c.word a).1.us=c.us\/(c.word a).1.us=c.us+1):=by
 unfold Ca.word;cases c.pos ((a / 8:Nat):Int) with
 | none=>exact ⟨rfl,.inl rfl⟩
 | some i=>exact ⟨qz,.inr rfl⟩
def kU (H0 H:AHeap) (r b:Nat) (sv bv:AV) (n:No) (ks:List Nat) (a y:Int) (v:AV) (H':AHeap):Prop:=(∃ ov,v=.tuple [.bool (n.store a y).2.1,ov,.int .i64 (n.store a y).2.2.2]/\ir H H' ov (n.store a y).2.2.1)/\cd H0 H' r b sv bv (n.store a y).1 ks/\Fr (eQ r b sv bv) H H'
theorem q7e (h:cd H0 H r b sv bv n ks) (hci:CI n.lines n.c) (hk:n.au.length<=900000) (hu:n.c.us+1<=1000000) (a y:Int):jv M Bo [.ptr r 0,.int .i64 a,.int .u64 y] H (kU H0 H r b sv bv n ks a y):=by
 refine qrz ?_;obtain ⟨w0,w2,w12,w14,w22,w28⟩:=qr0 M ⟨none,Bo⟩;simp only [↓qh,xa,reduceIte,reduceEqDiff,w0,w2];refine C3.q (KC (M:=M) h a) λ v H1 ⟨hv,hh⟩=>?_;rw [hv,hh]
 by_cases hm:n.may a
 case neg =>
  have ea:n.store a y=(n,false,[],2):=by unfold No.store;rw [qd hm]
  have t2:¬ (2:Int)=0:=by decide
  rw [qd hm];unfold kU;rw [ea];simp only [↓qh,xa,reduceIte,reduceEqDiff,t2];exact ⟨⟨.nils,rfl,ir.nil ..⟩,h,Fr.refl _⟩
 rw [qm hm];have hl:=h.li;obtain ⟨m1,m2⟩:=hm;obtain ⟨a',rfl⟩:=kj m1;have hal:a'<1000000:=by omega
 have hmm:n.may (a':Int):=⟨m1,m2⟩
 have eln:No.ln (a':Int)=((a' / 8:Nat):Int):=rfl;have t0:=xj (show (0:Int)=0 from rfl);simp only [↓qh,xa,reduceIte,reduceEqDiff,t0,w12,vV hal,w14];refine C3.q (qyj (M:=M) (line:=((a' / 8:Nat):Int)) h hci) λ v H1 ⟨hv,f1⟩=>?_;rw [hv];have hb:=h.em f1;cases ho:n.owned ((a' / 8:Nat):Int) with
 | false =>
  have ea:n.store (a':Int) y=((n.ask 2 ((a' / 8:Nat):Int)).1,false,(n.ask 2 ((a' / 8:Nat):Int)).2,0):=by
   unfold No.store;rw [qm hmm,eln,ho];rfl
  simp only [↓qh,xa,reduceIte,reduceEqDiff];refine C3.q (Nx (M:=M) hb hk 2 ((a' / 8:Nat):Int)) λ v H2 ⟨hms,hn,hfr⟩=>?_;unfold kU;rw [ea];simp only [↓qh,xa,reduceIte,reduceEqDiff];exact ⟨⟨v,rfl,hms.1,λ q=>xt f1.next (hms.2 q)⟩,hn,fI (iB f1) hfr⟩
 | true =>
  have eO:=hb.eO;have fin:∀ {Hc:AHeap} {c:Ca},cd H0 Hc r b sv bv { n with c:=c } ks->CI n.lines c->c.us+1<=1000000->Fr (eQ r b sv bv) H Hc->c=(if n.live then n.c.mark ((a' / 8:Nat):Int) true else n.c) -> ∀ {E:Env},lk E 0=some (.ptr r 0)->lk E 1=some (.int .i64 (a':Int))->lk E 2=some (.int .u64 y) ->
   W M ⟨none,Bo⟩ (jl 28) true (aP M [.tmp 6,.tmp 7,.tmp 8] (lM (kU H0 H r b sv bv n ks (a':Int) y))) E [] Hc:=by
   intro Hc c hc hci' hus hfr ec E h0 h1 h2;have ea:n.store (a':Int) y=({ n with c:=c.put a' y },true,[],0):=by
    unfold No.store;rw [qm hmm,eln,ho,qm rfl,ec];rfl
   simp only [↓qh,xa,reduceIte,reduceEqDiff,w28,h0,qf,hc.l2,h1,h2];refine C3.q (q5l (M:=M) hc.ca hci' hus hal y) λ v H3 ⟨hv,h3,f3⟩=>?_;have hn:=hc.eI h3 f3 (by rw [(Ka c a' y).1];exact hc.len);unfold kU;rw [ea];simp only [↓qh,xa,reduceIte,reduceEqDiff];exact ⟨⟨.nils,rfl,ir.nil ..⟩,hn,fI hfr (pk f3)⟩
  cases hlv:n.live with
  | false =>
   rw [hlv] at eO;simp only [↓qh,xa,reduceIte,reduceEqDiff,w22,qf,eO];exact fin (c:=n.c) (by have:({ n with c:=n.c }:No)=n:=rfl;rw [this];exact hb) hci hu (iB f1) (by rw [hlv];rfl) rfl rfl rfl
  | true =>
   rw [hlv] at eO;simp only [↓qh,xa,reduceIte,reduceEqDiff,w22,qf,eO,hb.l2];refine C3.q (q1w (M:=M) hb.ca hci ((a' / 8:Nat):Int) true) λ _ H3 ⟨h3,f3⟩=>?_;simp only [↓qh,xa,reduceIte,reduceEqDiff];exact fin (c:=n.c.mark ((a' / 8:Nat):Int) true) (hb.eI h3 f3 (by rw [(JC ..).2];exact h.len)) (hci.mark _ _) (by rw [(JC ..).1];exact hu) (fI (iB f1) (pk f3)) (by rw [hlv];rfl) rfl rfl rfl
theorem ME (h:cd H0 H r b sv bv n ks) (x:En) (too:Bool):jv M CU [.ptr r 0,.agg (aA x),.bool too] H λ _ H'=>cd H0 H' r b sv bv (n.lost x too) ks/\Fr (eQ r b sv bv) H H':=by
 refine qtu ?_;obtain ⟨H1,e1⟩:∃ X,X=H.alloc (OR (aA x) qt):=⟨_,rfl⟩
 have f1:Fr Em H H1:=by rw [e1];exact (Fr.refl H).alloc _
 have g1:H1.get H.next=some (OR (aA x) qt):=by rw [e1,qx]
 have l0:Op.aa [.ptr H.next 0] H1=some (.int .i64 x.line):=zf (xb g1) 0;have l2:Op.aa [.ptr H.next 2] H1=some (.bool x.r):=zf (xb g1) 2;have l3:Op.aa [.ptr H.next 3] H1=some (.bool x.w):=zf (xb g1) 3;have h1:=h.em f1;have stay:(x.w || (x.r && too))=false->n.lost x too=n:=λ q=>by unfold No.lost;rw [q];rfl
 have go2:(x.w || (x.r && too))=true->x.line=0->n.lost x too=n.dB 2:=λ q q'=>by unfold No.lost;rw [q,qm rfl,qm q']
 have go1:(x.w || (x.r && too))=true -> ¬ x.line=0->n.lost x too=n.dB 1:=λ q q'=>by unfold No.lost;rw [q,qm rfl,qd q']
 cases hw:x.w with
 | true =>
  rw [hw] at l3
  by_cases q:x.line=0
  ·rw [go2 (by rw [hw];rfl) q];simp only [↓qh,xa,reduceIte,reduceEqDiff,Fj,xw,<-e1,l3,l0,xj q];refine C3.q (AK (M:=M) h1 2) λ _ H2 ⟨h2,f2⟩=>?_;simp only [↓qh,xa,reduceIte,reduceEqDiff];exact ⟨h2,fI (iB f1) f2⟩
  ·rw [go1 (by rw [hw];rfl) q];simp only [↓qh,xa,reduceIte,reduceEqDiff,Fj,xw,<-e1,l3,l0,q];refine C3.q (AK (M:=M) h1 1) λ _ H2 ⟨h2,f2⟩=>?_;simp only [↓qh,xa,reduceIte,reduceEqDiff];exact ⟨h2,fI (iB f1) f2⟩
 | false =>
  rw [hw] at l3;cases hr:x.r with
  | false =>
   rw [hr] at l2;rw [stay (by rw [hw,hr];rfl)];simp only [↓qh,xa,reduceIte,reduceEqDiff,Fj,xw,<-e1,l3,l2];exact ⟨h1,iB f1⟩
  | true =>
   rw [hr] at l2;cases too with
   | false =>
    rw [stay (by rw [hw,hr];rfl)];simp only [↓qh,xa,reduceIte,reduceEqDiff,Fj,xw,<-e1,l3,l2];exact ⟨h1,iB f1⟩
   | true =>
    by_cases q:x.line=0
    ·rw [go2 (by rw [hw,hr];rfl) q];simp only [↓qh,xa,reduceIte,reduceEqDiff,Fj,xw,<-e1,l3,l2,l0,xj q];refine C3.q (AK (M:=M) h1 2) λ _ H2 ⟨h2,f2⟩=>?_;simp only [↓qh,xa,reduceIte,reduceEqDiff];exact ⟨h2,fI (iB f1) f2⟩
    ·rw [go1 (by rw [hw,hr];rfl) q];simp only [↓qh,xa,reduceIte,reduceEqDiff,Fj,xw,<-e1,l3,l2,l0,q];refine C3.q (AK (M:=M) h1 1) λ _ H2 ⟨h2,f2⟩=>?_;simp only [↓qh,xa,reduceIte,reduceEqDiff];exact ⟨h2,fI (iB f1) f2⟩
end
end Go.Am
