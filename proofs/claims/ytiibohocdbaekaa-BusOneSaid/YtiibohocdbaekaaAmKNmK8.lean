/- NmK8: NiA NiB NiC NiD. -/
import Derived.Test.YtiibohocdbaekaaAmKCodeK
import Derived.Test.YtiibohocdbaekaaAmKNmK7
import Derived.Test.YtiibohocdbaekaaAmKNmK0
set_option linter.unusedVariables false
set_option linter.unusedSimpArgs false
set_option linter.unusedSectionVars false
set_option maxRecDepth 100000
open Nat (reduceEqDiff)
namespace Go.Am
open Go.Proofs Ca
open Lang (ints)
variable {M:aM} [MK M]
def jW (ks:List Nat) (z:Int):Int:=match cr (λ i=>(ks[i]?.getD 0:Int) == z) ks.length with
 | some i=>i
 | none=>-1
section
variable {H H0:AHeap} {v:AV} {ks:List Nat}
theorem Jl (h:dP dV 1 H v ks) {i:Nat} (hi:i<ks.length):Op.aP 1 [v,.int .i64 (i:Int)]=some (.ptr (aO v) (cm 1 v i))/\Op.aa [.ptr (aO v) (cm 1 v i)] H=some (.int .i64 (ks[i]?.getD 0:Nat)):=by
 have hx:ks[i]? = some ks[i]:=by simp [hi]
 refine ⟨h.idx hx rfl .i64,?_⟩;rw [h.na tq hx (by decide),hx];rfl
theorem q72 (h:dP dV 1 H v ks) (hl:ks.length<=1000000) (z:Int):jm M Cx [v,.int .i64 z] H λ r H'=>r=.int .i64 (jW ks z)/\H'=H:=by
 refine qr2 ?_;obtain ⟨w0,w2,w25,w7,w13,w24⟩:=qr3 M ⟨none,Cx⟩;simp only [↓qg,xb,reduceIte,reduceEqDiff,w0,w2,h.len];refine bq.intro (λ n E Hx=>∃ i:Nat,E=[(8,.int .i64 (i:Int)),(7,.int .i64 ((ks.length:Nat):Int)),(0,v),(1,.int .i64 z)]/\n=ks.length-i/\i<=ks.length/\Hx=H /\ ∀ k,k<i->((ks[k]?.getD 0:Int) == z)=false) ?_ ?_
 ·exact ⟨_,_,⟨0,rfl,rfl,zp _,rfl,λ k hk=>by omega⟩,by simp only [↓qg,xb,reduceIte,reduceEqDiff]⟩
 rintro n E Hx ⟨i,rfl,rfl,hi,rfl,hno⟩;rcases jr i ks.length with hlt|hge
 ·have q1:(i:Int)<((ks.length:Nat):Int):=by omega
  obtain ⟨ix,ld⟩:=Jl h hlt;have wj:aV .i64 ((i:Int)+1)=((i+1:Nat):Int):=by rw [yw (by omega) (by omega)];omega
  by_cases q:z=((ks[i]?.getD 0:Nat):Int)
  ·simp only [↓qg,xb,reduceIte,reduceEqDiff,w7,q1,w13,ix,ld,xf q];unfold jW;rw [E4 hlt (by simp [<-q]) hno]
  ·simp only [↓qg,xb,reduceIte,reduceEqDiff,w7,q1,w13,ix,ld,q,w24,wj];refine ⟨_,_,⟨i+1,rfl,rfl,by omega,λ k hk=>?_⟩,by simp only [↓qg,xb,reduceIte,reduceEqDiff],by omega⟩
   by_cases e:k=i
   ·rw [e];simpa using λ w=>q w.symm
   ·exact hno k (by omega)
 ·have q1:¬ (i:Int)<((ks.length:Nat):Int):=by omega
  have e:i=ks.length:=by omega
  subst e;simp only [↓qg,xb,reduceIte,reduceEqDiff,w7,q1,w25];unfold jW;rw [DG hno]
theorem Ap {z:Int}:0<=jW ks z ↔ z ∈ ints ks:=by
 unfold jW;cases hf:cr (λ i=>(ks[i]?.getD 0:Int) == z) ks.length with
 | some i =>
  obtain ⟨a,b,-⟩:=EN hf;refine ⟨λ _=>?_,λ _=>by show (0:Int)<=(i:Nat);omega⟩;have hx:ks[i]? = some ks[i]:=by simp [a]
  rw [hx] at b;have b:((ks[i]:Nat):Int)=z:=by simpa using b
  rw [<-b];exact Br.2 ⟨ks[i],jz hx,rfl⟩
 | none =>
  refine ⟨λ q=>by have q:(0:Int) <= -1:=q;omega,λ q=>?_⟩;exfalso;obtain ⟨k,hk,e⟩:=Br.1 q;obtain ⟨i,hi⟩:=CB hk;have:=KV hf i (qm.1 hi).1;rw [hi] at this;have e:((k:Nat):Int)=z:=e;simp [e] at this
theorem qqx (h:dP dV 1 H v ks) (hl:ks.length<=1000000) (z:Int):jm M vv [v,.int .i64 z] H λ r H'=>r=.bool (decide (z ∈ ints ks))/\H'=H:=by
 refine qor ?_;simp only [↓qg,xb,reduceIte,reduceEqDiff,qos];refine C3.q (q72 (M:=M) h hl z) λ r H1 ⟨hr,hh⟩=>?_;rw [hr,hh];simp only [↓qg,xb,reduceIte,reduceEqDiff];exact congrArg AV.bool (decide_eq_decide.2 Ap)
theorem qzp {t:Nat} {line:Int} (x:Int) (hl:Op.aa [.ptr t 2] H=some (.int .i64 line)):jm M C6 [.int .i64 x,.ptr t 0] H λ r H'=>r=.bool (decide (x=line))/\H'=H:=by
 refine qrt ?_
 by_cases q:x=line
 ·simp only [↓qg,xb,reduceIte,reduceEqDiff,qj4,hl,xf q]
 ·simp only [↓qg,xb,reduceIte,reduceEqDiff,qj4,hl,q]
abbrev yF (t:Nat):AV:=.fn (.func C6) [] [.ptr t 0]
theorem q47 {t:Nat} {line:Int} (hl:Op.aa [.ptr t 2] H=some (.int .i64 line)) (h:dP dV 1 H v ks) (hk:ks.length<=1000000):jm M vd [v,yF t] H λ r H'=>r=.int .i64 (jW ks line)/\H'=H:=by
 refine qnc ?_;obtain ⟨w0,w2,w25,w7,w13,w24⟩:=qnd M ⟨none,vd⟩;simp only [↓qg,xb,reduceIte,reduceEqDiff,w0,w2,h.len];refine bq.intro (λ n E Hx=>∃ i:Nat,E=[(8,.int .i64 (i:Int)),(7,.int .i64 ((ks.length:Nat):Int)),(0,v),(1,yF t)]/\n=ks.length-i/\i<=ks.length/\Hx=H /\ ∀ k,k<i->((ks[k]?.getD 0:Int) == line)=false) ?_ ?_
 ·exact ⟨_,_,⟨0,rfl,rfl,zp _,rfl,λ k hk=>by omega⟩,by simp only [↓qg,xb,reduceIte,reduceEqDiff]⟩
 rintro n E Hx ⟨i,rfl,rfl,hi,rfl,hno⟩;rcases jr i ks.length with hlt|hge
 ·have q1:(i:Int)<((ks.length:Nat):Int):=by omega
  obtain ⟨ix,ld⟩:=Jl h hlt;have wj:aV .i64 ((i:Int)+1)=((i+1:Nat):Int):=by rw [yw (by omega) (by omega)];omega
  simp only [↓qg,xb,reduceIte,reduceEqDiff,w7,q1,w13,ix,ld];refine C3.q (qzp (M:=M) _ hl) λ r H1 ⟨hr,hh⟩=>?_;rw [hr,hh]
  by_cases q:((ks[i]?.getD 0:Nat):Int)=line
  ·simp only [↓qg,xb,reduceIte,reduceEqDiff,q];unfold jW;rw [E4 hlt (by simp [q]) hno]
  ·simp only [↓qg,xb,reduceIte,reduceEqDiff,q,w24,wj];refine ⟨_,_,⟨i+1,rfl,rfl,by omega,λ k hk=>?_⟩,by simp only [↓qg,xb,reduceIte,reduceEqDiff],by omega⟩
   by_cases e:k=i
   ·rw [e];simpa using q
   ·exact hno k (by omega)
 ·have q1:¬ (i:Int)<((ks.length:Nat):Int):=by omega
  have e:i=ks.length:=by omega
  subst e;simp only [↓qg,xb,reduceIte,reduceEqDiff,w7,q1,w25];unfold jW;rw [DG hno]
theorem q97 (ks:List Nat) (rest:List AV) {i:Nat} (hi:i<ks.length) (y:Nat):(ks.flatMap dV++rest).take i ++ [AV.int .i64 (y:Int)]++(ks.flatMap dV++rest).drop (i+1)=(ks.set i y).flatMap dV++rest:=by
 have hl:=nT ks;rw [j7 (by omega),kw (by omega),<-zk];congr 1;rw [FM,FM,List.map_set,List.set_eq_take_append_cons_drop,qr (by rw [zd];exact hi)];simp
theorem iR.yS {e:Nat} (h:iR e H0 H v ks) {i:Nat} (hi:i<ks.length) (y:Nat):∃ H',Op.store 1 [.ptr (aO v) (cm 1 v i),.int .i64 (y:Int)] H=some (.undef,H')/\iR e H0 H' v (ks.set i y)/\Fr (bC v) H H':=by
 rcases h.own with ⟨rfl,rfl⟩|⟨b,m,rest,rfl,q1,q2,q3,q4⟩
 ·simp at hi
 ·have st:=q5w q4 (o:=i) (n:=1) (v:=.int .i64 (y:Int)) rfl (by rw [qy,nT];omega) rfl;have hc:AV.cells (.int .i64 (y:Int))=[.int .i64 (y:Int)]:=rfl;rw [hc,q97 ks rest hi] at st;have ho:cm 1 (AV.gslice b 0 m 1 0 ks.length) i=i:=by simp [cm]
  rw [ho];refine ⟨_,st,⟨.inr ⟨b,m,rest,by rw [xd],q1,q2,by rw [xd];exact q3,xe ..⟩,h.fr.set (.inr q2) _⟩,(Fr.refl H).set (W:=bC (AV.gslice b 0 m 1 0 ks.length)) (.inl ⟨by simp,rfl⟩) _⟩
theorem Jt:∀ n:Nat,dk n [AV.int .i64 0]=(List.replicate n 0).flatMap dV
 | 0=>rfl
 | n+1=>by rw [dk,Ic,jv,<-Jt n];rfl
theorem iR.iS {e:Nat} (h:iR e H0 H v ks) {k:Nat} (hk:k<=ks.length):∃ v2 H',Op.aR 1 [some 0,none,none] [v,.int .i64 (k:Int)]=some v2/\Op.db [.int .i64 0] [v2] H=some (.tuple [],H')/\iR e H0 H' v (ks.take k++List.replicate (ks.length-k) 0)/\Fr (bC v) H H':=by
 rcases h.own with ⟨rfl,rfl⟩|⟨b,m,rest,rfl,q1,q2,q3,q4⟩
 ·have:k=0:=by simpa using hk
  subst this;have hbn:bound none 0 0=some 0:=rfl;refine ⟨.nils,H,by simp only [Op.aR,arg,iV,jj,qn,df,hbn];rfl,rfl,h,Fr.refl _⟩
 ·have e1:∀ n,Nat.beq n n=true:=λ n=>by simp
  have hb1:∀ d m,bound none d m=some d:=λ _ _=>rfl;refine ⟨.gslice b (0+k) m 1 (cond (Nat.beq k 0) 0 (0*1)) (ks.length-k),?_⟩;have sl:Op.aR 1 [some 0,none,none] [AV.gslice b 0 m 1 0 ks.length,.int .i64 (k:Int)]=some (.gslice b (0+k) m 1 (cond (Nat.beq k 0) 0 (0*1)) (ks.length-k)):=by
   simp only [Op.aR,arg,iV,jj,qn,df,hb1,pK (z:=(k:Int)) (k:=k) rfl hk .i64,e1,ym (show ks.length<=m-0 by omega),ym (zp m),jd,xh]
  have hle:(ks.take k).length=k:=by rw [jy];omega
  by_cases hz:ks.length-k=0
  ·refine ⟨H,sl,?_,?_,Fr.refl _⟩
   ·rw [hz];rfl
   ·have e2:ks.take k++List.replicate (ks.length-k) 0=ks:=by rw [hz,List.replicate_zero,za,zu (by omega)]
    rw [e2];exact h
  ·have hlv:dS (.gslice b (0+k) m 1 (cond (Nat.beq k 0) 0 (0*1)) (ks.length-k))=some (ks.length-k):=rfl;have hb0:Nat.beq (ks.length-k) 0=false:=by cases hq:Nat.beq (ks.length-k) 0 with|false=>rfl|true=>rw [zx] at hq;exact absurd hq hz
   have hlt:Nat.blt 0 (ks.length-k)=true:=by unfold Nat.blt;exact ym (by omega)
   have hlt2:Nat.blt (0+k+0) m=true:=by unfold Nat.blt;exact ym (by omega)
   have he:elemAt 1 (.gslice b (0+k) m 1 (cond (Nat.beq k 0) 0 (0*1)) (ks.length-k)) 0=some (b,(0+k)*1+0*1):=by
    simp only [elemAt,hlt,e1,hlt2,jd,xh]
   have hst:H.store b ((0+k)*1+0*1) (dk (ks.length-k) [.int .i64 0])=some (H.set b (.grown m 1 ((ks.take k++List.replicate (ks.length-k) 0).flatMap dV++rest) e (0,0))):=by
    have ha:aY (dk (ks.length-k) [AV.int .i64 0])=true:=by
     rw [Jt,nu,FM];simp [bm]
    have ht:cN (0,0) ((0+k)*1+0*1) (ct (dk (ks.length-k) [AV.int .i64 0]))=true:=by simp [cN]
    simp only [AHeap.store,ha,xh,q4,ht,wK];have hrl:(dk (ks.length-k) [AV.int .i64 0]).length=ks.length-k:=by rw [Jt,nT,zf]
    have ek:(0+k)*1+0*1=k:=by omega
    have t1:(ks.flatMap dV++rest).take k=(ks.take k).flatMap dV:=by
     rw [j7 (by rw [nT];exact hk),FM,FM,List.map_take]
    have t2:(ks.flatMap dV++rest).drop (k+(ks.length-k))=rest:=by
     rw [show k+(ks.length-k)=(ks.flatMap dV).length by rw [nT];omega,List.drop_left]
    rw [ek,qr (by rw [hrl,qy,nT];omega),qn,hrl,t1,t2,Jt,<-ju]
   refine ⟨H.set b (.grown m 1 ((ks.take k++List.replicate (ks.length-k) 0).flatMap dV++rest) e (0,0)),sl,?_,⟨.inr ⟨b,m,rest,?_,q1,q2,?_,xe ..⟩,h.fr.set (.inr q2) _⟩,(Fr.refl H).set (W:=bC (AV.gslice b 0 m 1 0 ks.length)) (.inl ⟨by simp,rfl⟩) _⟩
   ·have hz1:[AV.int .i64 0].length=1:=rfl;simp only [Op.db,hlv,qn,hb0,zg,hz1,he,hst]
   ·rw [qy,hle,zf];congr 1;omega
   ·rw [qy,hle,zf];omega
def qJ (ks:List Nat) (line:Int):List Nat:=ks.filter λ k=>((k:Nat):Int) != line
theorem q4v {t:Nat} {line:Int} {e:Nat} (hl:∀ {Hx:AHeap},Fr (bC v) H Hx->Op.aa [.ptr t 2] Hx=some (.int .i64 line)) (h:iR e H0 H v ks) (hk:ks.length<=1000000) :
 jm M yp [v,yF t] H λ r H'=>iR e H0 H' r (qJ ks line)/\Fr (bC v) H H' /\ ∀ x,bC r x->bC v x:=by
 refine qma ?_;obtain ⟨w0,w4,w12,w35,w17,w23,w34⟩:=qmb M ⟨none,yp⟩;simp only [↓qg,xb,reduceIte,reduceEqDiff,w0];refine C3.q (q47 (M:=M) (hl (Fr.refl _)) h.sl hk) λ r H1 ⟨hr,hh⟩=>?_;rw [hr,hh];cases hf:cr (λ i=>(ks[i]?.getD 0:Int) == line) ks.length with
 | none =>
  have e1:jW ks line = -1:=by unfold jW;rw [hf]
  have e2:qJ ks line=ks:=by
   unfold qJ;rw [List.filter_eq_self];intro k hk';obtain ⟨i,hi⟩:=CB hk';have:=KV hf i (qm.1 hi).1;rw [hi] at this
   simpa using this
  rw [e1,e2];have t1:=xf (show (-1:Int) = -1 from rfl);simp only [↓qg,xb,reduceIte,reduceEqDiff,w4,t1];exact ⟨h,Fr.refl _,λ x q=>q⟩
 | some i0 =>
  obtain ⟨a1,a2,a3⟩:=EN hf;have e1:jW ks line=(i0:Int):=by unfold jW;rw [hf]
  rw [e1];have t1:¬ (i0:Int) = -1:=by omega
  have wj:aV .i64 ((i0:Int)+1)=((i0+1:Nat):Int):=by rw [yw (by omega) (by omega)];omega
  -- what is kept of the first ones
  have ae:∀ j,(ks.take (j+1)).filter (λ k=>((k:Nat):Int) != line)=(ks.take j).filter (λ k=>((k:Nat):Int) != line)++(match ks[j]? with|none=>[] | some k=>if ((k:Nat):Int)=line then [] else [k]):=λ j=>by
   rw [BA,List.filter_append];congr 1;cases ks[j]? with
   | none=>rfl
   | some k=>by_cases q:((k:Nat):Int)=line<;>simp [q]
  have h0:(ks.take i0).filter (λ k=>((k:Nat):Int) != line)=ks.take i0:=by
   rw [List.filter_eq_self];intro k hk';obtain ⟨i,hi⟩:=CB hk';rw [kq] at hi;split at hi
   ·rename_i hlt;have:=a3 i hlt;rw [hi] at this
    simpa using this
   ·cases hi
  have hx0:ks[i0]? = some ks[i0]:=by simp [a1]
  have h1:(ks.take (i0+1)).filter (λ k=>((k:Nat):Int) != line)=ks.take i0:=by
   rw [ae,h0,hx0];rw [hx0] at a2;have a2:((ks[i0]:Nat):Int)=line:=by simpa using a2
   simp [a2]
  simp only [↓qg,xb,reduceIte,reduceEqDiff,w4,t1,w12,wj];refine bq.intro (λ n E Hx=>∃ (i j:Nat) (zs:List Nat),E=[(6,.int .i64 (j:Int)),(5,.int .i64 (i:Int)),(0,v),(1,yF t)]/\n=ks.length-j/\i<j/\j<=ks.length/\zs.length=ks.length/\zs.take i=(ks.take j).filter (λ k=>((k:Nat):Int) != line)/\zs.drop j=ks.drop j/\iR e H0 Hx v zs/\Fr (bC v) H Hx) ?_ ?_
  ·exact ⟨_,_,⟨i0,i0+1,ks,rfl,rfl,by omega,by omega,rfl,h1.symm,rfl,h,Fr.refl _⟩,by simp only [↓qg,xb,reduceIte,reduceEqDiff]⟩
  rintro n E Hx ⟨i,j,zs,rfl,rfl,hij,hj,hzl,hzt,hzd,hs,hfr⟩;have hln:=hs.sl.len;rw [hzl] at hln;rcases jr j ks.length with hlt|hge
  ·have q1:(j:Int)<((ks.length:Nat):Int):=by omega
   obtain ⟨ix,ld⟩:=Jl hs.sl (i:=j) (by omega);obtain ⟨ix',-⟩:=Jl hs.sl (i:=i) (by omega);have hzj:zs[j]? = ks[j]?:=by
    have:=congrArg (λ l=>l[0]?) hzd
    simpa [ya] using this
   obtain ⟨k,hkj⟩:∃ k,ks[j]? = some k:=⟨ks[j],by simp [hlt]⟩
   rw [hzj,hkj] at ld;have ld:Op.aa [.ptr (aO v) (cm 1 v j)] Hx=some (.int .i64 (k:Int)):=ld;have wj:aV .i64 ((j:Int)+1)=((j+1:Nat):Int):=by rw [yw (by omega) (by omega)];omega
   have wi:aV .i64 ((i:Int)+1)=((i+1:Nat):Int):=by rw [yw (by omega) (by omega)];omega
   have hd2:∀ l:List Nat,l.drop (j+1)=(l.drop j).drop 1:=λ l=>by rw [BQ]
   simp only [↓qg,xb,reduceIte,reduceEqDiff,w17,hln,q1,w23,ix,ld];refine C3.q (qzp (M:=M) _ (hl hfr)) λ r H2 ⟨hr,hh⟩=>?_;rw [hr,hh]
   by_cases q:(k:Int)=line
   ·simp only [↓qg,xb,reduceIte,reduceEqDiff,xf q,w34,wj];exact ⟨_,_,⟨i,j+1,zs,rfl,rfl,by omega,by omega,hzl,by rw [ae,hkj,hzt];simp [q],by rw [hd2,hzd,<-hd2],hs,hfr⟩,by simp only [↓qg,xb,reduceIte,reduceEqDiff],by omega⟩
   ·obtain ⟨H3,s3,hs3,f3⟩:=hs.yS (i:=i) (by omega) k;simp only [↓qg,xb,reduceIte,reduceEqDiff,q,ix',s3,wi,w34,wj];refine ⟨_,_,⟨i+1,j+1,zs.set i k,rfl,rfl,by omega,by omega,by rw [xd];exact hzl,?_,?_,hs3,hfr.trans f3 λ _ q=>.inl q⟩,by simp only [↓qg,xb,reduceIte,reduceEqDiff],by omega⟩
    ·rw [ae,hkj,<-hzt,BA,xu (by omega),List.take_set_of_le (qi i)];simp [q]
    ·rw [List.drop_set_of_lt (by omega),hd2,hzd,<-hd2]
  ·have q1:¬ (j:Int)<((ks.length:Nat):Int):=by omega
   have ej:j=ks.length:=by omega
   subst ej;rw [zu (qi _)] at hzt;obtain ⟨v2,H3,c1,c2,c3,c4⟩:=hs.iS (k:=i) (by omega);obtain ⟨v3,d1,d2,d3⟩:=c3.cut (k:=i) (by rw [qy,jy,zf];omega) rfl .i64;have ef:(zs.take i++List.replicate (zs.length-i) 0).take i=qJ ks line:=by
    rw [j7 (by rw [jy];omega),List.take_take,Nat.min_self,hzt];rfl
   rw [ef] at d2;simp only [↓qg,xb,reduceIte,reduceEqDiff,w17,hln,q1,w35,c1,c2,d1];exact ⟨d2,hfr.trans c4 λ _ q=>.inl q,d3⟩
end
end Go.Am
namespace Go.Am
open Go.Proofs Ca
open Lang (ints)
variable {M:aM} [MK M]
def ai (m:Mg):List AV:=.int .i64 m.k::.int .i64 m.core::.int .i64 m.line::cK m.d
theorem x9 (m:Mg):(ai m).length=11:=by simp [ai,cK,m.d.h]
theorem lj (m:Mg):aY (ai m)=true:=by rw [nu];simp [ai,cK,bm]
def lg (n:No) (b:Nat) (bv:AV):List AV:=.int .i64 n.core::.int .i64 n.lines::.ptr b 0::(ai n.out ++ [bv,.bool n.live,.int .i64 n.code])
structure bY (H0 H:AHeap) (r b:Nat) (sv bv:AV) (n:No) (ks:List Nat):Prop where
 row:H.get r=some (OR (lg n b bv) FE)
 lt:r<H.next
 ca:cF H b sv n.c
 bk:iR cJ H0 H bv ks
 eq:n.au=ints ks
 lr:H0.next<=r
 lb:H0.next<=b
 ls:H0.next<=aO sv
 n1:r ≠ b
 n2:r ≠ aO sv
 o1:¬ bC bv r
 o2:¬ bC bv b
 o3:¬ bC bv (aO sv)
 li:2<=n.lines/\n.lines<=64
 len:n.c.sl.length<=40
def eR (r b:Nat) (sv bv:AV):Nat->Prop:=λ x=>x=r\/iG b sv x\/bC bv x
def lW (H0 H:AHeap) (r b:Nat) (sv bv:AV) (n':No) (H':AHeap):Prop:=∃ bv' ks',bY H0 H' r b sv bv' n' ks'/\Fr (eR r b sv bv) H H' /\ ∀ x,bC bv' x->bC bv x\/H.next<=x
section
variable {H0 H:AHeap} {r b:Nat} {sv bv:AV} {n:No} {ks:List Nat}
theorem bY.em {H':AHeap} (h:bY H0 H r b sv bv n ks) (f:Fr Em H H'):bY H0 H' r b sv bv n ks :=
 ⟨by rw [f.ae _ h.lt id];exact h.row,qp h.lt f.next,h.ca.em f,h.bk.em f,h.eq,h.lr,h.lb,h.ls,h.n1,h.n2,h.o1,h.o2,h.o3,h.li,h.len⟩
theorem bY.same (h:bY H0 H r b sv bv n ks) {H':AHeap} (f:Fr Em H H'):lW H0 H r b sv bv n H':=⟨bv,ks,h.em f,f.mono λ _ _ q=>q.elim,λ x q=>.inl q⟩
theorem zR (n:No) (b:Nat) (bv:AV):(lg n b bv)[0]? = some (.int .i64 n.core)/\(lg n b bv)[1]? = some (.int .i64 n.lines)/\(lg n b bv)[2]? = some (.ptr b 0)/\(lg n b bv)[3]? = some (.int .i64 n.out.k)/\(lg n b bv)[14]? = some bv/\(lg n b bv)[15]? = some (.bool n.live)/\(lg n b bv)[16]? = some (.int .i64 n.code)/\((lg n b bv).drop 3).take 11=ai n.out/\(lg n b bv).length=17:=by
 obtain ⟨core,lines,c,⟨k,co,l,⟨d,hd⟩⟩,au,live,code⟩:=n
 match d,hd with
 | [d0,d1,d2,d3,d4,d5,d6,d7],_=>exact ⟨rfl,rfl,rfl,rfl,rfl,rfl,rfl,rfl,rfl⟩
theorem bY.ld (h:bY H0 H r b sv bv n ks) (k:Nat):Op.aa [.ptr r k] H=(lg n b bv)[k]?:=ze (xc h.row) k
theorem bY.l0 (h:bY H0 H r b sv bv n ks):Op.aa [.ptr r 0] H=some (.int .i64 n.core):=(h.ld 0).trans (zR n b bv).1
theorem bY.l1 (h:bY H0 H r b sv bv n ks):Op.aa [.ptr r 1] H=some (.int .i64 n.lines):=(h.ld 1).trans (zR n b bv).2.1
theorem bY.l2 (h:bY H0 H r b sv bv n ks):Op.aa [.ptr r 2] H=some (.ptr b 0):=(h.ld 2).trans (zR n b bv).2.2.1
theorem bY.l3 (h:bY H0 H r b sv bv n ks):Op.aa [.ptr r 3] H=some (.int .i64 n.out.k):=(h.ld 3).trans (zR n b bv).2.2.2.1
theorem bY.pG (h:bY H0 H r b sv bv n ks):Op.aa [.ptr r 14] H=some bv:=(h.ld 14).trans (zR n b bv).2.2.2.2.1
theorem bY.eP (h:bY H0 H r b sv bv n ks):Op.aa [.ptr r 15] H=some (.bool n.live):=(h.ld 15).trans (zR n b bv).2.2.2.2.2.1
theorem bY.lo (h:bY H0 H r b sv bv n ks):Op.ao 11 [.ptr r 3] H=some (.agg (ai n.out)):=by
 obtain ⟨-,-,-,-,-,-,-,e,l⟩:=zR n b bv;rw [wE (xc h.row) (by rw [l];decide),e]
theorem bY.put (h:bY H0 H r b sv bv n ks) {n':No} {o m:Nat} {u:AV} (hu:u.cells.length=m) (ho:aY u.cells=true) (hm:o+m<=17) (e:(lg n b bv).take o++u.cells++(lg n b bv).drop (o+m)=lg n' b bv) (hc:n'.c=n.c) (hb:n'.au=n.au) (hl:n'.lines=n.lines) :
 ∃ H',Op.store m [.ptr r o,u] H=some (.undef,H')/\bY H0 H' r b sv bv n' ks/\Fr (On r) H H':=by
 have st:=nV h.row (o:=o) (n:=m) (v:=u) hu (by rw [(zR n b bv).2.2.2.2.2.2.2.2];exact hm) ho;rw [e] at st;have f:Fr (On r) H (H.set r (OR (lg n' b bv) FE)):=(Fr.refl H).set (W:=On r) (.inl rfl) _;refine ⟨_,st,⟨xe ..,h.lt,by rw [hc];exact h.ca.fr f (λ (q:b=r)=>h.n1 q.symm) (λ (q:aO sv=r)=>h.n2 q.symm),h.bk.nY f (h.bk.fr.set (.inr h.lr) _) (λ x hx (q:x=r)=>h.o1 (q ▸ hx)),by rw [hb];exact h.eq,h.lr,h.lb,h.ls,h.n1,h.n2,h.o1,h.o2,h.o3,by rw [hl];exact h.li,by rw [hc];exact h.len⟩,f⟩
theorem bY.mG (h:bY H0 H r b sv bv n ks) (q:Bool):∃ H',Op.store 1 [.ptr r 15,.bool q] H=some (.undef,H')/\bY H0 H' r b sv bv { n with live:=q } ks/\Fr (On r) H H' :=
 h.put (n':={ n with live:=q }) (o:=15) (m:=1) (u:=.bool q) rfl rfl (by decide) (by
  obtain ⟨core,lines,c,⟨k,co,l,⟨d,hd⟩⟩,au,live,code⟩:=n
  match d,hd with
  | [d0,d1,d2,d3,d4,d5,d6,d7],_=>rfl) rfl rfl rfl
theorem bY.px (h:bY H0 H r b sv bv n ks) (k:Int):∃ H',Op.store 1 [.ptr r 16,.int .i64 k] H=some (.undef,H')/\bY H0 H' r b sv bv { n with code:=k } ks/\Fr (On r) H H' :=
 h.put (n':={ n with code:=k }) (o:=16) (m:=1) (u:=.int .i64 k) rfl rfl (by decide) (by
  obtain ⟨core,lines,c,⟨k,co,l,⟨d,hd⟩⟩,au,live,code⟩:=n
  match d,hd with
  | [d0,d1,d2,d3,d4,d5,d6,d7],_=>rfl) rfl rfl rfl
theorem bY.tE (h:bY H0 H r b sv bv n ks) (m:Mg):∃ H',Op.store 11 [.ptr r 3,.agg (ai m)] H=some (.undef,H')/\bY H0 H' r b sv bv { n with out:=m } ks/\Fr (On r) H H' :=
 h.put (n':={ n with out:=m }) (o:=3) (m:=11) (u:=.agg (ai m)) (by rw [xx];exact x9 m) (by rw [xx];exact lj m) (by decide) (by
  obtain ⟨core,lines,c,⟨k,co,l,⟨d,hd⟩⟩,au,live,code⟩:=n;obtain ⟨k',co',l',⟨d',hd'⟩⟩:=m
  match d,hd,d',hd' with
  | [d0,d1,d2,d3,d4,d5,d6,d7],_,[e0,e1,e2,e3,e4,e5,e6,e7],_=>rfl) rfl rfl rfl
theorem bY.eE (h:bY H0 H r b sv bv n ks) {c:Ca} {H':AHeap} (hc:cF H' b sv c) (f:Fr (iG b sv) H H') (hl:c.sl.length<=40):bY H0 H' r b sv bv { n with c:=c } ks :=
 ⟨by rw [f.ae _ h.lt (λ q=>q.elim h.n1 h.n2)];exact h.row,qp h.lt f.next,hc,h.bk.nY f (h.bk.fr.trans f λ x q=>q.elim (λ q=>.inr (by rw [q];exact h.lb)) λ q=>.inr (by rw [q];exact h.ls)) (λ x hx q=>q.elim (λ q=>h.o2 (q ▸ hx)) λ q=>h.o3 (q ▸ hx)),h.eq,h.lr,h.lb,h.ls,h.n1,h.n2,h.o1,h.o2,h.o3,h.li,hl⟩
theorem lW.of {n':No} {H':AHeap} {ks':List Nat} (h:bY H0 H' r b sv bv n' ks') (f:Fr (eR r b sv bv) H H'):lW H0 H r b sv bv n' H':=⟨bv,ks',h,f,λ x q=>.inl q⟩
theorem Ck {H1 H2:AHeap} (f:Fr (On r) H1 H2):Fr (eR r b sv bv) H1 H2:=f.mono λ _ _ q=>.inl q
theorem pc {H1 H2:AHeap} (f:Fr (iG b sv) H1 H2):Fr (eR r b sv bv) H1 H2:=f.mono λ _ _ q=>.inr (.inl q)
theorem iE {H1 H2:AHeap} (f:Fr Em H1 H2):Fr (eR r b sv bv) H1 H2:=f.mono λ _ _ q=>q.elim
theorem fL {H1 H2 H3:AHeap} (f:Fr (eR r b sv bv) H1 H2) (g:Fr (eR r b sv bv) H2 H3):Fr (eR r b sv bv) H1 H3:=f.trans g λ _ q=>.inl q
theorem K1 (h:bY H0 H r b sv bv n ks) (a:Int):jm M Ah [.ptr r 0,.int .i64 a] H λ v H'=>v=.int .i64 (if n.may a then 0 else 2)/\H'=H:=by
 refine qxo ?_;obtain ⟨w0,w2,w17⟩:=qxp M ⟨none,Ah⟩;have hl:=h.li;have wm:aV .i64 (n.lines*8)=n.lines*8:=yw (by omega) (by omega)
 by_cases h1:a<0
 ·have hm:¬ n.may a:=λ q=>by have:=q.1;omega
  simp only [↓qg,xb,reduceIte,reduceEqDiff,w0,w2,yh,h1];rw [qf hm]
 by_cases h2:n.lines*8<=a
 ·have hm:¬ n.may a:=λ q=>by have:=q.2;omega
  simp only [↓qg,xb,reduceIte,reduceEqDiff,w0,w2,yh,h1,qh,h.l1,wm,h2];rw [qf hm]
 ·have hm:n.may a:=⟨by omega,by omega⟩
  simp only [↓qg,xb,reduceIte,reduceEqDiff,w0,w2,yh,h1,qh,h.l1,wm,h2,w17];rw [qr hm]
theorem mZ:[AV.int .i64 0,.int .i64 0,.int .i64 0,.int .u64 0,.int .u64 0,.int .u64 0,.int .u64 0,.int .u64 0,.int .u64 0,.int .u64 0,.int .u64 0]=ai ⟨0,0,0,.zero⟩:=rfl
theorem I5 (k co l:Int):Op.build (ai ⟨0,0,0,.zero⟩) [(0,1),(1,1),(2,1)] [.int .i64 k,.int .i64 co,.int .i64 l]=some (.agg (ai ⟨k,co,l,.zero⟩)):=rfl
theorem wU (h:bY H0 H r b sv bv n ks) (k line:Int):jm M yg [.ptr r 0,.int .i64 k,.int .i64 line] H λ v H'=>v=.agg (ai (n.msg k line))/\Fr Em H H':=by
 refine qxr ?_;obtain ⟨H1,e1⟩:∃ X,X=H.alloc (OR (ai ⟨0,0,0,.zero⟩) qo):=⟨_,rfl⟩
 have f1:Fr Em H H1:=by rw [e1];exact (Fr.refl H).alloc _
 have g1:H1.get H.next=some (OR (ai ⟨0,0,0,.zero⟩) qo):=by rw [e1,qz]
 have s1:=gY g1 (x9 _) (x9 (n.msg k line)) (lj _);have ld:=fH (xe H1 H.next (OR (ai (n.msg k line)) qo)) (x9 _);have bd:Op.build (ai ⟨0,0,0,.zero⟩) [(0,1),(1,1),(2,1)] [.int .i64 k,.int .i64 n.core,.int .i64 line]=some (.agg (ai (n.msg k line))):=I5 ..;simp only [↓qg,xb,reduceIte,reduceEqDiff,qxs,mZ,<-e1,qh,(h.em f1).l0,bd,s1,ld];exact f1.set (.inr (qi _)) _
theorem xam (h:bY H0 H r b sv bv n ks):jm M EK [.ptr r 0] H λ v H'=>v=.bool n.live/\H'=H:=by
 refine qmy ?_;simp only [↓qg,xb,reduceIte,reduceEqDiff,qmz,fA,qh,h.eP]
theorem AN (h:bY H0 H r b sv bv n ks) (k:Int):jm M y9 [.ptr r 0,.int .i64 k] H λ _ H'=>bY H0 H' r b sv bv (n.dD k) ks/\Fr (eR r b sv bv) H H':=by
 refine qta ?_;simp only [↓qg,xb,reduceIte,reduceEqDiff,qtb,qh,h.l2];refine C3.q (q2t (M:=M) h.ca h.len) λ _ H1 ⟨h1,f1⟩=>?_;have hn1:=h.eE h1 f1 (by show (n.c.sl.map back).length<=40;rw [zd];exact h.len);obtain ⟨H2,s2,h2,f2⟩:=hn1.mG false;obtain ⟨H3,s3,h3,f3⟩:=h2.px k;simp only [↓qg,xb,reduceIte,reduceEqDiff,qh,s2,s3];exact ⟨h3,fL (fL (pc f1) (Ck f2)) (Ck f3)⟩
theorem q67 (h:bY H0 H r b sv bv n ks) (k:Int):jm M Df [.ptr r 0,.int .i64 k] H λ v H'=>v=.int .i64 (n.abort k).2/\bY H0 H' r b sv bv (n.abort k).1 ks/\Fr (eR r b sv bv) H H':=by
 refine qs1 ?_;obtain ⟨w0,w2,w23,w16⟩:=qs2 M ⟨none,Df⟩;have eP:=h.eP;cases hl:n.live with
 | false =>
  have ea:n.abort k=(n,40):=by unfold No.abort;rw [hl];rfl
  rw [hl] at eP;rw [ea];simp only [↓qg,xb,reduceIte,reduceEqDiff,w0,w2,yh,qh,eP];exact ⟨h,Fr.refl _⟩
 | true =>
  rw [hl] at eP
  by_cases h1:k<1
  ·have ea:n.abort k=(n,2):=by unfold No.abort;rw [hl,qr rfl,qr (.inl h1)]
   rw [ea];simp only [↓qg,xb,reduceIte,reduceEqDiff,w0,w2,yh,qh,eP,w16,h1];exact ⟨h,Fr.refl _⟩
  by_cases h2:7<k
  ·have ea:n.abort k=(n,2):=by unfold No.abort;rw [hl,qr rfl,qr (.inr h2)]
   rw [ea];simp only [↓qg,xb,reduceIte,reduceEqDiff,w0,w2,yh,qh,eP,w16,h1,h2];exact ⟨h,Fr.refl _⟩
  have ea:n.abort k=(n.dD k,0):=by unfold No.abort;rw [hl,qr rfl,qf (by omega)]
  rw [ea];simp only [↓qg,xb,reduceIte,reduceEqDiff,w0,w2,yh,qh,eP,w16,h1,h2,w23];refine C3.q (AN (M:=M) h k) λ _ H1 ⟨h1',f1⟩=>?_;simp only [↓qg,xb,reduceIte,reduceEqDiff];exact ⟨h1',f1⟩
end
end Go.Am
namespace Go.Am
open Go.Proofs Ca
open Lang (ints)
variable {M:aM} [MK M]
def iw (H H':AHeap) (v:AV) (ms:List Mg):Prop:=dP ai 11 H' v ms/\(ms ≠ []->H.next<=aO v)
theorem iw.nil (H H':AHeap):iw H H' .nils []:=⟨⟨rfl,rfl⟩,λ q=>absurd rfl q⟩
theorem rp (m:Mg):Op.buildSlice qo 1 (ai ⟨0,0,0,.zero⟩) [(0,11)] [.agg (ai m)]=some (OR (ai m) qo,Op.sliceTo 1 1):=Kx qo 11 (ai ⟨0,0,0,.zero⟩) (.agg (ai m)) (x9 _) (by rw [xx];exact x9 m)
theorem B9 {H:AHeap} (m:Mg):dA ai qo 11 (H.alloc (OR (ai m) qo)) (Op.sliceTo 1 1 H.next) [m]:=⟨H.next,rfl,by rw [xl];omega,by rw [qz];simp⟩
theorem Ei {H H0:AHeap} (m:Mg) (h:H0.next<=H.next):iw H0 (H.alloc (OR (ai m) qo)) (Op.sliceTo 1 1 H.next) [m]:=⟨(B9 m).sl x9,λ _=>h⟩
section
variable {H0 H:AHeap} {r b:Nat} {sv bv:AV} {n:No} {ks:List Nat}
theorem bY.kl (h:bY H0 H r b sv bv n ks):n.au.length=ks.length:=by rw [h.eq];unfold ints;rw [zd]
theorem NO (h:bY H0 H r b sv bv n ks) (hk:n.au.length<=900000) (k line:Int):jm M yN [.ptr r 0,.int .i64 k,.int .i64 line] H λ v H'=>iw H H' v (n.ask k line).2/\bY H0 H' r b sv bv (n.ask k line).1 ks/\Fr (eR r b sv bv) H H':=by
 refine qxl ?_;obtain ⟨w0,w2,w10⟩:=qxm M ⟨none,yN⟩;have hkl:=h.kl
 by_cases h1:n.out.k=0
 ·simp only [↓qg,xb,reduceIte,reduceEqDiff,w0,w2,qh,h.l3,xf h1,h.pG];refine C3.q (qqx (M:=M) h.bk.sl (by omega) line) λ v H1 ⟨hv,hh⟩=>?_;rw [hv,hh,<-h.eq]
  by_cases h2:line ∈ n.au
  ·have ea:n.ask k line=(n,[]):=by unfold No.ask;rw [qr (.inr h2)]
   rw [ea];simp only [↓qg,xb,reduceIte,reduceEqDiff,xf h2];exact ⟨iw.nil ..,h,Fr.refl _⟩
  ·have ea:n.ask k line=({ n with out:=n.msg k line },[n.msg k line]):=by unfold No.ask;rw [qf (λ q=>q.elim (λ q=>q h1) h2)]
   rw [ea];simp only [↓qg,xb,reduceIte,reduceEqDiff,h2,w10];refine C3.q (wU (M:=M) h k line) λ v H2 ⟨hv,f2⟩=>?_;rw [hv];obtain ⟨H3,s3,h3,f3⟩:=(h.em f2).tE (n.msg k line);have lo:=h3.lo;have f23:Fr (eR r b sv bv) H H3:=fL (iE f2) (Ck f3);simp only [↓qg,xb,reduceIte,reduceEqDiff,qh,s3,lo,mZ,rp];exact ⟨Ei _ f23.next,h3.em ((Fr.refl H3).alloc _),fL f23 (iE ((Fr.refl H3).alloc _))⟩
 ·have ea:n.ask k line=(n,[]):=by unfold No.ask;rw [qr (.inl h1)]
  rw [ea];simp only [↓qg,xb,reduceIte,reduceEqDiff,w0,w2,qh,h.l3,h1];exact ⟨iw.nil ..,h,Fr.refl _⟩
theorem fF {H1:AHeap} (e:En):Op.store 21 [.ptr H1.next 0,.agg (av e)] (H1.alloc (OR (av .zero) qu))=some (.undef,(H1.alloc (OR (av .zero) qu)).set H1.next (OR (av e) qu)):=gY (qz ..) (zn _) (zn e) (mU e)
theorem wI {H1:AHeap} (o o':bL):Fr Em H1 ((H1.alloc o).set H1.next o'):=((Fr.refl H1).alloc _).set (.inr (qi _)) _
theorem qzw {line:Int} (h:bY H0 H r b sv bv n ks) (hci:CI n.lines n.c):jm M Ed [.ptr r 0,.int .i64 line] H λ v H'=>v=.bool (n.owned line)/\Fr Em H H':=by
 refine qtd ?_;simp only [↓qg,xb,reduceIte,reduceEqDiff,qte,qh,h.l2];refine C3.q (GH (M:=M) h.ca hci line) λ v H1 ⟨hv,f1⟩=>?_;rw [hv];unfold fE No.owned;cases hf:n.c.find line with
 | none =>
  simp only [↓qg,xb,reduceIte,reduceEqDiff,qt,eZ,fF];exact f1.trans (wI _ _) λ _ q=>q.elim
 | some e =>
  have l1:Op.aa [.ptr H1.next 1] ((H1.alloc (OR (av .zero) qu)).set H1.next (OR (av e) qu))=some (.int .i64 e.st):=ze (xc (xe ..)) 1;have fe:Fr Em H ((H1.alloc (OR (av .zero) qu)).set H1.next (OR (av e) qu)):=f1.trans (wI _ _) λ _ q=>q.elim
  by_cases q:e.st=2
  ·simp only [↓qg,xb,reduceIte,reduceEqDiff,qt,eZ,fF,l1,xf q];exact ⟨by rw [q];rfl,fe⟩
  ·simp only [↓qg,xb,reduceIte,reduceEqDiff,qt,eZ,fF,l1,q];exact ⟨by simp [q],fe⟩
def np (H0 H:AHeap) (r b:Nat) (sv bv:AV) (n:No) (ks:List Nat) (a:Int) (v:AV) (H':AHeap):Prop:=(∃ ov,v=.tuple [.int .u64 (n.load a).2.1,.bool (n.load a).2.2.1,ov,.int .i64 (n.load a).2.2.2.2]/\iw H H' ov (n.load a).2.2.2.1)/\bY H0 H' r b sv bv (n.load a).1 ks/\Fr (eR r b sv bv) H H'
theorem xaq (h:bY H0 H r b sv bv n ks) (hci:CI n.lines n.c) (hk:n.au.length<=900000) (hu:n.c.us+1<=1000000) (a:Int):jm M BM [.ptr r 0,.int .i64 a] H (np H0 H r b sv bv n ks a):=by
 refine qut ?_;obtain ⟨w0,w2,w12,w14,w24,w30⟩:=quu M ⟨none,BM⟩;simp only [↓qg,xb,reduceIte,reduceEqDiff,w0,w2];refine C3.q (K1 (M:=M) h a) λ v H1 ⟨hv,hh⟩=>?_;rw [hv,hh]
 by_cases hm:n.may a
 case neg =>
  have ea:n.load a=(n,0,false,[],2):=by unfold No.load;rw [qf hm]
  have t2:¬ (2:Int)=0:=by decide
  rw [qf hm];unfold np;rw [ea];simp only [↓qg,xb,reduceIte,reduceEqDiff,t2];exact ⟨⟨.nils,rfl,iw.nil ..⟩,h,Fr.refl _⟩
 rw [qr hm];have hl:=h.li;obtain ⟨m1,m2⟩:=hm;obtain ⟨a',rfl⟩:=ke m1;have hal:a'<1000000:=by omega
 have eln:No.ln (Int.ofNat a')=((a' / 8:Nat):Int):=rfl;have t0:=xf (show (0:Int)=0 from rfl);simp only [↓qg,xb,reduceIte,reduceEqDiff,t0,w12,ux hal,w14,qh,h.l2];refine C3.q (GH (M:=M) h.ca hci ((a' / 8:Nat):Int)) λ v H1 ⟨hv,f1⟩=>?_;rw [hv];have hmm:n.may (a':Int):=⟨m1,m2⟩
 unfold fE;cases hf:n.c.find ((a' / 8:Nat):Int) with
 | none =>
  have ea:n.load (a':Int)=((n.ask 1 ((a' / 8:Nat):Int)).1,0,false,(n.ask 1 ((a' / 8:Nat):Int)).2,0):=by
   unfold No.load;rw [qr hmm];show (match n.c.find ((a' / 8:Nat):Int) with|none=>_|some _=>_)=_;rw [hf];rfl
  have fb:Fr Em H ((H1.alloc (OR (av .zero) qu)).set H1.next (OR (av .zero) qu)):=f1.trans (wI _ _) λ _ q=>q.elim;simp only [↓qg,xb,reduceIte,reduceEqDiff,qt,eZ,fF];refine C3.q (NO (M:=M) (h.em fb) hk 1 ((a' / 8:Nat):Int)) λ v H2 ⟨hms,hn,hfr⟩=>?_;unfold np;rw [ea];simp only [↓qg,xb,reduceIte,reduceEqDiff];refine ⟨⟨v,rfl,hms.1,λ q=>xt fb.next (hms.2 q)⟩,hn,fL (iE fb) hfr⟩
 | some e =>
  obtain ⟨i,hp,rfl⟩:=C2 hf;have fb:Fr Em H ((H1.alloc (OR (av .zero) qu)).set H1.next (OR (av (n.c.en i)) qu)):=f1.trans (wI _ _) λ _ q=>q.elim;obtain ⟨Hb,hHb⟩:∃ X,X=(H1.alloc (OR (av .zero) qu)).set H1.next (OR (av (n.c.en i)) qu):=⟨_,rfl⟩
  rw [<-hHb] at fb;have hb:=h.em fb;have eP:=hb.eP
  -- behind the mark
  have fin:∀ {Hc:AHeap} {c:Ca},bY H0 Hc r b sv bv { n with c:=c } ks->CI n.lines c->c.us+1<=1000000->Fr (eR r b sv bv) H Hc->c=(if n.live then n.c.mark ((a' / 8:Nat):Int) false else n.c)->c.pos ((a' / 8:Nat):Int)=some i -> ∀ {E:Env},lk E 0=some (.ptr r 0)->lk E 1=some (.int .i64 (a':Int)) ->
   W M ⟨none,BM⟩ (j0 30) true (aL M [.tmp 4,.tmp 5,.tmp 6,.tmp 7] (lF (np H0 H r b sv bv n ks (a':Int)))) E [] Hc:=by
   intro Hc c hc hci' hus hfr ec hpos E h0 h1;have ea:n.load (a':Int)=({ n with c:=(c.word a').1 },(c.word a').2.getD 0,true,[],0):=by
    unfold No.load;rw [qr hmm];show (match n.c.find ((a' / 8:Nat):Int) with|none=>_|some _=>_)=_;rw [hf,ec];rfl
   simp only [↓qg,xb,reduceIte,reduceEqDiff,w30,h0,qh,hc.l2,h1];refine C3.q (q4c (M:=M) hc.ca hci' hus hal) λ v H3 ⟨hv,h3,f3⟩=>?_;rw [hv];have hw:(c.word a').2=some ((c.en i).d.get (a' % 8)):=by unfold Ca.word;rw [hpos]
   unfold pY;rw [hpos];have hlen:(c.word a').1.sl.length<=40:=by
    have:=hc.len;unfold Ca.word;rw [hpos];show (c.sl.set i _).length<=40;rw [xd];exact this
   have hn:=hc.eE h3 f3 hlen;unfold np;rw [ea,hw];simp only [↓qg,xb,reduceIte,reduceEqDiff,qt];exact ⟨⟨.nils,rfl,iw.nil ..⟩,hn,fL hfr (pc f3)⟩
  cases hlv:n.live with
  | false =>
   rw [hlv] at eP;simp only [↓qg,xb,reduceIte,reduceEqDiff,qt,eZ,fF,<-hHb,w24,qh,eP];exact fin (c:=n.c) (by have:({ n with c:=n.c }:No)=n:=rfl;rw [this];exact hb) hci hu (iE fb) (by rw [hlv];rfl) hp rfl rfl
  | true =>
   rw [hlv] at eP;simp only [↓qg,xb,reduceIte,reduceEqDiff,qt,eZ,fF,<-hHb,w24,qh,eP,hb.l2];refine C3.q (q3d (M:=M) hb.ca hci ((a' / 8:Nat):Int) false) λ _ H3 ⟨h3,f3⟩=>?_;have em:n.c.mark ((a' / 8:Nat):Int) false=n.c.set i { n.c.en i with r:=true }:=by unfold Ca.mark;rw [qf (by decide),jF,hp]
   have hlen:(n.c.mark ((a' / 8:Nat):Int) false).sl.length<=40:=by rw [em];show (n.c.sl.set i _).length<=40;rw [xd];exact h.len
   have hpos:(n.c.mark ((a' / 8:Nat):Int) false).pos ((a' / 8:Nat):Int)=some i:=by
    rw [em];have sh:Fh n.c { n.c.set i { n.c.en i with r:=true } with us:=n.c.us }:=Fh.set n.c.us rfl rfl;exact (sh.pos _).trans hp
   simp only [↓qg,xb,reduceIte,reduceEqDiff];exact fin (c:=n.c.mark ((a' / 8:Nat):Int) false) (hb.eE h3 f3 hlen) (hci.mark _ _) (by rw [em];exact hu) (fL (iE fb) (pc f3)) (by rw [hlv];rfl) hpos rfl rfl
end
end Go.Am
namespace Go.Am
open Go.Proofs Ca
open Lang (ints)
variable {M:aM} [MK M]
section
variable {H0 H:AHeap} {r b:Nat} {sv bv:AV} {n:No} {ks:List Nat}
theorem xa3 {line:Int} (h:n.owned line=true):∃ i,n.c.pos line=some i/\(n.c.en i).st=2:=by
 unfold No.owned at h;cases hf:n.c.find line with
 | none=>rw [hf] at h;cases h
 | some x =>
  rw [hf] at h;obtain ⟨i,hp,rfl⟩:=C2 hf;exact ⟨i,hp,by simpa using h⟩
theorem Ji (c:Ca) (line:Int) (wr:Bool):(c.mark line wr).us=c.us/\(c.mark line wr).sl.length=c.sl.length:=by
 unfold Ca.mark;cases wr with
 | true =>
  rw [qr rfl];cases c.fP line 2 with
  | none=>exact ⟨rfl,rfl⟩
  | some i =>
   show (if (c.en i).w then c else c.set i _).us=_/\(if (c.en i).w then c else c.set i _).sl.length=_;split
   ·exact ⟨rfl,rfl⟩
   ·exact ⟨rfl,xd⟩
 | false =>
  rw [qf (by decide)];cases c.fP line 0 with
  | none=>exact ⟨rfl,rfl⟩
  | some i=>exact ⟨rfl,xd⟩
theorem Jh (c:Ca) (a:Nat) (y:Int):(c.put a y).sl.length=c.sl.length/\((c.put a y).us=c.us\/(c.put a y).us=c.us+1):=by
 unfold Ca.put;cases c.fP ((a / 8:Nat):Int) 2 with
 | none=>exact ⟨rfl,.inl rfl⟩
 | some i=>exact ⟨xd,.inr rfl⟩
theorem HQ (c:Ca) (a:Nat):(c.word a).1.sl.length=c.sl.length/\((c.word a).1.us=c.us\/(c.word a).1.us=c.us+1):=by
 unfold Ca.word;cases c.pos ((a / 8:Nat):Int) with
 | none=>exact ⟨rfl,.inl rfl⟩
 | some i=>exact ⟨xd,.inr rfl⟩
def kF (H0 H:AHeap) (r b:Nat) (sv bv:AV) (n:No) (ks:List Nat) (a y:Int) (v:AV) (H':AHeap):Prop:=(∃ ov,v=.tuple [.bool (n.store a y).2.1,ov,.int .i64 (n.store a y).2.2.2]/\iw H H' ov (n.store a y).2.2.1)/\bY H0 H' r b sv bv (n.store a y).1 ks/\Fr (eR r b sv bv) H H'
theorem q8v (h:bY H0 H r b sv bv n ks) (hci:CI n.lines n.c) (hk:n.au.length<=900000) (hu:n.c.us+1<=1000000) (a y:Int):jm M Bv [.ptr r 0,.int .i64 a,.int .u64 y] H (kF H0 H r b sv bv n ks a y):=by
 refine qs7 ?_;obtain ⟨w0,w2,w12,w14,w22,w28⟩:=qs8 M ⟨none,Bv⟩;simp only [↓qg,xb,reduceIte,reduceEqDiff,w0,w2];refine C3.q (K1 (M:=M) h a) λ v H1 ⟨hv,hh⟩=>?_;rw [hv,hh]
 by_cases hm:n.may a
 case neg =>
  have ea:n.store a y=(n,false,[],2):=by unfold No.store;rw [qf hm]
  have t2:¬ (2:Int)=0:=by decide
  rw [qf hm];unfold kF;rw [ea];simp only [↓qg,xb,reduceIte,reduceEqDiff,t2];exact ⟨⟨.nils,rfl,iw.nil ..⟩,h,Fr.refl _⟩
 rw [qr hm];have hl:=h.li;obtain ⟨m1,m2⟩:=hm;obtain ⟨a',rfl⟩:=ke m1;have hal:a'<1000000:=by omega
 have hmm:n.may (a':Int):=⟨m1,m2⟩
 have eln:No.ln (a':Int)=((a' / 8:Nat):Int):=rfl;have t0:=xf (show (0:Int)=0 from rfl);simp only [↓qg,xb,reduceIte,reduceEqDiff,t0,w12,ux hal,w14];refine C3.q (qzw (M:=M) (line:=((a' / 8:Nat):Int)) h hci) λ v H1 ⟨hv,f1⟩=>?_;rw [hv];have hb:=h.em f1;cases ho:n.owned ((a' / 8:Nat):Int) with
 | false =>
  have ea:n.store (a':Int) y=((n.ask 2 ((a' / 8:Nat):Int)).1,false,(n.ask 2 ((a' / 8:Nat):Int)).2,0):=by
   unfold No.store;rw [qr hmm,eln,ho];rfl
  simp only [↓qg,xb,reduceIte,reduceEqDiff];refine C3.q (NO (M:=M) hb hk 2 ((a' / 8:Nat):Int)) λ v H2 ⟨hms,hn,hfr⟩=>?_;unfold kF;rw [ea];simp only [↓qg,xb,reduceIte,reduceEqDiff];exact ⟨⟨v,rfl,hms.1,λ q=>xt f1.next (hms.2 q)⟩,hn,fL (iE f1) hfr⟩
 | true =>
  have eP:=hb.eP;have fin:∀ {Hc:AHeap} {c:Ca},bY H0 Hc r b sv bv { n with c:=c } ks->CI n.lines c->c.us+1<=1000000->Fr (eR r b sv bv) H Hc->c=(if n.live then n.c.mark ((a' / 8:Nat):Int) true else n.c) -> ∀ {E:Env},lk E 0=some (.ptr r 0)->lk E 1=some (.int .i64 (a':Int))->lk E 2=some (.int .u64 y) ->
   W M ⟨none,Bv⟩ (jn 28) true (aL M [.tmp 6,.tmp 7,.tmp 8] (lF (kF H0 H r b sv bv n ks (a':Int) y))) E [] Hc:=by
   intro Hc c hc hci' hus hfr ec E h0 h1 h2;have ea:n.store (a':Int) y=({ n with c:=c.put a' y },true,[],0):=by
    unfold No.store;rw [qr hmm,eln,ho,qr rfl,ec];rfl
   simp only [↓qg,xb,reduceIte,reduceEqDiff,w28,h0,qh,hc.l2,h1,h2];refine C3.q (q6z (M:=M) hc.ca hci' hus hal y) λ v H3 ⟨hv,h3,f3⟩=>?_;have hn:=hc.eE h3 f3 (by rw [(Jh c a' y).1];exact hc.len);unfold kF;rw [ea];simp only [↓qg,xb,reduceIte,reduceEqDiff];exact ⟨⟨.nils,rfl,iw.nil ..⟩,hn,fL hfr (pc f3)⟩
  cases hlv:n.live with
  | false =>
   rw [hlv] at eP;simp only [↓qg,xb,reduceIte,reduceEqDiff,w22,qh,eP];exact fin (c:=n.c) (by have:({ n with c:=n.c }:No)=n:=rfl;rw [this];exact hb) hci hu (iE f1) (by rw [hlv];rfl) rfl rfl rfl
  | true =>
   rw [hlv] at eP;simp only [↓qg,xb,reduceIte,reduceEqDiff,w22,qh,eP,hb.l2];refine C3.q (q3d (M:=M) hb.ca hci ((a' / 8:Nat):Int) true) λ _ H3 ⟨h3,f3⟩=>?_;simp only [↓qg,xb,reduceIte,reduceEqDiff];exact fin (c:=n.c.mark ((a' / 8:Nat):Int) true) (hb.eE h3 f3 (by rw [(Ji ..).2];exact h.len)) (hci.mark _ _) (by rw [(Ji ..).1];exact hu) (fL (iE f1) (pc f3)) (by rw [hlv];rfl) rfl rfl rfl
theorem M1 (h:bY H0 H r b sv bv n ks) (x:En) (too:Bool):jm M CL [.ptr r 0,.agg (av x),.bool too] H λ _ H'=>bY H0 H' r b sv bv (n.lost x too) ks/\Fr (eR r b sv bv) H H':=by
 refine qu2 ?_;obtain ⟨H1,e1⟩:∃ X,X=H.alloc (OR (av x) qu):=⟨_,rfl⟩
 have f1:Fr Em H H1:=by rw [e1];exact (Fr.refl H).alloc _
 have g1:H1.get H.next=some (OR (av x) qu):=by rw [e1,qz]
 have l0:Op.aa [.ptr H.next 0] H1=some (.int .i64 x.line):=ze (xc g1) 0;have l2:Op.aa [.ptr H.next 2] H1=some (.bool x.r):=ze (xc g1) 2;have l3:Op.aa [.ptr H.next 3] H1=some (.bool x.w):=ze (xc g1) 3;have h1:=h.em f1;have stay:(x.w || (x.r && too))=false->n.lost x too=n:=λ q=>by unfold No.lost;rw [q];rfl
 have go2:(x.w || (x.r && too))=true->x.line=0->n.lost x too=n.dD 2:=λ q q'=>by unfold No.lost;rw [q,qr rfl,qr q']
 have go1:(x.w || (x.r && too))=true -> ¬ x.line=0->n.lost x too=n.dD 1:=λ q q'=>by unfold No.lost;rw [q,qr rfl,qf q']
 cases hw:x.w with
 | true =>
  rw [hw] at l3
  by_cases q:x.line=0
  ·rw [go2 (by rw [hw];rfl) q];simp only [↓qg,xb,reduceIte,reduceEqDiff,E9,xx,<-e1,l3,l0,xf q];refine C3.q (AN (M:=M) h1 2) λ _ H2 ⟨h2,f2⟩=>?_;simp only [↓qg,xb,reduceIte,reduceEqDiff];exact ⟨h2,fL (iE f1) f2⟩
  ·rw [go1 (by rw [hw];rfl) q];simp only [↓qg,xb,reduceIte,reduceEqDiff,E9,xx,<-e1,l3,l0,q];refine C3.q (AN (M:=M) h1 1) λ _ H2 ⟨h2,f2⟩=>?_;simp only [↓qg,xb,reduceIte,reduceEqDiff];exact ⟨h2,fL (iE f1) f2⟩
 | false =>
  rw [hw] at l3;cases hr:x.r with
  | false =>
   rw [hr] at l2;rw [stay (by rw [hw,hr];rfl)];simp only [↓qg,xb,reduceIte,reduceEqDiff,E9,xx,<-e1,l3,l2];exact ⟨h1,iE f1⟩
  | true =>
   rw [hr] at l2;cases too with
   | false =>
    rw [stay (by rw [hw,hr];rfl)];simp only [↓qg,xb,reduceIte,reduceEqDiff,E9,xx,<-e1,l3,l2];exact ⟨h1,iE f1⟩
   | true =>
    by_cases q:x.line=0
    ·rw [go2 (by rw [hw,hr];rfl) q];simp only [↓qg,xb,reduceIte,reduceEqDiff,E9,xx,<-e1,l3,l2,l0,xf q];refine C3.q (AN (M:=M) h1 2) λ _ H2 ⟨h2,f2⟩=>?_;simp only [↓qg,xb,reduceIte,reduceEqDiff];exact ⟨h2,fL (iE f1) f2⟩
    ·rw [go1 (by rw [hw,hr];rfl) q];simp only [↓qg,xb,reduceIte,reduceEqDiff,E9,xx,<-e1,l3,l2,l0,q];refine C3.q (AN (M:=M) h1 1) λ _ H2 ⟨h2,f2⟩=>?_;simp only [↓qg,xb,reduceIte,reduceEqDiff];exact ⟨h2,fL (iE f1) f2⟩
end
end Go.Am
