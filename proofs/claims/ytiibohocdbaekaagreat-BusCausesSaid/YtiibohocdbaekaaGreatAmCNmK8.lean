/- NmK8: NiA NiB NiC NiD. -/
import Derived.Test.YtiibohocdbaekaaGreatAmCCodeK
import Derived.Test.YtiibohocdbaekaaGreatAmCNmK7
import Derived.Test.YtiibohocdbaekaaGreatAmCNmK0
set_option linter.unusedVariables false
set_option linter.unusedSimpArgs false
set_option linter.unusedSectionVars false
set_option maxRecDepth 100000
open Nat (reduceEqDiff)
namespace Go.Am
open Go.Proofs Ca
open Lang (ints)
variable {M:aA} [MK M]
def lK (ks:List Nat) (z:Int):Int:=match b9 (λ i=>(ks[i]?.getD 0:Int) == z) ks.length with
 | some i=>i
 | none=>-1
section
variable {H H0:AHeap} {v:AV} {ks:List Nat}
theorem KZ (h:du eF 1 H v ks) {i:Nat} (hi:i<ks.length):Op.aQ 1 [v,.int .i64 (i:Int)]=some (.ptr (aF v) (bI 1 v i))/\Op.ae [.ptr (aF v) (bI 1 v i)] H=some (.int .i64 (ks[i]?.getD 0:Nat)):=by
 have hx:ks[i]? = some ks[i]:=by simp [hi]
 refine ⟨h.idx hx rfl .i64,?_⟩;rw [h.jW uw hx (by decide),hx];rfl
theorem q3o (h:du eF 1 H v ks) (hl:ks.length<=1000000) (z:Int):zq M NZ [v,.int .i64 z] H λ r H'=>r=.int .i64 (lK ks z)/\H'=H:=by
 refine qnp ?_;obtain ⟨w0,w2,w25,w7,w13,w24⟩:=qnq M ⟨none,NZ⟩;simp only [↓qd,qp,aa,reduceIte,reduceEqDiff,w0,w2,h.len];refine aR.intro (λ n E Hx=>∃ i:Nat,E=[(8,.int .i64 (i:Int)),(7,.int .i64 ((ks.length:Nat):Int)),(0,v),(1,.int .i64 z)]/\n=ks.length-i/\i<=ks.length/\Hx=H /\ ∀ k,k<i->((ks[k]?.getD 0:Int) == z)=false) ?_ ?_
 ·exact ⟨_,_,⟨0,rfl,rfl,xx _,rfl,λ k hk=>by omega⟩,by simp only [↓qd,qp,aa,reduceIte,reduceEqDiff]⟩
 rintro n E Hx ⟨i,rfl,rfl,hi,rfl,hno⟩;rcases zt i ks.length with hlt|hge
 ·have q1:(i:Int)<((ks.length:Nat):Int):=by omega
  obtain ⟨ix,ld⟩:=KZ h hlt;have wj:ak .i64 ((i:Int)+1)=((i+1:Nat):Int):=by rw [xm (by omega) (by omega)];omega
  by_cases q:z=((ks[i]?.getD 0:Nat):Int)
  ·simp only [↓qd,qp,aa,reduceIte,reduceEqDiff,w7,q1,w13,ix,ld,xc q];unfold lK;rw [GC hlt (by simp [<-q]) hno]
  ·simp only [↓qd,qp,aa,reduceIte,reduceEqDiff,w7,q1,w13,ix,ld,q,w24,wj];refine ⟨_,_,⟨i+1,rfl,rfl,by omega,λ k hk=>?_⟩,by simp only [↓qd,qp,aa,reduceIte,reduceEqDiff],by omega⟩
   by_cases e:k=i
   ·rw [e];simpa using λ w=>q w.symm
   ·exact hno k (by omega)
 ·have q1:¬ (i:Int)<((ks.length:Nat):Int):=by omega
  have e:i=ks.length:=by omega
  subst e;simp only [↓qd,qp,aa,reduceIte,reduceEqDiff,w7,q1,w25];unfold lK;rw [Eg hno]
theorem BE {z:Int}:0<=lK ks z ↔ z ∈ ints ks:=by
 unfold lK;cases hf:b9 (λ i=>(ks[i]?.getD 0:Int) == z) ks.length with
 | some i =>
  obtain ⟨a,b,-⟩:=E7 hf;refine ⟨λ _=>?_,λ _=>by show (0:Int)<=(i:Nat);omega⟩;have hx:ks[i]? = some ks[i]:=by simp [a]
  rw [hx] at b;have b:((ks[i]:Nat):Int)=z:=by simpa using b
  rw [<-b];exact DD.2 ⟨ks[i],zg hx,rfl⟩
 | none =>
  refine ⟨λ q=>by have q:(0:Int) <= -1:=q;omega,λ q=>?_⟩;exfalso;obtain ⟨k,hk,e⟩:=DD.1 q;obtain ⟨i,hi⟩:=ki hk;have:=OZ hf i (qe.1 hi).1;rw [hi] at this;have e:((k:Nat):Int)=z:=e;simp [e] at this
theorem qmu (h:du eF 1 H v ks) (hl:ks.length<=1000000) (z:Int):zq M qfz [v,.int .i64 z] H λ r H'=>r=.bool (decide (z ∈ ints ks))/\H'=H:=by
 refine qk4 ?_;simp only [↓qd,qp,aa,reduceIte,reduceEqDiff,qk5];refine C3.q (q3o (M:=M) h hl z) λ r H1 ⟨hr,hh⟩=>?_;rw [hr,hh];simp only [↓qd,qp,aa,reduceIte,reduceEqDiff];exact congrArg AV.bool (decide_eq_decide.2 BE)
theorem qu4 {t:Nat} {line:Int} (x:Int) (hl:Op.ae [.ptr t 2] H=some (.int .i64 line)):zq M Pv [.int .i64 x,.ptr t 0] H λ r H'=>r=.bool (decide (x=line))/\H'=H:=by
 refine qni ?_
 by_cases q:x=line
 ·simp only [↓qd,qp,aa,reduceIte,reduceEqDiff,qhx,hl,xc q]
 ·simp only [↓qd,qp,aa,reduceIte,reduceEqDiff,qhx,hl,q]
abbrev Bg (t:Nat):AV:=.fn (.func Pv) [] [.ptr t 0]
theorem q0j {t:Nat} {line:Int} (hl:Op.ae [.ptr t 2] H=some (.int .i64 line)) (h:du eF 1 H v ks) (hk:ks.length<=1000000):zq M NL [v,Bg t] H λ r H'=>r=.int .i64 (lK ks line)/\H'=H:=by
 refine qj8 ?_;obtain ⟨w0,w2,w25,w7,w13,w24⟩:=qj9 M ⟨none,NL⟩;simp only [↓qd,qp,aa,reduceIte,reduceEqDiff,w0,w2,h.len];refine aR.intro (λ n E Hx=>∃ i:Nat,E=[(8,.int .i64 (i:Int)),(7,.int .i64 ((ks.length:Nat):Int)),(0,v),(1,Bg t)]/\n=ks.length-i/\i<=ks.length/\Hx=H /\ ∀ k,k<i->((ks[k]?.getD 0:Int) == line)=false) ?_ ?_
 ·exact ⟨_,_,⟨0,rfl,rfl,xx _,rfl,λ k hk=>by omega⟩,by simp only [↓qd,qp,aa,reduceIte,reduceEqDiff]⟩
 rintro n E Hx ⟨i,rfl,rfl,hi,rfl,hno⟩;rcases zt i ks.length with hlt|hge
 ·have q1:(i:Int)<((ks.length:Nat):Int):=by omega
  obtain ⟨ix,ld⟩:=KZ h hlt;have wj:ak .i64 ((i:Int)+1)=((i+1:Nat):Int):=by rw [xm (by omega) (by omega)];omega
  simp only [↓qd,qp,aa,reduceIte,reduceEqDiff,w7,q1,w13,ix,ld];refine C3.q (qu4 (M:=M) _ hl) λ r H1 ⟨hr,hh⟩=>?_;rw [hr,hh]
  by_cases q:((ks[i]?.getD 0:Nat):Int)=line
  ·simp only [↓qd,qp,aa,reduceIte,reduceEqDiff,q];unfold lK;rw [GC hlt (by simp [q]) hno]
  ·simp only [↓qd,qp,aa,reduceIte,reduceEqDiff,q,w24,wj];refine ⟨_,_,⟨i+1,rfl,rfl,by omega,λ k hk=>?_⟩,by simp only [↓qd,qp,aa,reduceIte,reduceEqDiff],by omega⟩
   by_cases e:k=i
   ·rw [e];simpa using q
   ·exact hno k (by omega)
 ·have q1:¬ (i:Int)<((ks.length:Nat):Int):=by omega
  have e:i=ks.length:=by omega
  subst e;simp only [↓qd,qp,aa,reduceIte,reduceEqDiff,w7,q1,w25];unfold lK;rw [Eg hno]
theorem q5s (ks:List Nat) (rest:List AV) {i:Nat} (hi:i<ks.length) (y:Nat):(ks.flatMap eF++rest).take i ++ [AV.int .i64 (y:Int)]++(ks.flatMap eF++rest).drop (i+1)=(ks.set i y).flatMap eF++rest:=by
 have hl:=pT ks;rw [jv (by omega),kn (by omega),<-zf];congr 1;rw [FD,FD,List.map_set,vx,ql (by rw [xu];exact hi)];simp
theorem jS.A8 {e:Nat} (h:jS e H0 H v ks) {i:Nat} (hi:i<ks.length) (y:Nat):∃ H',Op.store 1 [.ptr (aF v) (bI 1 v i),.int .i64 (y:Int)] H=some (.undef,H')/\jS e H0 H' v (ks.set i y)/\Fr (aI v) H H':=by
 rcases h.own with ⟨rfl,rfl⟩|⟨b,m,rest,rfl,q1,q2,q3,q4⟩
 ·simp at hi
 ·have st:=qtv q4 (o:=i) (n:=1) (v:=.int .i64 (y:Int)) rfl (by rw [qx,pT];omega) rfl;have hc:AV.cells (.int .i64 (y:Int))=[.int .i64 (y:Int)]:=rfl;rw [hc,q5s ks rest hi] at st;have ho:bI 1 (AV.gslice b 0 m 1 0 ks.length) i=i:=by simp [bI]
  rw [ho];refine ⟨_,st,⟨.inr ⟨b,m,rest,by rw [qv],q1,q2,by rw [qv];exact q3,xb ..⟩,h.fr.set (.inr q2) _⟩,(Fr.refl H).set (W:=aI (AV.gslice b 0 m 1 0 ks.length)) (.inl ⟨by simp,rfl⟩) _⟩
theorem Ks:∀ n:Nat,dG n [AV.int .i64 0]=(List.replicate n 0).flatMap eF
 | 0=>rfl
 | n+1=>by rw [dG,IK,zx,<-Ks n];rfl
theorem jS.kH {e:Nat} (h:jS e H0 H v ks) {k:Nat} (hk:k<=ks.length):∃ v2 H',Op.aJ 1 [some 0,none,none] [v,.int .i64 (k:Int)]=some v2/\Op.ct [.int .i64 0] [v2] H=some (.tuple [],H')/\jS e H0 H' v (ks.take k++List.replicate (ks.length-k) 0)/\Fr (aI v) H H':=by
 rcases h.own with ⟨rfl,rfl⟩|⟨b,m,rest,rfl,q1,q2,q3,q4⟩
 ·have:k=0:=by simpa using hk
  subst this;have hbn:bound none 0 0=some 0:=rfl;refine ⟨.nils,H,by simp only [Op.aJ,arg,jO,je,qj,df,hbn];rfl,rfl,h,Fr.refl _⟩
 ·have e1:∀ n,Nat.beq n n=true:=λ n=>by simp
  have hb1:∀ d m,bound none d m=some d:=λ _ _=>rfl;refine ⟨.gslice b (0+k) m 1 (cond (Nat.beq k 0) 0 (0*1)) (ks.length-k),?_⟩;have sl:Op.aJ 1 [some 0,none,none] [AV.gslice b 0 m 1 0 ks.length,.int .i64 (k:Int)]=some (.gslice b (0+k) m 1 (cond (Nat.beq k 0) 0 (0*1)) (ks.length-k)):=by
   simp only [Op.aJ,arg,jO,je,qj,df,hb1,rN (z:=(k:Int)) (k:=k) rfl hk .i64,e1,k9 (show ks.length<=m-0 by omega),k9 (xx m),zu,xf]
  have hle:(ks.take k).length=k:=by rw [ja];omega
  by_cases hz:ks.length-k=0
  ·refine ⟨H,sl,?_,?_,Fr.refl _⟩
   ·rw [hz];rfl
   ·have e2:ks.take k++List.replicate (ks.length-k) 0=ks:=by rw [hz,List.replicate_zero,xt,zj (by omega)]
    rw [e2];exact h
  ·have hlv:dD (.gslice b (0+k) m 1 (cond (Nat.beq k 0) 0 (0*1)) (ks.length-k))=some (ks.length-k):=rfl;have hb0:Nat.beq (ks.length-k) 0=false:=by cases hq:Nat.beq (ks.length-k) 0 with|false=>rfl|true=>rw [zp] at hq;exact absurd hq hz
   have hlt:Nat.blt 0 (ks.length-k)=true:=by unfold Nat.blt;exact k9 (by omega)
   have hlt2:Nat.blt (0+k+0) m=true:=by unfold Nat.blt;exact k9 (by omega)
   have he:elemAt 1 (.gslice b (0+k) m 1 (cond (Nat.beq k 0) 0 (0*1)) (ks.length-k)) 0=some (b,(0+k)*1+0*1):=by
    simp only [elemAt,hlt,e1,hlt2,zu,xf]
   have hst:H.store b ((0+k)*1+0*1) (dG (ks.length-k) [.int .i64 0])=some (H.set b (.grown m 1 ((ks.take k++List.replicate (ks.length-k) 0).flatMap eF++rest) e (0,0))):=by
    have ha:aO (dG (ks.length-k) [AV.int .i64 0])=true:=by
     rw [Ks,oQ,FD];simp [aT]
    have ht:cN (0,0) ((0+k)*1+0*1) (bL (dG (ks.length-k) [AV.int .i64 0]))=true:=by simp [cN]
    simp only [AHeap.store,ha,xf,q4,ht,Ae];have hrl:(dG (ks.length-k) [AV.int .i64 0]).length=ks.length-k:=by rw [Ks,pT,zb]
    have ek:(0+k)*1+0*1=k:=by omega
    have t1:(ks.flatMap eF++rest).take k=(ks.take k).flatMap eF:=by
     rw [jv (by rw [pT];exact hk),FD,FD,List.map_take]
    have t2:(ks.flatMap eF++rest).drop (k+(ks.length-k))=rest:=by
     rw [show k+(ks.length-k)=(ks.flatMap eF).length by rw [pT];omega,List.drop_left]
    rw [ek,ql (by rw [hrl,qx,pT];omega),qj,hrl,t1,t2,Ks,<-jd]
   refine ⟨H.set b (.grown m 1 ((ks.take k++List.replicate (ks.length-k) 0).flatMap eF++rest) e (0,0)),sl,?_,⟨.inr ⟨b,m,rest,?_,q1,q2,?_,xb ..⟩,h.fr.set (.inr q2) _⟩,(Fr.refl H).set (W:=aI (AV.gslice b 0 m 1 0 ks.length)) (.inl ⟨by simp,rfl⟩) _⟩
   ·have hz1:[AV.int .i64 0].length=1:=rfl;simp only [Op.ct,hlv,qj,hb0,za,hz1,he,hst]
   ·rw [qx,hle,zb];congr 1;omega
   ·rw [qx,hle,zb];omega
def sJ (ks:List Nat) (line:Int):List Nat:=ks.filter λ k=>((k:Nat):Int) != line
theorem qz7 {t:Nat} {line:Int} {e:Nat} (hl:∀ {Hx:AHeap},Fr (aI v) H Hx->Op.ae [.ptr t 2] Hx=some (.int .i64 line)) (h:jS e H0 H v ks) (hk:ks.length<=1000000) :
 zq M Pm [v,Bg t] H λ r H'=>jS e H0 H' r (sJ ks line)/\Fr (aI v) H H' /\ ∀ x,aI r x->aI v x:=by
 refine qji ?_;obtain ⟨w0,w4,w12,w35,w17,w23,w34⟩:=qjj M ⟨none,Pm⟩;simp only [↓qd,qp,aa,reduceIte,reduceEqDiff,w0];refine C3.q (q0j (M:=M) (hl (Fr.refl _)) h.sl hk) λ r H1 ⟨hr,hh⟩=>?_;rw [hr,hh];cases hf:b9 (λ i=>(ks[i]?.getD 0:Int) == line) ks.length with
 | none =>
  have e1:lK ks line = -1:=by unfold lK;rw [hf]
  have e2:sJ ks line=ks:=by
   unfold sJ;rw [List.filter_eq_self];intro k hk';obtain ⟨i,hi⟩:=ki hk';have:=OZ hf i (qe.1 hi).1;rw [hi] at this
   simpa using this
  rw [e1,e2];have t1:=xc (show (-1:Int) = -1 from rfl);simp only [↓qd,qp,aa,reduceIte,reduceEqDiff,w4,t1];exact ⟨h,Fr.refl _,λ x q=>q⟩
 | some i0 =>
  obtain ⟨a1,a2,a3⟩:=E7 hf;have e1:lK ks line=(i0:Int):=by unfold lK;rw [hf]
  rw [e1];have t1:¬ (i0:Int) = -1:=by omega
  have wj:ak .i64 ((i0:Int)+1)=((i0+1:Nat):Int):=by rw [xm (by omega) (by omega)];omega
  -- what is kept of the first ones
  have ah:∀ j,(ks.take (j+1)).filter (λ k=>((k:Nat):Int) != line)=(ks.take j).filter (λ k=>((k:Nat):Int) != line)++(match ks[j]? with|none=>[] | some k=>if ((k:Nat):Int)=line then [] else [k]):=λ j=>by
   rw [yq,JR];congr 1;cases ks[j]? with
   | none=>rfl
   | some k=>by_cases q:((k:Nat):Int)=line<;>simp [q]
  have h0:(ks.take i0).filter (λ k=>((k:Nat):Int) != line)=ks.take i0:=by
   rw [List.filter_eq_self];intro k hk';obtain ⟨i,hi⟩:=ki hk';rw [kc] at hi;split at hi
   ·rename_i hlt;have:=a3 i hlt;rw [hi] at this
    simpa using this
   ·cases hi
  have hx0:ks[i0]? = some ks[i0]:=by simp [a1]
  have h1:(ks.take (i0+1)).filter (λ k=>((k:Nat):Int) != line)=ks.take i0:=by
   rw [ah,h0,hx0];rw [hx0] at a2;have a2:((ks[i0]:Nat):Int)=line:=by simpa using a2
   simp [a2]
  simp only [↓qd,qp,aa,reduceIte,reduceEqDiff,w4,t1,w12,wj];refine aR.intro (λ n E Hx=>∃ (i j:Nat) (zs:List Nat),E=[(6,.int .i64 (j:Int)),(5,.int .i64 (i:Int)),(0,v),(1,Bg t)]/\n=ks.length-j/\i<j/\j<=ks.length/\zs.length=ks.length/\zs.take i=(ks.take j).filter (λ k=>((k:Nat):Int) != line)/\zs.drop j=ks.drop j/\jS e H0 Hx v zs/\Fr (aI v) H Hx) ?_ ?_
  ·exact ⟨_,_,⟨i0,i0+1,ks,rfl,rfl,by omega,by omega,rfl,h1.symm,rfl,h,Fr.refl _⟩,by simp only [↓qd,qp,aa,reduceIte,reduceEqDiff]⟩
  rintro n E Hx ⟨i,j,zs,rfl,rfl,hij,hj,hzl,hzt,hzd,hs,hfr⟩;have hln:=hs.sl.len;rw [hzl] at hln;rcases zt j ks.length with hlt|hge
  ·have q1:(j:Int)<((ks.length:Nat):Int):=by omega
   obtain ⟨ix,ld⟩:=KZ hs.sl (i:=j) (by omega);obtain ⟨ix',-⟩:=KZ hs.sl (i:=i) (by omega);have hzj:zs[j]? = ks[j]?:=by
    have:=congrArg (λ l=>l[0]?) hzd
    simpa [kq] using this
   obtain ⟨k,hkj⟩:∃ k,ks[j]? = some k:=⟨ks[j],by simp [hlt]⟩
   rw [hzj,hkj] at ld;have ld:Op.ae [.ptr (aF v) (bI 1 v j)] Hx=some (.int .i64 (k:Int)):=ld;have wj:ak .i64 ((j:Int)+1)=((j+1:Nat):Int):=by rw [xm (by omega) (by omega)];omega
   have wi:ak .i64 ((i:Int)+1)=((i+1:Nat):Int):=by rw [xm (by omega) (by omega)];omega
   have hd2:∀ l:List Nat,l.drop (j+1)=(l.drop j).drop 1:=λ l=>by rw [CZ]
   simp only [↓qd,qp,aa,reduceIte,reduceEqDiff,w17,hln,q1,w23,ix,ld];refine C3.q (qu4 (M:=M) _ (hl hfr)) λ r H2 ⟨hr,hh⟩=>?_;rw [hr,hh]
   by_cases q:(k:Int)=line
   ·simp only [↓qd,qp,aa,reduceIte,reduceEqDiff,xc q,w34,wj];exact ⟨_,_,⟨i,j+1,zs,rfl,rfl,by omega,by omega,hzl,by rw [ah,hkj,hzt];simp [q],by rw [hd2,hzd,<-hd2],hs,hfr⟩,by simp only [↓qd,qp,aa,reduceIte,reduceEqDiff],by omega⟩
   ·obtain ⟨H3,s3,hs3,f3⟩:=hs.A8 (i:=i) (by omega) k;simp only [↓qd,qp,aa,reduceIte,reduceEqDiff,q,ix',s3,wi,w34,wj];refine ⟨_,_,⟨i+1,j+1,zs.set i k,rfl,rfl,by omega,by omega,by rw [qv];exact hzl,?_,?_,hs3,hfr.trans f3 λ _ q=>.inl q⟩,by simp only [↓qd,qp,aa,reduceIte,reduceEqDiff],by omega⟩
    ·rw [ah,hkj,<-hzt,yq,qu (by omega),List.take_set_of_le (qf i)];simp [q]
    ·rw [List.drop_set_of_lt (by omega),hd2,hzd,<-hd2]
  ·have q1:¬ (j:Int)<((ks.length:Nat):Int):=by omega
   have ej:j=ks.length:=by omega
   subst ej;rw [zj (qf _)] at hzt;obtain ⟨v2,H3,c1,c2,c3,c4⟩:=hs.kH (k:=i) (by omega);obtain ⟨v3,d1,d2,d3⟩:=c3.cut (k:=i) (by rw [qx,ja,zb];omega) rfl .i64;have ef:(zs.take i++List.replicate (zs.length-i) 0).take i=sJ ks line:=by
    rw [jv (by rw [ja];omega),List.take_take,Nat.min_self,hzt];rfl
   rw [ef] at d2;simp only [↓qd,qp,aa,reduceIte,reduceEqDiff,w17,hln,q1,w35,c1,c2,d1];exact ⟨d2,hfr.trans c4 λ _ q=>.inl q,d3⟩
end
end Go.Am
namespace Go.Am
open Go.Proofs Ca
open Lang (ints)
variable {M:aA} [MK M]
def ai (m:Mg):List AV:=.int .i64 m.k::.int .i64 m.core::.int .i64 m.line::cJ m.d
theorem xq (m:Mg):(ai m).length=11:=by simp [ai,cJ,m.d.h]
theorem vk (m:Mg):aO (ai m)=true:=by rw [oQ];simp [ai,cJ,aT]
def mX (n:No) (b:Nat) (bv:AV):List AV:=.int .i64 n.core::.int .i64 n.lines::.ptr b 0::(ai n.out ++ [bv,.bool n.live,.int .i64 n.code])
structure bR (H0 H:AHeap) (r b:Nat) (sv bv:AV) (n:No) (ks:List Nat):Prop where
 row:H.get r=some (OR (mX n b bv) Jq)
 lt:r<H.next
 ca:cD H b sv n.c
 bk:jS eM H0 H bv ks
 eq:n.aq=ints ks
 lr:H0.next<=r
 lb:H0.next<=b
 ls:H0.next<=aF sv
 n1:r ≠ b
 n2:r ≠ aF sv
 o1:¬ aI bv r
 o2:¬ aI bv b
 o3:¬ aI bv (aF sv)
 li:2<=n.lines/\n.lines<=64
 len:n.c.sl.length<=40
def fw (r b:Nat) (sv bv:AV):Nat->Prop:=λ x=>x=r\/jB b sv x\/aI bv x
def nM (H0 H:AHeap) (r b:Nat) (sv bv:AV) (n':No) (H':AHeap):Prop:=∃ bv' ks',bR H0 H' r b sv bv' n' ks'/\Fr (fw r b sv bv) H H' /\ ∀ x,aI bv' x->aI bv x\/H.next<=x
section
variable {H0 H:AHeap} {r b:Nat} {sv bv:AV} {n:No} {ks:List Nat}
theorem bR.em {H':AHeap} (h:bR H0 H r b sv bv n ks) (f:Fr Em H H'):bR H0 H' r b sv bv n ks :=
 ⟨by rw [f.ah _ h.lt id];exact h.row,qk h.lt f.next,h.ca.em f,h.bk.em f,h.eq,h.lr,h.lb,h.ls,h.n1,h.n2,h.o1,h.o2,h.o3,h.li,h.len⟩
theorem bR.same (h:bR H0 H r b sv bv n ks) {H':AHeap} (f:Fr Em H H'):nM H0 H r b sv bv n H':=⟨bv,ks,h.em f,f.mono λ _ _ q=>q.elim,λ x q=>.inl q⟩
theorem zS (n:No) (b:Nat) (bv:AV):(mX n b bv)[0]? = some (.int .i64 n.core)/\(mX n b bv)[1]? = some (.int .i64 n.lines)/\(mX n b bv)[2]? = some (.ptr b 0)/\(mX n b bv)[3]? = some (.int .i64 n.out.k)/\(mX n b bv)[14]? = some bv/\(mX n b bv)[15]? = some (.bool n.live)/\(mX n b bv)[16]? = some (.int .i64 n.code)/\((mX n b bv).drop 3).take 11=ai n.out/\(mX n b bv).length=17:=by
 obtain ⟨core,lines,c,⟨k,co,l,⟨d,hd⟩⟩,aq,live,code⟩:=n
 match d,hd with
 | [d0,d1,d2,d3,d4,d5,d6,d7],_=>exact ⟨rfl,rfl,rfl,rfl,rfl,rfl,rfl,rfl,rfl⟩
theorem bR.ld (h:bR H0 H r b sv bv n ks) (k:Nat):Op.ae [.ptr r k] H=(mX n b bv)[k]?:=xp (qz h.row) k
theorem bR.l0 (h:bR H0 H r b sv bv n ks):Op.ae [.ptr r 0] H=some (.int .i64 n.core):=(h.ld 0).trans (zS n b bv).1
theorem bR.l1 (h:bR H0 H r b sv bv n ks):Op.ae [.ptr r 1] H=some (.int .i64 n.lines):=(h.ld 1).trans (zS n b bv).2.1
theorem bR.l2 (h:bR H0 H r b sv bv n ks):Op.ae [.ptr r 2] H=some (.ptr b 0):=(h.ld 2).trans (zS n b bv).2.2.1
theorem bR.l3 (h:bR H0 H r b sv bv n ks):Op.ae [.ptr r 3] H=some (.int .i64 n.out.k):=(h.ld 3).trans (zS n b bv).2.2.2.1
theorem bR.rf (h:bR H0 H r b sv bv n ks):Op.ae [.ptr r 14] H=some bv:=(h.ld 14).trans (zS n b bv).2.2.2.2.1
theorem bR.ft (h:bR H0 H r b sv bv n ks):Op.ae [.ptr r 15] H=some (.bool n.live):=(h.ld 15).trans (zS n b bv).2.2.2.2.2.1
theorem bR.lo (h:bR H0 H r b sv bv n ks):Op.aG 11 [.ptr r 3] H=some (.agg (ai n.out)):=by
 obtain ⟨-,-,-,-,-,-,-,e,l⟩:=zS n b bv;rw [Ac (qz h.row) (by rw [l];decide),e]
theorem bR.put (h:bR H0 H r b sv bv n ks) {n':No} {o m:Nat} {u:AV} (hu:u.cells.length=m) (ho:aO u.cells=true) (hm:o+m<=17) (e:(mX n b bv).take o++u.cells++(mX n b bv).drop (o+m)=mX n' b bv) (hc:n'.c=n.c) (hb:n'.aq=n.aq) (hl:n'.lines=n.lines) :
 ∃ H',Op.store m [.ptr r o,u] H=some (.undef,H')/\bR H0 H' r b sv bv n' ks/\Fr (On r) H H':=by
 have st:=oS h.row (o:=o) (n:=m) (v:=u) hu (by rw [(zS n b bv).2.2.2.2.2.2.2.2];exact hm) ho;rw [e] at st;have f:Fr (On r) H (H.set r (OR (mX n' b bv) Jq)):=(Fr.refl H).set (W:=On r) (.inl rfl) _;refine ⟨_,st,⟨xb ..,h.lt,by rw [hc];exact h.ca.fr f (λ (q:b=r)=>h.n1 q.symm) (λ (q:aF sv=r)=>h.n2 q.symm),h.bk.pM f (h.bk.fr.set (.inr h.lr) _) (λ x hx (q:x=r)=>h.o1 (q ▸ hx)),by rw [hb];exact h.eq,h.lr,h.lb,h.ls,h.n1,h.n2,h.o1,h.o2,h.o3,by rw [hl];exact h.li,by rw [hc];exact h.len⟩,f⟩
theorem bR.oz (h:bR H0 H r b sv bv n ks) (q:Bool):∃ H',Op.store 1 [.ptr r 15,.bool q] H=some (.undef,H')/\bR H0 H' r b sv bv { n with live:=q } ks/\Fr (On r) H H' :=
 h.put (n':={ n with live:=q }) (o:=15) (m:=1) (u:=.bool q) rfl rfl (by decide) (by
  obtain ⟨core,lines,c,⟨k,co,l,⟨d,hd⟩⟩,aq,live,code⟩:=n
  match d,hd with
  | [d0,d1,d2,d3,d4,d5,d6,d7],_=>rfl) rfl rfl rfl
theorem bR.rI (h:bR H0 H r b sv bv n ks) (k:Int):∃ H',Op.store 1 [.ptr r 16,.int .i64 k] H=some (.undef,H')/\bR H0 H' r b sv bv { n with code:=k } ks/\Fr (On r) H H' :=
 h.put (n':={ n with code:=k }) (o:=16) (m:=1) (u:=.int .i64 k) rfl rfl (by decide) (by
  obtain ⟨core,lines,c,⟨k,co,l,⟨d,hd⟩⟩,aq,live,code⟩:=n
  match d,hd with
  | [d0,d1,d2,d3,d4,d5,d6,d7],_=>rfl) rfl rfl rfl
theorem bR.xQ (h:bR H0 H r b sv bv n ks) (m:Mg):∃ H',Op.store 11 [.ptr r 3,.agg (ai m)] H=some (.undef,H')/\bR H0 H' r b sv bv { n with out:=m } ks/\Fr (On r) H H' :=
 h.put (n':={ n with out:=m }) (o:=3) (m:=11) (u:=.agg (ai m)) (by rw [xk];exact xq m) (by rw [xk];exact vk m) (by decide) (by
  obtain ⟨core,lines,c,⟨k,co,l,⟨d,hd⟩⟩,aq,live,code⟩:=n;obtain ⟨k',co',l',⟨d',hd'⟩⟩:=m
  match d,hd,d',hd' with
  | [d0,d1,d2,d3,d4,d5,d6,d7],_,[e0,e1,e2,e3,e4,e5,e6,e7],_=>rfl) rfl rfl rfl
theorem bR.fp (h:bR H0 H r b sv bv n ks) {c:Ca} {H':AHeap} (hc:cD H' b sv c) (f:Fr (jB b sv) H H') (hl:c.sl.length<=40):bR H0 H' r b sv bv { n with c:=c } ks :=
 ⟨by rw [f.ah _ h.lt (λ q=>q.elim h.n1 h.n2)];exact h.row,qk h.lt f.next,hc,h.bk.pM f (h.bk.fr.trans f λ x q=>q.elim (λ q=>.inr (by rw [q];exact h.lb)) λ q=>.inr (by rw [q];exact h.ls)) (λ x hx q=>q.elim (λ q=>h.o2 (q ▸ hx)) λ q=>h.o3 (q ▸ hx)),h.eq,h.lr,h.lb,h.ls,h.n1,h.n2,h.o1,h.o2,h.o3,h.li,hl⟩
theorem nM.of {n':No} {H':AHeap} {ks':List Nat} (h:bR H0 H' r b sv bv n' ks') (f:Fr (fw r b sv bv) H H'):nM H0 H r b sv bv n' H':=⟨bv,ks',h,f,λ x q=>.inl q⟩
theorem DC {H1 H2:AHeap} (f:Fr (On r) H1 H2):Fr (fw r b sv bv) H1 H2:=f.mono λ _ _ q=>.inl q
theorem qO {H1 H2:AHeap} (f:Fr (jB b sv) H1 H2):Fr (fw r b sv bv) H1 H2:=f.mono λ _ _ q=>.inr (.inl q)
theorem jN {H1 H2:AHeap} (f:Fr Em H1 H2):Fr (fw r b sv bv) H1 H2:=f.mono λ _ _ q=>q.elim
theorem gi {H1 H2 H3:AHeap} (f:Fr (fw r b sv bv) H1 H2) (g:Fr (fw r b sv bv) H2 H3):Fr (fw r b sv bv) H1 H3:=f.trans g λ _ q=>.inl q
theorem NX (h:bR H0 H r b sv bv n ks) (a:Int):zq M Nb [.ptr r 0,.int .i64 a] H λ v H'=>v=.int .i64 (if n.may a then 0 else 2)/\H'=H:=by
 refine qti ?_;obtain ⟨w0,w2,w17⟩:=qtj M ⟨none,Nb⟩;have hl:=h.li;have wm:ak .i64 (n.lines*8)=n.lines*8:=xm (by omega) (by omega)
 by_cases h1:a<0
 ·have hm:¬ n.may a:=λ q=>by have:=q.1;omega
  simp only [↓qd,qp,aa,reduceIte,reduceEqDiff,w0,w2,kv,h1];rw [qg hm]
 by_cases h2:n.lines*8<=a
 ·have hm:¬ n.may a:=λ q=>by have:=q.2;omega
  simp only [↓qd,qp,aa,reduceIte,reduceEqDiff,w0,w2,kv,h1,qi,h.l1,wm,h2];rw [qg hm]
 ·have hm:n.may a:=⟨by omega,by omega⟩
  simp only [↓qd,qp,aa,reduceIte,reduceEqDiff,w0,w2,kv,h1,qi,h.l1,wm,h2,w17];rw [ql hm]
theorem mZ:[AV.int .i64 0,.int .i64 0,.int .i64 0,.int .u64 0,.int .u64 0,.int .u64 0,.int .u64 0,.int .u64 0,.int .u64 0,.int .u64 0,.int .u64 0]=ai ⟨0,0,0,.zero⟩:=rfl
theorem Kn (k co l:Int):Op.build (ai ⟨0,0,0,.zero⟩) [(0,1),(1,1),(2,1)] [.int .i64 k,.int .i64 co,.int .i64 l]=some (.agg (ai ⟨k,co,l,.zero⟩)):=rfl
theorem Aa (h:bR H0 H r b sv bv n ks) (k line:Int):zq M qkh [.ptr r 0,.int .i64 k,.int .i64 line] H λ v H'=>v=.agg (ai (n.msg k line))/\Fr Em H H':=by
 refine qtk ?_;obtain ⟨H1,e1⟩:∃ X,X=H.alloc (OR (ai ⟨0,0,0,.zero⟩) qt):=⟨_,rfl⟩
 have f1:Fr Em H H1:=by rw [e1];exact (Fr.refl H).alloc _
 have g1:H1.get H.next=some (OR (ai ⟨0,0,0,.zero⟩) qt):=by rw [e1,qw]
 have s1:=iH g1 (xq _) (xq (n.msg k line)) (vk _);have ld:=fU (xb H1 H.next (OR (ai (n.msg k line)) qt)) (xq _);have bd:Op.build (ai ⟨0,0,0,.zero⟩) [(0,1),(1,1),(2,1)] [.int .i64 k,.int .i64 n.core,.int .i64 line]=some (.agg (ai (n.msg k line))):=Kn ..;simp only [↓qd,qp,aa,reduceIte,reduceEqDiff,qtl,mZ,<-e1,qi,(h.em f1).l0,bd,s1,ld];exact f1.set (.inr (qf _)) _
theorem q6b (h:bR H0 H r b sv bv n ks):zq M Oj [.ptr r 0] H λ v H'=>v=.bool n.live/\H'=H:=by
 refine qj0 ?_;simp only [↓qd,qp,aa,reduceIte,reduceEqDiff,qj1,kF,qi,h.ft]
theorem CB (h:bR H0 H r b sv bv n ks) (k:Int):zq M qid [.ptr r 0,.int .i64 k] H λ _ H'=>bR H0 H' r b sv bv (n.dO k) ks/\Fr (fw r b sv bv) H H':=by
 refine qoy ?_;simp only [↓qd,qp,aa,reduceIte,reduceEqDiff,qoz,qi,h.l2];refine C3.q (qx3 (M:=M) h.ca h.len) λ _ H1 ⟨h1,f1⟩=>?_;have hn1:=h.fp h1 f1 (by show (n.c.sl.map back).length<=40;rw [xu];exact h.len);obtain ⟨H2,s2,h2,f2⟩:=hn1.oz false;obtain ⟨H3,s3,h3,f3⟩:=h2.rI k;simp only [↓qd,qp,aa,reduceIte,reduceEqDiff,qi,s2,s3];exact ⟨h3,gi (gi (qO f1) (DC f2)) (DC f3)⟩
theorem q2q (h:bR H0 H r b sv bv n ks) (k:Int):zq M Oy [.ptr r 0,.int .i64 k] H λ v H'=>v=.int .i64 (n.abort k).2/\bR H0 H' r b sv bv (n.abort k).1 ks/\Fr (fw r b sv bv) H H':=by
 refine qor ?_;obtain ⟨w0,w2,w23,w16⟩:=qos M ⟨none,Oy⟩;have ft:=h.ft;cases hl:n.live with
 | false =>
  have ea:n.abort k=(n,40):=by unfold No.abort;rw [hl];rfl
  rw [hl] at ft;rw [ea];simp only [↓qd,qp,aa,reduceIte,reduceEqDiff,w0,w2,kv,qi,ft];exact ⟨h,Fr.refl _⟩
 | true =>
  rw [hl] at ft
  by_cases h1:k<1
  ·have ea:n.abort k=(n,2):=by unfold No.abort;rw [hl,ql rfl,ql (.inl h1)]
   rw [ea];simp only [↓qd,qp,aa,reduceIte,reduceEqDiff,w0,w2,kv,qi,ft,w16,h1];exact ⟨h,Fr.refl _⟩
  by_cases h2:7<k
  ·have ea:n.abort k=(n,2):=by unfold No.abort;rw [hl,ql rfl,ql (.inr h2)]
   rw [ea];simp only [↓qd,qp,aa,reduceIte,reduceEqDiff,w0,w2,kv,qi,ft,w16,h1,h2];exact ⟨h,Fr.refl _⟩
  have ea:n.abort k=(n.dO k,0):=by unfold No.abort;rw [hl,ql rfl,qg (by omega)]
  rw [ea];simp only [↓qd,qp,aa,reduceIte,reduceEqDiff,w0,w2,kv,qi,ft,w16,h1,h2,w23];refine C3.q (CB (M:=M) h k) λ _ H1 ⟨h1',f1⟩=>?_;simp only [↓qd,qp,aa,reduceIte,reduceEqDiff];exact ⟨h1',f1⟩
end
end Go.Am
namespace Go.Am
open Go.Proofs Ca
open Lang (ints)
variable {M:aA} [MK M]
def jJ (H H':AHeap) (v:AV) (ms:List Mg):Prop:=du ai 11 H' v ms/\(ms ≠ []->H.next<=aF v)
theorem jJ.nil (H H':AHeap):jJ H H' .nils []:=⟨⟨rfl,rfl⟩,λ q=>absurd rfl q⟩
theorem sW (m:Mg):Op.buildSlice qt 1 (ai ⟨0,0,0,.zero⟩) [(0,11)] [.agg (ai m)]=some (OR (ai m) qt,Op.sliceTo 1 1):=Qd qt 11 (ai ⟨0,0,0,.zero⟩) (.agg (ai m)) (xq _) (by rw [xk];exact xq m)
theorem EN {H:AHeap} (m:Mg):dR ai qt 11 (H.alloc (OR (ai m) qt)) (Op.sliceTo 1 1 H.next) [m]:=⟨H.next,rfl,by rw [xd];omega,by rw [qw];simp⟩
theorem Fw {H H0:AHeap} (m:Mg) (h:H0.next<=H.next):jJ H0 (H.alloc (OR (ai m) qt)) (Op.sliceTo 1 1 H.next) [m]:=⟨(EN m).sl xq,λ _=>h⟩
section
variable {H0 H:AHeap} {r b:Nat} {sv bv:AV} {n:No} {ks:List Nat}
theorem bR.kl (h:bR H0 H r b sv bv n ks):n.aq.length=ks.length:=by rw [h.eq];unfold ints;rw [xu]
theorem NR (h:bR H0 H r b sv bv n ks) (hk:n.aq.length<=900000) (k line:Int):zq M MJ [.ptr r 0,.int .i64 k,.int .i64 line] H λ v H'=>jJ H H' v (n.ask k line).2/\bR H0 H' r b sv bv (n.ask k line).1 ks/\Fr (fw r b sv bv) H H':=by
 refine qtg ?_;obtain ⟨w0,w2,w10⟩:=qth M ⟨none,MJ⟩;have hkl:=h.kl
 by_cases h1:n.out.k=0
 ·simp only [↓qd,qp,aa,reduceIte,reduceEqDiff,w0,w2,qi,h.l3,xc h1,h.rf];refine C3.q (qmu (M:=M) h.bk.sl (by omega) line) λ v H1 ⟨hv,hh⟩=>?_;rw [hv,hh,<-h.eq]
  by_cases h2:line ∈ n.aq
  ·have ea:n.ask k line=(n,[]):=by unfold No.ask;rw [ql (.inr h2)]
   rw [ea];simp only [↓qd,qp,aa,reduceIte,reduceEqDiff,xc h2];exact ⟨jJ.nil ..,h,Fr.refl _⟩
  ·have ea:n.ask k line=({ n with out:=n.msg k line },[n.msg k line]):=by unfold No.ask;rw [qg (λ q=>q.elim (λ q=>q h1) h2)]
   rw [ea];simp only [↓qd,qp,aa,reduceIte,reduceEqDiff,h2,w10];refine C3.q (Aa (M:=M) h k line) λ v H2 ⟨hv,f2⟩=>?_;rw [hv];obtain ⟨H3,s3,h3,f3⟩:=(h.em f2).xQ (n.msg k line);have lo:=h3.lo;have f23:Fr (fw r b sv bv) H H3:=gi (jN f2) (DC f3);simp only [↓qd,qp,aa,reduceIte,reduceEqDiff,qi,s3,lo,mZ,sW];exact ⟨Fw _ f23.next,h3.em ((Fr.refl H3).alloc _),gi f23 (jN ((Fr.refl H3).alloc _))⟩
 ·have ea:n.ask k line=(n,[]):=by unfold No.ask;rw [ql (.inl h1)]
  rw [ea];simp only [↓qd,qp,aa,reduceIte,reduceEqDiff,w0,w2,qi,h.l3,h1];exact ⟨jJ.nil ..,h,Fr.refl _⟩
theorem eS {H1:AHeap} (e:En):Op.store 21 [.ptr H1.next 0,.agg (ao e)] (H1.alloc (OR (ao .zero) qr))=some (.undef,(H1.alloc (OR (ao .zero) qr)).set H1.next (OR (ao e) qr)):=iH (qw ..) (zd _) (zd e) (oH e)
theorem tt {H1:AHeap} (o o':bm):Fr Em H1 ((H1.alloc o).set H1.next o'):=((Fr.refl H1).alloc _).set (.inr (qf _)) _
theorem qvb {line:Int} (h:bR H0 H r b sv bv n ks) (hci:CI n.lines n.c):zq M qie [.ptr r 0,.int .i64 line] H λ v H'=>v=.bool (n.owned line)/\Fr Em H H':=by
 refine qo0 ?_;simp only [↓qd,qp,aa,reduceIte,reduceEqDiff,qo1,qi,h.l2];refine C3.q (Ki (M:=M) h.ca hci line) λ v H1 ⟨hv,f1⟩=>?_;rw [hv];unfold nJ No.owned;cases hf:n.c.find line with
 | none =>
  simp only [↓qd,qp,aa,reduceIte,reduceEqDiff,qn,eZ,eS];exact f1.trans (tt _ _) λ _ q=>q.elim
 | some e =>
  have l1:Op.ae [.ptr H1.next 1] ((H1.alloc (OR (ao .zero) qr)).set H1.next (OR (ao e) qr))=some (.int .i64 e.st):=xp (qz (xb ..)) 1;have fe:Fr Em H ((H1.alloc (OR (ao .zero) qr)).set H1.next (OR (ao e) qr)):=f1.trans (tt _ _) λ _ q=>q.elim
  by_cases q:e.st=2
  ·simp only [↓qd,qp,aa,reduceIte,reduceEqDiff,qn,eZ,eS,l1,xc q];exact ⟨by rw [q];rfl,fe⟩
  ·simp only [↓qd,qp,aa,reduceIte,reduceEqDiff,qn,eZ,eS,l1,q];exact ⟨by simp [q],fe⟩
def o8 (H0 H:AHeap) (r b:Nat) (sv bv:AV) (n:No) (ks:List Nat) (a:Int) (v:AV) (H':AHeap):Prop:=(∃ ov,v=.tuple [.int .u64 (n.load a).2.1,.bool (n.load a).2.2.1,ov,.int .i64 (n.load a).2.2.2.2]/\jJ H H' ov (n.load a).2.2.2.1)/\bR H0 H' r b sv bv (n.load a).1 ks/\Fr (fw r b sv bv) H H'
theorem q6f (h:bR H0 H r b sv bv n ks) (hci:CI n.lines n.c) (hk:n.aq.length<=900000) (hu:n.c.us+1<=1000000) (a:Int):zq M Hv [.ptr r 0,.int .i64 a] H (o8 H0 H r b sv bv n ks a):=by
 refine qp7 ?_;obtain ⟨w0,w2,w12,w14,w24,w30⟩:=qp8 M ⟨none,Hv⟩;simp only [↓qd,qp,aa,reduceIte,reduceEqDiff,w0,w2];refine C3.q (NX (M:=M) h a) λ v H1 ⟨hv,hh⟩=>?_;rw [hv,hh]
 by_cases hm:n.may a
 case neg =>
  have ea:n.load a=(n,0,false,[],2):=by unfold No.load;rw [qg hm]
  have t2:¬ (2:Int)=0:=by decide
  rw [qg hm];unfold o8;rw [ea];simp only [↓qd,qp,aa,reduceIte,reduceEqDiff,t2];exact ⟨⟨.nils,rfl,jJ.nil ..⟩,h,Fr.refl _⟩
 rw [ql hm];have hl:=h.li;obtain ⟨m1,m2⟩:=hm;obtain ⟨a',rfl⟩:=jb m1;have hal:a'<1000000:=by omega
 have eln:No.ln (Int.ofNat a')=((a' / 8:Nat):Int):=rfl;have t0:=xc (show (0:Int)=0 from rfl);simp only [↓qd,qp,aa,reduceIte,reduceEqDiff,t0,w12,uh hal,w14,qi,h.l2];refine C3.q (Ki (M:=M) h.ca hci ((a' / 8:Nat):Int)) λ v H1 ⟨hv,f1⟩=>?_;rw [hv];have hmm:n.may (a':Int):=⟨m1,m2⟩
 unfold nJ;cases hf:n.c.find ((a' / 8:Nat):Int) with
 | none =>
  have ea:n.load (a':Int)=((n.ask 1 ((a' / 8:Nat):Int)).1,0,false,(n.ask 1 ((a' / 8:Nat):Int)).2,0):=by
   unfold No.load;rw [ql hmm];show (match n.c.find ((a' / 8:Nat):Int) with|none=>_|some _=>_)=_;rw [hf];rfl
  have fb:Fr Em H ((H1.alloc (OR (ao .zero) qr)).set H1.next (OR (ao .zero) qr)):=f1.trans (tt _ _) λ _ q=>q.elim;simp only [↓qd,qp,aa,reduceIte,reduceEqDiff,qn,eZ,eS];refine C3.q (NR (M:=M) (h.em fb) hk 1 ((a' / 8:Nat):Int)) λ v H2 ⟨hms,hn,hfr⟩=>?_;unfold o8;rw [ea];simp only [↓qd,qp,aa,reduceIte,reduceEqDiff];refine ⟨⟨v,rfl,hms.1,λ q=>xj fb.next (hms.2 q)⟩,hn,gi (jN fb) hfr⟩
 | some e =>
  obtain ⟨i,hp,rfl⟩:=CS hf;have fb:Fr Em H ((H1.alloc (OR (ao .zero) qr)).set H1.next (OR (ao (n.c.en i)) qr)):=f1.trans (tt _ _) λ _ q=>q.elim;obtain ⟨Hb,hHb⟩:∃ X,X=(H1.alloc (OR (ao .zero) qr)).set H1.next (OR (ao (n.c.en i)) qr):=⟨_,rfl⟩
  rw [<-hHb] at fb;have hb:=h.em fb;have ft:=hb.ft
  -- behind the mark
  have fin:∀ {Hc:AHeap} {c:Ca},bR H0 Hc r b sv bv { n with c:=c } ks->CI n.lines c->c.us+1<=1000000->Fr (fw r b sv bv) H Hc->c=(if n.live then n.c.mark ((a' / 8:Nat):Int) false else n.c)->c.pos ((a' / 8:Nat):Int)=some i -> ∀ {E:Env},lk E 0=some (.ptr r 0)->lk E 1=some (.int .i64 (a':Int)) ->
   W M ⟨none,Hv⟩ (qp6 30) true (c6 M [.tmp 4,.tmp 5,.tmp 6,.tmp 7] (kO (o8 H0 H r b sv bv n ks (a':Int)))) E [] Hc:=by
   intro Hc c hc hci' hus hfr ec hpos E h0 h1;have ea:n.load (a':Int)=({ n with c:=(c.word a').1 },(c.word a').2.getD 0,true,[],0):=by
    unfold No.load;rw [ql hmm];show (match n.c.find ((a' / 8:Nat):Int) with|none=>_|some _=>_)=_;rw [hf,ec];rfl
   simp only [↓qd,qp,aa,reduceIte,reduceEqDiff,w30,h0,qi,hc.l2,h1];refine C3.q (qzn (M:=M) hc.ca hci' hus hal) λ v H3 ⟨hv,h3,f3⟩=>?_;rw [hv];have hw:(c.word a').2=some ((c.en i).d.get (a' % 8)):=by unfold Ca.word;rw [hpos]
   unfold rX;rw [hpos];have hlen:(c.word a').1.sl.length<=40:=by
    have:=hc.len;unfold Ca.word;rw [hpos];show (c.sl.set i _).length<=40;rw [qv];exact this
   have hn:=hc.fp h3 f3 hlen;unfold o8;rw [ea,hw];simp only [↓qd,qp,aa,reduceIte,reduceEqDiff,qn];exact ⟨⟨.nils,rfl,jJ.nil ..⟩,hn,gi hfr (qO f3)⟩
  cases hlv:n.live with
  | false =>
   rw [hlv] at ft;simp only [↓qd,qp,aa,reduceIte,reduceEqDiff,qn,eZ,eS,<-hHb,w24,qi,ft];exact fin (c:=n.c) (by have:({ n with c:=n.c }:No)=n:=rfl;rw [this];exact hb) hci hu (jN fb) (by rw [hlv];rfl) hp rfl rfl
  | true =>
   rw [hlv] at ft;simp only [↓qd,qp,aa,reduceIte,reduceEqDiff,qn,eZ,eS,<-hHb,w24,qi,ft,hb.l2];refine C3.q (qyn (M:=M) hb.ca hci ((a' / 8:Nat):Int) false) λ _ H3 ⟨h3,f3⟩=>?_;have em:n.c.mark ((a' / 8:Nat):Int) false=n.c.set i { n.c.en i with r:=true }:=by unfold Ca.mark;rw [qg (by decide),lF,hp]
   have hlen:(n.c.mark ((a' / 8:Nat):Int) false).sl.length<=40:=by rw [em];show (n.c.sl.set i _).length<=40;rw [qv];exact h.len
   have hpos:(n.c.mark ((a' / 8:Nat):Int) false).pos ((a' / 8:Nat):Int)=some i:=by
    rw [em];have sh:Cz n.c { n.c.set i { n.c.en i with r:=true } with us:=n.c.us }:=Cz.set n.c.us rfl rfl;exact (sh.pos _).trans hp
   simp only [↓qd,qp,aa,reduceIte,reduceEqDiff];exact fin (c:=n.c.mark ((a' / 8:Nat):Int) false) (hb.fp h3 f3 hlen) (hci.mark _ _) (by rw [em];exact hu) (gi (jN fb) (qO f3)) (by rw [hlv];rfl) hpos rfl rfl
end
end Go.Am
namespace Go.Am
open Go.Proofs Ca
open Lang (ints)
variable {M:aA} [MK M]
section
variable {H0 H:AHeap} {r b:Nat} {sv bv:AV} {n:No} {ks:List Nat}
theorem q6t {line:Int} (h:n.owned line=true):∃ i,n.c.pos line=some i/\(n.c.en i).st=2:=by
 unfold No.owned at h;cases hf:n.c.find line with
 | none=>rw [hf] at h;cases h
 | some x =>
  rw [hf] at h;obtain ⟨i,hp,rfl⟩:=CS hf;exact ⟨i,hp,by simpa using h⟩
theorem Lg (c:Ca) (line:Int) (wr:Bool):(c.mark line wr).us=c.us/\(c.mark line wr).sl.length=c.sl.length:=by
 unfold Ca.mark;cases wr with
 | true =>
  rw [ql rfl];cases c.gq line 2 with
  | none=>exact ⟨rfl,rfl⟩
  | some i =>
   show (if (c.en i).w then c else c.set i _).us=_/\(if (c.en i).w then c else c.set i _).sl.length=_;split
   ·exact ⟨rfl,rfl⟩
   ·exact ⟨rfl,qv⟩
 | false =>
  rw [qg (by decide)];cases c.gq line 0 with
  | none=>exact ⟨rfl,rfl⟩
  | some i=>exact ⟨rfl,qv⟩
theorem KN (c:Ca) (a:Nat) (y:Int):(c.put a y).sl.length=c.sl.length/\((c.put a y).us=c.us\/(c.put a y).us=c.us+1):=by
 unfold Ca.put;cases c.gq ((a / 8:Nat):Int) 2 with
 | none=>exact ⟨rfl,.inl rfl⟩
 | some i=>exact ⟨qv,.inr rfl⟩
theorem JB (c:Ca) (a:Nat):(c.word a).1.sl.length=c.sl.length/\((c.word a).1.us=c.us\/(c.word a).1.us=c.us+1):=by
 unfold Ca.word;cases c.pos ((a / 8:Nat):Int) with
 | none=>exact ⟨rfl,.inl rfl⟩
 | some i=>exact ⟨qv,.inr rfl⟩
def mL (H0 H:AHeap) (r b:Nat) (sv bv:AV) (n:No) (ks:List Nat) (a y:Int) (v:AV) (H':AHeap):Prop:=(∃ ov,v=.tuple [.bool (n.store a y).2.1,ov,.int .i64 (n.store a y).2.2.2]/\jJ H H' ov (n.store a y).2.2.1)/\bR H0 H' r b sv bv (n.store a y).1 ks/\Fr (fw r b sv bv) H H'
theorem q4g (h:bR H0 H r b sv bv n ks) (hci:CI n.lines n.c) (hk:n.aq.length<=900000) (hu:n.c.us+1<=1000000) (a y:Int):zq M Jg [.ptr r 0,.int .i64 a,.int .u64 y] H (mL H0 H r b sv bv n ks a y):=by
 refine qow ?_;obtain ⟨w0,w2,w12,w14,w22,w28⟩:=qox M ⟨none,Jg⟩;simp only [↓qd,qp,aa,reduceIte,reduceEqDiff,w0,w2];refine C3.q (NX (M:=M) h a) λ v H1 ⟨hv,hh⟩=>?_;rw [hv,hh]
 by_cases hm:n.may a
 case neg =>
  have ea:n.store a y=(n,false,[],2):=by unfold No.store;rw [qg hm]
  have t2:¬ (2:Int)=0:=by decide
  rw [qg hm];unfold mL;rw [ea];simp only [↓qd,qp,aa,reduceIte,reduceEqDiff,t2];exact ⟨⟨.nils,rfl,jJ.nil ..⟩,h,Fr.refl _⟩
 rw [ql hm];have hl:=h.li;obtain ⟨m1,m2⟩:=hm;obtain ⟨a',rfl⟩:=jb m1;have hal:a'<1000000:=by omega
 have hmm:n.may (a':Int):=⟨m1,m2⟩
 have eln:No.ln (a':Int)=((a' / 8:Nat):Int):=rfl;have t0:=xc (show (0:Int)=0 from rfl);simp only [↓qd,qp,aa,reduceIte,reduceEqDiff,t0,w12,uh hal,w14];refine C3.q (qvb (M:=M) (line:=((a' / 8:Nat):Int)) h hci) λ v H1 ⟨hv,f1⟩=>?_;rw [hv];have hb:=h.em f1;cases ho:n.owned ((a' / 8:Nat):Int) with
 | false =>
  have ea:n.store (a':Int) y=((n.ask 2 ((a' / 8:Nat):Int)).1,false,(n.ask 2 ((a' / 8:Nat):Int)).2,0):=by
   unfold No.store;rw [ql hmm,eln,ho];rfl
  simp only [↓qd,qp,aa,reduceIte,reduceEqDiff];refine C3.q (NR (M:=M) hb hk 2 ((a' / 8:Nat):Int)) λ v H2 ⟨hms,hn,hfr⟩=>?_;unfold mL;rw [ea];simp only [↓qd,qp,aa,reduceIte,reduceEqDiff];exact ⟨⟨v,rfl,hms.1,λ q=>xj f1.next (hms.2 q)⟩,hn,gi (jN f1) hfr⟩
 | true =>
  have ft:=hb.ft;have fin:∀ {Hc:AHeap} {c:Ca},bR H0 Hc r b sv bv { n with c:=c } ks->CI n.lines c->c.us+1<=1000000->Fr (fw r b sv bv) H Hc->c=(if n.live then n.c.mark ((a' / 8:Nat):Int) true else n.c) -> ∀ {E:Env},lk E 0=some (.ptr r 0)->lk E 1=some (.int .i64 (a':Int))->lk E 2=some (.int .u64 y) ->
   W M ⟨none,Jg⟩ (qov 28) true (c6 M [.tmp 6,.tmp 7,.tmp 8] (kO (mL H0 H r b sv bv n ks (a':Int) y))) E [] Hc:=by
   intro Hc c hc hci' hus hfr ec E h0 h1 h2;have ea:n.store (a':Int) y=({ n with c:=c.put a' y },true,[],0):=by
    unfold No.store;rw [ql hmm,eln,ho,ql rfl,ec];rfl
   simp only [↓qd,qp,aa,reduceIte,reduceEqDiff,w28,h0,qi,hc.l2,h1,h2];refine C3.q (q2h (M:=M) hc.ca hci' hus hal y) λ v H3 ⟨hv,h3,f3⟩=>?_;have hn:=hc.fp h3 f3 (by rw [(KN c a' y).1];exact hc.len);unfold mL;rw [ea];simp only [↓qd,qp,aa,reduceIte,reduceEqDiff];exact ⟨⟨.nils,rfl,jJ.nil ..⟩,hn,gi hfr (qO f3)⟩
  cases hlv:n.live with
  | false =>
   rw [hlv] at ft;simp only [↓qd,qp,aa,reduceIte,reduceEqDiff,w22,qi,ft];exact fin (c:=n.c) (by have:({ n with c:=n.c }:No)=n:=rfl;rw [this];exact hb) hci hu (jN f1) (by rw [hlv];rfl) rfl rfl rfl
  | true =>
   rw [hlv] at ft;simp only [↓qd,qp,aa,reduceIte,reduceEqDiff,w22,qi,ft,hb.l2];refine C3.q (qyn (M:=M) hb.ca hci ((a' / 8:Nat):Int) true) λ _ H3 ⟨h3,f3⟩=>?_;simp only [↓qd,qp,aa,reduceIte,reduceEqDiff];exact fin (c:=n.c.mark ((a' / 8:Nat):Int) true) (hb.fp h3 f3 (by rw [(Lg ..).2];exact h.len)) (hci.mark _ _) (by rw [(Lg ..).1];exact hu) (gi (jN f1) (qO f3)) (by rw [hlv];rfl) rfl rfl rfl
theorem Nj (h:bR H0 H r b sv bv n ks) (x:En) (too:Bool):zq M qju [.ptr r 0,.agg (ao x),.bool too] H λ _ H'=>bR H0 H' r b sv bv (n.lost x too) ks/\Fr (fw r b sv bv) H H':=by
 refine qqd ?_;obtain ⟨H1,e1⟩:∃ X,X=H.alloc (OR (ao x) qr):=⟨_,rfl⟩
 have f1:Fr Em H H1:=by rw [e1];exact (Fr.refl H).alloc _
 have g1:H1.get H.next=some (OR (ao x) qr):=by rw [e1,qw]
 have l0:Op.ae [.ptr H.next 0] H1=some (.int .i64 x.line):=xp (qz g1) 0;have l2:Op.ae [.ptr H.next 2] H1=some (.bool x.r):=xp (qz g1) 2;have l3:Op.ae [.ptr H.next 3] H1=some (.bool x.w):=xp (qz g1) 3;have h1:=h.em f1;have stay:(x.w || (x.r && too))=false->n.lost x too=n:=λ q=>by unfold No.lost;rw [q];rfl
 have go2:(x.w || (x.r && too))=true->x.line=0->n.lost x too=n.dO 2:=λ q q'=>by unfold No.lost;rw [q,ql rfl,ql q']
 have go1:(x.w || (x.r && too))=true -> ¬ x.line=0->n.lost x too=n.dO 1:=λ q q'=>by unfold No.lost;rw [q,ql rfl,qg q']
 cases hw:x.w with
 | true =>
  rw [hw] at l3
  by_cases q:x.line=0
  ·rw [go2 (by rw [hw];rfl) q];simp only [↓qd,qp,aa,reduceIte,reduceEqDiff,FU,xk,<-e1,l3,l0,xc q];refine C3.q (CB (M:=M) h1 2) λ _ H2 ⟨h2,f2⟩=>?_;simp only [↓qd,qp,aa,reduceIte,reduceEqDiff];exact ⟨h2,gi (jN f1) f2⟩
  ·rw [go1 (by rw [hw];rfl) q];simp only [↓qd,qp,aa,reduceIte,reduceEqDiff,FU,xk,<-e1,l3,l0,q];refine C3.q (CB (M:=M) h1 1) λ _ H2 ⟨h2,f2⟩=>?_;simp only [↓qd,qp,aa,reduceIte,reduceEqDiff];exact ⟨h2,gi (jN f1) f2⟩
 | false =>
  rw [hw] at l3;cases hr:x.r with
  | false =>
   rw [hr] at l2;rw [stay (by rw [hw,hr];rfl)];simp only [↓qd,qp,aa,reduceIte,reduceEqDiff,FU,xk,<-e1,l3,l2];exact ⟨h1,jN f1⟩
  | true =>
   rw [hr] at l2;cases too with
   | false =>
    rw [stay (by rw [hw,hr];rfl)];simp only [↓qd,qp,aa,reduceIte,reduceEqDiff,FU,xk,<-e1,l3,l2];exact ⟨h1,jN f1⟩
   | true =>
    by_cases q:x.line=0
    ·rw [go2 (by rw [hw,hr];rfl) q];simp only [↓qd,qp,aa,reduceIte,reduceEqDiff,FU,xk,<-e1,l3,l2,l0,xc q];refine C3.q (CB (M:=M) h1 2) λ _ H2 ⟨h2,f2⟩=>?_;simp only [↓qd,qp,aa,reduceIte,reduceEqDiff];exact ⟨h2,gi (jN f1) f2⟩
    ·rw [go1 (by rw [hw,hr];rfl) q];simp only [↓qd,qp,aa,reduceIte,reduceEqDiff,FU,xk,<-e1,l3,l2,l0,q];refine C3.q (CB (M:=M) h1 1) λ _ H2 ⟨h2,f2⟩=>?_;simp only [↓qd,qp,aa,reduceIte,reduceEqDiff];exact ⟨h2,gi (jN f1) f2⟩
end
end Go.Am
