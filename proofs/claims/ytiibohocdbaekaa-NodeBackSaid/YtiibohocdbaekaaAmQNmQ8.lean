/- NmQ8: NiA NiB NiC NiD. -/
import Derived.Test.YtiibohocdbaekaaAmQCodeQ
import Derived.Test.YtiibohocdbaekaaAmQNmQ7
import Derived.Test.YtiibohocdbaekaaAmQNmQ0
set_option linter.unusedVariables false
set_option linter.unusedSimpArgs false
set_option linter.unusedSectionVars false
set_option maxRecDepth 100000
namespace Go.Am
open Go.Proofs Ca
open Lang (ints)
variable {M:Mac} [MK M]
def ixOf (ks:List Nat) (z:Int):Int:=match firstN (fun i=>(ks[i]?.getD 0:Int) == z) ks.length with
 | some i=>i
 | none=>-1
section
variable {H H0:AHeap} {v:AV} {ks:List Nat}
theorem qxj (h:SlT encZ 1 H v ks) {i:Nat} (hi:i<ks.length):Op.indexSl 1 [v,.int .i64 (i:Int)]=some (.ptr (slB v) (slO 1 v i))/\Op.load1 [.ptr (slB v) (slO 1 v i)] H=some (.int .i64 (ks[i]?.getD 0:Nat)):=by
 have hx:ks[i]? = some ks[i]:=by simp [hi]
 refine ⟨h.idx hx rfl .i64,?_⟩
 rw [h.load0 encZ_len hx (by decide),hx];rfl
theorem q30 (h:SlT encZ 1 H v ks) (hl:ks.length<=1000000) (z:Int):yf M qbe [v,.int .i64 z] H fun r H'=>r=.int .i64 (ixOf ks z)/\H'=H:=by
 refine qps ?_
 obtain ⟨w0,w2,w25,w7,w13,w24⟩:=qpt M ⟨none,qbe⟩
 simp only [↓qj,xh,reduceIte,Nat.reduceEqDiff,w0,w2,h.len]
 refine LOOP3.intro (fun n E Hx=>∃ i:Nat,E=[(8,.int .i64 (i:Int)),(7,.int .i64 ((ks.length:Nat):Int)),(0,v),(1,.int .i64 z)]/\n=ks.length-i/\i<=ks.length/\Hx=H /\ ∀ k,k<i->((ks[k]?.getD 0:Int) == z)=false) ?_ ?_
 ·exact ⟨_,_,⟨0,rfl,rfl,zl _,rfl,fun k hk=>by omega⟩,by simp only [↓qj,xh,reduceIte,Nat.reduceEqDiff]⟩
 rintro n E Hx ⟨i,rfl,rfl,hi,rfl,hno⟩
 rcases z8 i ks.length with hlt|hge
 ·have q1:(i:Int)<((ks.length:Nat):Int):=by omega
  obtain ⟨ix,ld⟩:=qxj h hlt
  have wj:wrapI .i64 ((i:Int)+1)=((i+1:Nat):Int):=by rw [xr (by omega) (by omega)];omega
  by_cases q:z=((ks[i]?.getD 0:Nat):Int)
  ·simp only [↓qj,xh,reduceIte,Nat.reduceEqDiff,w7,q1,w13,ix,ld,ja q]
   unfold ixOf
   rw [qhl hlt (by simp [<-q]) hno]
  ·simp only [↓qj,xh,reduceIte,Nat.reduceEqDiff,w7,q1,w13,ix,ld,q,w24,wj]
   refine ⟨_,_,⟨i+1,rfl,rfl,by omega,fun k hk=>?_⟩,by simp only [↓qj,xh,reduceIte,Nat.reduceEqDiff],by omega⟩
   by_cases e:k=i
   ·rw [e];simpa using fun w=>q w.symm
   ·exact hno k (by omega)
 ·have q1:¬ (i:Int)<((ks.length:Nat):Int):=by omega
  have e:i=ks.length:=by omega
  subst e
  simp only [↓qj,xh,reduceIte,Nat.reduceEqDiff,w7,q1,w25]
  unfold ixOf
  rw [qhk hno]
theorem ixOf_ge {z:Int}:0<=ixOf ks z ↔ z ∈ ints ks:=by
 unfold ixOf
 cases hf:firstN (fun i=>(ks[i]?.getD 0:Int) == z) ks.length with
 | some i =>
  obtain ⟨a,b,-⟩:=qhj hf
  refine ⟨fun _=>?_,fun _=>by show (0:Int)<=(i:Nat);omega⟩
  have hx:ks[i]? = some ks[i]:=by simp [a]
  rw [hx] at b
  have b:((ks[i]:Nat):Int)=z:=by simpa using b
  rw [<-b]
  exact List.mem_map.2 ⟨ks[i],jf hx,rfl⟩
 | none =>
  refine ⟨fun q=>by have q:(0:Int) <= -1:=q;omega,fun q=>?_⟩
  exfalso
  obtain ⟨k,hk,e⟩:=List.mem_map.1 q
  obtain ⟨i,hi⟩:=qbl hk
  have:=qze hf i (qi.1 hi).1
  rw [hi] at this
  have e:((k:Nat):Int)=z:=e
  simp [e] at this
theorem qo1 (h:SlT encZ 1 H v ks) (hl:ks.length<=1000000) (z:Int):yf M vq [v,.int .i64 z] H fun r H'=>r=.bool (decide (z ∈ ints ks))/\H'=H:=by
 refine qnj ?_
 simp only [↓qj,xh,reduceIte,Nat.reduceEqDiff,qnk]
 refine C3.q (q30 (M:=M) h hl z) fun r H1 ⟨hr,hh⟩=>?_
 rw [hr,hh]
 simp only [↓qj,xh,reduceIte,Nat.reduceEqDiff]
 exact congrArg AV.bool (decide_eq_decide.2 ixOf_ge)
theorem qwj {t:Nat} {line:Int} (x:Int) (hl:Op.load1 [.ptr t 2] H=some (.int .i64 line)):yf M qbb [.int .i64 x,.ptr t 0] H fun r H'=>r=.bool (decide (x=line))/\H'=H:=by
 refine qpl ?_
 by_cases q:x=line
 ·simp only [↓qj,xh,reduceIte,Nat.reduceEqDiff,qjy,hl,ja q]
 ·simp only [↓qj,xh,reduceIte,Nat.reduceEqDiff,qjy,hl,q]
abbrev delF (t:Nat):AV:=.fn (.func qbb) [] [.ptr t 0]
theorem q1d {t:Nat} {line:Int} (hl:Op.load1 [.ptr t 2] H=some (.int .i64 line)) (h:SlT encZ 1 H v ks) (hk:ks.length<=1000000):yf M yy [v,delF t] H fun r H'=>r=.int .i64 (ixOf ks line)/\H'=H:=by
 refine qme ?_
 obtain ⟨w0,w2,w25,w7,w13,w24⟩:=qmf M ⟨none,yy⟩
 simp only [↓qj,xh,reduceIte,Nat.reduceEqDiff,w0,w2,h.len]
 refine LOOP3.intro (fun n E Hx=>∃ i:Nat,E=[(8,.int .i64 (i:Int)),(7,.int .i64 ((ks.length:Nat):Int)),(0,v),(1,delF t)]/\n=ks.length-i/\i<=ks.length/\Hx=H /\ ∀ k,k<i->((ks[k]?.getD 0:Int) == line)=false) ?_ ?_
 ·exact ⟨_,_,⟨0,rfl,rfl,zl _,rfl,fun k hk=>by omega⟩,by simp only [↓qj,xh,reduceIte,Nat.reduceEqDiff]⟩
 rintro n E Hx ⟨i,rfl,rfl,hi,rfl,hno⟩
 rcases z8 i ks.length with hlt|hge
 ·have q1:(i:Int)<((ks.length:Nat):Int):=by omega
  obtain ⟨ix,ld⟩:=qxj h hlt
  have wj:wrapI .i64 ((i:Int)+1)=((i+1:Nat):Int):=by rw [xr (by omega) (by omega)];omega
  simp only [↓qj,xh,reduceIte,Nat.reduceEqDiff,w7,q1,w13,ix,ld]
  refine C3.q (qwj (M:=M) _ hl) fun r H1 ⟨hr,hh⟩=>?_
  rw [hr,hh]
  by_cases q:((ks[i]?.getD 0:Nat):Int)=line
  ·simp only [↓qj,xh,reduceIte,Nat.reduceEqDiff,q]
   unfold ixOf
   rw [qhl hlt (by simp [q]) hno]
  ·simp only [↓qj,xh,reduceIte,Nat.reduceEqDiff,q,w24,wj]
   refine ⟨_,_,⟨i+1,rfl,rfl,by omega,fun k hk=>?_⟩,by simp only [↓qj,xh,reduceIte,Nat.reduceEqDiff],by omega⟩
   by_cases e:k=i
   ·rw [e];simpa using q
   ·exact hno k (by omega)
 ·have q1:¬ (i:Int)<((ks.length:Nat):Int):=by omega
  have e:i=ks.length:=by omega
  subst e
  simp only [↓qj,xh,reduceIte,Nat.reduceEqDiff,w7,q1,w25]
  unfold ixOf
  rw [qhk hno]
theorem q5k (ks:List Nat) (rest:List AV) {i:Nat} (hi:i<ks.length) (y:Nat):(ks.flatMap encZ++rest).take i ++ [AV.int .i64 (y:Int)]++(ks.flatMap encZ++rest).drop (i+1)=(ks.set i y).flatMap encZ++rest:=by
 have hl:=qcp ks
 rw [j9 (by omega),ki (by omega),<-zj]
 congr 1
 rw [qkg,qkg,List.map_set,qa6,xc (by rw [zd];exact hi)]
 simp
theorem Stk.set1 {e:Nat} (h:Stk e H0 H v ks) {i:Nat} (hi:i<ks.length) (y:Nat):∃ H',Op.store 1 [.ptr (slB v) (slO 1 v i),.int .i64 (y:Int)] H=some (.undef,H')/\Stk e H0 H' v (ks.set i y)/\Fr (OnS v) H H':=by
 rcases h.own with ⟨rfl,rfl⟩|⟨b,m,rest,rfl,q1,q2,q3,q4⟩
 ·simp at hi
 ·have st:=qou q4 (o:=i) (n:=1) (v:=.int .i64 (y:Int)) rfl (by rw [qu,qcp];omega) rfl
  have hc:AV.cells (.int .i64 (y:Int))=[.int .i64 (y:Int)]:=rfl
  rw [hc,q5k ks rest hi] at st
  have ho:slO 1 (AV.gslice b 0 m 1 0 ks.length) i=i:=by simp [slO]
  rw [ho]
  refine ⟨_,st,⟨.inr ⟨b,m,rest,by rw [qt],q1,q2,by rw [qt];exact q3,xj ..⟩,h.fr.set (.inr q2) _⟩,(Fr.refl H).set (W:=OnS (AV.gslice b 0 m 1 0 ks.length)) (.inl ⟨by simp,rfl⟩) _⟩
theorem q23:∀ n:Nat,repl n [AV.int .i64 0]=(List.replicate n 0).flatMap encZ
 | 0=>rfl
 | n+1=>by rw [repl,qc1,j4,<-q23 n];rfl
theorem Stk.clr {e:Nat} (h:Stk e H0 H v ks) {k:Nat} (hk:k<=ks.length):∃ v2 H',Op.sliceSl 1 [some 0,none,none] [v,.int .i64 (k:Int)]=some v2/\Op.clearSl [.int .i64 0] [v2] H=some (.tuple [],H')/\Stk e H0 H' v (ks.take k++List.replicate (ks.length-k) 0)/\Fr (OnS v) H H':=by
 rcases h.own with ⟨rfl,rfl⟩|⟨b,m,rest,rfl,q1,q2,q3,q4⟩
 ·have:k=0:=by simpa using hk
  subst this
  have hbn:bound none 0 0=some 0:=rfl
  refine ⟨.nils,H,by simp only [Op.sliceSl,arg,qcq,ke,qf,sliceV,hbn];rfl,rfl,h,Fr.refl _⟩
 ·have e1:∀ n,Nat.beq n n=true:=fun n=>by simp
  have hb1:∀ d m,bound none d m=some d:=fun _ _=>rfl
  refine ⟨.gslice b (0+k) m 1 (cond (Nat.beq k 0) 0 (0*1)) (ks.length-k),?_⟩
  have sl:Op.sliceSl 1 [some 0,none,none] [AV.gslice b 0 m 1 0 ks.length,.int .i64 (k:Int)]=some (.gslice b (0+k) m 1 (cond (Nat.beq k 0) 0 (0*1)) (ks.length-k)):=by
   simp only [Op.sliceSl,arg,qcq,ke,qf,sliceV,hb1,qfa (z:=(k:Int)) (k:=k) rfl hk .i64,e1,qb6 (show ks.length<=m-0 by omega),qb6 (zl m),ko,qz]
  have hle:(ks.take k).length=k:=by rw [zm];omega
  by_cases hz:ks.length-k=0
  ·refine ⟨H,sl,?_,?_,Fr.refl _⟩
   ·rw [hz];rfl
   ·have e2:ks.take k++List.replicate (ks.length-k) 0=ks:=by rw [hz,List.replicate_zero,jb,zb (by omega)]
    rw [e2];exact h
  ·have hlv:lenV (.gslice b (0+k) m 1 (cond (Nat.beq k 0) 0 (0*1)) (ks.length-k))=some (ks.length-k):=rfl
   have hb0:Nat.beq (ks.length-k) 0=false:=by cases hq:Nat.beq (ks.length-k) 0 with|false=>rfl|true=>rw [zz] at hq;exact absurd hq hz
   have hlt:Nat.blt 0 (ks.length-k)=true:=by unfold Nat.blt;exact qb6 (by omega)
   have hlt2:Nat.blt (0+k+0) m=true:=by unfold Nat.blt;exact qb6 (by omega)
   have he:elemAt 1 (.gslice b (0+k) m 1 (cond (Nat.beq k 0) 0 (0*1)) (ks.length-k)) 0=some (b,(0+k)*1+0*1):=by
    simp only [elemAt,hlt,e1,hlt2,ko,qz]
   have hst:H.store b ((0+k)*1+0*1) (repl (ks.length-k) [.int .i64 0])=some (H.set b (.grown m 1 ((ks.take k++List.replicate (ks.length-k) 0).flatMap encZ++rest) e (0,0))):=by
    have ha:allOne (repl (ks.length-k) [AV.int .i64 0])=true:=by
     rw [q23,qgo,qkg];simp [oneCell]
    have ht:thawed (0,0) ((0+k)*1+0*1) (lenL (repl (ks.length-k) [AV.int .i64 0]))=true:=by simp [thawed]
    simp only [AHeap.store,ha,qz,q4,ht,qj0]
    have hrl:(repl (ks.length-k) [AV.int .i64 0]).length=ks.length-k:=by rw [q23,qcp,qaw]
    have ek:(0+k)*1+0*1=k:=by omega
    have t1:(ks.flatMap encZ++rest).take k=(ks.take k).flatMap encZ:=by
     rw [j9 (by rw [qcp];exact hk),qkg,qkg,qgn]
    have t2:(ks.flatMap encZ++rest).drop (k+(ks.length-k))=rest:=by
     rw [show k+(ks.length-k)=(ks.flatMap encZ).length by rw [qcp];omega,List.drop_left]
    rw [ek,xc (by rw [hrl,qu,qcp];omega),qf,hrl,t1,t2,q23,<-qbv]
   refine ⟨H.set b (.grown m 1 ((ks.take k++List.replicate (ks.length-k) 0).flatMap encZ++rest) e (0,0)),sl,?_,⟨.inr ⟨b,m,rest,?_,q1,q2,?_,xj ..⟩,h.fr.set (.inr q2) _⟩,(Fr.refl H).set (W:=OnS (AV.gslice b 0 m 1 0 ks.length)) (.inl ⟨by simp,rfl⟩) _⟩
   ·have hz1:[AV.int .i64 0].length=1:=rfl
    simp only [Op.clearSl,hlv,qf,hb0,xy,hz1,he,hst]
   ·rw [qu,hle,qaw];congr 1;omega
   ·rw [qu,hle,qaw];omega
def offL (ks:List Nat) (line:Int):List Nat:=ks.filter fun k=>((k:Nat):Int) != line
theorem q01 {t:Nat} {line:Int} {e:Nat} (hl:∀ {Hx:AHeap},Fr (OnS v) H Hx->Op.load1 [.ptr t 2] Hx=some (.int .i64 line)) (h:Stk e H0 H v ks) (hk:ks.length<=1000000) :
 yf M ym [v,delF t] H fun r H'=>Stk e H0 H' r (offL ks line)/\Fr (OnS v) H H' /\ ∀ x,OnS r x->OnS v x:=by
 refine qll ?_
 obtain ⟨w0,w4,w12,w35,w17,w23,w34⟩:=qlm M ⟨none,ym⟩
 simp only [↓qj,xh,reduceIte,Nat.reduceEqDiff,w0]
 refine C3.q (q1d (M:=M) (hl (Fr.refl _)) h.sl hk) fun r H1 ⟨hr,hh⟩=>?_
 rw [hr,hh]
 cases hf:firstN (fun i=>(ks[i]?.getD 0:Int) == line) ks.length with
 | none =>
  have e1:ixOf ks line = -1:=by unfold ixOf;rw [hf]
  have e2:offL ks line=ks:=by
   unfold offL
   rw [List.filter_eq_self]
   intro k hk'
   obtain ⟨i,hi⟩:=qbl hk'
   have:=qze hf i (qi.1 hi).1
   rw [hi] at this
   simpa using this
  rw [e1,e2]
  have t1:=ja (show (-1:Int) = -1 from rfl)
  simp only [↓qj,xh,reduceIte,Nat.reduceEqDiff,w4,t1]
  exact ⟨h,Fr.refl _,fun x q=>q⟩
 | some i0 =>
  obtain ⟨a1,a2,a3⟩:=qhj hf
  have e1:ixOf ks line=(i0:Int):=by unfold ixOf;rw [hf]
  rw [e1]
  have t1:¬ (i0:Int) = -1:=by omega
  have wj:wrapI .i64 ((i0:Int)+1)=((i0+1:Nat):Int):=by rw [xr (by omega) (by omega)];omega
  -- what is kept of the first ones
  have keep:∀ j,(ks.take (j+1)).filter (fun k=>((k:Nat):Int) != line)=(ks.take j).filter (fun k=>((k:Nat):Int) != line)++(match ks[j]? with|none=>[] | some k=>if ((k:Nat):Int)=line then [] else [k]):=fun j=>by
   rw [qd6,List.filter_append]
   congr 1
   cases ks[j]? with
   | none=>rfl
   | some k=>by_cases q:((k:Nat):Int)=line<;>simp [q]
  have h0:(ks.take i0).filter (fun k=>((k:Nat):Int) != line)=ks.take i0:=by
   rw [List.filter_eq_self]
   intro k hk'
   obtain ⟨i,hi⟩:=qbl hk'
   rw [j6] at hi
   split at hi
   ·rename_i hlt
    have:=a3 i hlt
    rw [hi] at this
    simpa using this
   ·cases hi
  have hx0:ks[i0]? = some ks[i0]:=by simp [a1]
  have h1:(ks.take (i0+1)).filter (fun k=>((k:Nat):Int) != line)=ks.take i0:=by
   rw [keep,h0,hx0]
   rw [hx0] at a2
   have a2:((ks[i0]:Nat):Int)=line:=by simpa using a2
   simp [a2]
  simp only [↓qj,xh,reduceIte,Nat.reduceEqDiff,w4,t1,w12,wj]
  refine LOOP3.intro (fun n E Hx=>∃ (i j:Nat) (zs:List Nat),E=[(6,.int .i64 (j:Int)),(5,.int .i64 (i:Int)),(0,v),(1,delF t)]/\n=ks.length-j/\i<j/\j<=ks.length/\zs.length=ks.length/\zs.take i=(ks.take j).filter (fun k=>((k:Nat):Int) != line)/\zs.drop j=ks.drop j/\Stk e H0 Hx v zs/\Fr (OnS v) H Hx) ?_ ?_
  ·exact ⟨_,_,⟨i0,i0+1,ks,rfl,rfl,by omega,by omega,rfl,h1.symm,rfl,h,Fr.refl _⟩,by simp only [↓qj,xh,reduceIte,Nat.reduceEqDiff]⟩
  rintro n E Hx ⟨i,j,zs,rfl,rfl,hij,hj,hzl,hzt,hzd,hs,hfr⟩
  have hln:=hs.sl.len
  rw [hzl] at hln
  rcases z8 j ks.length with hlt|hge
  ·have q1:(j:Int)<((ks.length:Nat):Int):=by omega
   obtain ⟨ix,ld⟩:=qxj hs.sl (i:=j) (by omega)
   obtain ⟨ix',-⟩:=qxj hs.sl (i:=i) (by omega)
   have hzj:zs[j]? = ks[j]?:=by
    have:=congrArg (fun l=>l[0]?) hzd
    simpa [j5] using this
   obtain ⟨k,hkj⟩:∃ k,ks[j]? = some k:=⟨ks[j],by simp [hlt]⟩
   rw [hzj,hkj] at ld
   have ld:Op.load1 [.ptr (slB v) (slO 1 v j)] Hx=some (.int .i64 (k:Int)):=ld
   have wj:wrapI .i64 ((j:Int)+1)=((j+1:Nat):Int):=by rw [xr (by omega) (by omega)];omega
   have wi:wrapI .i64 ((i:Int)+1)=((i+1:Nat):Int):=by rw [xr (by omega) (by omega)];omega
   have hd2:∀ l:List Nat,l.drop (j+1)=(l.drop j).drop 1:=fun l=>by rw [qa5]
   simp only [↓qj,xh,reduceIte,Nat.reduceEqDiff,w17,hln,q1,w23,ix,ld]
   refine C3.q (qwj (M:=M) _ (hl hfr)) fun r H2 ⟨hr,hh⟩=>?_
   rw [hr,hh]
   by_cases q:(k:Int)=line
   ·simp only [↓qj,xh,reduceIte,Nat.reduceEqDiff,ja q,w34,wj]
    exact ⟨_,_,⟨i,j+1,zs,rfl,rfl,by omega,by omega,hzl,by rw [keep,hkj,hzt];simp [q],by rw [hd2,hzd,<-hd2],hs,hfr⟩,by simp only [↓qj,xh,reduceIte,Nat.reduceEqDiff],by omega⟩
   ·obtain ⟨H3,s3,hs3,f3⟩:=hs.set1 (i:=i) (by omega) k
    simp only [↓qj,xh,reduceIte,Nat.reduceEqDiff,q,ix',s3,wi,w34,wj]
    refine ⟨_,_,⟨i+1,j+1,zs.set i k,rfl,rfl,by omega,by omega,by rw [qt];exact hzl,?_,?_,hs3,hfr.trans f3 fun _ q=>.inl q⟩,by simp only [↓qj,xh,reduceIte,Nat.reduceEqDiff],by omega⟩
    ·rw [keep,hkj,<-hzt,qd6,xn (by omega),List.take_set_of_le (qe i)]
     simp [q]
    ·rw [List.drop_set_of_lt (by omega),hd2,hzd,<-hd2]
  ·have q1:¬ (j:Int)<((ks.length:Nat):Int):=by omega
   have ej:j=ks.length:=by omega
   subst ej
   rw [zb (qe _)] at hzt
   obtain ⟨v2,H3,c1,c2,c3,c4⟩:=hs.clr (k:=i) (by omega)
   obtain ⟨v3,d1,d2,d3⟩:=c3.cut (k:=i) (by rw [qu,zm,qaw];omega) rfl .i64
   have ef:(zs.take i++List.replicate (zs.length-i) 0).take i=offL ks line:=by
    rw [j9 (by rw [zm];omega),List.take_take,Nat.min_self,hzt];rfl
   rw [ef] at d2
   simp only [↓qj,xh,reduceIte,Nat.reduceEqDiff,w17,hln,q1,w35,c1,c2,d1]
   exact ⟨d2,hfr.trans c4 fun _ q=>.inl q,d3⟩
end
end Go.Am
namespace Go.Am
open Go.Proofs Ca
open Lang (ints)
variable {M:Mac} [MK M]
def encM (m:Mg):List AV:=.int .i64 m.k::.int .i64 m.core::.int .i64 m.line::enL m.d
theorem qan (m:Mg):(encM m).length=11:=by simp [encM,enL,m.d.h]
theorem qnq (m:Mg):allOne (encM m)=true:=by rw [qgo];simp [encM,enL,oneCell]
def noC (n:No) (b:Nat) (bv:AV):List AV:=.int .i64 n.core::.int .i64 n.lines::.ptr b 0::(encM n.out ++ [bv,.bool n.live,.int .i64 n.code])
structure NoR (H0 H:AHeap) (r b:Nat) (sv bv:AV) (n:No) (ks:List Nat):Prop where
 row:H.get r=some (OR (noC n b bv) qhf)
 lt:r<H.next
 ca:CaR H b sv n.c
 bk:Stk T_int H0 H bv ks
 eq:n.backs=ints ks
 lr:H0.next<=r
 lb:H0.next<=b
 ls:H0.next<=slB sv
 n1:r ≠ b
 n2:r ≠ slB sv
 o1:¬ OnS bv r
 o2:¬ OnS bv b
 o3:¬ OnS bv (slB sv)
 li:2<=n.lines/\n.lines<=64
 len:n.c.sl.length<=40
def NoW (r b:Nat) (sv bv:AV):Nat->Prop:=fun x=>x=r\/CaW b sv x\/OnS bv x
def NoT (H0 H:AHeap) (r b:Nat) (sv bv:AV) (n':No) (H':AHeap):Prop:=∃ bv' ks',NoR H0 H' r b sv bv' n' ks'/\Fr (NoW r b sv bv) H H' /\ ∀ x,OnS bv' x->OnS bv x\/H.next<=x
section
variable {H0 H:AHeap} {r b:Nat} {sv bv:AV} {n:No} {ks:List Nat}
theorem NoR.em {H':AHeap} (h:NoR H0 H r b sv bv n ks) (f:Fr Em H H'):NoR H0 H' r b sv bv n ks :=
 ⟨by rw [f.keep _ h.lt id];exact h.row,ql h.lt f.next,h.ca.em f,h.bk.em f,h.eq,h.lr,h.lb,h.ls,h.n1,h.n2,h.o1,h.o2,h.o3,h.li,h.len⟩
theorem NoR.same (h:NoR H0 H r b sv bv n ks) {H':AHeap} (f:Fr Em H H'):NoT H0 H r b sv bv n H':=⟨bv,ks,h.em f,f.mono fun _ _ q=>q.elim,fun x q=>.inl q⟩
theorem qpg (n:No) (b:Nat) (bv:AV):(noC n b bv)[0]? = some (.int .i64 n.core)/\(noC n b bv)[1]? = some (.int .i64 n.lines)/\(noC n b bv)[2]? = some (.ptr b 0)/\(noC n b bv)[3]? = some (.int .i64 n.out.k)/\(noC n b bv)[14]? = some bv/\(noC n b bv)[15]? = some (.bool n.live)/\(noC n b bv)[16]? = some (.int .i64 n.code)/\((noC n b bv).drop 3).take 11=encM n.out/\(noC n b bv).length=17:=by
 obtain ⟨core,lines,c,⟨k,co,l,⟨d,hd⟩⟩,backs,live,code⟩:=n
 match d,hd with
 | [d0,d1,d2,d3,d4,d5,d6,d7],_=>exact ⟨rfl,rfl,rfl,rfl,rfl,rfl,rfl,rfl,rfl⟩
theorem NoR.ld (h:NoR H0 H r b sv bv n ks) (k:Nat):Op.load1 [.ptr r k] H=(noC n b bv)[k]?:=zw (xd h.row) k
theorem NoR.l0 (h:NoR H0 H r b sv bv n ks):Op.load1 [.ptr r 0] H=some (.int .i64 n.core):=(h.ld 0).trans (qpg n b bv).1
theorem NoR.l1 (h:NoR H0 H r b sv bv n ks):Op.load1 [.ptr r 1] H=some (.int .i64 n.lines):=(h.ld 1).trans (qpg n b bv).2.1
theorem NoR.l2 (h:NoR H0 H r b sv bv n ks):Op.load1 [.ptr r 2] H=some (.ptr b 0):=(h.ld 2).trans (qpg n b bv).2.2.1
theorem NoR.l3 (h:NoR H0 H r b sv bv n ks):Op.load1 [.ptr r 3] H=some (.int .i64 n.out.k):=(h.ld 3).trans (qpg n b bv).2.2.2.1
theorem NoR.l14 (h:NoR H0 H r b sv bv n ks):Op.load1 [.ptr r 14] H=some bv:=(h.ld 14).trans (qpg n b bv).2.2.2.2.1
theorem NoR.l15 (h:NoR H0 H r b sv bv n ks):Op.load1 [.ptr r 15] H=some (.bool n.live):=(h.ld 15).trans (qpg n b bv).2.2.2.2.2.1
theorem NoR.lo (h:NoR H0 H r b sv bv n ks):Op.loadN 11 [.ptr r 3] H=some (.agg (encM n.out)):=by
 obtain ⟨-,-,-,-,-,-,-,e,l⟩:=qpg n b bv
 rw [qhz (xd h.row) (by rw [l];decide),e]
theorem NoR.put (h:NoR H0 H r b sv bv n ks) {n':No} {o m:Nat} {u:AV} (hu:u.cells.length=m) (ho:allOne u.cells=true) (hm:o+m<=17) (e:(noC n b bv).take o++u.cells++(noC n b bv).drop (o+m)=noC n' b bv) (hc:n'.c=n.c) (hb:n'.backs=n.backs) (hl:n'.lines=n.lines) :
 ∃ H',Op.store m [.ptr r o,u] H=some (.undef,H')/\NoR H0 H' r b sv bv n' ks/\Fr (On r) H H':=by
 have st:=qf7 h.row (o:=o) (n:=m) (v:=u) hu (by rw [(qpg n b bv).2.2.2.2.2.2.2.2];exact hm) ho
 rw [e] at st
 have f:Fr (On r) H (H.set r (OR (noC n' b bv) qhf)):=(Fr.refl H).set (W:=On r) (.inl rfl) _
 refine ⟨_,st,⟨xj ..,h.lt,by rw [hc];exact h.ca.fr f (fun (q:b=r)=>h.n1 q.symm) (fun (q:slB sv=r)=>h.n2 q.symm),h.bk.frW f (h.bk.fr.set (.inr h.lr) _) (fun x hx (q:x=r)=>h.o1 (q ▸ hx)),by rw [hb];exact h.eq,h.lr,h.lb,h.ls,h.n1,h.n2,h.o1,h.o2,h.o3,by rw [hl];exact h.li,by rw [hc];exact h.len⟩,f⟩
theorem NoR.putLive (h:NoR H0 H r b sv bv n ks) (q:Bool):∃ H',Op.store 1 [.ptr r 15,.bool q] H=some (.undef,H')/\NoR H0 H' r b sv bv { n with live:=q } ks/\Fr (On r) H H' :=
 h.put (n':={ n with live:=q }) (o:=15) (m:=1) (u:=.bool q) rfl rfl (by decide) (by
  obtain ⟨core,lines,c,⟨k,co,l,⟨d,hd⟩⟩,backs,live,code⟩:=n
  match d,hd with
  | [d0,d1,d2,d3,d4,d5,d6,d7],_=>rfl) rfl rfl rfl
theorem NoR.putCode (h:NoR H0 H r b sv bv n ks) (k:Int):∃ H',Op.store 1 [.ptr r 16,.int .i64 k] H=some (.undef,H')/\NoR H0 H' r b sv bv { n with code:=k } ks/\Fr (On r) H H' :=
 h.put (n':={ n with code:=k }) (o:=16) (m:=1) (u:=.int .i64 k) rfl rfl (by decide) (by
  obtain ⟨core,lines,c,⟨k,co,l,⟨d,hd⟩⟩,backs,live,code⟩:=n
  match d,hd with
  | [d0,d1,d2,d3,d4,d5,d6,d7],_=>rfl) rfl rfl rfl
theorem NoR.putOut (h:NoR H0 H r b sv bv n ks) (m:Mg):∃ H',Op.store 11 [.ptr r 3,.agg (encM m)] H=some (.undef,H')/\NoR H0 H' r b sv bv { n with out:=m } ks/\Fr (On r) H H' :=
 h.put (n':={ n with out:=m }) (o:=3) (m:=11) (u:=.agg (encM m)) (by rw [xx];exact qan m) (by rw [xx];exact qnq m) (by decide) (by
  obtain ⟨core,lines,c,⟨k,co,l,⟨d,hd⟩⟩,backs,live,code⟩:=n
  obtain ⟨k',co',l',⟨d',hd'⟩⟩:=m
  match d,hd,d',hd' with
  | [d0,d1,d2,d3,d4,d5,d6,d7],_,[e0,e1,e2,e3,e4,e5,e6,e7],_=>rfl) rfl rfl rfl
theorem NoR.putCa (h:NoR H0 H r b sv bv n ks) {c:Ca} {H':AHeap} (hc:CaR H' b sv c) (f:Fr (CaW b sv) H H') (hl:c.sl.length<=40):NoR H0 H' r b sv bv { n with c:=c } ks :=
 ⟨by rw [f.keep _ h.lt (fun q=>q.elim h.n1 h.n2)];exact h.row,ql h.lt f.next,hc,h.bk.frW f (h.bk.fr.trans f fun x q=>q.elim (fun q=>.inr (by rw [q];exact h.lb)) fun q=>.inr (by rw [q];exact h.ls)) (fun x hx q=>q.elim (fun q=>h.o2 (q ▸ hx)) fun q=>h.o3 (q ▸ hx)),h.eq,h.lr,h.lb,h.ls,h.n1,h.n2,h.o1,h.o2,h.o3,h.li,hl⟩
theorem NoT.of {n':No} {H':AHeap} {ks':List Nat} (h:NoR H0 H' r b sv bv n' ks') (f:Fr (NoW r b sv bv) H H'):NoT H0 H r b sv bv n' H':=⟨bv,ks',h,f,fun x q=>.inl q⟩
theorem fwR {H1 H2:AHeap} (f:Fr (On r) H1 H2):Fr (NoW r b sv bv) H1 H2:=f.mono fun _ _ q=>.inl q
theorem fwC {H1 H2:AHeap} (f:Fr (CaW b sv) H1 H2):Fr (NoW r b sv bv) H1 H2:=f.mono fun _ _ q=>.inr (.inl q)
theorem fwE {H1 H2:AHeap} (f:Fr Em H1 H2):Fr (NoW r b sv bv) H1 H2:=f.mono fun _ _ q=>q.elim
theorem fwT {H1 H2 H3:AHeap} (f:Fr (NoW r b sv bv) H1 H2) (g:Fr (NoW r b sv bv) H2 H3):Fr (NoW r b sv bv) H1 H3:=f.trans g fun _ q=>.inl q
theorem qxy (h:NoR H0 H r b sv bv n ks) (a:Int):yf M qbd [.ptr r 0,.int .i64 a] H fun v H'=>v=.int .i64 (if n.may a then 0 else 2)/\H'=H:=by
 refine quw ?_
 obtain ⟨w0,w2,w17⟩:=qux M ⟨none,qbd⟩
 have hl:=h.li
 have wm:wrapI .i64 (n.lines*8)=n.lines*8:=xr (by omega) (by omega)
 by_cases h1:a<0
 ·have hm:¬ n.may a:=fun q=>by have:=q.1;omega
  simp only [↓qj,xh,reduceIte,Nat.reduceEqDiff,w0,w2,qau,h1]
  rw [qo hm]
 by_cases h2:n.lines*8<=a
 ·have hm:¬ n.may a:=fun q=>by have:=q.2;omega
  simp only [↓qj,xh,reduceIte,Nat.reduceEqDiff,w0,w2,qau,h1,qn,h.l1,wm,h2]
  rw [qo hm]
 ·have hm:n.may a:=⟨by omega,by omega⟩
  simp only [↓qj,xh,reduceIte,Nat.reduceEqDiff,w0,w2,qau,h1,qn,h.l1,wm,h2,w17]
  rw [xc hm]
theorem mZ:[AV.int .i64 0,.int .i64 0,.int .i64 0,.int .u64 0,.int .u64 0,.int .u64 0,.int .u64 0,.int .u64 0,.int .u64 0,.int .u64 0,.int .u64 0]=encM ⟨0,0,0,.zero⟩:=rfl
theorem bdM (k co l:Int):Op.build (encM ⟨0,0,0,.zero⟩) [(0,1),(1,1),(2,1)] [.int .i64 k,.int .i64 co,.int .i64 l]=some (.agg (encM ⟨k,co,l,.zero⟩)):=rfl
theorem qh0 (h:NoR H0 H r b sv bv n ks) (k line:Int):yf M ku [.ptr r 0,.int .i64 k,.int .i64 line] H fun v H'=>v=.agg (encM (n.msg k line))/\Fr Em H H':=by
 refine quz ?_
 obtain ⟨H1,e1⟩:∃ X,X=H.alloc (OR (encM ⟨0,0,0,.zero⟩) xm):=⟨_,rfl⟩
 have f1:Fr Em H H1:=by rw [e1];exact (Fr.refl H).alloc _
 have g1:H1.get H.next=some (OR (encM ⟨0,0,0,.zero⟩) xm):=by rw [e1,xg]
 have s1:=stN g1 (qan _) (qan (n.msg k line)) (qnq _)
 have ld:=ldN (xj H1 H.next (OR (encM (n.msg k line)) xm)) (qan _)
 have bd:Op.build (encM ⟨0,0,0,.zero⟩) [(0,1),(1,1),(2,1)] [.int .i64 k,.int .i64 n.core,.int .i64 line]=some (.agg (encM (n.msg k line))):=bdM ..
 simp only [↓qj,xh,reduceIte,Nat.reduceEqDiff,qu0,mZ,<-e1,qn,(h.em f1).l0,bd,s1,ld]
 exact f1.set (.inr (qe _)) _
theorem q5v (h:NoR H0 H r b sv bv n ks):yf M qdm [.ptr r 0] H fun v H'=>v=.bool n.live/\H'=H:=by
 refine qr3 ?_
 simp only [↓qj,xh,reduceIte,Nat.reduceEqDiff,qr4,ptr_nil',qn,h.l15]
theorem qfd (h:NoR H0 H r b sv bv n ks) (k:Int):yf M yr [.ptr r 0,.int .i64 k] H fun _ H'=>NoR H0 H' r b sv bv (n.abt k) ks/\Fr (NoW r b sv bv) H H':=by
 refine qqt ?_
 simp only [↓qj,xh,reduceIte,Nat.reduceEqDiff,qqu,qn,h.l2]
 refine C3.q (qy4 (M:=M) h.ca h.len) fun _ H1 ⟨h1,f1⟩=>?_
 have hn1:=h.putCa h1 f1 (by show (n.c.sl.map back).length<=40;rw [zd];exact h.len)
 obtain ⟨H2,s2,h2,f2⟩:=hn1.putLive false
 obtain ⟨H3,s3,h3,f3⟩:=h2.putCode k
 simp only [↓qj,xh,reduceIte,Nat.reduceEqDiff,qn,s2,s3]
 exact ⟨h3,fwT (fwT (fwC f1) (fwR f2)) (fwR f3)⟩
theorem qwd (h:NoR H0 H r b sv bv n ks):yf M qa1 [.ptr r 0] H fun _ H'=>NoR H0 H' r b sv bv n.begin ks/\Fr (NoW r b sv bv) H H':=by
 refine qqn ?_
 obtain ⟨w0,w2,w17⟩:=qqo M ⟨none,qa1⟩
 have l15:=h.l15
 unfold No.begin
 cases hl:n.live with
 | true =>
  rw [hl] at l15
  simp only [↓qj,xh,reduceIte,Nat.reduceEqDiff,w0,w2,qau,qn,l15]
  exact ⟨h,Fr.refl _⟩
 | false =>
  rw [hl] at l15
  obtain ⟨H2,s2,h2,f2⟩:=h.putLive true
  obtain ⟨H3,s3,h3,f3⟩:=h2.putCode 0
  simp only [↓qj,xh,reduceIte,Nat.reduceEqDiff,w0,w2,qau,qn,l15,w17,s2,s3]
  rw [qo (by decide)]
  exact ⟨h3,fwT (fwR f2) (fwR f3)⟩
theorem qju (h:NoR H0 H r b sv bv n ks):yf M y9 [.ptr r 0] H fun _ H'=>NoR H0 H' r b sv bv n.commit ks/\Fr (NoW r b sv bv) H H':=by
 refine qpi ?_
 obtain ⟨w0,w2,w17⟩:=qpj M ⟨none,y9⟩
 have l15:=h.l15
 unfold No.commit
 cases hl:n.live with
 | false =>
  rw [hl] at l15
  simp only [↓qj,xh,reduceIte,Nat.reduceEqDiff,w0,w2,qau,qn,l15]
  rw [qo (by decide)];exact ⟨h,Fr.refl _⟩
 | true =>
  rw [hl] at l15
  simp only [↓qj,xh,reduceIte,Nat.reduceEqDiff,w0,w2,qau,qn,l15,w17,h.l2]
  refine C3.q (qtb (M:=M) h.ca h.len) fun _ H1 ⟨h1,f1⟩=>?_
  have hn1:=h.putCa h1 f1 (by show (n.c.sl.map clr).length<=40;rw [zd];exact h.len)
  obtain ⟨H2,s2,h2,f2⟩:=hn1.putLive false
  simp only [↓qj,xh,reduceIte,Nat.reduceEqDiff,qn,s2]
  exact ⟨h2,fwT (fwC f1) (fwR f2)⟩
theorem qv8 (h:NoR H0 H r b sv bv n ks) (k:Int):yf M qa0 [.ptr r 0,.int .i64 k] H fun v H'=>v=.int .i64 (n.abort k).2/\NoR H0 H' r b sv bv (n.abort k).1 ks/\Fr (NoW r b sv bv) H H':=by
 refine qqk ?_
 obtain ⟨w0,w2,w23,w16⟩:=qql M ⟨none,qa0⟩
 have l15:=h.l15
 cases hl:n.live with
 | false =>
  have ea:n.abort k=(n,40):=by unfold No.abort;rw [hl];rfl
  rw [hl] at l15
  rw [ea]
  simp only [↓qj,xh,reduceIte,Nat.reduceEqDiff,w0,w2,qau,qn,l15]
  exact ⟨h,Fr.refl _⟩
 | true =>
  rw [hl] at l15
  by_cases h1:k<1
  ·have ea:n.abort k=(n,2):=by unfold No.abort;rw [hl,xc rfl,xc (.inl h1)]
   rw [ea]
   simp only [↓qj,xh,reduceIte,Nat.reduceEqDiff,w0,w2,qau,qn,l15,w16,h1]
   exact ⟨h,Fr.refl _⟩
  by_cases h2:7<k
  ·have ea:n.abort k=(n,2):=by unfold No.abort;rw [hl,xc rfl,xc (.inr h2)]
   rw [ea]
   simp only [↓qj,xh,reduceIte,Nat.reduceEqDiff,w0,w2,qau,qn,l15,w16,h1,h2]
   exact ⟨h,Fr.refl _⟩
  have ea:n.abort k=(n.abt k,0):=by unfold No.abort;rw [hl,xc rfl,qo (by omega)]
  rw [ea]
  simp only [↓qj,xh,reduceIte,Nat.reduceEqDiff,w0,w2,qau,qn,l15,w16,h1,h2,w23]
  refine C3.q (qfd (M:=M) h k) fun _ H1 ⟨h1',f1⟩=>?_
  simp only [↓qj,xh,reduceIte,Nat.reduceEqDiff]
  exact ⟨h1',f1⟩
end
end Go.Am
namespace Go.Am
open Go.Proofs Ca
open Lang (ints)
variable {M:Mac} [MK M]
def MsR (H H':AHeap) (v:AV) (ms:List Mg):Prop:=SlT encM 11 H' v ms/\(ms ≠ []->H.next<=slB v)
theorem MsR.nil (H H':AHeap):MsR H H' .nils []:=⟨⟨rfl,rfl⟩,fun q=>absurd rfl q⟩
theorem bsM (m:Mg):Op.buildSlice xm 1 (encM ⟨0,0,0,.zero⟩) [(0,11)] [.agg (encM m)]=some (OR (encM m) xm,Op.sliceTo 1 1):=qx6 xm 11 (encM ⟨0,0,0,.zero⟩) (.agg (encM m)) (qan _) (by rw [xx];exact qan m)
theorem row1 {H:AHeap} (m:Mg):RowT encM xm 11 (H.alloc (OR (encM m) xm)) (Op.sliceTo 1 1 H.next) [m]:=⟨H.next,rfl,by rw [za];omega,by rw [xg];simp⟩
theorem qvd {H H0:AHeap} (m:Mg) (h:H0.next<=H.next):MsR H0 (H.alloc (OR (encM m) xm)) (Op.sliceTo 1 1 H.next) [m]:=⟨(row1 m).sl qan,fun _=>h⟩
section
variable {H0 H:AHeap} {r b:Nat} {sv bv:AV} {n:No} {ks:List Nat}
theorem NoR.kl (h:NoR H0 H r b sv bv n ks):n.backs.length=ks.length:=by rw [h.eq];unfold ints;rw [zd]
theorem qxb (h:NoR H0 H r b sv bv n ks) (hk:n.backs.length<=900000) (k line:Int):yf M qbc [.ptr r 0,.int .i64 k,.int .i64 line] H fun v H'=>MsR H H' v (n.ask k line).2/\NoR H0 H' r b sv bv (n.ask k line).1 ks/\Fr (NoW r b sv bv) H H':=by
 refine qut ?_
 obtain ⟨w0,w2,w10⟩:=quu M ⟨none,qbc⟩
 have hkl:=h.kl
 by_cases h1:n.out.k=0
 ·simp only [↓qj,xh,reduceIte,Nat.reduceEqDiff,w0,w2,qn,h.l3,ja h1,h.l14]
  refine C3.q (qo1 (M:=M) h.bk.sl (by omega) line) fun v H1 ⟨hv,hh⟩=>?_
  rw [hv,hh,<-h.eq]
  by_cases h2:line ∈ n.backs
  ·have ea:n.ask k line=(n,[]):=by unfold No.ask;rw [xc (.inr h2)]
   rw [ea]
   simp only [↓qj,xh,reduceIte,Nat.reduceEqDiff,ja h2]
   exact ⟨MsR.nil ..,h,Fr.refl _⟩
  ·have ea:n.ask k line=({ n with out:=n.msg k line },[n.msg k line]):=by unfold No.ask;rw [qo (fun q=>q.elim (fun q=>q h1) h2)]
   rw [ea]
   simp only [↓qj,xh,reduceIte,Nat.reduceEqDiff,h2,w10]
   refine C3.q (qh0 (M:=M) h k line) fun v H2 ⟨hv,f2⟩=>?_
   rw [hv]
   obtain ⟨H3,s3,h3,f3⟩:=(h.em f2).putOut (n.msg k line)
   have lo:=h3.lo
   have f23:Fr (NoW r b sv bv) H H3:=fwT (fwE f2) (fwR f3)
   simp only [↓qj,xh,reduceIte,Nat.reduceEqDiff,qn,s3,lo,mZ,bsM]
   exact ⟨qvd _ f23.next,h3.em ((Fr.refl H3).alloc _),fwT f23 (fwE ((Fr.refl H3).alloc _))⟩
 ·have ea:n.ask k line=(n,[]):=by unfold No.ask;rw [xc (.inl h1)]
  rw [ea]
  simp only [↓qj,xh,reduceIte,Nat.reduceEqDiff,w0,w2,qn,h.l3,h1]
  exact ⟨MsR.nil ..,h,Fr.refl _⟩
theorem box_E {H1:AHeap} (e:En):Op.store 21 [.ptr H1.next 0,.agg (encE e)] (H1.alloc (OR (encE .zero) qk))=some (.undef,(H1.alloc (OR (encE .zero) qk)).set H1.next (OR (encE e) qk)):=stN (xg ..) (x9 _) (x9 e) (qdp e)
theorem qls {H1:AHeap} (o o':AObj):Fr Em H1 ((H1.alloc o).set H1.next o'):=((Fr.refl H1).alloc _).set (.inr (qe _)) _
theorem qwr {line:Int} (h:NoR H0 H r b sv bv n ks) (hci:CI n.lines n.c):yf M qby [.ptr r 0,.int .i64 line] H fun v H'=>v=.bool (n.owned line)/\Fr Em H H':=by
 refine qqw ?_
 simp only [↓qj,xh,reduceIte,Nat.reduceEqDiff,qqx,qn,h.l2]
 refine C3.q (qo6 (M:=M) h.ca hci line) fun v H1 ⟨hv,f1⟩=>?_
 rw [hv]
 unfold findV No.owned
 cases hf:n.c.find line with
 | none =>
  simp only [↓qj,xh,reduceIte,Nat.reduceEqDiff,xa,eZ,box_E]
  exact f1.trans (qls _ _) fun _ q=>q.elim
 | some e =>
  have l1:Op.load1 [.ptr H1.next 1] ((H1.alloc (OR (encE .zero) qk)).set H1.next (OR (encE e) qk))=some (.int .i64 e.st):=zw (xd (xj ..)) 1
  have fe:Fr Em H ((H1.alloc (OR (encE .zero) qk)).set H1.next (OR (encE e) qk)):=f1.trans (qls _ _) fun _ q=>q.elim
  by_cases q:e.st=2
  ·simp only [↓qj,xh,reduceIte,Nat.reduceEqDiff,xa,eZ,box_E,l1,ja q]
   exact ⟨by rw [q];rfl,fe⟩
  ·simp only [↓qj,xh,reduceIte,Nat.reduceEqDiff,xa,eZ,box_E,l1,q]
   exact ⟨by simp [q],fe⟩
def LoadR (H0 H:AHeap) (r b:Nat) (sv bv:AV) (n:No) (ks:List Nat) (a:Int) (v:AV) (H':AHeap):Prop:=(∃ ov,v=.tuple [.int .u64 (n.load a).2.1,.bool (n.load a).2.2.1,ov,.int .i64 (n.load a).2.2.2.2]/\MsR H H' ov (n.load a).2.2.2.1)/\NoR H0 H' r b sv bv (n.load a).1 ks/\Fr (NoW r b sv bv) H H'
theorem qzr (h:NoR H0 H r b sv bv n ks) (hci:CI n.lines n.c) (hk:n.backs.length<=900000) (hu:n.c.us+1<=1000000) (a:Int):yf M qal [.ptr r 0,.int .i64 a] H (LoadR H0 H r b sv bv n ks a):=by
 refine qr6 ?_
 obtain ⟨w0,w2,w12,w14,w24,w30⟩:=qr7 M ⟨none,qal⟩
 simp only [↓qj,xh,reduceIte,Nat.reduceEqDiff,w0,w2]
 refine C3.q (qxy (M:=M) h a) fun v H1 ⟨hv,hh⟩=>?_
 rw [hv,hh]
 by_cases hm:n.may a
 case neg =>
  have ea:n.load a=(n,0,false,[],2):=by unfold No.load;rw [qo hm]
  have t2:¬ (2:Int)=0:=by decide
  rw [qo hm]
  unfold LoadR;rw [ea]
  simp only [↓qj,xh,reduceIte,Nat.reduceEqDiff,t2]
  exact ⟨⟨.nils,rfl,MsR.nil ..⟩,h,Fr.refl _⟩
 rw [xc hm]
 have hl:=h.li
 obtain ⟨m1,m2⟩:=hm
 obtain ⟨a',rfl⟩:=ji m1
 have hal:a'<1000000:=by omega
 have eln:No.ln (Int.ofNat a')=((a' / 8:Nat):Int):=rfl
 have t0:=ja (show (0:Int)=0 from rfl)
 simp only [↓qj,xh,reduceIte,Nat.reduceEqDiff,t0,w12,quo8 hal,w14,qn,h.l2]
 refine C3.q (qo6 (M:=M) h.ca hci ((a' / 8:Nat):Int)) fun v H1 ⟨hv,f1⟩=>?_
 rw [hv]
 have hmm:n.may (a':Int):=⟨m1,m2⟩
 unfold findV
 cases hf:n.c.find ((a' / 8:Nat):Int) with
 | none =>
  have ea:n.load (a':Int)=((n.ask 1 ((a' / 8:Nat):Int)).1,0,false,(n.ask 1 ((a' / 8:Nat):Int)).2,0):=by
   unfold No.load
   rw [xc hmm]
   show (match n.c.find ((a' / 8:Nat):Int) with|none=>_|some _=>_)=_
   rw [hf];rfl
  have fb:Fr Em H ((H1.alloc (OR (encE .zero) qk)).set H1.next (OR (encE .zero) qk)):=f1.trans (qls _ _) fun _ q=>q.elim
  simp only [↓qj,xh,reduceIte,Nat.reduceEqDiff,xa,eZ,box_E]
  refine C3.q (qxb (M:=M) (h.em fb) hk 1 ((a' / 8:Nat):Int)) fun v H2 ⟨hms,hn,hfr⟩=>?_
  unfold LoadR;rw [ea]
  simp only [↓qj,xh,reduceIte,Nat.reduceEqDiff]
  refine ⟨⟨v,rfl,hms.1,fun q=>zn fb.next (hms.2 q)⟩,hn,fwT (fwE fb) hfr⟩
 | some e =>
  obtain ⟨i,hp,rfl⟩:=qmr hf
  have fb:Fr Em H ((H1.alloc (OR (encE .zero) qk)).set H1.next (OR (encE (n.c.en i)) qk)):=f1.trans (qls _ _) fun _ q=>q.elim
  obtain ⟨Hb,hHb⟩:∃ X,X=(H1.alloc (OR (encE .zero) qk)).set H1.next (OR (encE (n.c.en i)) qk):=⟨_,rfl⟩
  rw [<-hHb] at fb
  have hb:=h.em fb
  have l15:=hb.l15
  -- behind the mark
  have fin:∀ {Hc:AHeap} {c:Ca},NoR H0 Hc r b sv bv { n with c:=c } ks->CI n.lines c->c.us+1<=1000000->Fr (NoW r b sv bv) H Hc->c=(if n.live then n.c.mark ((a' / 8:Nat):Int) false else n.c)->c.pos ((a' / 8:Nat):Int)=some i -> ∀ {E:Env},lk E 0=some (.ptr r 0)->lk E 1=some (.int .i64 (a':Int)) ->
   W M ⟨none,qal⟩ (jw 30) true (FIN3 M [.tmp 4,.tmp 5,.tmp 6,.tmp 7] (RT3 (LoadR H0 H r b sv bv n ks (a':Int)))) E [] Hc:=by
   intro Hc c hc hci' hus hfr ec hpos E h0 h1
   have ea:n.load (a':Int)=({ n with c:=(c.word a').1 },(c.word a').2.getD 0,true,[],0):=by
    unfold No.load
    rw [xc hmm]
    show (match n.c.find ((a' / 8:Nat):Int) with|none=>_|some _=>_)=_
    rw [hf,ec];rfl
   simp only [↓qj,xh,reduceIte,Nat.reduceEqDiff,w30,h0,qn,hc.l2,h1]
   refine C3.q (q0r (M:=M) hc.ca hci' hus hal) fun v H3 ⟨hv,h3,f3⟩=>?_
   rw [hv]
   have hw:(c.word a').2=some ((c.en i).d.get (a' % 8)):=by unfold Ca.word;rw [hpos]
   unfold wordV
   rw [hpos]
   have hlen:(c.word a').1.sl.length<=40:=by
    have:=hc.len
    unfold Ca.word;rw [hpos];show (c.sl.set i _).length<=40;rw [qt];exact this
   have hn:=hc.putCa h3 f3 hlen
   unfold LoadR;rw [ea,hw]
   simp only [↓qj,xh,reduceIte,Nat.reduceEqDiff,xa]
   exact ⟨⟨.nils,rfl,MsR.nil ..⟩,hn,fwT hfr (fwC f3)⟩
  cases hlv:n.live with
  | false =>
   rw [hlv] at l15
   simp only [↓qj,xh,reduceIte,Nat.reduceEqDiff,xa,eZ,box_E,<-hHb,w24,qn,l15]
   exact fin (c:=n.c) (by have:({ n with c:=n.c }:No)=n:=rfl;rw [this];exact hb) hci hu (fwE fb) (by rw [hlv];rfl) hp rfl rfl
  | true =>
   rw [hlv] at l15
   simp only [↓qj,xh,reduceIte,Nat.reduceEqDiff,xa,eZ,box_E,<-hHb,w24,qn,l15,hb.l2]
   refine C3.q (qzs (M:=M) hb.ca hci ((a' / 8:Nat):Int) false) fun _ H3 ⟨h3,f3⟩=>?_
   have em:n.c.mark ((a' / 8:Nat):Int) false=n.c.set i { n.c.en i with r:=true }:=by unfold Ca.mark;rw [qo (by decide),inS_0,hp]
   have hlen:(n.c.mark ((a' / 8:Nat):Int) false).sl.length<=40:=by rw [em];show (n.c.sl.set i _).length<=40;rw [qt];exact h.len
   have hpos:(n.c.mark ((a' / 8:Nat):Int) false).pos ((a' / 8:Nat):Int)=some i:=by
    rw [em]
    have sh:Shp n.c { n.c.set i { n.c.en i with r:=true } with us:=n.c.us }:=Shp.set n.c.us rfl rfl
    exact (sh.pos _).trans hp
   simp only [↓qj,xh,reduceIte,Nat.reduceEqDiff]
   exact fin (c:=n.c.mark ((a' / 8:Nat):Int) false) (hb.putCa h3 f3 hlen) (hci.mark _ _) (by rw [em];exact hu) (fwT (fwE fb) (fwC f3)) (by rw [hlv];rfl) hpos rfl rfl
end
end Go.Am
namespace Go.Am
open Go.Proofs Ca
open Lang (ints)
variable {M:Mac} [MK M]
section
variable {H0 H:AHeap} {r b:Nat} {sv bv:AV} {n:No} {ks:List Nat}
theorem q57 {line:Int} (h:n.owned line=true):∃ i,n.c.pos line=some i/\(n.c.en i).st=2:=by
 unfold No.owned at h
 cases hf:n.c.find line with
 | none=>rw [hf] at h;cases h
 | some x =>
  rw [hf] at h
  obtain ⟨i,hp,rfl⟩:=qmr hf
  exact ⟨i,hp,by simpa using h⟩
theorem qxx (c:Ca) (line:Int) (wr:Bool):(c.mark line wr).us=c.us/\(c.mark line wr).sl.length=c.sl.length:=by
 unfold Ca.mark
 cases wr with
 | true =>
  rw [xc rfl]
  cases c.inS line 2 with
  | none=>exact ⟨rfl,rfl⟩
  | some i =>
   show (if (c.en i).w then c else c.set i _).us=_/\(if (c.en i).w then c else c.set i _).sl.length=_
   split
   ·exact ⟨rfl,rfl⟩
   ·exact ⟨rfl,qt⟩
 | false =>
  rw [qo (by decide)]
  cases c.inS line 0 with
  | none=>exact ⟨rfl,rfl⟩
  | some i=>exact ⟨rfl,qt⟩
theorem q21 (c:Ca) (a:Nat) (y:Int):(c.put a y).sl.length=c.sl.length/\((c.put a y).us=c.us\/(c.put a y).us=c.us+1):=by
 unfold Ca.put
 cases c.inS ((a / 8:Nat):Int) 2 with
 | none=>exact ⟨rfl,.inl rfl⟩
 | some i=>exact ⟨qt,.inr rfl⟩
theorem qvk (c:Ca) (a:Nat):(c.word a).1.sl.length=c.sl.length/\((c.word a).1.us=c.us\/(c.word a).1.us=c.us+1):=by
 unfold Ca.word
 cases c.pos ((a / 8:Nat):Int) with
 | none=>exact ⟨rfl,.inl rfl⟩
 | some i=>exact ⟨qt,.inr rfl⟩
def StoreR (H0 H:AHeap) (r b:Nat) (sv bv:AV) (n:No) (ks:List Nat) (a y:Int) (v:AV) (H':AHeap):Prop:=(∃ ov,v=.tuple [.bool (n.store a y).2.1,ov,.int .i64 (n.store a y).2.2.2]/\MsR H H' ov (n.store a y).2.2.1)/\NoR H0 H' r b sv bv (n.store a y).1 ks/\Fr (NoW r b sv bv) H H'
theorem qw2 (h:NoR H0 H r b sv bv n ks) (hci:CI n.lines n.c) (hk:n.backs.length<=900000) (hu:n.c.us+1<=1000000) (a y:Int):yf M wh [.ptr r 0,.int .i64 a,.int .u64 y] H (StoreR H0 H r b sv bv n ks a y):=by
 refine qqq ?_
 obtain ⟨w0,w2,w12,w14,w22,w28⟩:=qqr M ⟨none,wh⟩
 simp only [↓qj,xh,reduceIte,Nat.reduceEqDiff,w0,w2]
 refine C3.q (qxy (M:=M) h a) fun v H1 ⟨hv,hh⟩=>?_
 rw [hv,hh]
 by_cases hm:n.may a
 case neg =>
  have ea:n.store a y=(n,false,[],2):=by unfold No.store;rw [qo hm]
  have t2:¬ (2:Int)=0:=by decide
  rw [qo hm]
  unfold StoreR;rw [ea]
  simp only [↓qj,xh,reduceIte,Nat.reduceEqDiff,t2]
  exact ⟨⟨.nils,rfl,MsR.nil ..⟩,h,Fr.refl _⟩
 rw [xc hm]
 have hl:=h.li
 obtain ⟨m1,m2⟩:=hm
 obtain ⟨a',rfl⟩:=ji m1
 have hal:a'<1000000:=by omega
 have hmm:n.may (a':Int):=⟨m1,m2⟩
 have eln:No.ln (a':Int)=((a' / 8:Nat):Int):=rfl
 have t0:=ja (show (0:Int)=0 from rfl)
 simp only [↓qj,xh,reduceIte,Nat.reduceEqDiff,t0,w12,quo8 hal,w14]
 refine C3.q (qwr (M:=M) (line:=((a' / 8:Nat):Int)) h hci) fun v H1 ⟨hv,f1⟩=>?_
 rw [hv]
 have hb:=h.em f1
 cases ho:n.owned ((a' / 8:Nat):Int) with
 | false =>
  have ea:n.store (a':Int) y=((n.ask 2 ((a' / 8:Nat):Int)).1,false,(n.ask 2 ((a' / 8:Nat):Int)).2,0):=by
   unfold No.store
   rw [xc hmm,eln,ho];rfl
  simp only [↓qj,xh,reduceIte,Nat.reduceEqDiff]
  refine C3.q (qxb (M:=M) hb hk 2 ((a' / 8:Nat):Int)) fun v H2 ⟨hms,hn,hfr⟩=>?_
  unfold StoreR;rw [ea]
  simp only [↓qj,xh,reduceIte,Nat.reduceEqDiff]
  exact ⟨⟨v,rfl,hms.1,fun q=>zn f1.next (hms.2 q)⟩,hn,fwT (fwE f1) hfr⟩
 | true =>
  have l15:=hb.l15
  have fin:∀ {Hc:AHeap} {c:Ca},NoR H0 Hc r b sv bv { n with c:=c } ks->CI n.lines c->c.us+1<=1000000->Fr (NoW r b sv bv) H Hc->c=(if n.live then n.c.mark ((a' / 8:Nat):Int) true else n.c) -> ∀ {E:Env},lk E 0=some (.ptr r 0)->lk E 1=some (.int .i64 (a':Int))->lk E 2=some (.int .u64 y) ->
   W M ⟨none,wh⟩ (jm 28) true (FIN3 M [.tmp 6,.tmp 7,.tmp 8] (RT3 (StoreR H0 H r b sv bv n ks (a':Int) y))) E [] Hc:=by
   intro Hc c hc hci' hus hfr ec E h0 h1 h2
   have ea:n.store (a':Int) y=({ n with c:=c.put a' y },true,[],0):=by
    unfold No.store
    rw [xc hmm,eln,ho,xc rfl,ec];rfl
   simp only [↓qj,xh,reduceIte,Nat.reduceEqDiff,w28,h0,qn,hc.l2,h1,h2]
   refine C3.q (q20 (M:=M) hc.ca hci' hus hal y) fun v H3 ⟨hv,h3,f3⟩=>?_
   have hn:=hc.putCa h3 f3 (by rw [(q21 c a' y).1];exact hc.len)
   unfold StoreR;rw [ea]
   simp only [↓qj,xh,reduceIte,Nat.reduceEqDiff]
   exact ⟨⟨.nils,rfl,MsR.nil ..⟩,hn,fwT hfr (fwC f3)⟩
  cases hlv:n.live with
  | false =>
   rw [hlv] at l15
   simp only [↓qj,xh,reduceIte,Nat.reduceEqDiff,w22,qn,l15]
   exact fin (c:=n.c) (by have:({ n with c:=n.c }:No)=n:=rfl;rw [this];exact hb) hci hu (fwE f1) (by rw [hlv];rfl) rfl rfl rfl
  | true =>
   rw [hlv] at l15
   simp only [↓qj,xh,reduceIte,Nat.reduceEqDiff,w22,qn,l15,hb.l2]
   refine C3.q (qzs (M:=M) hb.ca hci ((a' / 8:Nat):Int) true) fun _ H3 ⟨h3,f3⟩=>?_
   simp only [↓qj,xh,reduceIte,Nat.reduceEqDiff]
   exact fin (c:=n.c.mark ((a' / 8:Nat):Int) true) (hb.putCa h3 f3 (by rw [(qxx ..).2];exact h.len)) (hci.mark _ _) (by rw [(qxx ..).1];exact hu) (fwT (fwE f1) (fwC f3)) (by rw [hlv];rfl) rfl rfl rfl
def CasR (H0 H:AHeap) (r b:Nat) (sv bv:AV) (n:No) (ks:List Nat) (a o y:Int) (v:AV) (H':AHeap):Prop:=(∃ t d ov e,v=.tuple [t,d,ov,e]/\MsR H H' ov (n.cas a o y).2)/\NoR H0 H' r b sv bv (n.cas a o y).1 ks/\Fr (NoW r b sv bv) H H'
theorem cas_spec (h:NoR H0 H r b sv bv n ks) (hci:CI n.lines n.c) (hk:n.backs.length<=900000) (hu:n.c.us+2<=1000000) (a o y:Int):yf M qc5 [.ptr r 0,.int .i64 a,.int .u64 o,.int .u64 y] H (CasR H0 H r b sv bv n ks a o y):=by
 refine quq ?_
 obtain ⟨w0,w2,w12,w20,w22,w30,w32,w38⟩:=qur M ⟨none,qc5⟩
 simp only [↓qj,xh,reduceIte,Nat.reduceEqDiff,w0,w2]
 refine C3.q (qxy (M:=M) h a) fun v H1 ⟨hv,hh⟩=>?_
 rw [hv,hh]
 by_cases hm:n.may a
 case neg =>
  have ea:n.cas a o y=(n,[]):=by unfold No.cas;rw [qo hm]
  have t2:¬ (2:Int)=0:=by decide
  rw [qo hm]
  unfold CasR;rw [ea]
  simp only [↓qj,xh,reduceIte,Nat.reduceEqDiff,t2]
  exact ⟨⟨_,_,.nils,_,rfl,MsR.nil ..⟩,h,Fr.refl _⟩
 rw [xc hm]
 have hl:=h.li
 obtain ⟨m1,m2⟩:=hm
 obtain ⟨a',rfl⟩:=ji m1
 have hal:a'<1000000:=by omega
 have hmm:n.may (a':Int):=⟨m1,m2⟩
 have eln:No.ln (a':Int)=((a' / 8:Nat):Int):=rfl
 have t0:=ja (show (0:Int)=0 from rfl)
 have l15:=h.l15
 cases hlv:n.live with
 | true =>
  have ea:n.cas (a':Int) o y=(n,[]):=by unfold No.cas;rw [xc hmm,hlv];rfl
  rw [hlv] at l15
  unfold CasR;rw [ea]
  simp only [↓qj,xh,reduceIte,Nat.reduceEqDiff,t0,w12,qn,l15]
  exact ⟨⟨_,_,.nils,_,rfl,MsR.nil ..⟩,h,Fr.refl _⟩
 | false =>
  rw [hlv] at l15
  simp only [↓qj,xh,reduceIte,Nat.reduceEqDiff,t0,w12,qn,l15,w20,quo8 hal,w22]
  refine C3.q (qwr (M:=M) (line:=((a' / 8:Nat):Int)) h hci) fun v H1 ⟨hv,f1⟩=>?_
  rw [hv]
  have hb:=h.em f1
  cases ho:n.owned ((a' / 8:Nat):Int) with
  | false =>
   have ea:n.cas (a':Int) o y=n.ask 2 ((a' / 8:Nat):Int):=by
    unfold No.cas
    rw [xc hmm,hlv,eln,ho];rfl
   simp only [↓qj,xh,reduceIte,Nat.reduceEqDiff]
   refine C3.q (qxb (M:=M) hb hk 2 ((a' / 8:Nat):Int)) fun v H2 ⟨hms,hn,hfr⟩=>?_
   unfold CasR;rw [ea]
   simp only [↓qj,xh,reduceIte,Nat.reduceEqDiff]
   exact ⟨⟨_,_,v,_,rfl,hms.1,fun q=>zn f1.next (hms.2 q)⟩,hn,fwT (fwE f1) hfr⟩
  | true =>
   obtain ⟨i,hp,hst⟩:=q57 ho
   have hw:(n.c.word a').2=some ((n.c.en i).d.get (a' % 8)):=by unfold Ca.word;rw [hp]
   have ea:n.cas (a':Int) o y=({ n with c:=if (n.c.en i).d.get (a' % 8)=o then (n.c.word a').1.put a' y else (n.c.word a').1 },[]):=by
    unfold No.cas
    rw [xc hmm,hlv,eln,ho,qo (by decide),xc rfl]
    simp only [Int.toNat_natCast,hw,qeq]
   simp only [↓qj,xh,reduceIte,Nat.reduceEqDiff,w30,qn,hb.l2]
   refine C3.q (q0r (M:=M) hb.ca hci (by omega) hal) fun v H3 ⟨hv,h3,f3⟩=>?_
   rw [hv]
   have hn:=hb.putCa h3 f3 (by rw [(qvk ..).1];exact h.len)
   unfold wordV
   rw [hp]
   have f13:Fr (NoW r b sv bv) H H3:=fwT (fwE f1) (fwC f3)
   by_cases q:(n.c.en i).d.get (a' % 8)=o
   ·rw [xc q] at ea
    simp only [↓qj,xh,reduceIte,Nat.reduceEqDiff,xa,w32,ja q,qn,hn.l2]
    refine C3.q (q20 (M:=M) hn.ca (hci.word a') (by show (n.c.word a').1.us+1<=1000000;have:=(qvk n.c a').2;omega) hal y) fun v H4 ⟨hv4,h4,f4⟩=>?_
    have hn4:=hn.putCa h4 f4 (by rw [(q21 ..).1,(qvk ..).1];exact h.len)
    unfold CasR;rw [ea]
    simp only [↓qj,xh,reduceIte,Nat.reduceEqDiff,w38]
    exact ⟨⟨_,_,.nils,_,rfl,MsR.nil ..⟩,hn4,fwT f13 (fwC f4)⟩
   ·rw [qo q] at ea
    unfold CasR;rw [ea]
    simp only [↓qj,xh,reduceIte,Nat.reduceEqDiff,xa,w32,q,w38]
    exact ⟨⟨_,_,.nils,_,rfl,MsR.nil ..⟩,hn,f13⟩
theorem qud (h:NoR H0 H r b sv bv n ks) (x:En) (too:Bool):yf M qck [.ptr r 0,.agg (encE x),.bool too] H fun _ H'=>NoR H0 H' r b sv bv (n.lost x too) ks/\Fr (NoW r b sv bv) H H':=by
 refine qsf ?_
 obtain ⟨H1,e1⟩:∃ X,X=H.alloc (OR (encE x) qk):=⟨_,rfl⟩
 have f1:Fr Em H H1:=by rw [e1];exact (Fr.refl H).alloc _
 have g1:H1.get H.next=some (OR (encE x) qk):=by rw [e1,xg]
 have l0:Op.load1 [.ptr H.next 0] H1=some (.int .i64 x.line):=zw (xd g1) 0
 have l2:Op.load1 [.ptr H.next 2] H1=some (.bool x.r):=zw (xd g1) 2
 have l3:Op.load1 [.ptr H.next 3] H1=some (.bool x.w):=zw (xd g1) 3
 have h1:=h.em f1
 have stay:(x.w || (x.r && too))=false->n.lost x too=n:=fun q=>by unfold No.lost;rw [q];rfl
 have go2:(x.w || (x.r && too))=true->x.line=0->n.lost x too=n.abt 2:=fun q q'=>by unfold No.lost;rw [q,xc rfl,xc q']
 have go1:(x.w || (x.r && too))=true -> ¬ x.line=0->n.lost x too=n.abt 1:=fun q q'=>by unfold No.lost;rw [q,xc rfl,qo q']
 cases hw:x.w with
 | true =>
  rw [hw] at l3
  by_cases q:x.line=0
  ·rw [go2 (by rw [hw];rfl) q]
   simp only [↓qj,xh,reduceIte,Nat.reduceEqDiff,qdo,xx,<-e1,l3,l0,ja q]
   refine C3.q (qfd (M:=M) h1 2) fun _ H2 ⟨h2,f2⟩=>?_
   simp only [↓qj,xh,reduceIte,Nat.reduceEqDiff]
   exact ⟨h2,fwT (fwE f1) f2⟩
  ·rw [go1 (by rw [hw];rfl) q]
   simp only [↓qj,xh,reduceIte,Nat.reduceEqDiff,qdo,xx,<-e1,l3,l0,q]
   refine C3.q (qfd (M:=M) h1 1) fun _ H2 ⟨h2,f2⟩=>?_
   simp only [↓qj,xh,reduceIte,Nat.reduceEqDiff]
   exact ⟨h2,fwT (fwE f1) f2⟩
 | false =>
  rw [hw] at l3
  cases hr:x.r with
  | false =>
   rw [hr] at l2
   rw [stay (by rw [hw,hr];rfl)]
   simp only [↓qj,xh,reduceIte,Nat.reduceEqDiff,qdo,xx,<-e1,l3,l2]
   exact ⟨h1,fwE f1⟩
  | true =>
   rw [hr] at l2
   cases too with
   | false =>
    rw [stay (by rw [hw,hr];rfl)]
    simp only [↓qj,xh,reduceIte,Nat.reduceEqDiff,qdo,xx,<-e1,l3,l2]
    exact ⟨h1,fwE f1⟩
   | true =>
    by_cases q:x.line=0
    ·rw [go2 (by rw [hw,hr];rfl) q]
     simp only [↓qj,xh,reduceIte,Nat.reduceEqDiff,qdo,xx,<-e1,l3,l2,l0,ja q]
     refine C3.q (qfd (M:=M) h1 2) fun _ H2 ⟨h2,f2⟩=>?_
     simp only [↓qj,xh,reduceIte,Nat.reduceEqDiff]
     exact ⟨h2,fwT (fwE f1) f2⟩
    ·rw [go1 (by rw [hw,hr];rfl) q]
     simp only [↓qj,xh,reduceIte,Nat.reduceEqDiff,qdo,xx,<-e1,l3,l2,l0,q]
     refine C3.q (qfd (M:=M) h1 1) fun _ H2 ⟨h2,f2⟩=>?_
     simp only [↓qj,xh,reduceIte,Nat.reduceEqDiff]
     exact ⟨h2,fwT (fwE f1) f2⟩
end
end Go.Am
