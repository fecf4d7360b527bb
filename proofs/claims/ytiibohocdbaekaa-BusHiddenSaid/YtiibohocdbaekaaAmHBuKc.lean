/- BuKc: BhA BhB BhC BhD BhE. -/
import Derived.Test.YtiibohocdbaekaaAmHBuKb
import Derived.Test.YtiibohocdbaekaaAmHCodeK
set_option linter.unusedVariables false
set_option linter.unusedSimpArgs false
set_option linter.unusedSectionVars false
set_option maxRecDepth 100000
open Nat (reduceEqDiff)
namespace Go.Am
open Go.Proofs Ca
open Lang (ints)
variable {M:aL} [MK M]
theorem tq (x:De) (w:L8) (m:Mg) (h3:m.k ≠ 3) (h5:m.k ≠ 5):(x.aB w m).2.1=w:=by
 unfold De.aB;split;· rfl
 split
 ·split<;>rfl
 split
 ·unfold De.mP;split<;>rfl
 try rw [qd h5]
 split
 ·unfold De.mP;split<;>rfl
 try rw [qd h3]
 cases x.wt<;>rfl
theorem vT {b:Bu} (x:Bt) {l:Nat} {w:L8} (hw:b.m[l]? = some w) (h:∀ m ∈ b.fl,m.line=(l:Int)->0<=m.line->m.k ≠ 3/\m.k ≠ 5) (hl:∀ m ∈ b.fl,0<=m.line):(b.step x).m[l]? = some w:=by
 unfold Bu.step;split
 ·split
  ·unfold Bu.sm;cases hm:b.fl[x.n.toNat]? with
   | none=>exact hw
   | some m =>
    simp only;split
    ·cases hx:b.l[m.line.toNat]? with
     | none=>exact hw
     | some y =>
      cases hv:b.m[m.line.toNat]? with
      | none=>exact hw
      | some v =>
       show (b.m.set m.line.toNat (y.aB v m).2.1)[l]? = some w;have hmem:=jf hm;have h0:=hl m hmem
       by_cases q:m.line=(l:Int)
       ·obtain ⟨a,c⟩:=h m hmem q h0;have e:m.line.toNat=l:=by omega
        rw [e] at hv ⊢;rw [hv] at hw;injection hw with hw;subst hw
        rw [tq y v m a c,xg (qi.1 hv).1]
       ·rw [xu (by omega)];exact hw
    ·cases b.ns[m.core.toNat]? with
     | none=>exact hw
     | some n=>exact hw
  ·exact hw
 split
 ·cases b.ns[x.c.toNat]? with
  | none=>exact hw
  | some n=>exact hw
 ·exact hw
theorem q1l {H:AHeap} {fv:AV} {f:List Mg} (hf:dZ ai 11 H fv f) (hl:f.length<=900000) (l:Int) (hc:∀ m ∈ f,m.line=l->m.k ≠ 3/\m.k ≠ 5/\m.k ≠ 14/\m.k ≠ 15):jr M ET [fv,.int .i64 l] H λ v H'=>v=.bool false/\H'=H:=by
 refine qwd ?_;obtain ⟨w0,w2,w25,w7,w13,w24⟩:=qwe M ⟨none,ET⟩;have hln:=hf.len;simp only [↓qg,xe,reduceIte,reduceEqDiff,w0,w2];refine bn.intro (λ k E Hx=>∃ i:Nat,k=f.length-i/\i<=f.length/\Hx=H/\E=[(5,.int .i64 (i:Int)),(4,.bool false),(0,fv),(1,.int .i64 l)]) ?_ ?_
 ·exact ⟨_,_,⟨0,rfl,by omega,rfl,rfl⟩,by simp only [↓qg,xe,reduceIte,reduceEqDiff]⟩
 rintro k E Hx ⟨i,rfl,hi,rfl,rfl⟩
 by_cases q:(i:Int)<(f.length:Nat)
 ·obtain ⟨m,hm⟩:∃ m,f[i]? = some m:=⟨_,qy (by omega)⟩
  have ix:=hf.idx hm (z:=(i:Int)) rfl .i64;have lk:Op.aa [.ptr (aN fv) (b9 11 fv i)] Hx=some (.int .i64 m.k):=hf.aa zb hm (j:=0) (by decide);have ll:Op.aa [.ptr (aN fv) (b9 11 fv i+2)] Hx=some (.int .i64 m.line):=hf.aa zb hm (j:=2) (by decide);have wi:aW .i64 ((i:Int)+1)=((i+1:Nat):Int):=by rw [vl (by omega) (by omega)];omega
  by_cases ql:m.line=l
  ·obtain ⟨k3,k5,k14,k15⟩:=hc m (jf hm) ql;simp only [↓qg,xe,reduceIte,reduceEqDiff,w7,hln,q,w13,ix,lk,ll,xj ql,k3,k5,k14,k15];simp only [↓qg,xe,reduceIte,reduceEqDiff,w24,wi];exact ⟨_,_,⟨i+1,rfl,by omega,rfl⟩,by simp only [↓qg,xe,reduceIte,reduceEqDiff],by omega⟩
  ·simp only [↓qg,xe,reduceIte,reduceEqDiff,w7,hln,q,w13,ix,lk,ll,ql];simp only [↓qg,xe,reduceIte,reduceEqDiff,w24,wi];exact ⟨_,_,⟨i+1,rfl,by omega,rfl⟩,by simp only [↓qg,xe,reduceIte,reduceEqDiff],by omega⟩
 ·have e:i=f.length:=by omega
  subst e;simp only [↓qg,xe,reduceIte,reduceEqDiff,w7,hln,q,w25]
end Go.Am
namespace Go.Am
open Go.Proofs Ca
open Lang (ints)
variable {M:aL} [MK M]
def Dg (q:Bool):List AV:=[.bool q]
theorem Kr (q:Bool):(Dg q).length=1:=rfl
structure mT (H:AHeap) (A C:Nat) (mk:List Bool) (hd:List L8):Prop where
 m:db Dg pG 1 H (.slice A 0 256 256) mk
 d:db bS pN 8 H (.slice C 0 256 256) hd
 ml:mk.length=256
 dl:hd.length=256
theorem mT.fr {H H':AHeap} {A C:Nat} {mk:List Bool} {hd:List L8} {W:Nat->Prop} (h:mT H A C mk hd) (f:Fr W H H') (hA:¬ W A) (hC:¬ W C):mT H' A C mk hd:=⟨h.m.fr f hA,h.d.fr f hC,h.ml,h.dl⟩
def mF (b:Bu) (mk:List Bool) (hd:List L8):Prop:=∀ (k:Nat) (n:No) (j:Nat),b.ns[k]? = some n->j<b.l.length -> ∃ q,mk[k*64+j]? = some q/\(q=true->b.m[j]? = hd[k*64+j]?)
def gQ (b:Bu) (mk:List Bool) (k:Nat) (n:No) (j:Nat):Prop:=mk[k*64+j]? = some (n.vw j).w
def J8 (b:Bu) (mk:List Bool):Prop:=∀ (k:Nat) (n:No) (j:Nat),b.ns[k]? = some n->j<b.l.length->gQ b mk k n j
theorem Bc {b:Bu} {V:Int->L8} (hI:BuI b V) {k:Nat} {n:No} (hn:b.ns[k]? = some n) {j:Int} (hw:(n.vw j).w=true):n.st j=2:=by
 rcases (hI.nw k n hn).ni.ci.pT j with ⟨-,h⟩|⟨-,-,-,h⟩
 ·have e:n.vw j=.no:=Co h;rw [e] at hw;cases hw
 ·exact h hw
theorem oQ {b:Bu} {V:Int->L8} (hI:BuI b V) {k:Nat} {n:No} (hn:b.ns[k]? = some n) {j:Nat} (hj:j<b.l.length) (hw:(n.vw j).w=true) :
 (∀ (d:Nat) n',b.ns[d]? = some n'->d ≠ k->n'.st j=0) /\ ∀ m ∈ b.fl,m.line=(j:Int)->m.k ≠ 3/\m.k ≠ 5/\m.k ≠ 14/\m.k ≠ 15:=by
 obtain ⟨x,w,-,-,he⟩:=hI.entry (l:=(j:Int)) (by omega) (by omega);obtain ⟨-,-,a,c⟩:=hI.alone hn (Bc hI hn hw) he;exact ⟨a,c⟩
theorem vI {b:Bu} (x:Bt) {k:Nat} {n':No} (h:(b.step x).ns[k]? = some n'):∃ n,b.ns[k]? = some n:=by
 obtain ⟨z1,-⟩:=Is b x;have:=(qi.1 h).1;exact ⟨_,qy (by omega)⟩
theorem uz {b:Bu} {V:Int->L8} (hI:BuI b V) {mk:List Bool} {hd:List L8} (hp:mF b mk hd) (hm:J8 b mk) (x:Bt):mF (b.step x) mk hd:=by
 intro k n' j hn' hj;obtain ⟨z1,z2⟩:=Is b x;obtain ⟨n,hn⟩:=vI x hn';rw [z2] at hj;refine ⟨_,hm k n j hn hj,λ hw=>?_⟩;obtain ⟨q,hq,hq2⟩:=hp k n j hn hj;have e:q=true:=by
  have:=hm k n j hn hj;unfold gQ at this;rw [hq] at this;injection this with this;rw [this];exact hw
 obtain ⟨x',w,-,hw',-⟩:=hI.entry (l:=(j:Int)) (by omega) (by omega);rw [zj] at hw';rw [<-hq2 e,hw'];obtain ⟨-,c⟩:=oQ hI hn hj hw;exact vT x hw' (λ m hm hl _=>⟨(c m hm hl).1,(c m hm hl).2.1⟩) λ m hm=>(hI.mw m hm).l.1
theorem yA {l c s w:Int} (h:gN l c s w):mF (cT l c s w) (List.replicate 256 false) (List.replicate 256 L8.zero)/\J8 (cT l c s w) (List.replicate 256 false):=by
 have key:∀ (k:Nat) (n:No) (j:Nat),(cT l c s w).ns[k]? = some n->j<(cT l c s w).l.length->(List.replicate 256 false)[k*64+j]? = some false/\(n.vw j).w=false:=by
  intro k n j hn hj;obtain ⟨hk,rfl⟩:=CU hn;obtain ⟨⟨⟨l0,l1⟩,c0,c1⟩,hs⟩:=h;have hj:j<(List.replicate l.toNat ew).length:=hj;rw [xx] at hj;refine ⟨?_,by rw [Ni];rfl⟩;rw [Gd,qr (by omega)]
 refine ⟨λ k n j hn hj=>⟨false,(key k n j hn hj).1,λ q=>by cases q⟩,λ k n j hn hj=>?_⟩;unfold gQ;rw [(key k n j hn hj).1,(key k n j hn hj).2]
theorem zW {b:Bu} {mk:List Bool} {hd:List L8} {k0 j0:Nat} {q0 q1:Bool} {w:L8} (hp:mF b mk hd) (h0:k0*64+j0<mk.length) (h1:mk.length=hd.length) (hw:b.m[j0]? = some w) (hj:b.l.length<=64) (hj0:j0<b.l.length) (hq0:mk[k0*64+j0]? = some q0) (hd0:q0=true->b.m[j0]? = hd[k0*64+j0]?) :
 mF b (mk.set (k0*64+j0) q1) (if q1=true/\q0=false then hd.set (k0*64+j0) w else hd):=by
 intro k n j hn hlt
 by_cases e:k*64+j=k0*64+j0
 ·have ej:j=j0:=by omega
  rw [e,ej];refine ⟨q1,xg h0,λ q=>?_⟩;split
  ·rw [xg (by omega)];exact hw
  ·rename_i w1;cases hc:q0 with
   | true=>exact hd0 hc
   | false=>exact absurd ⟨q,hc⟩ w1
 ·obtain ⟨q,a,c⟩:=hp k n j hn hlt;refine ⟨q,by rw [xu (vd e)];exact a,λ w1=>?_⟩;rw [c w1];split
  ·rw [xu (vd e)]
  ·rfl
end Go.Am
namespace Go.Am
open Go.Proofs Ca
open Lang (ints)
variable {M:aL} [MK M]
theorem eZ8:[AV.int .u64 0,.int .u64 0,.int .u64 0,.int .u64 0,.int .u64 0,.int .u64 0,.int .u64 0,.int .u64 0]=bS .zero:=rfl
theorem q87 {n:No} (h:n.NI) (l:Int):∃ e:En,fq n.c l=.tuple [.agg (aq e),.bool (decide (n.st l ≠ 0))]/\e.st=n.st l/\e.w=(n.vw l).w:=by
 by_cases q:n.st l=0
 ·refine ⟨.zero,?_,by rw [q];rfl,?_⟩
  ·unfold fq;rw [(No.dk h).1 q,zB (λ w=>w q)]
  ·have e:n.vw l=.no:=Co ((No.dk h).1 q);rw [e];rfl
 ·obtain ⟨i,-,hf,hv,-,hst,-⟩:=No.bg h q;refine ⟨n.c.en i,?_,hst,by rw [hv];rfl⟩;unfold fq;rw [hf,Ax q]
section
variable {Hb H:AHeap} {A C B G S:Nat} {l c s w:Int} {i:Nat} {bs:Bs} {own tg:Nat->Nat} {gs:Gs} {b:Bu} {g:Gh} {V:Int->L8} {fv:AV} {mk:List Bool} {hd:List L8}
theorem nq.mW {H':AHeap} {W:Nat->Prop} (h:nq Hb H B G l c i bs own gs tg b g V) (f:Fr W H H') (hw:∀ z,W z->Hb.next<=z /\ ¬ lW B bs G gs z):nq Hb H' B G l c i bs own gs tg b g V:=⟨h.r.fr f hw,h.I,h.C,h.g,h.ns,h.l,h.fr.trans f λ z q=>.inr (hw z q).1⟩
structure jX (Hb H:AHeap) (A C B G S:Nat) (l c s w:Int) (i:Nat) (bs:Bs) (own:Nat->Nat) (gs:Gs) (tg:Nat->Nat) (b:Bu) (g:Gh) (V:Int->L8) (fv:AV) (mk:List Bool) (hd:List L8):Prop where
 z:nq Hb H B G l c i bs own gs tg b g V
 r:mT H A C mk hd
 nA:¬ lW B bs G gs A
 nC:¬ lW B bs G gs C
 lA:Hb.next<=A
 lC:Hb.next<=C
 AC:A ≠ C
 f:dZ ai 11 H fv b.fl
 fA:aN fv ≠ A
 fC:aN fv ≠ C
 p:mF b mk hd
 sl:S<Hb.next
 g:Hb.get S=some (OR (cm l c s w) yu)
theorem jX.em {H':AHeap} (h:jX Hb H A C B G S l c s w i bs own gs tg b g V fv mk hd) (f:Fr Em H H'):jX Hb H' A C B G S l c s w i bs own gs tg b g V fv mk hd :=
 ⟨h.z.em f,h.r.fr f id id,h.nA,h.nC,h.lA,h.lC,h.AC,h.f.em f,h.fA,h.fC,h.p,h.sl,h.g⟩
theorem jX.gS (h:jX Hb H A C B G S l c s w i bs own gs tg b g V fv mk hd):H.get S=some (OR (cm l c s w) yu):=by rw [h.z.fr.ae _ h.sl id];exact h.g
theorem jX.s0 (h:jX Hb H A C B G S l c s w i bs own gs tg b g V fv mk hd):Op.aa [.ptr S 0] H=some (.int .i64 l):=ze (xc h.gS) 0
theorem jX.s1 (h:jX Hb H A C B G S l c s w i bs own gs tg b g V fv mk hd):Op.aa [.ptr S 1] H=some (.int .i64 c):=ze (xc h.gS) 1
theorem Ij {A i:Nat}:b9 1 (.slice A 0 256 256) i=i:=by simp [b9]
theorem sl8 {A i:Nat}:b9 8 (.slice A 0 256 256) i=i*8:=by simp [b9]
theorem Jk {A n m o z:Nat} (h:z<n):Op.aK n m [.ptr A o,.int .i64 (z:Int)]=some (.ptr A (o+z*m)):=NK rfl h
theorem Nl (h:jX Hb H A C B G S l c s w i bs own gs tg b g V fv mk hd) (hi:i<=1000) {k j:Nat} {n:No} (hn:b.ns[k]? = some n) (hj:j<b.l.length) {t:Nat} {e:En} (ht:H.get t=some (OR (aq e) qp)) (htl:t<H.next) (hw:e.w=(n.vw j).w)
 {E:Env} {Q:aH} (e15:lk E 15=some (.ptr t 0)) (e14:lk E 14=some (.int .i64 (j:Int))) (e13:lk E 13=some (.int .i64 (k:Int))) (e6:lk E 6=some (.ptr B 0)) (e2:lk E 2=some (.ptr S 0))
 (e12:lk E 12=some fv) (e11:∃ a,lk E 11=some a) (e10:lk E 10=some (.ptr C 0)) (e9:lk E 9=some (.ptr A 0)) (e7:lk E 7=some (.ptr G 0)) (e5:lk E 5=some (.bool true)) (e1:∃ a,lk E 1=some a)
 (hQ:∀ (a1 a11:AV) (d:Nat) H',lk E 1=some a1->lk E 11=some a11->Fr Em H H'->Q .normal [(19,.int .i64 (d:Int)),(15,.ptr t 0),(14,.int .i64 (j:Int)),(13,.int .i64 (k:Int)),(12,fv),(11,a11),(10,.ptr C 0),(9,.ptr A 0),(7,.ptr G 0),(6,.ptr B 0),(5,.bool true),(2,.ptr S 0),(1,a1)] [] H') :
 W M ⟨none,jw⟩ (qw 79) true Q E [] H:=by
 obtain ⟨a1,e1⟩:=e1;obtain ⟨a11,e11⟩:=e11;obtain ⟨-,-,-,-,-,-,-,-,-,-,-,-,-,-,-,-,-,-,-,w79,w83,w89,w100⟩:=I3 M ⟨none,jw⟩;have hb:=h.z.bb hi;have hns:=h.z.ns;have N4:=h.z.I.N4;simp only [↓qg,xe,reduceIte,reduceEqDiff,w79];refine bn.intro (λ m Ex Hx=>∃ d:Nat,m=b.ns.length-d/\d<=b.ns.length/\Ex=[(19,.int .i64 (d:Int)),(15,.ptr t 0),(14,.int .i64 (j:Int)),(13,.int .i64 (k:Int)),(12,fv),(11,a11),(10,.ptr C 0),(9,.ptr A 0),(7,.ptr G 0),(6,.ptr B 0),(5,.bool true),(2,.ptr S 0),(1,a1)]/\Fr Em H Hx) ?_ ?_
 ·exact ⟨_,_,⟨0,rfl,by omega,rfl,Fr.refl _⟩,by simp only [↓qg,xe,reduceIte,reduceEqDiff,e15,e14,e13,e12,e11,e10,e9,e7,e6,e5,e2,e1]⟩
 rintro m Ex Hx ⟨d,rfl,hd1,rfl,fx⟩;have hx:=h.em fx;have ht1:Hx.get t=some (OR (aq e) qp):=by rw [fx.ae _ htl id];exact ht
 have l3:Op.aa [.ptr t 3] Hx=some (.bool e.w):=ze (xc ht1) 3;have s1:=hx.s1;cases hew:e.w with
 | false =>
  rw [hew] at l3
  by_cases q:(d:Int)<c
  ·simp only [↓qg,xe,reduceIte,reduceEqDiff,w83,s1,q,l3];exact hQ a1 a11 d Hx e1 e11 fx
  ·simp only [↓qg,xe,reduceIte,reduceEqDiff,w83,s1,q];exact hQ a1 a11 d Hx e1 e11 fx
 | true =>
  rw [hew] at l3
  by_cases q:(d:Int)<c
  ·obtain ⟨nd,hnd⟩:∃ nd,b.ns[d]? = some nd:=⟨_,qy (by omega)⟩
   have nid:=(h.z.I.nw d nd hnd).ni;obtain ⟨e',he',hes',-⟩:=q87 nid (j:Int);have hdk:d ≠ k->nd.st j=0:=λ q=>(oQ h.z.I hn hj (by rw [<-hw];exact hew)).1 d nd hnd q;have wd:aW .i64 ((d:Int)+1)=((d+1:Nat):Int):=by rw [vl (by omega) (by omega)];omega
   simp only [↓qg,xe,reduceIte,reduceEqDiff,w83,s1,q,l3,w89];refine C3.q (q1c (M:=M) hx.z.r.iw hb hnd (j:Int)) λ v H3 ⟨hv,f3⟩=>?_;rw [hv,he'];obtain ⟨H4,e4⟩:∃ X,X=H3.alloc (OR (aq .zero) qp):=⟨_,rfl⟩
   have f4:Fr Em H3 H4:=by rw [e4];exact (Fr.refl H3).alloc _
   have g4:H4.get H3.next=some (OR (aq .zero) qp):=by rw [e4,qx]
   have st:=fX g4 (zl _) (zl e') (mI e');obtain ⟨H5,e5⟩:∃ X,X=H4.set H3.next (OR (aq e') qp):=⟨_,rfl⟩
   rw [<-e5] at st;have f5:Fr Em H3 H5:=by rw [e5];exact f4.set (.inr (qh _)) _
   have fx5:Fr Em H H5:=(fx.trans f3 λ _ q=>q.elim).trans f5 λ _ q=>q.elim
   by_cases qk:d=k
   ·have qz:(d:Int)=(k:Int):=by omega
    cases hs:decide (nd.st j ≠ 0) with
    | true =>
     simp only [↓qg,xe,reduceIte,reduceEqDiff,qo,eZ,<-e4,st,xj qz];simp only [↓qg,xe,reduceIte,reduceEqDiff,w100,wd];exact ⟨_,_,⟨d+1,rfl,by omega,rfl,fx5⟩,by simp only [↓qg,xe,reduceIte,reduceEqDiff],by omega⟩
    | false =>
     simp only [↓qg,xe,reduceIte,reduceEqDiff,qo,eZ,<-e4,st];simp only [↓qg,xe,reduceIte,reduceEqDiff,w100,wd];exact ⟨_,_,⟨d+1,rfl,by omega,rfl,fx5⟩,by simp only [↓qg,xe,reduceIte,reduceEqDiff],by omega⟩
   ·have hs:decide (nd.st j ≠ 0)=false:=zB λ w=>w (hdk qk);rw [hs];simp only [↓qg,xe,reduceIte,reduceEqDiff,qo,eZ,<-e4,st];simp only [↓qg,xe,reduceIte,reduceEqDiff,w100,wd];exact ⟨_,_,⟨d+1,rfl,by omega,rfl,fx5⟩,by simp only [↓qg,xe,reduceIte,reduceEqDiff],by omega⟩
  ·simp only [↓qg,xe,reduceIte,reduceEqDiff,w83,s1,q];exact hQ a1 a11 d Hx e1 e11 fx
end
end Go.Am
namespace Go.Am
open Go.Proofs Ca
open Lang (ints)
variable {M:aL} [MK M]
section
variable {Hb H:AHeap} {A C B G S:Nat} {l c s w:Int} {i:Nat} {bs:Bs} {own tg:Nat->Nat} {gs:Gs} {b:Bu} {g:Gh} {V:Int->L8} {fv:AV} {mk:List Bool} {hd:List L8}
theorem mT.JV (h:mT H A C mk hd) {x:Nat} {q:Bool} (hq:mk[x]? = some q):Op.aa [.ptr A x] H=some (.bool q):=by
 have:=(h.m.sl Kr).aa Kr hq (j:=0) (by decide);rw [Ij] at this;exact this
theorem mT.FN (h:mT H A C mk hd) {x:Nat} {d:L8} (hq:hd[x]? = some d):Op.ao 8 [.ptr C (x*8)] H=some (.agg (bS d)):=by
 have:=(h.d.sl yh).ao yh (by decide) hq;rw [sl8] at this;exact this
theorem mT.stm (h:mT H A C mk hd) (hAC:A ≠ C) {x:Nat} {q:Bool} (hq:mk[x]? = some q) (q':Bool):∃ H',Op.store 1 [.ptr A x,.bool q'] H=some (.undef,H')/\mT H' A C (mk.set x q') hd/\Fr (On A) H H':=by
 obtain ⟨H',a,b,f⟩:=h.m.sj Kr hq (j:=0) (y:=q') (u:=.bool q') (by decide) rfl rfl;rw [Ij] at a;exact ⟨H',a,⟨b,h.d.fr f (vd hAC),by rw [xd];exact h.ml,h.dl⟩,f⟩
theorem mT.std (h:mT H A C mk hd) (hAC:A ≠ C) {x:Nat} {d:L8} (hq:hd[x]? = some d) (d':L8):∃ H',Op.store 8 [.ptr C (x*8),.agg (bS d')] H=some (.undef,H')/\mT H' A C mk (hd.set x d')/\Fr (On C) H H':=by
 obtain ⟨H',a,b,f⟩:=h.d.Dw yh nY hq d';rw [sl8] at a;exact ⟨H',a,⟨h.m.fr f hAC,b,h.ml,by rw [xd];exact h.dl⟩,f⟩
theorem jX.Br {H':AHeap} {mk':List Bool} {hd':List L8} (h:jX Hb H A C B G S l c s w i bs own gs tg b g V fv mk hd) (r:mT H' A C mk' hd') (f:Fr (λ z=>z=A\/z=C) H H') (p:mF b mk' hd'):jX Hb H' A C B G S l c s w i bs own gs tg b g V fv mk' hd' :=
 ⟨h.z.mW f (λ z q=>q.elim (λ q=>by rw [q];exact ⟨h.lA,h.nA⟩) λ q=>by rw [q];exact ⟨h.lC,h.nC⟩),r,h.nA,h.nC,h.lA,h.lC,h.AC,h.f.fr f (λ q=>q.elim h.fA h.fC),h.fA,h.fC,p,h.sl,h.g⟩
theorem B7 (h:jX Hb H A C B G S l c s w i bs own gs tg b g V fv mk hd) (hi:i<=1000) {k j:Nat} {n:No} (hn:b.ns[k]? = some n) (hj:j<b.l.length) (hl:b.l.length<=64) {a11 a1:AV} {Q:aH}
 (hQ:∀ (mk':List Bool) (hd':List L8) (H':AHeap) (d t:Nat),jX Hb H' A C B G S l c s w i bs own gs tg b g V fv mk' hd'->mk'=mk.set (k*64+j) (n.vw j).w->Q .normal [(14,.int .i64 ((j+1:Nat):Int)),(19,.int .i64 (d:Int)),(15,.ptr t 0),(14,.int .i64 (j:Int)),(13,.int .i64 (k:Int)),(12,fv),(11,a11),(10,.ptr C 0),(9,.ptr A 0),(7,.ptr G 0),(6,.ptr B 0),(5,.bool true),(2,.ptr S 0),(1,a1)] [] H') :
 W M ⟨none,jw⟩ (qw 57) true Q [(14,.int .i64 (j:Int)),(13,.int .i64 (k:Int)),(12,fv),(11,a11),(10,.ptr C 0),(9,.ptr A 0),(7,.ptr G 0),(6,.ptr B 0),(5,.bool true),(2,.ptr S 0),(1,a1)] [] H:=by
 obtain ⟨-,-,-,-,-,-,-,-,-,-,-,-,-,-,w57,w101,w63,w69,w71,-,-,-,-⟩:=I3 M ⟨none,jw⟩;have hb:=h.z.bb hi;have hI:=h.z.I;have N4:=hI.N4;have hkl:=(qi.1 hn).1;obtain ⟨e,he,hes,hew⟩:=q87 (hI.nw k n hn).ni (j:Int);obtain ⟨wd,hwd⟩:∃ x,b.m[j]? = some x:=⟨_,qy (by rw [hI.ml];exact hj)⟩
 have ixa1:Op.aK 4 64 [.ptr A 0,.int .i64 (k:Int)]=some (.ptr A (k*64)):=by rw [Jk (by omega),ko]
 have ixa2:Op.aK 64 1 [.ptr A (k*64),.int .i64 (j:Int)]=some (.ptr A (k*64+j)):=by rw [Jk (by omega),Ct]
 have ixc1:Op.aK 4 512 [.ptr C 0,.int .i64 (k:Int)]=some (.ptr C (k*512)):=by rw [Jk (by omega),ko]
 have ixc2:Op.aK 64 8 [.ptr C (k*512),.int .i64 (j:Int)]=some (.ptr C ((k*64+j)*8)):=by rw [Jk (by omega)];congr 2;omega
 have wj:aW .i64 ((j:Int)+1)=((j+1:Nat):Int):=by rw [vl (by omega) (by omega)];omega
 simp only [↓qg,xe,reduceIte,reduceEqDiff,w57];refine C3.q (q1c (M:=M) h.z.r.iw hb hn (j:Int)) λ v H3 ⟨hv,f3⟩=>?_;rw [hv,he];obtain ⟨H4,e4⟩:∃ X,X=H3.alloc (OR (aq .zero) qp):=⟨_,rfl⟩
 have f4:Fr Em H3 H4:=by rw [e4];exact (Fr.refl H3).alloc _
 have g4:H4.get H3.next=some (OR (aq .zero) qp):=by rw [e4,qx]
 have st:=fX g4 (zl _) (zl e) (mI e);obtain ⟨H5,e5⟩:∃ X,X=H4.set H3.next (OR (aq e) qp):=⟨_,rfl⟩
 rw [<-e5] at st;have g5:H5.get H3.next=some (OR (aq e) qp):=by rw [e5,xf]
 have f5:Fr Em H3 H5:=by rw [e5];exact f4.set (.inr (qh _)) _
 have n5:H3.next<H5.next:=by rw [e5,e4];exact zf _
 have p5:=h.em (f3.trans f5 λ _ q=>q.elim);simp only [↓qg,xe,reduceIte,reduceEqDiff,qo,eZ,<-e4,st];refine C3.q (q3e (M:=M) p5.z.r.iw hwd) λ v H6 ⟨hv,f6⟩=>?_;rw [hv];obtain ⟨H7,e7⟩:∃ X,X=H6.alloc (OR (bS .zero) zh):=⟨_,rfl⟩
 have f7:Fr Em H6 H7:=by rw [e7];exact (Fr.refl H6).alloc _
 have g7:H7.get H6.next=some (OR (bS .zero) zh):=by rw [e7,qx]
 have st7:=fX g7 (yh _) (yh wd) (nY wd);obtain ⟨H8,e8⟩:∃ X,X=H7.set H6.next (OR (bS wd) zh):=⟨_,rfl⟩
 rw [<-e8] at st7;have g8:H8.get H6.next=some (OR (bS wd) zh):=by rw [e8,xf]
 have f8:Fr Em H6 H8:=by rw [e8];exact f7.set (.inr (qh _)) _
 have f68:Fr Em H5 H8:=f6.trans f8 λ _ q=>q.elim;have n6:=f6.next
 have n8:H6.next<H8.next:=by rw [e8,e7];exact zf _
 have p8:=p5.em f68;have k8:H8.get H3.next=some (OR (aq e) qp):=by rw [f68.ae _ n5 id];exact g5
 simp only [↓qg,xe,reduceIte,reduceEqDiff,qo,eZ8,<-e7,st7];have lA:=p8.r.m.lt;have lC:=p8.r.d.lt;have hA3:H3.next ≠ A:=λ q=>by
  have:=h.r.m.lt;have:=f3.next;have q2:aN (AV.slice A 0 256 256)=A:=rfl;omega
 have hC3:H3.next ≠ C:=λ q=>by
  have:=h.r.d.lt;have:=f3.next;have q2:aN (AV.slice C 0 256 256)=C:=rfl;omega
 have hA6:H6.next ≠ A:=λ q=>by
  have:=p5.r.m.lt;have q2:aN (AV.slice A 0 256 256)=A:=rfl;omega
 have hC6:H6.next ≠ C:=λ q=>by
  have:=p5.r.d.lt;have q2:aN (AV.slice C 0 256 256)=C:=rfl;omega
 obtain ⟨q0,hq0,hd0⟩:=p8.p k n j hn hj;have hml:=p8.r.ml;have hdl:=p8.r.dl;obtain ⟨dd,hdd⟩:∃ x,hd[k*64+j]? = some x:=⟨_,qy (by omega)⟩
 have l3:Op.aa [.ptr H3.next 3] H8=some (.bool e.w):=ze (xc k8) 3;have lw:Op.ao 8 [.ptr H6.next 0] H8=some (.agg (bS wd)):=eJ g8 (yh _);have lq:=p8.r.JV hq0
 -- behind the two rows were written
 have tail:∀ (H9:AHeap) (mk':List Bool) (hd':List L8) (Q':aH),jX Hb H9 A C B G S l c s w i bs own gs tg b g V fv mk' hd'->H9.get H3.next=some (OR (aq e) qp)->H3.next<H9.next->H9.get H6.next=some (OR (bS wd) zh)->(e.w=true->hd'[k*64+j]? = some wd) ->
  (∀ (d t:Nat) H',jX Hb H' A C B G S l c s w i bs own gs tg b g V fv mk' hd'->Q' .normal [(19,.int .i64 (d:Int)),(15,.ptr t 0),(14,.int .i64 (j:Int)),(13,.int .i64 (k:Int)),(12,fv),(11,a11),(10,.ptr C 0),(9,.ptr A 0),(7,.ptr G 0),(6,.ptr B 0),(5,.bool true),(2,.ptr S 0),(1,a1)] [] H') ->
  W M ⟨none,jw⟩ (qw 71) true Q' [(17,.ptr H6.next 0),(15,.ptr H3.next 0),(14,.int .i64 (j:Int)),(13,.int .i64 (k:Int)),(12,fv),(11,a11),(10,.ptr C 0),(9,.ptr A 0),(7,.ptr G 0),(6,.ptr B 0),(5,.bool true),(2,.ptr S 0),(1,a1)] [] H9:=by
  intro H9 mk' hd' Q' p9 g3 n3 g6 hh hQ';have l3:Op.aa [.ptr H3.next 3] H9=some (.bool e.w):=ze (xc g3) 3;have l1:Op.aa [.ptr H3.next 1] H9=some (.int .i64 (n.st j)):=by rw [<-hes];exact ze (xc g3) 1
  have lw:Op.ao 8 [.ptr H6.next 0] H9=some (.agg (bS wd)):=eJ g6 (yh _);have fin:=λ (Q2:aH) (E2:Env) e15 e14 e13 e6 e2 e12 e11 e10 e9 e7 e5 e1 hq=>Nl (M:=M) p9 hi hn hj g3 n3 hew (E:=E2) (Q:=Q2) e15 e14 e13 e6 e2 e12 e11 e10 e9 e7 e5 e1 hq;cases hw:e.w with
  | false =>
   rw [hw] at l3;simp only [↓qg,xe,reduceIte,reduceEqDiff,w71,l3];exact Nl (M:=M) p9 hi hn hj g3 n3 hew rfl rfl rfl rfl rfl rfl ⟨_,rfl⟩ rfl rfl rfl rfl ⟨_,rfl⟩ λ b1 b11 d H' q1 q11 f=>by
    cases q1;cases q11;exact hQ' d H3.next H' (p9.em f)
  | true =>
   rw [hw] at l3;have w2:(n.vw j).w=true:=by rw [<-hew];exact hw
   have h2:n.st j=2:=Bc hI hn w2;have ld9:=p9.r.FN (hh hw);have eql:=uC Jl (.agg (bS wd)) (.agg (bS wd)) H9 true (by rw [eqL,Ax rfl]);have fl5:=h.z.C.fl;simp only [↓qg,xe,reduceIte,reduceEqDiff,w71,l3];refine C3.q (q1l (M:=M) p9.f (by omega) (j:Int) (oQ hI hn hj w2).2) λ v H' ⟨hv,hh'⟩=>?_;rw [hv,hh'];simp only [↓qg,xe,reduceIte,reduceEqDiff,l3,lw,ixc1,ixc2,ld9,eql,l1,xj h2];exact Nl (M:=M) p9 hi hn hj g3 n3 hew rfl rfl rfl rfl rfl rfl ⟨_,rfl⟩ rfl rfl rfl rfl ⟨_,rfl⟩ λ b1 b11 d H' q1 q11 f=>by
    cases q1;cases q11;exact hQ' d H3.next H' (p9.em f)
 have hkj:k*64+j<mk.length:=by omega
 -- the mark is written
 have mark:∀ (H9:AHeap) (hd':List L8),mT H9 A C mk hd'->Fr (λ z=>z=A\/z=C) H8 H9->hd'=(if e.w=true/\q0=false then hd.set (k*64+j) wd else hd)->W M ⟨none,jw⟩ (qw 69) true (aI 5 (ak (W M ⟨none,jw⟩ (qw 101)) Q)) [(17,.ptr H6.next 0),(15,.ptr H3.next 0),(14,.int .i64 (j:Int)),(13,.int .i64 (k:Int)),(12,fv),(11,a11),(10,.ptr C 0),(9,.ptr A 0),(7,.ptr G 0),(6,.ptr B 0),(5,.bool true),(2,.ptr S 0),(1,a1)] [] H9:=by
  intro H9 hd' r9 f9 ehd;obtain ⟨H10,s10,r10,f10⟩:=r9.stm h.AC hq0 e.w;have f810:Fr (λ z=>z=A\/z=C) H8 H10:=f9.trans f10 λ z q=>.inl (.inl q);have pre:mF b (mk.set (k*64+j) e.w) hd':=by
   rw [ehd];exact zW p8.p hkj (by omega) hwd hl hj hq0 hd0
  have p10:=p8.Br r10 f810 pre;have g3:H9.get H3.next=some (OR (aq e) qp):=by rw [f9.ae _ (by omega) (λ q=>q.elim hA3 hC3)];exact k8
  have l3:Op.aa [.ptr H3.next 3] H9=some (.bool e.w):=ze (xc g3) 3;have n9:=f9.next
  have n10:=f10.next
  simp only [↓qg,xe,reduceIte,reduceEqDiff,w69,l3,ixa1,ixa2,s10];refine tail H10 _ hd' _ p10 (by rw [f10.ae _ (by omega) hA3];exact g3) (by omega) (by rw [f810.ae _ (by omega) (λ q=>q.elim hA6 hC6)];exact g8) (λ hw=>?_) λ d t H' hp=>?_
  ·rw [ehd];cases q0 with
   | true=>rw [qd (λ q=>by cases q.2),<-hd0 rfl];exact hwd
   | false=>rw [qr ⟨hw,rfl⟩,xg (by omega)]
  ·simp only [↓qg,xe,reduceIte,reduceEqDiff,w101,wj];exact hQ _ hd' H' d t hp (by rw [hew])
 cases hw:e.w with
 | false =>
  rw [hw] at l3;simp only [↓qg,xe,reduceIte,reduceEqDiff,w63,l3];exact mark H8 hd p8.r (Fr.refl _) (by rw [hw];rw [qd (λ q=>by cases q.1)])
 | true =>
  rw [hw] at l3;cases q0 with
  | true =>
   simp only [↓qg,xe,reduceIte,reduceEqDiff,w63,l3,ixa1,ixa2,lq];exact mark H8 hd p8.r (Fr.refl _) (by rw [qd (λ q=>by cases q.2)])
  | false =>
   obtain ⟨H9,s9,r9,f9⟩:=p8.r.std h.AC hdd wd;simp only [↓qg,xe,reduceIte,reduceEqDiff,w63,l3,ixa1,ixa2,lq,lw,ixc1,ixc2,s9];exact mark H9 _ r9 (f9.mono λ z _ q=>.inr q) (by rw [qr ⟨hw,rfl⟩])
end
end Go.Am
namespace Go.Am
open Go.Proofs Ca
open Lang (ints)
variable {M:aL} [MK M]
theorem Of {α:Type} (m:Nat) (x:α) (f:α->List AV) (y:AV) (h:f x=List.replicate m y):∀ n,(List.replicate n x).flatMap f=List.replicate (n*m) y
 | 0=>by simp
 | n+1=>by rw [Fa,jm,Of m x f y h n,h,List.replicate_append_replicate,wx,EV]
section
variable {Hb H:AHeap} {B G:Nat} {l c:Int} {i:Nat} {bs:Bs} {own tg:Nat->Nat} {gs:Gs} {b:Bu} {g:Gh} {V:Int->L8}
theorem nq.IB (h:nq Hb H B G l c i bs own gs tg b g V) (hi:i<=1000) (x:Bt):jr M zw [.ptr G 0,.ptr B 0,.agg (eO x)] H λ v H'=>v=.bool (g.eU b x).2 /\ ∃ bs' eI gs' tg',nq Hb H' B G l c (i+1) bs' eI gs' tg' (b.step x) (g.mG b x) (if x.k=7 then V else nD b V x)/\(∀ z,lW B bs' G gs' z->lW B bs G gs z\/H.next<=z)/\Fr (lW B bs G gs) H H':=by
 refine (q2p (M:=M) h.r h.I h.C h.g hi x).mono λ v H' ⟨hv,hp⟩=>⟨hv,?_⟩
 obtain ⟨s2,o2,gs2,t2,h2,sub2,f2⟩:=hp;obtain ⟨z1,z2⟩:=Is b x;exact ⟨s2,o2,gs2,t2,⟨h2,M7 h.I x,Nr h.C x,uF h.I h.g x,by rw [z1];exact h.ns,by rw [z2];exact h.l,h.fr.trans f2 λ z q=>.inr (q.elim (h.r.iw.lo z) (h.r.gh.lo z))⟩,sub2,f2⟩
end
section
variable {Hb H:AHeap} {A C B G S:Nat} {l c s w:Int} {i:Nat} {bs:Bs} {own tg:Nat->Nat} {gs:Gs} {b:Bu} {g:Gh} {V:Int->L8} {fv:AV} {mk:List Bool} {hd:List L8}
theorem wC {n:No} {k j:Nat} (hr:jX Hb H A C B G S l c s w i bs own gs tg b g V fv mk hd) (hn:b.ns[k]? = some n) (hj:j<b.l.length) (hl:b.l.length<=64) :
 gQ b (mk.set (k*64+j) (n.vw j).w) k n j /\ ∀ (k':Nat) (n':No) (j':Nat),j'<b.l.length->gQ b mk k' n' j'->(k' ≠ k\/j' ≠ j)->gQ b (mk.set (k*64+j) (n.vw j).w) k' n' j':=by
 have hml:=hr.r.ml;have N4:=hr.z.I.N4;have hkl:=(qi.1 hn).1;refine ⟨xg (by omega),λ k' n' j' hj' hd' q=>?_⟩;unfold gQ at hd' ⊢;rw [xu (by omega)];exact hd'
theorem Gq (h:jX Hb H A C B G S l c s w i bs own gs tg b g V fv mk hd) (hi:i<=1000) (hl:b.l.length<=64) {a11 a1:AV} {Q:aH}
 (hQ:∀ (mk':List Bool) (hd':List L8) (H':AHeap) (k:Nat),jX Hb H' A C B G S l c s w i bs own gs tg b g V fv mk' hd'->J8 b mk'->Q .normal [(13,.int .i64 (k:Int)),(12,fv),(11,a11),(10,.ptr C 0),(9,.ptr A 0),(7,.ptr G 0),(6,.ptr B 0),(5,.bool true),(2,.ptr S 0),(1,a1)] [] H') :
 W M ⟨none,jw⟩ (qw 35) true Q [(12,fv),(11,a11),(10,.ptr C 0),(9,.ptr A 0),(7,.ptr G 0),(6,.ptr B 0),(5,.bool true),(2,.ptr S 0),(1,a1)] [] H:=by
 obtain ⟨-,-,-,-,-,-,-,-,-,w35,w39,w45,w102,w51,-,-,-,-,-,-,-,-,-⟩:=I3 M ⟨none,jw⟩;have hns:=h.z.ns;have hll:=h.z.l;have N4:=h.z.I.N4;simp only [↓qg,xe,reduceIte,reduceEqDiff,w35];refine bn.intro (λ m E Hx=>∃ (k:Nat) (mk:List Bool) (hd:List L8),E=[(13,.int .i64 (k:Int)),(12,fv),(11,a11),(10,.ptr C 0),(9,.ptr A 0),(7,.ptr G 0),(6,.ptr B 0),(5,.bool true),(2,.ptr S 0),(1,a1)]/\m=b.ns.length-k/\k<=b.ns.length/\jX Hb Hx A C B G S l c s w i bs own gs tg b g V fv mk hd /\ ∀ (k':Nat) (n:No) (j:Nat),k'<k->b.ns[k']? = some n->j<b.l.length->gQ b mk k' n j) ?_ ?_
 ·exact ⟨_,_,⟨0,mk,hd,rfl,rfl,zp _,h,λ _ _ _ q=>absurd q (Nat.not_lt_zero _)⟩,by simp only [↓qg,xe,reduceIte,reduceEqDiff]⟩
 rintro m E Hx ⟨k,mk,hd,rfl,rfl,hk,hr,hdn⟩;have s1:=hr.s1
 by_cases q:(k:Int)<c
 ·obtain ⟨n,hn⟩:∃ n,b.ns[k]? = some n:=⟨_,qy (by omega)⟩
  have wk:aW .i64 ((k:Int)+1)=((k+1:Nat):Int):=by rw [vl (by omega) (by omega)];omega
  simp only [↓qg,xe,reduceIte,reduceEqDiff,w39,s1,q,w45];refine bn.intro (λ m E Hx=>∃ (j:Nat) (mk:List Bool) (hd:List L8),E=[(14,.int .i64 (j:Int)),(13,.int .i64 (k:Int)),(12,fv),(11,a11),(10,.ptr C 0),(9,.ptr A 0),(7,.ptr G 0),(6,.ptr B 0),(5,.bool true),(2,.ptr S 0),(1,a1)]/\m=b.l.length-j/\j<=b.l.length/\jX Hb Hx A C B G S l c s w i bs own gs tg b g V fv mk hd/\(∀ (k':Nat) (n:No) (j:Nat),k'<k->b.ns[k']? = some n->j<b.l.length->gQ b mk k' n j) /\ ∀ j',j'<j->gQ b mk k n j') ?_ ?_
  ·exact ⟨_,_,⟨0,mk,hd,rfl,rfl,zp _,hr,hdn,λ _ q=>absurd q (Nat.not_lt_zero _)⟩,by simp only [↓qg,xe,reduceIte,reduceEqDiff]⟩
  rintro m E Hy ⟨j,mk,hd,rfl,rfl,hj,hr,hdn,hdj⟩;have s0:=hr.s0
  by_cases qj:(j:Int)<l
  ·simp only [↓qg,xe,reduceIte,reduceEqDiff,w51,s0,qj];refine B7 (M:=M) hr hi hn (by omega) hl λ mk' hd' H' d t hp emk=>?_;obtain ⟨d1,d2⟩:=wC hr hn (j:=j) (by omega) hl;rw [<-emk] at d1 d2;simp only [↓qg,xe,reduceIte,reduceEqDiff];exact ⟨_,_,⟨j+1,mk',hd',rfl,rfl,by omega,hp,λ k' n' j' hk' hn' hj'=>d2 k' n' j' hj' (hdn k' n' j' hk' hn' hj') (.inl (by omega)),λ j' hj'=>by
    by_cases e:j'=j
    ·rw [e];exact d1
    ·exact d2 k n j' (by omega) (hdj j' (by omega)) (.inr e)⟩,by simp only [↓qg,xe,reduceIte,reduceEqDiff],by omega⟩
  ·simp only [↓qg,xe,reduceIte,reduceEqDiff,w51,s0,qj];simp only [↓qg,xe,reduceIte,reduceEqDiff,w102,wk];exact ⟨_,_,⟨k+1,mk,hd,rfl,rfl,by omega,hr,λ k' n' j' hk' hn' hj'=>by
    by_cases e:k'=k
    ·subst e;rw [hn] at hn';injection hn' with hn';subst hn'
     exact hdj j' (by omega)
    ·exact hdn k' n' j' (by omega) hn' hj'⟩,by simp only [↓qg,xe,reduceIte,reduceEqDiff],by omega⟩
 ·simp only [↓qg,xe,reduceIte,reduceEqDiff,w39,s1,q];exact hQ mk hd Hx k hr λ k' n' j' hn' hj'=>hdn k' n' j' (by have:=(qi.1 hn').1;omega) hn' hj'
end
theorem qy6 {H:AHeap} {l c s w:Int} {xv:AV} {xs:List Bt} (hal:∀ H1,Fr Em H H1->jr M qps [] H1 λ v H'=>v=.bool true/\H'=H1) (hx:dZ eO 5 H xv xs):jr M jw [.agg (cm l c s w),xv] H λ v _=>v=.bool true:=by
 refine qr2 ?_;obtain ⟨w0,w4,w6,w14,w18,w104,w23,w29,w103,-,-,-,-,-,-,-,-,-,-,-,-,-,-⟩:=I3 M ⟨none,jw⟩;obtain ⟨H1,e1⟩:∃ X,X=H.alloc (OR (cm l c s w) yu):=⟨_,rfl⟩
 have f1:Fr Em H H1:=by rw [e1];exact (Fr.refl H).alloc _
 have n1:H1.next=H.next+1:=by rw [e1,xn]
 have g1:H1.get H.next=some (OR (cm l c s w) yu):=by rw [e1,qx]
 have ld4:Op.ao 4 [.ptr H.next 0] H1=some (.agg (cm l c s w)):=eJ g1 rfl;have hx1:=hx.em f1;simp only [↓qg,xe,reduceIte,reduceEqDiff,w0,xz,<-e1];refine C3.q (hal H1 f1) λ v H2 ⟨hv,hh⟩=>?_;rw [hv,hh];simp only [↓qg,xe,reduceIte,reduceEqDiff,w4,ld4];refine C3.q (q6h (M:=M) l c s w hx1) λ v H3 hv=>?_;rcases Aj hv with ⟨_,hv⟩|⟨⟨hok,hn⟩,B,G,bs,own,gs,tg,hv,hz⟩
 ·rw [hv];simp only [↓qg,xe,reduceIte,reduceEqDiff,qo,w6]
 rw [hv];obtain ⟨H4,e4⟩:∃ X,X=H3.alloc (OR (List.replicate 256 (.bool false)) pG):=⟨_,rfl⟩
 obtain ⟨H5,e5⟩:∃ X,X=H4.alloc (OR (List.replicate 2048 (.int .u64 0)) pN):=⟨_,rfl⟩
 have f4:Fr Em H3 H4:=by rw [e4];exact (Fr.refl H3).alloc _
 have f5:Fr Em H4 H5:=by rw [e5];exact (Fr.refl H4).alloc _
 have n4:H4.next=H3.next+1:=by rw [e4,xn]
 have n5:H5.next=H4.next+1:=by rw [e5,xn]
 have n13:=hz.fr.next
 have g4:H5.get H3.next=some (OR (List.replicate 256 (.bool false)) pG):=by rw [f5.ae _ (by omega) id,e4,qx]
 have g5:H5.get H4.next=some (OR (List.replicate 2048 (.int .u64 0)) pN):=by rw [e5,qx]
 have r5:mT H5 H3.next H4.next (List.replicate 256 false) (List.replicate 256 L8.zero):=⟨⟨H3.next,by rw [xx],by omega,by rw [g4,Of 1 false Dg (.bool false) rfl]⟩,⟨H4.next,by rw [xx],by omega,by rw [g5,Of 8 L8.zero bS (.int .u64 0) rfl]⟩,xx,xx⟩
 have hz5:=(hz.em f4).em f5;have hlow:=λ z (q:lW B bs G gs z)=>hz.r.low q;obtain ⟨pr,mh⟩:=yA hok;simp only [↓qg,xe,reduceIte,reduceEqDiff,qo,w6,w14,<-e4,<-e5,w18];refine bn.intro (λ m E Hx=>∃ (i:Nat) (bs:Bs) (own tg:Nat->Nat) (gs:Gs) (b:Bu) (g:Gh) (V:Int->L8) (mk:List Bool) (hd:List L8),E=[(11,.int .i64 (i:Int)),(10,.ptr H4.next 0),(9,.ptr H3.next 0),(7,.ptr G 0),(6,.ptr B 0),(5,.bool true),(2,.ptr H.next 0),(1,xv)]/\m=xs.length-i/\i<=xs.length/\nq H1 Hx B G l c i bs own gs tg b g V/\mT Hx H3.next H4.next mk hd /\ ¬ lW B bs G gs H3.next /\ ¬ lW B bs G gs H4.next/\mF b mk hd/\J8 b mk) ?_ ?_
 ·exact ⟨_,_,⟨0,_,_,_,_,_,_,_,_,_,rfl,rfl,zp _,hz5,r5,λ q=>by have:=hlow _ q;omega,λ q=>by have:=hlow _ q;omega,pr,mh⟩,by simp only [↓qg,xe,reduceIte,reduceEqDiff]⟩
 rintro m E Hx ⟨i,bs,own,tg,gs,b,g,V,mk,hd,rfl,rfl,hi,hI,hr,nA,nC,hp,hm⟩;have hxx:=hx1.em hI.fr
 by_cases q:(i:Int)<((xs.length:Nat):Int)
 ·obtain ⟨x,hxi⟩:∃ x,xs[i]? = some x:=⟨_,qy (by omega)⟩
  have ix:=hxx.idx hxi (z:=(i:Int)) rfl .i64;have ld:=hxx.ao q8z (by decide) hxi;have wi:aW .i64 ((i:Int)+1)=((i+1:Nat):Int):=by rw [vl (by omega) (by omega)];omega
  simp only [↓qg,xe,reduceIte,reduceEqDiff,w23,hxx.len,q,w29,ix,ld];refine C3.q (hI.IB (M:=M) (by omega) x) λ v H6 ⟨hv,bs6,own6,gs6,tg6,hJ,hsub,f6⟩=>?_;simp only [↓qg,xe,reduceIte,reduceEqDiff];refine C3.q (q3d (M:=M) hJ.r.iw (hJ.bb (by omega))) λ fv H7 hfl=>?_;have lA:H3.next<Hx.next:=hr.m.lt
  have lC:H4.next<Hx.next:=hr.d.lt
  have n6:=f6.next
  have hfv:∀ z,0<z->z<H6.next->aN fv ≠ z:=λ z h0 h1 q=>by
   by_cases hf:fv=.nils
   ·rw [hf] at q;have:(0:Nat)=z:=q;omega
   ·have:=hfl.fresh _ ⟨hf,rfl⟩;omega
  have hll:=hJ.l;obtain ⟨⟨⟨l0,l1⟩,c0,c1⟩,hs⟩:=id hok;have pr:jX H1 H7 H3.next H4.next B G H.next l c s w (i+1) bs6 own6 gs6 tg6 (b.step x) (g.mG b x) (if x.k=7 then V else nD b V x) fv mk hd :=
   ⟨hJ.em hfl.fr,(hr.fr f6 nA nC).fr hfl.fr id id,λ q=>(hsub _ q).elim nA λ w=>by omega,λ q=>(hsub _ q).elim nC λ w=>by omega,by omega,by omega,by omega,hfl.sl,hfv _ (by omega) (by omega),hfv _ (by omega) (by omega),uz hI.I hp hm x,by omega,g1⟩
  refine Gq (M:=M) pr (by omega) (by omega) λ mk' hd' H8 k hp' hm'=>?_;simp only [↓qg,xe,reduceIte,reduceEqDiff,w103,wi];exact ⟨_,_,⟨i+1,_,_,_,_,_,_,_,mk',hd',rfl,rfl,by omega,hp'.z,hp'.r,hp'.nA,hp'.nC,hp'.p,hm'⟩,by simp only [↓qg,xe,reduceIte,reduceEqDiff],by omega⟩
 ·simp only [↓qg,xe,reduceIte,reduceEqDiff,w23,hxx.len,q,w104]
end Go.Am
