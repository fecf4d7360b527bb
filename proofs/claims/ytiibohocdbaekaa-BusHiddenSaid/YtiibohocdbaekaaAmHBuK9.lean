/- BuK9: BsG BuL GhA GhB BuM. -/
import Derived.Test.YtiibohocdbaekaaAmHBuK8
set_option linter.unusedVariables false
set_option linter.unusedSimpArgs false
set_option linter.unusedSectionVars false
set_option maxRecDepth 100000
open Nat (reduceEqDiff)
namespace Go.Am
open Go.Proofs Ca
open Lang (ints)
variable {M:aL} [MK M]
def iY (l s w:Int) (k:Nat):List No:=(List.range k).map λ (i:Nat)=>gq (i:Int) l s w
def cT (l c s w:Int):Bu:=⟨List.replicate l.toNat .zero,List.replicate l.toNat ew,iY l s w c.toNat,[]⟩
def gN (l c s w:Int):Prop:=pJ l c/\lP s w
instance (l c s w:Int):Decidable (gN l c s w):=inferInstanceAs (Decidable (_/\_))
theorem CU {l s w:Int} {k i:Nat} {n:No} (h:(iY l s w k)[i]? = some n):i<k/\n=gq (i:Int) l s w:=by
 unfold iY at h;rw [xt,xk] at h;obtain ⟨j,hj,e⟩:=h;have hk:=(qi.1 hj).1;rw [yl] at hk;rw [vn hk] at hj;injection hj with hj;subst hj
 exact ⟨hk,e.symm⟩
theorem Jc (l s w:Int) (k:Nat):(iY l s w k).length=k:=by unfold iY;rw [zm,yl]
structure EA (H0 H:AHeap) (B D mp:Nat) (lv ev nv:AV) (l c s w:Int) (ad:List Na) (own:Nat->Nat):Prop where
 row:H.get B=some (OR [.ptr D 0,nv,.nils,.int .i64 l] yF)
 lt:B<H.next
 d:ij H D mp lv ev c (List.replicate l.toNat .zero) (List.replicate l.toNat (ew,.nils))
 KI:d8 pI yU 1 H nv (ad.map Na.r)
 no:∀ (k:Nat) (A:Na),ad[k]? = some A->bX H0 H A.r A.b A.sv A.bv (gq (k:Int) l s w) A.ks
 oB:own B=0
 oD:∀ z,gY D mp lv ev (List.replicate l.toNat (ew,.nils)) z->own z=1
 oN:∀ z,bC nv z->own z=2
 oC:∀ (k:Nat) (A:Na),ad[k]? = some A -> ∀ z,A.w z->own z=4+k
 GJ:H0.next<=B
 loD:∀ z,gY D mp lv ev (List.replicate l.toNat (ew,.nils)) z->H0.next<=z
 GY:∀ z,bC nv z->H0.next<=z
 fr:Fr Em H0 H
theorem bX.base {H0 H1 H:AHeap} {r b:Nat} {sv bv:AV} {n:No} {ks:List Nat} (h:bX H1 H r b sv bv n ks) (f:Fr Em H0 H1):bX H0 H r b sv bv n ks:=by
 have hn:=f.next
 refine ⟨h.row,h.lt,h.ca,⟨?_,f.trans h.bk.fr λ _ q=>.inl q⟩,h.eq,xy hn h.lr,xy hn h.lb,xy hn h.ls,h.n1,h.n2,h.o1,h.o2,h.o3,h.li,h.len⟩;rcases h.bk.own with q|⟨b,m,rest,q0,q1,q2,q3⟩
 ·exact .inl q
 ·exact .inr ⟨b,m,rest,q0,q1,xy hn q2,q3⟩
theorem bX.all {H0 H:AHeap} {r b:Nat} {sv bv:AV} {n:No} {ks:List Nat} (h:bX H0 H r b sv bv n ks) {z:Nat} (hz:eK r b sv bv z):H0.next<=z:=by
 rcases hz with rfl|(rfl|rfl) | hz
 ·exact h.lr
 ·exact h.lb
 ·exact h.ls
 ·exact (h.bk.fresh z hz).1
section
variable {H0 H:AHeap} {B D mp:Nat} {lv ev nv:AV} {l c s w:Int} {ad:List Na} {own:Nat->Nat}
theorem EA.step (h:EA H0 H B D mp lv ev nv l c s w ad own) (hl4:ad.length<=4) {H1:AHeap} {A:Na} (hA:bX H H1 A.r A.b A.sv A.bv (gq (ad.length:Int) l s w) A.ks) {K:bJ->(Nat->AV)->Bool->AV->AHeap->Prop}
 (hk:∀ v H2,(∃ H3,Op.store 1 [.ptr B 1,v] H2=some (.undef,H3)/\(∃ own2,EA H0 H3 B D mp lv ev v l c s w (ad ++ [A]) own2)/\Fr (λ z=>z=B\/bC nv z) H H3 /\ ∀ z,bC v z->bC nv z\/H.next<=z)->K (.row [.ptr A.r 0] yU (0,0) true) (Op.sliceTo 1 1) true v H2) :
 aX true (Op.buildSlice yU 1 [.nilp] [(0,1)] [.ptr A.r 0]) λ g o mk=>aX g (Op.append yU 1 8 [nv,mk H1.next] (H1.alloc o)) (K o mk):=by
 have f01:Fr Em H H1:=hA.bk.fr;have m01:=f01.next
 refine iC (e:=yU) (size:=1) (bytes:=8) (Own.em h.KI f01) (x:=.ptr A.r 0) rfl rfl rfl (by decide) (by rw [zm];omega) (by rw [zm];omega) λ v H2 hv hf hfr=>?_;refine hk v H2 ?_;have low:∀ z,(z=B\/gY D mp lv ev (List.replicate l.toNat (ew,.nils)) z\/bC nv z \/ ∃ k A2,ad[k]? = some A2/\Na.w A2 z)->z<H.next:=λ z hz=>by
  rcases hz with rfl|hz|hz|⟨k,A2,hA2,hz⟩
  ·exact h.lt
  ·exact h.d.low hz
  ·exact Own.lt h.KI z hz
  ·exact (h.no k A2 hA2).low hz
 have ne:∀ {z k:Nat},own z=k->k ≠ 2 -> ¬ bC nv z:=λ e1 e2 q=>e2 (by rw [<-e1];exact h.oN _ q);have g2:H2.get B=some (OR [.ptr D 0,nv,.nils,.int .i64 l] yF):=by
  rw [hf.ae _ (by have:=h.lt;omega) (ne h.oB (by decide)),f01.ae _ h.lt id];exact h.row
 have o1:bm v=true:=by have:=Sl.one (Own.sl hv);exact this
 have hc:v.cells=[v]:=by cases v<;>first|rfl|cases o1
 have st:=oh g2 (o:=1) (n:=1) (v:=v) (by rw [hc];rfl) (by simp) (by rw [hc,nS];simpa using o1);rw [hc] at st;have m12:=hf.next
 have fS:Fr (On B) H2 (H2.set B (OR ([AV.ptr D 0,nv,.nils,.int .i64 l].take 1 ++ [v] ++ [AV.ptr D 0,nv,.nils,.int .i64 l].drop (1+1)) yF)):=(Fr.refl H2).set (W:=On B) (.inl rfl) _;have H0n:H0.next<=H.next:=h.fr.next
 have nB:∀ {z k:Nat},own z=k->k ≠ 0 -> ¬ z=B:=λ e1 e2 q=>e2 (by rw [<-e1,q];exact h.oB);have onv:∀ z,bC v z->(bC nv z/\z<H.next)\/H1.next<=z:=λ z hz=>(hfr z hz).elim (λ q=>.inl ⟨q,low z (.inr (.inr (.inl q)))⟩) .inr
 have hfN:Fr (bC nv) H H2:=(f01.mono λ _ _ q=>q.elim).trans hf λ z q=>.inl q;have lowA:∀ z,A.w z->H.next<=z/\z<H1.next:=λ z hz=>⟨hA.all hz,hA.low hz⟩
 refine ⟨_,st,⟨(λ z=>if z<H.next then own z else if z<H1.next then 4+ad.length else 2),xf ..,?_,?_,?_,λ k A2 hA2=>?_,?_,λ z hz=>?_,λ z hz=>?_,λ k A2 hA2 z hz=>?_,h.GJ,h.loD,λ z hz=>?_,?_⟩,(hfN.mono λ z _ q=>.inr q).trans fS λ z (q:z=B)=>.inl (.inl q),λ z hz=>(onv z hz).elim (λ q=>.inl q.1) λ q=>.inr (by omega)⟩
 ·have:=h.lt;show B<H2.next;omega
 ·exact (h.d.fr hfN λ z q w=>ne (h.oD z w) (by decide) q).fr fS λ z q w=>nB (h.oD z w) (by decide) q
 ·have ow:d8 pI yU 1 H2 v ((ad ++ [A]).map Na.r):=by
   rw [Da];unfold d8;rw [xa,j5];exact hv
  refine Own.fr ow fS λ z hz (q:z=B)=>?_;rcases onv z hz with ⟨w,-⟩|w
  ·exact nB (h.oN z w) (by decide) q
  ·have:=h.lt;omega
 ·by_cases e:k<ad.length
  ·rw [kn e] at hA2;refine ((h.no k A2 hA2).off hfN λ z w=>⟨h.GY z w,λ w2=>?_⟩).off fS λ z w=>?_
   ·have:=h.oC k A2 hA2 z w2;have:=h.oN z w;omega
   ·have w:z=B:=w;refine ⟨by rw [w];exact h.GJ,λ w2=>?_⟩;have:=h.oC k A2 hA2 z w2;rw [w,h.oB] at this;omega
  ·have hk:=(qi.1 hA2).1;rw [xa] at hk;have hke:k=ad.length:=by simp only [yk,zE] at hk;omega
   subst hke;rw [jq (qh _),Nat.sub_self] at hA2;injection hA2 with hA2;subst hA2
   refine ((hA.base h.fr).off hf λ z w=>⟨h.GY z w,λ w2=>?_⟩).off fS λ z w=>?_
   ·have:=lowA z w2;have:=low z (.inr (.inr (.inl w)));omega
   ·have w:z=B:=w;refine ⟨by rw [w];exact h.GJ,λ w2=>?_⟩;have:=lowA z w2;have:=h.lt;omega
 ·rw [qr h.lt];exact h.oB
 ·rw [qr (low z (.inr (.inl hz)))];exact h.oD z hz
 ·rcases onv z hz with ⟨w,w2⟩|w
  ·rw [qr w2];exact h.oN z w
  ·rw [qd (by omega),qd (by omega)]
 ·by_cases e:k<ad.length
  ·rw [kn e] at hA2;rw [qr (low z (.inr (.inr (.inr ⟨k,A2,hA2,hz⟩))))];exact h.oC k A2 hA2 z hz
  ·have hk:=(qi.1 hA2).1;rw [xa] at hk;have hke:k=ad.length:=by simp only [yk,zE] at hk;omega
   subst hke;rw [jq (qh _),Nat.sub_self] at hA2;injection hA2 with hA2;subst hA2
   have:=lowA z hz;rw [qd (by omega),qr this.2]
 ·rcases onv z hz with ⟨w,-⟩|w
  ·exact h.GY z w
  ·omega
 ·exact ((h.fr.trans f01 λ _ q=>.inl q).trans hf λ z q=>.inr (h.GY z q)).trans fS λ z (q:z=B)=>.inr (by rw [q];exact h.GJ)
theorem EA.done (h:EA H0 H B D mp lv ev nv l c s w ad own) (hl:ad.length=c.toNat) (hc:0<=c) (hl0:0<=l):cY H0 H B ⟨D,mp,lv,ev,List.replicate l.toNat (ew,.nils),nv,.nils,ad⟩ (cT l c s w) own:=by
 have hlen:((cT l c s w).ns.length:Int)=c:=by show ((iY l s w c.toNat).length:Int)=c;rw [Jc];omega
 refine ⟨?_,h.lt,?_,?_,h.KI,λ k n A hn hA=>?_,?_,Sk.nil _,h.oB,h.oD,h.oN,λ z q=>absurd rfl q.1,h.oC,λ z hz=>?_⟩
 ·rw [h.row];have:((cT l c s w).l.length:Int)=l:=by show ((List.replicate l.toNat ew).length:Int)=l;rw [xx];omega
  rw [this]
 ·rw [hlen];exact h.d
 ·show (List.replicate l.toNat (ew,AV.nils)).map Prod.fst=List.replicate l.toNat ew;rw [List.map_replicate]
 ·obtain ⟨-,rfl⟩:=CU hn;exact h.no k A hA
 ·show ad.length=(iY l s w c.toNat).length;rw [Jc,hl]
 ·rcases hz with rfl|hz|hz|hz|⟨k,A,hA,hz⟩
  ·exact h.GJ
  ·exact h.loD z hz
  ·exact h.GY z hz
  ·exact absurd rfl hz.1
  ·exact (h.no k A hA).all hz
end
def AD (H:AHeap) (l c s w:Int) (v:AV) (H':AHeap):Prop:=(¬ gN l c s w/\v=.tuple [.nilp,.int .i64 2]/\Fr Em H H')\/gN l c s w /\ ∃ B bs own,v=.tuple [.ptr B 0,.int .i64 0]/\cY H H' B bs (cT l c s w) own/\Fr Em H H'
theorem q3o {H:AHeap} (l c s w:Int):jr M D4 [.agg (cm l c s w),.nils] H (AD H l c s w):=by
 refine q8d ?_;obtain ⟨w0,w4,w12,w14,w41,w19,w58,w46,w25,-,w40,w31,-,w39⟩:=q8e M ⟨none,D4⟩;obtain ⟨H1,e1⟩:∃ X,X=H.alloc (OR (cm l c s w) yu):=⟨_,rfl⟩
 have f1:Fr Em H H1:=by rw [e1];exact (Fr.refl H).alloc _
 have g1:H1.get H.next=some (OR (cm l c s w) yu):=by rw [e1,qx]
 have n1:H1.next=H.next+1:=by rw [e1,xn]
 have ls:∀ {Hx:AHeap} (k:Nat),Fr Em H1 Hx->Op.aa [.ptr H.next k] Hx=(cm l c s w)[k]?:=λ k f=>ze (xc (by rw [f.ae _ (by omega) id];exact g1)) k;have l0:Op.aa [.ptr H.next 0] H1=some (.int .i64 l):=ls 0 (Fr.refl _);have l1:Op.aa [.ptr H.next 1] H1=some (.int .i64 c):=ls 1 (Fr.refl _);simp only [↓qg,xe,reduceIte,reduceEqDiff,w0,xz,<-e1,l0,l1];refine C3.q (q3u (M:=M) l c) λ v H2 ⟨f2,hv⟩=>?_;rcases hv with ⟨hd,rfl⟩|⟨hd,D,mp,lv,ev,rfl,dr,lod⟩
 ·have t2:¬ (2:Int)=0:=by decide
  simp only [↓qg,xe,reduceIte,reduceEqDiff,qo,w4,t2];exact .inl ⟨λ q=>hd q.1,rfl,f1.trans f2 λ _ q=>.inl q⟩
 have t0:=xj (show (0:Int)=0 from rfl);have hd':=hd;obtain ⟨⟨m1,m2⟩,c1,c2⟩:=hd';have l02:Op.aa [.ptr H.next 0] H2=some (.int .i64 l):=ls 0 f2;have hln:Op.bO [.nils]=some (.int .i64 0):=rfl;have q0:¬ l<0:=by omega
 have bd:Op.build [.nilp,.nils,.nils,.int .i64 0] [(0,1),(3,1)] [.ptr D 0,.int .i64 l]=some (.agg [.ptr D 0,.nils,.nils,.int .i64 l]):=rfl;obtain ⟨H3,e3⟩:∃ X,X=H2.alloc (OR [.ptr D 0,.nils,.nils,.int .i64 l] yF):=⟨_,rfl⟩
 have f3:Fr Em H2 H3:=by rw [e3];exact (Fr.refl H2).alloc _
 have n3:H3.next=H2.next+1:=by rw [e3,xn]
 have g3:H3.get H2.next=some (OR [.ptr D 0,.nils,.nils,.int .i64 l] yF):=by rw [e3,qx]
 have f13:Fr Em H1 H3:=f2.trans f3 λ _ q=>q.elim;have kX:Op.aa [.ptr H.next 1] H3=some (.int .i64 c):=ls 1 f13;have m12:=f2.next
 have d3:=dr.em f3;have i3:EA H H3 H2.next D mp lv ev .nils l c s w [] (λ z=>if z=H2.next then 0 else 1) :=
  ⟨g3,by omega,d3,Own.nil ..,λ k A hA=>by simp at hA,qr rfl,λ z hz=>by rw [qd (by have:=dr.low hz;omega)],λ z hz=>absurd rfl hz.1,λ k A hA=>by simp at hA,by omega,λ z hz=>by have:=lod z hz;omega,λ z hz=>absurd rfl hz.1,f1.trans f13 λ _ q=>q.elim⟩
 simp only [↓qg,xe,reduceIte,reduceEqDiff,qo,w4,t0,hln,l02,q0,w12,bd,xz,<-e3,w14,kX];obtain ⟨cn,rfl⟩:=kh (show 0<=c by omega)
 -- what the loop leaves of the message's box
 refine bn.intro (λ k E Hx=>∃ (ad:List Na) (nv:AV) (own:Nat->Nat),E=[(38,.int .i64 (ad.length:Int)),(37,.int .i64 ((cn:Nat):Int)),(2,.ptr H.next 0),(8,.ptr H2.next 0),(1,.nils),(6,.ptr D 0)]/\k=cn-ad.length/\ad.length<=cn/\EA H Hx H2.next D mp lv ev nv l cn s w ad own/\(0<ad.length->lP s w)/\Hx.get H.next=some (OR (cm l cn s w) yu)/\H3.next<=Hx.next /\ ∀ z,bC nv z->H3.next<=z) ?_ ?_
 ·exact ⟨_,_,⟨[],.nils,_,rfl,rfl,zp _,i3,λ q=>absurd q (by simp),by rw [f13.ae _ (by omega) id];exact g1,qh _,λ z hz=>absurd rfl hz.1⟩,by simp only [↓qg,xe,reduceIte,reduceEqDiff];rfl⟩
 rintro k E Hx ⟨ad,nv,own,rfl,rfl,hi,hI,hok,hg,hnx,hnv⟩;rcases js ad.length cn with hlt|hge
 ·have q1:(ad.length:Int)<((cn:Nat):Int):=by omega
  have ldS:=eJ (e:=yu) hg (show (cm l (cn:Int) s w).length=4 from rfl);simp only [↓qg,xe,reduceIte,reduceEqDiff,w19,q1,w25,ldS];refine C3.q (q2k (M:=M) (ad.length:Int) l (cn:Int) s w) λ v Ha hv=>?_;rcases hv with ⟨hno,rfl,fa⟩|⟨hno,r,b,sv,rfl,hnr⟩
  ·have t2:¬ (2:Int)=0:=by decide
   simp only [↓qg,xe,reduceIte,reduceEqDiff,qo,w31,t2];refine .inl ⟨λ q=>hno ⟨q.2,by omega,by omega,by omega,m1,m2⟩,rfl,hI.fr.trans fa λ _ q=>.inl q⟩
  ·have lB:Op.aa [.ptr H2.next 1] Ha=some nv:=by
    have fa:=hnr.bk.fr;rw [ze (xc (by rw [fa.ae _ hI.lt id];exact hI.row))];rfl
   have wj:aW .i64 ((ad.length:Int)+1)=((ad.length+1:Nat):Int):=by rw [vl (by omega) (by omega)];omega
   simp only [↓qg,xe,reduceIte,reduceEqDiff,qo,w31,t0,w39,qf,lB];refine hI.step (by omega) (A:=⟨r,b,sv,.nils,[]⟩) hnr λ v2 Hb ⟨Hc,sc,⟨own2,hc⟩,fc,oc⟩=>?_;have hgc:Hc.get H.next=some (OR (cm l (cn:Int) s w) yu):=by
    rw [fc.ae _ (by omega) (λ q=>q.elim (λ q=>by omega) λ q=>by have:=hnv _ q;omega)];exact hg
   simp only [↓qg,xe,reduceIte,reduceEqDiff,qf,sc,w40,wj];refine ⟨_,_,⟨ad ++ [⟨r,b,sv,.nils,[]⟩],v2,own2,rfl,rfl,by rw [xa];simp;omega,hc,λ _=>hno.1,hgc,xy hnx fc.next,λ z hz=>(oc z hz).elim (hnv z) λ q=>xy hnx q⟩,by simp only [↓qg,xe,reduceIte,reduceEqDiff,xa,yk,zE],by rw [xa];simp;omega⟩
 ·have hiw:ad.length=cn:=by omega
  have q1:¬ (ad.length:Int)<((cn:Nat):Int):=by omega
  have z00:¬ (0:Int)<0:=by decide
  simp only [↓qg,xe,reduceIte,reduceEqDiff,w19,q1,w41,hln];refine bn.intro (λ k E Hy=>E=[(62,.int .i64 0),(61,.int .i64 0),(8,.ptr H2.next 0)]/\k=0/\Hy=Hx) ?_ ?_
  ·exact ⟨_,_,⟨rfl,rfl,rfl⟩,by simp only [↓qg,xe,reduceIte,reduceEqDiff]⟩
  rintro k E Hy ⟨rfl,rfl,rfl⟩;simp only [↓qg,xe,reduceIte,reduceEqDiff,w46,z00,w58];exact .inr ⟨⟨hd,hok (by omega)⟩,_,_,own,rfl,hI.done (by omega) (by omega) (by omega),hI.fr⟩
end Go.Am
namespace Go.Am
open Ca
theorem Ah {c l:Int} (h0:0<=c):LC ew c 0 0 0 (qs [] c l) 0 0:=by
 have e:cB (-1) c=0:=mK (by omega);have z:∀ {p:Prop},0<0->p:=λ q=>absurd q (wN 0);have z3:∀ {p:Prop},(0:Int)=3->p:=λ q=>absurd q (by decide);have z1:∀ {p:Prop},(0:Int)=1->p:=λ q=>absurd q (by decide);have z2:∀ {p:Prop},(0:Int)=2->p:=λ q=>absurd q (by decide);exact ⟨rfl,rfl,rfl,rfl,rfl,z,z,rfl,z,z,e.symm,z1,z1,z2,z,λ q=>q.elim z z3,z,z,by decide,by decide,by decide⟩
theorem Ni {co l s w i:Int}:(gq co l s w).vw i=.no:=by
 show (gU s.toNat w.toNat).vw i=.no;apply Co;unfold Ca.find Ca.pos;split
 ·rfl
 ·rw [Eg]
  ·rfl
  ·intro j _;unfold Ca.iK;rw [J7];rfl
theorem vY {l c s w:Int} (h:gN l c s w):BuI (cT l c s w) λ _=>.zero:=by
 obtain ⟨⟨⟨l0,l1⟩,c0,c1⟩,hs⟩:=h;have hN:(cT l c s w).ns.length=c.toNat:=Jc ..;have hL:((cT l c s w).l.length:Int)=l:=by show ((List.replicate l.toNat ew).length:Int)=l;rw [xx];omega
 have hcz:∀ (i d:Int),(cT l c s w).s i d=0/\(cT l c s w).ot i d=0/\(cT l c s w).bk i d=0:=λ i d=>by
  unfold Bu.s Bu.ot Bu.bk;cases hn:(cT l c s w).ns[d.toNat]? with
  | none=>exact ⟨rfl,rfl,rfl⟩
  | some n =>
   obtain ⟨-,rfl⟩:=CU hn;refine ⟨by show ((gq _ l s w).vw i).st=0;rw [Ni];rfl,?_,?_⟩
   ·show (if (0:Int)=i then (0:Int) else 0)=0;split<;>rfl
   ·show (if i ∈ ([]:List Int) then 1 else 0)=0;simp
 refine ⟨by rw [hN];omega,?_,λ k n hn=>?_,λ m hm=>(nomatch hm),λ i x y hx hy=>?_,λ k n hn i hi=>?_⟩
 ·show (List.replicate l.toNat L8.zero).length=(List.replicate l.toNat ew).length;rw [xx,xx]
 ·obtain ⟨hk,rfl⟩:=CU hn;exact ⟨rI (cores:=c) ⟨hs,by omega,by omega,by omega,l0,l1⟩,rfl,by rw [hL];rfl,.inl rfl,λ z hz=>(nomatch hz)⟩
 ·have hx:(List.replicate l.toNat ew)[i]? = some x:=hx;have hy:(List.replicate l.toNat L8.zero)[i]? = some y:=hy;rw [Gd] at hx hy;split at hx
  ·rename_i q;rw [qr q] at hy;injection hx with hx;injection hy with hy
   subst hx hy;rw [hN];refine ⟨⟨by omega,by decide,⟨by decide,by show (-1:Int)<_;omega⟩,by decide,by decide,λ d _ _ q=>?_,λ q=>absurd rfl q,λ q=>?_,λ q=>?_,λ q=>?_,λ q=>?_,λ q=>rfl,λ m hm=>(nomatch hm)⟩,λ _=>rfl,λ d d0 d1=>?_,λ _=>rfl,λ m hm=>(nomatch hm)⟩
   ·have:hb 0 d=1:=q;rw [rv] at this;cases this
   ·exact absurd (show (0:Int)=1 from q) (by decide)
   ·exact absurd (show (0:Int)=2 from q) (by decide)
   ·exact absurd (show (0:Int)=3 from q) (by decide)
   ·exact absurd (show (0:Int)=4 from q) (by decide)
   ·obtain ⟨a1,a2,a3⟩:=hcz i d;rw [a1,a2,a3];exact Ah d0
  ·cases hx
 ·obtain ⟨-,rfl⟩:=CU hn;exact absurd (show ((gq _ l s w).vw i).st=0 by rw [Ni];rfl) hi
structure Bt where
 k:Int
 c:Int
 n:Int
 v:Int
 o:Int
def No.call (n:No) (x:Bt):No × List Mg :=
 if x.k=0 then ((n.load x.n).1,(n.load x.n).2.2.2.1)
 else if x.k=1 then ((n.store x.n x.v).1,(n.store x.n x.v).2.2.1)
 else if x.k=2 then n.eR x.n x.o x.v
 else if x.k=3 then (n.begin,[])
 else if x.k=4 then (n.bt,[])
 else if x.k=5 then ((n.abort x.n).1,[])
 else if x.k=6 then n.aP x.n
 else (n,[])
def Bu.step (b:Bu) (x:Bt):Bu :=
 if x.k=7 then if 0<=x.n/\x.n<b.fl.length then b.sm x.n.toNat else b
 else if 0<=x.c then match b.ns[x.c.toNat]? with
  | none=>b
  | some n=>b.put x.c.toNat (n.call x)
 else b
noncomputable def nD (b:Bu) (V:Int->L8) (x:Bt):Int->L8 :=
 if 0<=x.c then match b.ns[x.c.toNat]? with
  | none=>V
  | some n=>if x.k=1 then if (n.store x.n x.v).2.1=true then mu V n.live x.n x.v else V
   else if x.k=2 then if BuI.EL n x.n x.o then mu V false x.n x.v else V
   else if x.k=4 then λ l=>if n.live=true/\n.st l=2 then (n.vw l).d else V l
   else V
 else V
theorem HS {b:Bu} {V:Int->L8} (h:BuI b V) (i:Nat):BuI (b.sm i) V:=by
 unfold Bu.sm;cases hm:b.fl[i]? with
 | none=>exact h
 | some m =>
  have hil:=(qi.1 hm).1;have hf:b.fl=b.fl.take i++m::b.fl.drop (i+1):=by
   rw [<-(qi.1 hm).2,<-List.drop_eq_getElem_cons hil,yc]
  have he:b.fl.eraseIdx i=b.fl.take i++b.fl.drop (i+1):=List.eraseIdx_eq_take_drop_succ ..;obtain ⟨mk,mc,ml⟩:=h.mw m (jf hm);simp only;rw [he]
  by_cases k7:m.k<=7
  ·rw [qr k7];obtain ⟨x,w,hx,hw,-⟩:=h.entry ml.1 ml.2;rw [hx,hw];exact h.Df hf k7 hx hw
  ·rw [qd k7];obtain ⟨n,hn,-⟩:=h.core mc.1 mc.2;rw [hn];exact h.Al hf hn (by omega) (by omega)
theorem M7 {b:Bu} {V:Int->L8} (h:BuI b V) (x:Bt):BuI (b.step x) (if x.k=7 then V else nD b V x):=by
 unfold Bu.step
 by_cases k7:x.k=7
 ·rw [qr k7,qr k7];split
  ·exact HS h _
  ·exact h
 rw [qd k7,qd k7];unfold nD
 by_cases c0:0<=x.c
 ·rw [qr c0,qr c0];cases hn:b.ns[x.c.toNat]? with
  | none=>exact h
  | some n =>
   simp only;unfold No.call
   by_cases k0:x.k=0
   ·rw [qr k0,qd (by omega),qd (by omega),qd (by omega)];exact h.As hn _
   rw [qd k0]
   by_cases k1:x.k=1
   ·rw [qr k1,qr k1];exact h.sP hn _ _
   rw [qd k1,qd k1]
   by_cases k2:x.k=2
   ·rw [qr k2,qr k2];exact h.CX hn _ _ _
   rw [qd k2,qd k2]
   by_cases k3:x.k=3
   ·rw [qr k3,qd (by omega)];exact h.so hn
   rw [qd k3]
   by_cases k4:x.k=4
   ·rw [qr k4,qr k4];exact h.qF hn
   rw [qd k4,qd k4]
   by_cases k5:x.k=5
   ·rw [qr k5];exact h.ux hn _
   rw [qd k5]
   by_cases k6:x.k=6
   ·rw [qr k6];exact h.yR hn _
   rw [qd k6,rC hn];exact h
 ·rw [qd c0,qd c0];exact h
structure BC (b:Bu) (k:Nat):Prop where
 fl:b.fl.length<=5*k
 no:∀ (c:Nat) n,b.ns[c]? = some n->n.au.length<=k/\n.c.us<=2*(k:Int)
 wt:∀ x ∈ b.l,x.wt.length<=k
theorem BC.mono {b:Bu} {k k':Nat} (h:BC b k) (hk:k<=k'):BC b k':=⟨xy h.fl (by omega),λ c n hn=>by have:=h.no c n hn;omega,λ x hx=>xy (h.wt x hx) hk⟩
theorem BC.bb {b:Bu} {V:Int->L8} {k:Nat} (h:BC b k) (hI:BuI b V) (hk:k<=2000):BB b:=⟨hI.N4,by have:=h.fl;omega,λ c n hn=>by have:=h.no c n hn;exact ⟨(hI.nw c n hn).ni,by omega,by omega⟩⟩
theorem sk {l c s w:Int}:BC (cT l c s w) 0:=by
 refine ⟨qh _,λ k n hn=>?_,λ x hx=>?_⟩
 ·obtain ⟨-,rfl⟩:=CU hn;exact ⟨qh _,Int.le_refl _⟩
 ·rw [List.eq_of_mem_replicate (show x ∈ List.replicate l.toNat ew from hx)];exact qh _
theorem GM {b:Bu} {k c:Nat} {n n':No} {o:List Mg} (h:BC b k) (hn:b.ns[c]? = some n) (hb:Bd n n') (ho:o.length<=5):BC (b.put c (n',o)) (k+1):=by
 have hl:=(qi.1 hn).1;refine ⟨?_,λ d y hy=>?_,λ x hx=>FH (h.wt x hx)⟩
 ·show (b.fl++o).length<=_;rw [xa];have:=h.fl;omega
 ·have hy:(b.ns.set c n')[d]? = some y:=hy
  by_cases q:d=c
  ·rw [q,xg hl] at hy;injection hy with hy;subst hy
   obtain ⟨a1,a2⟩:=hb;have:=h.no c n hn;omega
  ·rw [xu (vd q)] at hy;have:=h.no d y hy;omega
theorem q5g (x:De) (w:L8):(x.bH w).1.wt=x.wt:=by
 unfold De.bH
 repeat' split
 all_goals rfl
theorem q41 (x:De) (n:Mg) (w:L8):(x.begin n w).1.wt=x.wt:=by
 unfold De.begin;split
 ·rfl
 ·split
  ·exact q5g _ w
  ·rfl
theorem JA (x:De) (w:L8) (q:Prop) [Decidable q] (r:List Mg):(x.mP w q r).1.wt=x.wt:=by
 unfold De.mP;split
 ·exact q5g x w
 ·rfl
theorem Ar (x:De) (w:L8) (m:Mg):(x.aB w m).1.wt.length<=x.wt.length+1:=by
 unfold De.aB;split;· exact kj _
 split
 ·split
  ·simp
  ·rw [q41];exact kj _
 split;· rw [JA];show x.wt.length<=_;omega
 split;· rw [JA];show x.wt.length<=_;omega
 split;· rw [JA];show x.wt.length<=_;omega
 split;· rw [JA];show x.wt.length<=_;omega
 cases h:x.wt with
 | nil=>simp [h]
 | cons n r=>simp only;rw [q41];simp only [yk];omega
theorem Cj (n:No) (x:Bt):Bd n (n.call x).1/\(n.call x).2.length<=5:=by
 unfold No.call;split;· exact ⟨zQ n _,xy (q5k n _) (by decide)⟩
 split;· exact ⟨ua n _ _,xy (q21 n _ _) (by decide)⟩
 split;· exact ⟨CH n _ _ _,xy (q8h n _ _ _) (by decide)⟩
 split
 ·refine ⟨?_,zp _⟩;show Bd n n.begin;unfold No.begin;split<;>exact ⟨by show n.au.length<=_;omega,by show n.c.us<=_;omega⟩
 split
 ·refine ⟨?_,zp _⟩;show Bd n n.bt;unfold No.bt;split<;>exact ⟨by show n.au.length<=_;omega,by show n.c.us<=_;omega⟩
 split
 ·refine ⟨?_,zp _⟩;show Bd n (n.abort _).1;unfold No.abort;repeat' split
  all_goals exact ⟨by show n.au.length<=_;omega,by show n.c.us<=_;omega⟩
 split;· exact ⟨yQ n _,xy (q1s n _) (by decide)⟩
 exact ⟨Bd.refl n,zp _⟩
theorem GX {b:Bu} {k:Nat} (h:BC b k) (i:Nat):BC (b.sm i) (k+1):=by
 unfold Bu.sm;cases hm:b.fl[i]? with
 | none=>exact h.mono (kj k)
 | some m =>
  have hfl:=h.fl;have he:(b.fl.eraseIdx i).length<=b.fl.length:=List.length_eraseIdx_le ..;simp only
  by_cases k7:m.k<=7
  ·rw [qr k7];cases hx:b.l[m.line.toNat]? with
   | none=>exact h.mono (kj k)
   | some x =>
    cases hw:b.m[m.line.toNat]? with
    | none=>exact h.mono (kj k)
    | some w =>
     refine ⟨?_,λ c n hn=>by have:=h.no c n hn;omega,λ y hy=>?_⟩
     ·show (b.fl.eraseIdx i++(x.aB w m).2.2).length<=_;rw [xa];have:=q14 x w m;omega
     ·have hy:y ∈ b.l.set m.line.toNat (x.aB w m).1:=hy;rcases List.mem_or_eq_of_mem_set hy with q|rfl
      ·exact FH (h.wt y q)
      ·have:=Ar x w m;have:=h.wt x (jf hx);omega
  ·rw [qd k7];cases hn:b.ns[m.core.toNat]? with
   | none=>exact h.mono (kj k)
   | some n =>
    have hl:=(qi.1 hn).1;refine ⟨?_,λ d y hy=>?_,λ x hx=>FH (h.wt x hx)⟩
    ·show (b.fl.eraseIdx i++(n.aB m).2).length<=_;rw [xa];have:=q5h n m;omega
    ·have hy:(b.ns.set m.core.toNat (n.aB m).1)[d]? = some y:=hy
     by_cases q:d=m.core.toNat
     ·rw [q,xg hl] at hy;injection hy with hy;subst hy
      obtain ⟨a1,a2⟩:=yB n m;have:=h.no _ n hn;omega
     ·rw [xu (vd q)] at hy;have:=h.no d y hy;omega
theorem Nr {b:Bu} {k:Nat} (h:BC b k) (x:Bt):BC (b.step x) (k+1):=by
 unfold Bu.step;split
 ·split
  ·exact GX h _
  ·exact h.mono (kj k)
 split
 ·cases hn:b.ns[x.c.toNat]? with
  | none=>exact h.mono (kj k)
  | some n=>obtain ⟨a1,a2⟩:=Cj n x;exact GM h hn a1 a2
 ·exact h.mono (kj k)
end Go.Am
namespace Go.Am
open Go.Proofs Ca
open Lang (ints)
variable {M:aL} [MK M]
structure Pr where
 a:Int
 v:Int
def fk (p:Pr):List AV:=[.int .i64 p.a,.int .u64 p.v]
def lT (x:Int):List AV:=[.int .u64 x]
theorem GK (p:Pr):(fk p).length=2:=rfl
theorem G1 (x:Int):(lT x).length=1:=rfl
structure Gh where
 w:List Int
 own:Nat->List Pr
 live:Nat->Bool
structure Gs where
 wv:AV
 ov:Nat->AV
def gv {α:Type} (f:Nat -> α) (i:Nat) (x:α) (j:Nat):α:=if j=i then x else f j
theorem vC {α:Type} (f:Nat -> α) (i:Nat) (x:α):gv f i x i=x:=qr rfl
theorem qN {α:Type} {f:Nat -> α} {i j:Nat} {x:α} (h:j ≠ i):gv f i x j=f j:=qd h
def gC (s:Gs) (g:Gh):List AV:=[s.wv,s.ov 0,s.ov 1,s.ov 2,s.ov 3,.bool (g.live 0),.bool (g.live 1),.bool (g.live 2),.bool (g.live 3)]
def uG (G:Nat) (s:Gs) (z:Nat):Prop:=z=G\/z=aN s.wv \/ ∃ c,c<4/\bC (s.ov c) z
structure gR (H0 H:AHeap) (G:Nat) (s:Gs) (g:Gh) (tg:Nat->Nat):Prop where
 row:H.get G=some (OR (gC s g) wy)
 lt:G<H.next
 w:db lT G6 1 H s.wv g.w
 own:∀ c,c<4->d8 fk wF 2 H (s.ov c) (g.own c)
 oG:tg G=4
 oW:tg (aN s.wv)=5
 oO:∀ c,c<4 -> ∀ z,bC (s.ov c) z->tg z=c
 lo:∀ z,uG G s z->H0.next<=z
section
variable {H0 H:AHeap} {G:Nat} {s:Gs} {g:Gh} {tg:Nat->Nat}
theorem gR.low (h:gR H0 H G s g tg) {z:Nat} (hz:uG G s z):z<H.next:=by
 rcases hz with rfl|rfl|⟨c,hc,hz⟩
 ·exact h.lt
 ·exact h.w.lt
 ·exact Own.lt (h.own c hc) z hz
theorem gR.fr {H':AHeap} {W:Nat->Prop} (h:gR H0 H G s g tg) (f:Fr W H H') (hw:∀ z,W z -> ¬ uG G s z):gR H0 H' G s g tg :=
 ⟨by rw [f.ae _ h.lt λ q=>hw _ q (.inl rfl)];exact h.row,qt h.lt f.next,h.w.fr f λ q=>hw _ q (.inr (.inl rfl)),λ c hc=>Own.fr (h.own c hc) f λ z hz q=>hw _ q (.inr (.inr ⟨c,hc,hz⟩)),h.oG,h.oW,h.oO,h.lo⟩
theorem gR.em {H':AHeap} (h:gR H0 H G s g tg) (f:Fr Em H H'):gR H0 H' G s g tg:=h.fr f λ z q=>q.elim
theorem CC (s:Gs) (g:Gh) {c:Nat} (hc:c<4):(gC s g)[1+c]? = some (s.ov c):=by
 match c,hc with
 | 0,_=>rfl
 | 1,_=>rfl
 | 2,_=>rfl
 | 3,_=>rfl
theorem xQ (s:Gs) (g:Gh) {c:Nat} (hc:c<4):(gC s g)[5+c]? = some (.bool (g.live c)):=by
 match c,hc with
 | 0,_=>rfl
 | 1,_=>rfl
 | 2,_=>rfl
 | 3,_=>rfl
theorem xM (s:Gs) (g:Gh) {c:Nat} (hc:c<4) (v:AV):(gC s g).take (1+c) ++ [v]++(gC s g).drop (1+c+1)=gC { s with ov:=gv s.ov c v } g:=by
 match c,hc with
 | 0,_=>rfl
 | 1,_=>rfl
 | 2,_=>rfl
 | 3,_=>rfl
theorem Ak (s:Gs) (g:Gh) {c:Nat} (hc:c<4) (v:Bool):(gC s g).take (5+c) ++ [AV.bool v]++(gC s g).drop (5+c+1)=gC s { g with live:=gv g.live c v }:=by
 match c,hc with
 | 0,_=>rfl
 | 1,_=>rfl
 | 2,_=>rfl
 | 3,_=>rfl
theorem JT (k:Nat) {c:Nat} (hc:c<4):Op.aK 4 1 [.ptr G k,.int .i64 (c:Int)]=some (.ptr G (k+c)):=by
 have:=NK (len:=4) (size:=1) (b:=G) (o:=k) (k:=.i64) (j:=(c:Int)) (i:=c) rfl hc;rw [this,Ct]
theorem IL (k:Nat) {c:Nat} {z:Int} (hz:z=(c:Int)) (hc:c<4):Op.aK 4 1 [.ptr G k,.int .i64 z]=some (.ptr G (k+c)):=by rw [hz];exact JT k hc
theorem gR.l0 (h:gR H0 H G s g tg):Op.aa [.ptr G 0] H=some s.wv:=ze (xc h.row) 0
theorem gR.lO (h:gR H0 H G s g tg) {c:Nat} (hc:c<4):Op.aa [.ptr G (1+c)] H=some (s.ov c):=by rw [ze (xc h.row)];exact CC s g hc
theorem gR.lL (h:gR H0 H G s g tg) {c:Nat} (hc:c<4):Op.aa [.ptr G (5+c)] H=some (.bool (g.live c)):=by rw [ze (xc h.row)];exact xQ s g hc
def CM (H0 H:AHeap) (G:Nat) (s:Gs) (g':Gh) (H':AHeap):Prop:=∃ s' tg',gR H0 H' G s' g' tg'/\(∀ z,uG G s' z->uG G s z\/H.next<=z)/\Fr (uG G s) H H'
theorem CM.then {H1 H2:AHeap} {s1:Gs} {g':Gh} (f1:Fr (uG G s) H H1) (hs:∀ z,uG G s1 z->uG G s z\/H.next<=z) (h:CM H0 H1 G s1 g' H2):CM H0 H G s g' H2:=by
 obtain ⟨s2,t2,h2,q2,f2⟩:=h;have:=f1.next
 exact ⟨s2,t2,h2,λ z hz=>(q2 z hz).elim (hs z) λ w=>.inr (by omega),f1.trans f2 hs⟩
theorem gR.jH (h:gR H0 H G s g tg) {c:Nat} (hc:c<4) (v:Bool):∃ H',Op.store 1 [.ptr G (5+c),.bool v] H=some (.undef,H')/\gR H0 H' G s { g with live:=gv g.live c v } tg/\Fr (On G) H H':=by
 have st:=oh h.row (o:=5+c) (n:=1) (v:=.bool v) rfl (by show 5+c+1<=9;omega) rfl;have f:Fr (On G) H _:=(Fr.refl H).set (W:=On G) (.inl rfl) (OR (gC s { g with live:=gv g.live c v }) wy);have e:(gC s g).take (5+c)++(AV.bool v).cells++(gC s g).drop (5+c+1)=gC s { g with live:=gv g.live c v }:=Ak s g hc v;rw [e] at st;refine ⟨_,st,⟨xf ..,qt h.lt f.next,h.w.fr f λ (q:_=G)=>?_,λ d hd=>Own.fr (h.own d hd) f λ z hz (q:z=G)=>?_,h.oG,h.oW,h.oO,h.lo⟩,f⟩
 ·have:=h.oW;rw [q,h.oG] at this;cases this
 ·have:=h.oO d hd z hz;rw [q,h.oG] at this;omega
theorem gR.IF (h:gR H0 H G s g tg) {c:Nat} (hc:c<4) {v:AV} {xs:List Pr} {H1:AHeap} (f1:Fr (bC (s.ov c)) H H1) (hv:d8 fk wF 2 H1 v xs) (ho:∀ z,bC v z->bC (s.ov c) z\/H.next<=z) (h1:bm v=true) :
 ∃ H',Op.store 1 [.ptr G (1+c),v] H1=some (.undef,H')/\CM H0 H G s { g with own:=gv g.own c xs } H' /\ ∃ tg',gR H0 H' G { s with ov:=gv s.ov c v } { g with own:=gv g.own c xs } tg':=by
 have hne:∀ {z k:Nat},tg z=k->k ≠ c -> ¬ bC (s.ov c) z:=λ e1 e2 q=>e2 (by rw [<-e1];exact h.oO c hc _ q);have hcl:v.cells=[v]:=by cases v<;>first|rfl|cases h1
 have gG:H1.get G=some (OR (gC s g) wy):=by rw [f1.ae _ h.lt (hne h.oG (by omega))];exact h.row
 have st:=oh gG (o:=1+c) (n:=1) (v:=v) (by rw [hcl];rfl) (by show 1+c+1<=9;omega) (by rw [hcl,nS];simpa using h1);rw [hcl,xM s g hc v] at st;obtain ⟨H2,e2⟩:∃ X,X=H1.set G (OR (gC { s with ov:=gv s.ov c v } g) wy):=⟨_,rfl⟩
 rw [<-e2] at st;have g2:H2.get G=some (OR (gC { s with ov:=gv s.ov c v } g) wy):=by rw [e2];exact xf ..
 have f2:Fr (On G) H1 H2:=by rw [e2];exact (Fr.refl H1).set (W:=On G) (.inl rfl) _
 have m1:=f1.next
 have vG:∀ z,bC v z->z ≠ G:=λ z hz q=>(ho z hz).elim (λ w=>hne h.oG (by omega) (by rw [<-q];exact w)) λ w=>by have:=h.lt;omega
 have hr:gR H0 H2 G { s with ov:=gv s.ov c v } { g with own:=gv g.own c xs } (λ z=>if z<H.next then tg z else c):=by
  refine ⟨g2,qt h.lt (xy m1 f2.next),(h.w.fr f1 (hne h.oW (by omega))).fr f2 λ (q:_=G)=>?_,λ d hd=>?_,by rw [qr h.lt];exact h.oG,by rw [qr h.w.lt];exact h.oW,λ d hd z hz=>?_,λ z hz=>?_⟩
  ·have:=h.oW;rw [q,h.oG] at this;cases this
  ·by_cases q:d=c
   ·subst q;show d8 fk wF 2 _ (gv s.ov d v d) (gv g.own d xs d);rw [vC,vC];exact Own.fr hv f2 λ z hz=>vG z hz
   ·show d8 fk wF 2 _ (gv s.ov c v d) (gv g.own c xs d);rw [qN q,qN q];refine Own.fr (Own.fr (h.own d hd) f1 λ z hz=>hne (h.oO d hd z hz) q) f2 λ z hz (w:z=G)=>?_;have:=h.oO d hd z hz;rw [w,h.oG] at this;omega
  ·have hz:bC (gv s.ov c v d) z:=hz
   by_cases q:d=c
   ·subst q;rw [vC] at hz;rcases ho z hz with w|w
    ·rw [qr (Own.lt (h.own d hd) z w)];exact h.oO d hd z w
    ·rw [qd (by omega)]
   ·rw [qN q] at hz;rw [qr (Own.lt (h.own d hd) z hz)];exact h.oO d hd z hz
  ·rcases hz with hz|hz|⟨d,hd,hz⟩
   ·exact h.lo z (.inl hz)
   ·exact h.lo z (.inr (.inl hz))
   ·have hz:bC (gv s.ov c v d) z:=hz
    by_cases q:d=c
    ·subst q;rw [vC] at hz;rcases ho z hz with w|w
     ·exact h.lo z (.inr (.inr ⟨d,hd,w⟩))
     ·have:=h.lo G (.inl rfl);have:=h.lt;omega
    ·rw [qN q] at hz;exact h.lo z (.inr (.inr ⟨d,hd,hz⟩))
 refine ⟨_,st,⟨_,_,hr,λ z hz=>?_,(f1.mono λ z _ q=>.inr (.inr ⟨c,hc,q⟩)).trans f2 λ z (q:z=G)=>.inl (.inl q)⟩,_,hr⟩;rcases hz with hz|hz|⟨d,hd,hz⟩
 ·exact .inl (.inl hz)
 ·exact .inl (.inr (.inl hz))
 ·have hz:bC (gv s.ov c v d) z:=hz
  by_cases q:d=c
  ·subst q;rw [vC] at hz;exact (ho z hz).elim (λ w=>.inl (.inr (.inr ⟨d,hd,w⟩))) .inr
  ·rw [qN q] at hz;exact .inl (.inr (.inr ⟨d,hd,hz⟩))
theorem gR.tU (h:gR H0 H G s g tg) {z:Int} (h0:0<=z) (hi:z<g.w.length) (y:Int):∃ p H',Op.aQ 1 [s.wv,.int .i64 z]=some p/\Op.store 1 [p,.int .u64 y] H=some (.undef,H')/\gR H0 H' G s { g with w:=g.w.set z.toNat y } tg/\Fr (On (aN s.wv)) H H':=by
 have hi:z.toNat<g.w.length:=by omega
 have hx:g.w[z.toNat]? = some (g.w[z.toNat]'hi):=qy hi;have ix:=(h.w.sl G1).idx hx (z:=z) (by omega) .i64;obtain ⟨H',st,hw,f⟩:=h.w.sj G1 hx (y:=y) (j:=0) (u:=.int .u64 y) (by decide) rfl rfl;refine ⟨_,H',ix,st,⟨?_,qt h.lt f.next,hw,λ d hd=>Own.fr (h.own d hd) f λ z hz (q:z=aN s.wv)=>?_,h.oG,h.oW,h.oO,h.lo⟩,f⟩
 ·rw [f.ae _ h.lt λ (q:G=aN s.wv)=>?_];exact h.row;have:=h.oW;rw [<-q,h.oG] at this;cases this
 ·have:=h.oO d hd z hz;rw [q,h.oW] at this;omega
theorem gR.Hg (h:gR H0 H G s g tg) {z x:Int} (h0:0<=z) (hx:g.w[z.toNat]? = some x):∃ p,Op.aQ 1 [s.wv,.int .i64 z]=some p/\Op.aa [p] H=some (.int .u64 x) :=
 ⟨_,(h.w.sl G1).idx hx (z:=z) (by omega) .i64,(h.w.sl G1).aa G1 hx (j:=0) (by decide)⟩
end
end Go.Am
namespace Go.Am
open Go.Proofs Ca
open Lang (ints)
variable {M:aL} [MK M]
def fQ (l:List Pr) (a:Int):Option Int:=(l.reverse.find? λ p=>p.a=a).map Pr.v
theorem q9d (a:Int):fQ [] a=none:=rfl
theorem q60 (l:List Pr) (p:Pr) (a:Int):fQ (l ++ [p]) a=if p.a=a then some p.v else fQ l a:=by
 unfold fQ;rw [List.reverse_append];show ((p::l.reverse).find? _).map _=_;rw [List.find?_cons]
 by_cases q:p.a=a
 ·simp [q]
 ·simp [q]
section
variable {H0 H:AHeap} {B:Nat} {s:Bs} {b:Bu} {own:Nat->Nat} {c:Int}
theorem q56 (h:cY H0 H B s b own) (hb:BB b) (hc:¬ (0<=c/\c<b.ns.length)):jr M xJ [.ptr B 0,.int .i64 c] H λ v H'=>v=.bool false/\H'=H:=by
 refine qop ?_;simp only [↓qg,xe,reduceIte,reduceEqDiff,qoq];refine C3.q (qR (M:=M) h hb.N4 c) λ v H1 ⟨hh,_,h1⟩=>?_;rw [h1 hc,hh];simp only [↓qg,xe,reduceIte,reduceEqDiff,qo];refine C3.q (show jr M DX [.nilp] H λ v H'=>v=.bool false/\H'=H from ?_) λ v H2 ⟨hv2,hh2⟩=>?_
 ·refine qme ?_;simp only [↓qg,xe,reduceIte,reduceEqDiff,qmf,nz]
 rw [hv2,hh2];simp only [↓qg,xe,reduceIte,reduceEqDiff]
end
section
variable {H0 H:AHeap} {G:Nat} {s:Gs} {g:Gh} {tg:Nat->Nat}
theorem q9e (h:gR H0 H G s g tg) {c:Nat} (hc:c<4) (a:Int) (hl:(g.own c).length<=1000):jr M Eh [.ptr G 0,.int .i64 (c:Int),.int .i64 a] H λ v H'=>H'=H/\v=.tuple [.int .u64 ((fQ (g.own c) a).getD 0),.bool (fQ (g.own c) a).isSome]:=by
 refine qqo ?_;obtain ⟨w0,w2,w23,w7,w13,w22⟩:=qqp M ⟨none,Eh⟩;have sl:dZ fk 2 H (s.ov c) (g.own c):=Own.sl (h.own c hc);have ix1:=JT (G:=G) 1 hc;have lo:=h.lO hc;have wk:aW .i64 (((g.own c).length:Nat)-1:Int)=((g.own c).length:Nat)-1:=vl (by omega) (by omega);simp only [↓qg,xe,reduceIte,reduceEqDiff,w0,w2,qf,ix1,lo,sl.len,wk];refine bn.intro (λ k E Hx=>∃ z:Int,z=(k:Int)-1/\Hx=H/\k<=(g.own c).length/\E=[(8,.int .i64 z),(7,.bool false),(6,.int .u64 0),(0,.ptr G 0),(1,.int .i64 (c:Int)),(2,.int .i64 a)]/\fQ (g.own c) a=fQ ((g.own c).take k) a) ?_ ?_
 ·exact ⟨_,_,⟨_,rfl,rfl,qh _,rfl,by rw [List.take_length]⟩,by simp only [↓qg,xe,reduceIte,reduceEqDiff]⟩
 rintro k E Hx ⟨z,hz,rfl,hk,rfl,e⟩;cases k with
 | zero =>
  have q:¬ (0:Int)<=z:=by omega
  rw [e,EH,q9d];simp only [↓qg,xe,reduceIte,reduceEqDiff,w7,q,w23];rfl
 | succ k =>
  have q:(0:Int)<=z:=by omega
  obtain ⟨x,hx⟩:∃ x,(g.own c)[k]? = some x:=⟨_,qy (by omega)⟩
  have ix:=sl.idx hx (z:=z) (by omega) .i64;have l0:Op.aa [.ptr (aN (s.ov c)) (b9 2 (s.ov c) k)] Hx=some (.int .i64 x.a):=sl.aa GK hx (j:=0) (by decide);have l1:Op.aa [.ptr (aN (s.ov c)) (b9 2 (s.ov c) k+1)] Hx=some (.int .u64 x.v):=sl.aa GK hx (j:=1) (by decide);have wj:aW .i64 (z-1)=z-1:=vl (by omega) (by omega);have tk:(g.own c).take (k+1)=(g.own c).take k ++ [x]:=by rw [F1,hx];rfl
  rw [tk,q60] at e
  by_cases qa:x.a=a
  ·rw [e,qr qa];simp only [↓qg,xe,reduceIte,reduceEqDiff,w7,q,w13,qf,ix1,lo,ix,l0,l1,qa];rfl
  ·simp only [↓qg,xe,reduceIte,reduceEqDiff,w7,q,w13,qf,ix1,lo,ix,l0,l1,qa,w22,wj];rw [qd qa] at e;exact ⟨k,_,⟨z-1,by omega,by omega,rfl,e⟩,by simp only [↓qg,xe,reduceIte,reduceEqDiff],by omega⟩
end
end Go.Am
namespace Go.Am
open No
def Bu.lv (b:Bu) (c:Nat):Bool:=match b.ns[c]? with
 | some n=>n.live
 | none=>false
def eG (w:List Int) (l:List Pr):List Int:=l.foldl (λ w p=>w.set p.a.toNat p.v) w
theorem Mt:∀ (l:List Pr) (w:List Int),(eG w l).length=w.length
 | [],w=>rfl
 | p::l,w=>by show (eG (w.set p.a.toNat p.v) l).length=_;rw [Mt l,xd]
theorem q4h (l:List Pr) (p:Pr) (w:List Int):eG w (l ++ [p])=(eG w l).set p.a.toNat p.v:=by unfold eG;rw [List.foldl_append];rfl
namespace Gh
def at' (g:Gh) (a:Int):Int:=(g.w[a.toNat]?).getD 0
def act (g:Gh) (n:No) (x:Bt) (c:Nat):Gh × Bool :=
 if x.k=0 then (g,if (n.load x.n).2.2.1=true/\(n.load x.n).2.2.2.2=0 then decide ((n.load x.n).2.1=(fQ (g.own c) x.n).getD (g.at' x.n)) else true)
 else if x.k=1 then
  (if (n.store x.n x.v).2.1=true/\(n.store x.n x.v).2.2.2=0 then if g.live c=true then { g with own:=gv g.own c (g.own c ++ [⟨x.n,x.v⟩]) } else { g with w:=g.w.set x.n.toNat x.v } else g,true)
 else if x.k=2 then
  (if (n.cL x.n x.o).2.1=true/\(n.cL x.n x.o).2.2=0 then if (n.cL x.n x.o).1=true then { g with w:=g.w.set x.n.toNat x.v } else g else g,
   if (n.cL x.n x.o).2.1=true/\(n.cL x.n x.o).2.2=0 then decide ((n.cL x.n x.o).1=decide (g.at' x.n=x.o)) else true)
 else if x.k=3 then (if n.live=true then g else { g with live:=gv g.live c true },true)
 else if x.k=4 then (if n.live=true then { g with w:=eG g.w (g.own c) } else g,true)
 else (g,true)
def eU (g:Gh) (b:Bu) (x:Bt):Gh × Bool :=
 if x.k=7 then (g,true)
 else if 0<=x.c then match b.ns[x.c.toNat]? with
  | none=>(g,true)
  | some n=>g.act n x x.c.toNat
 else (g,true)
def tail (g:Gh) (L:Nat->Bool) (k:Nat):Gh:={ g with own:=λ i=>if i<k/\g.live i=true/\L i=false then [] else g.own i,live:=λ i=>if i<k then g.live i && L i else g.live i }
def mG (g:Gh) (b:Bu) (x:Bt):Gh:=(g.eU b x).1.tail (b.step x).lv 4
end Gh
structure GI (b:Bu) (g:Gh) (k:Nat):Prop where
 len:(g.w.length:Int)=8*b.l.length
 own:∀ c,∀ p ∈ g.own c,0<=p.a/\p.a<8*b.l.length
 fI:∀ c,(g.own c).length<=k
 Gp:∀ c,g.live c=b.lv c
 NY:∀ c,g.live c=false->g.own c=[]
theorem Ms (n:No) (k l:Int):(n.ask k l).1.live=n.live:=by unfold No.ask;split<;>rfl
theorem q9i (n:No) (a:Int):(n.load a).1.live=n.live:=by
 unfold No.load;split
 ·cases n.c.find (ln a) with
  | none=>exact Ms ..
  | some x=>rfl
 ·rfl
theorem q7n (n:No) (a y:Int):(n.store a y).1.live=n.live:=by
 unfold No.store;split
 ·split
  ·rfl
  ·exact Ms ..
 ·rfl
theorem u9 (n:No) (a o y:Int):(n.eR a o y).1.live=n.live:=by
 unfold No.eR;split
 ·split
  ·rfl
  ·split
   ·rfl
   ·exact Ms ..
 ·rfl
theorem q6q (n:No) (l:Int) (h:(n.aP l).1.live=true):n.live=true:=by
 unfold No.aP at h;split at h
 ·exact h
 ·cases hf:n.c.find l with
  | none=>rw [hf] at h;exact h
  | some x =>
   rw [hf] at h;simp only [Fx] at h;split at h
   ·cases h
   ·exact h
theorem ic (n:No) (x:En) (t:Bool) (h:(n.lost x t).live=true):n.live=true:=by
 rw [G2] at h;split at h
 ·cases h
 ·exact h
theorem q86 (n:No) (m:Mg) (h:(n.fill m).1.live=true):n.live=true:=by
 unfold No.fill No.fU at h;generalize (if m.k=15 then (2:Int) else 1)=st at h;split at h
 ·rw [qyi] at h;cases h
 ·rw [qyi] at h;exact h
theorem q9b (n:No) (m:Mg) (h:(n.aB m).1.live=true):n.live=true:=by
 unfold No.aB at h;split at h;· exact h
 split at h;· exact ic n _ _ h
 split at h
 ·cases hf:n.c.find m.line with
  | none=>rw [hf] at h;exact h
  | some x =>
   rw [hf] at h;simp only at h;split at h
   ·exact ic n _ _ h
   ·exact ic n _ _ h
 split at h;· exact h
 cases hf:n.c.find m.line with
 | none =>
  rw [hf] at h;have h:(No.fill { n with out:=⟨0,0,0,.zero⟩ } m).1.live=true:=h;exact q86 { n with out:=⟨0,0,0,.zero⟩ } m h
 | some x=>rw [hf] at h;exact h
theorem q8f (n:No) (x:Bt) (h:(n.call x).1.live=true):n.live=true\/x.k=3:=by
 unfold No.call at h;split at h;· exact .inl (by rw [<-q9i];exact h)
 split at h;· exact .inl (by rw [<-q7n];exact h)
 split at h;· exact .inl (by rw [<-u9];exact h)
 split at h;· exact .inr ‹_›
 split at h
 ·refine .inl ?_;unfold No.bt at h;split at h
  ·cases h
  ·exact h
 split at h
 ·refine .inl ?_;unfold No.abort at h;split at h
  ·split at h
   ·exact h
   ·cases h
  ·exact h
 split at h;· exact .inl (q6q n _ h)
 exact .inl h
theorem uK {n:No} {a:Int} (h:(n.load a).2.2.1=true):n.may a:=by
 by_cases q:n.may a
 ·exact q
 ·unfold No.load at h;rw [qd q] at h;cases h
theorem q22 {n:No} {a y:Int} (h:(n.store a y).2.1=true):n.may a:=by
 by_cases q:n.may a
 ·exact q
 ·unfold No.store at h;rw [qd q] at h;cases h
theorem tT {n:No} {a o:Int} (h:(n.cL a o).2.1=true):n.may a:=by
 by_cases q:n.may a
 ·exact q
 ·unfold No.cL at h;rw [qd q] at h;cases h
theorem Jn {n:No} {a c L:Int} (w:NW n c L) (h:n.may a):0<=a/\a<8*L:=by
 have:=w.lines;unfold No.may at h;omega
theorem uI {b:Bu} {c:Nat} {n:No} {r:No × List Mg} (hn:b.ns[c]? = some n) (d:Nat):(b.put c r).lv d=if d=c then r.1.live else b.lv d:=by
 unfold Bu.lv Bu.put
 by_cases q:d=c
 ·rw [qr q,q,xg (qi.1 hn).1]
 ·rw [qd q,xu (vd q)]
theorem rF {b:Bu} {c:Nat} {n:No} (hn:b.ns[c]? = some n):b.lv c=n.live:=by unfold Bu.lv;rw [hn]
theorem Bp {b:Bu} {c:Nat} (h:b.lv c=true):c<b.ns.length:=by
 unfold Bu.lv at h;rcases js c b.ns.length with q|q
 ·exact q
 ·rw [zq q] at h;cases h
theorem Is (b:Bu) (x:Bt):(b.step x).ns.length=b.ns.length/\(b.step x).l.length=b.l.length:=by
 unfold Bu.step;split
 ·split
  ·unfold Bu.sm;cases b.fl[x.n.toNat]? with
   | none=>exact ⟨rfl,rfl⟩
   | some m =>
    simp only;split
    ·cases b.l[m.line.toNat]? with
     | none=>exact ⟨rfl,rfl⟩
     | some y =>
      cases b.m[m.line.toNat]? with
      | none=>exact ⟨rfl,rfl⟩
      | some w=>exact ⟨rfl,xd ..⟩
    ·cases b.ns[m.core.toNat]? with
     | none=>exact ⟨rfl,rfl⟩
     | some n=>exact ⟨xd ..,rfl⟩
  ·exact ⟨rfl,rfl⟩
 split
 ·cases b.ns[x.c.toNat]? with
  | none=>exact ⟨rfl,rfl⟩
  | some n=>exact ⟨xd ..,rfl⟩
 ·exact ⟨rfl,rfl⟩
theorem q20 {b:Bu} {g:Gh} {k:Nat} (hg:GI b g k) (x:Bt) (c:Nat) (h:(b.step x).lv c=true):(g.eU b x).1.live c=true:=by
 unfold Gh.eU;unfold Bu.step at h
 by_cases k7:x.k=7
 ·rw [qr k7] at h ⊢;show g.live c=true;rw [hg.Gp];split at h
  ·unfold Bu.sm at h;cases hm:b.fl[x.n.toNat]? with
   | none=>rw [hm] at h;exact h
   | some m =>
    rw [hm] at h;simp only at h;split at h
    ·cases hx:b.l[m.line.toNat]? with
     | none=>rw [hx] at h;exact h
     | some y =>
      cases hw:b.m[m.line.toNat]? with
      | none=>rw [hx,hw] at h;exact h
      | some w=>rw [hx,hw] at h;exact h
    ·cases hn:b.ns[m.core.toNat]? with
     | none=>rw [hn] at h;exact h
     | some n =>
      rw [hn] at h;have e:=uI (b:=b) (r:=((n.aB m).1,[])) hn c;have h:(b.put m.core.toNat ((n.aB m).1,[])).lv c=true:=h;rw [e] at h;split at h
      ·rename_i q;rw [q,rF hn];exact q9b n m h
      ·exact h
  ·exact h
 ·rw [qd k7] at h ⊢;split at h
  ·rename_i c0;rw [qr c0];cases hn:b.ns[x.c.toNat]? with
   | none=>rw [hn] at h;show g.live c=true;rw [hg.Gp];exact h
   | some n =>
    rw [hn] at h;have h:(b.put x.c.toNat (n.call x)).lv c=true:=h;rw [uI hn] at h;show (g.act n x x.c.toNat).1.live c=true;have hgl:∀ d,g.live d=b.lv d:=hg.Gp;have key:x.k ≠ 3->(g.act n x x.c.toNat).1.live=g.live:=λ k3=>by
     unfold Gh.act;split;· rfl
     split
     ·simp only;split
      ·split<;>rfl
      ·rfl
     split
     ·simp only;split
      ·split<;>rfl
      ·rfl
     try rw [qd k3]
     split
     ·simp only;split<;>rfl
     rfl
    by_cases k3:x.k=3
    ·unfold Gh.act;rw [qd (by omega),qd (by omega),qd (by omega),qr k3];simp only
     by_cases hl:n.live=true
     ·rw [qr hl,hgl];split at h
      ·rename_i q;rw [q,rF hn];exact hl
      ·exact h
     ·rw [qd hl];show gv g.live _ true c=true;split at h
      ·rename_i q;rw [q,vC]
      ·rename_i q;rw [qN q,hgl];exact h
    ·rw [key k3,hgl];split at h
     ·rename_i q;rw [q,rF hn];exact (q8f n x h).elim id λ w=>absurd w k3
     ·exact h
  ·rename_i c0;rw [qd c0];show g.live c=true;rw [hg.Gp];exact h
theorem IA {b:Bu} {V:Int->L8} {g:Gh} {k:Nat} (hI:BuI b V) (hg:GI b g k) (x:Bt) :
 (((g.eU b x).1.w.length:Nat):Int)=8*b.l.length/\(∀ c,∀ p ∈ (g.eU b x).1.own c,0<=p.a/\p.a<8*b.l.length)/\(∀ c,((g.eU b x).1.own c).length<=k+1) /\ ∀ c,(g.eU b x).1.live c=false->(g.eU b x).1.own c=[]:=by
 have h0:((g.w.length:Nat):Int)=8*b.l.length/\(∀ c,∀ p ∈ g.own c,0<=p.a/\p.a<8*b.l.length)/\(∀ c,(g.own c).length<=k+1) /\ ∀ c,g.live c=false->g.own c=[]:=⟨hg.len,hg.own,λ c=>FH (hg.fI c),hg.NY⟩
 have hW:∀ w':List Int,w'.length=g.w.length->((w'.length:Nat):Int)=8*b.l.length/\(∀ c,∀ p ∈ g.own c,0<=p.a/\p.a<8*b.l.length)/\(∀ c,(g.own c).length<=k+1) /\ ∀ c,g.live c=false->g.own c=[]:=λ w' e=>⟨by rw [e];exact hg.len,h0.2⟩
 unfold Gh.eU;split;· exact h0
 split
 ·cases hn:b.ns[x.c.toNat]? with
  | none=>exact h0
  | some n =>
   have w:=hI.nw _ n hn;simp only;unfold Gh.act;split;· exact h0
   split
   ·simp only;split
    ·rename_i hd;have:=Jn w (q22 hd.1);split
     ·rename_i hl;refine ⟨hg.len,λ c p hp=>?_,λ c=>?_,λ c hc=>?_⟩
      ·have hp:p ∈ gv g.own x.c.toNat (g.own x.c.toNat ++ [⟨x.n,x.v⟩]) c:=hp
       by_cases q:c=x.c.toNat
       ·rw [q,vC] at hp;rcases x9.1 hp with q|q
        ·exact hg.own _ p q
        ·rw [xq.1 q];exact this
       ·rw [qN q] at hp;exact hg.own c p hp
      ·show (gv g.own x.c.toNat (g.own x.c.toNat ++ [⟨x.n,x.v⟩]) c).length<=_
       by_cases q:c=x.c.toNat
       ·rw [q,vC,xa];have:=hg.fI x.c.toNat;simp only [yk,zE];omega
       ·rw [qN q];exact FH (hg.fI c)
      ·have hc:g.live c=false:=hc;show gv g.own x.c.toNat (g.own x.c.toNat ++ [⟨x.n,x.v⟩]) c=[]
       by_cases q:c=x.c.toNat
       ·rw [q,hl] at hc;cases hc
       ·rw [qN q];exact hg.NY c hc
     ·exact hW _ (xd ..)
    ·exact h0
   split
   ·simp only;split
    ·split
     ·exact hW _ (xd ..)
     ·exact h0
    ·exact h0
   split
   ·simp only;split
    ·exact h0
    ·refine ⟨hg.len,hg.own,h0.2.2.1,λ c hc=>hg.NY c ?_⟩;have hc:gv g.live x.c.toNat true c=false:=hc
     by_cases q:c=x.c.toNat
     ·rw [q,vC] at hc;cases hc
     ·rw [qN q] at hc;exact hc
   split
   ·simp only;split
    ·exact hW _ (Mt ..)
    ·exact h0
   exact h0
 ·exact h0
theorem Dp {b:Bu} {g:Gh} {k:Nat} (hg:GI b g k) (x:Bt) {c:Nat} (h:(g.eU b x).1.live c=true):c<b.ns.length:=by
 have h0:g.live c=true->c<b.ns.length:=λ q=>Bp (by rw [<-hg.Gp];exact q);unfold Gh.eU at h;split at h;· exact h0 h
 split at h
 ·cases hn:b.ns[x.c.toNat]? with
  | none=>rw [hn] at h;exact h0 h
  | some n =>
   rw [hn] at h;have h:(g.act n x x.c.toNat).1.live c=true:=h;unfold Gh.act at h;split at h;· exact h0 h
   split at h
   ·simp only at h;split at h
    ·split at h<;>exact h0 h
    ·exact h0 h
   split at h
   ·simp only at h;split at h
    ·split at h<;>exact h0 h
    ·exact h0 h
   split at h
   ·simp only at h;split at h
    ·exact h0 h
    ·have h:gv g.live x.c.toNat true c=true:=h
     by_cases q:c=x.c.toNat
     ·rw [q];exact (qi.1 hn).1
     ·rw [qN q] at h;exact h0 h
   split at h
   ·simp only at h;split at h<;>exact h0 h
   exact h0 h
 ·exact h0 h
theorem uF {b:Bu} {V:Int->L8} {g:Gh} {k:Nat} (hI:BuI b V) (hg:GI b g k) (x:Bt):GI (b.step x) (g.mG b x) (k+1):=by
 obtain ⟨a1,a2,a3,a4⟩:=IA hI hg x;obtain ⟨s1,s2⟩:=Is b x;refine ⟨by rw [s2];exact a1,λ c p hp=>?_,λ c=>?_,λ c=>?_,λ c hc=>?_⟩
 ·rw [s2];have hp:p ∈ if c<4/\_ then [] else (g.eU b x).1.own c:=hp
  split at hp
  ·cases hp
  ·exact a2 c p hp
 ·show (if c<4/\_ then [] else (g.eU b x).1.own c).length<=_;split
  ·exact zp _
  ·exact a3 c
 ·show (if c<4 then (g.eU b x).1.live c && (b.step x).lv c else (g.eU b x).1.live c)=_;have:=q20 hg x c;split
  ·cases h:(b.step x).lv c with
   | true=>rw [this h];rfl
   | false=>rw [Bool.and_false]
  ·rename_i c4;have e:(b.step x).lv c=false:=by
    cases h:(b.step x).lv c with
    | false=>rfl
    | true=>have:=Bp h;have:=hI.N4;omega
   rw [e];cases h:(g.eU b x).1.live c with
   | false=>rfl
   | true =>
    have:=Dp hg x h;have:=hI.N4;omega
 ·have hc:(if c<4 then (g.eU b x).1.live c && (b.step x).lv c else (g.eU b x).1.live c)=false:=hc;show (if c<4/\_ then [] else (g.eU b x).1.own c)=[];split
  ·rfl
  ·rename_i hx;split at hc
   ·rename_i c4;cases hl:(g.eU b x).1.live c with
    | false=>exact a4 c hl
    | true=>rw [hl,Bool.true_and] at hc;exact absurd ⟨c4,hl,hc⟩ hx
   ·exact a4 c hc
end Go.Am
