/- BuK9: BsG BuL GhA GhB BuM. -/
import Derived.Test.YtiibohocdbaekaaGreatAmCBuK8
set_option linter.unusedVariables false
set_option linter.unusedSimpArgs false
set_option linter.unusedSectionVars false
set_option maxRecDepth 100000
open Nat (reduceEqDiff)
namespace Go.Am
open Go.Proofs Ca
open Lang (ints)
variable {M:aA} [MK M]
def lE (l s w:Int) (k:Nat):List No:=(List.range k).map λ (i:Nat)=>ig (i:Int) l s w
def dJ (l c s w:Int):Bu:=⟨List.replicate l.toNat .zero,List.replicate l.toNat fA,lE l s w c.toNat,[]⟩
def kD (l c s w:Int):Prop:=rz l c/\mF s w
instance (l c s w:Int):Decidable (kD l c s w):=inferInstanceAs (Decidable (_/\_))
theorem Fh {l s w:Int} {k i:Nat} {n:No} (h:(lE l s w k)[i]? = some n):i<k/\n=ig (i:Int) l s w:=by
 unfold lE at h;rw [xg,xe] at h;obtain ⟨j,hj,e⟩:=h;have hk:=(qe.1 hj).1;rw [jq] at hk;rw [ku hk] at hj;injection hj with hj;subst hj
 exact ⟨hk,e.symm⟩
theorem KP (l s w:Int) (k:Nat):(lE l s w k).length=k:=by unfold lE;rw [xu,jq]
structure EY (H0 H:AHeap) (B D mp:Nat) (lv ev nv:AV) (l c s w:Int) (ad:List Na) (own:Nat->Nat):Prop where
 row:H.get B=some (OR [.ptr D 0,nv,.nils,.int .i64 l] Cw)
 lt:B<H.next
 d:iT H D mp lv ev c (List.replicate l.toNat .zero) (List.replicate l.toNat (fA,.nils))
 Ob:cq rh Er 1 H nv (ad.map Na.r)
 no:∀ (k:Nat) (A:Na),ad[k]? = some A->bR H0 H A.r A.b A.sv A.bv (ig (k:Int) l s w) A.ks
 oB:own B=0
 oD:∀ z,iR D mp lv ev (List.replicate l.toNat (fA,.nils)) z->own z=1
 oN:∀ z,aI nv z->own z=2
 oC:∀ (k:Nat) (A:Na),ad[k]? = some A -> ∀ z,A.w z->own z=4+k
 Ie:H0.next<=B
 loD:∀ z,iR D mp lv ev (List.replicate l.toNat (fA,.nils)) z->H0.next<=z
 HO:∀ z,aI nv z->H0.next<=z
 fr:Fr Em H0 H
theorem bR.base {H0 H1 H:AHeap} {r b:Nat} {sv bv:AV} {n:No} {ks:List Nat} (h:bR H1 H r b sv bv n ks) (f:Fr Em H0 H1):bR H0 H r b sv bv n ks:=by
 have hn:=f.next
 refine ⟨h.row,h.lt,h.ca,⟨?_,f.trans h.bk.fr λ _ q=>.inl q⟩,h.eq,xj hn h.lr,xj hn h.lb,xj hn h.ls,h.n1,h.n2,h.o1,h.o2,h.o3,h.li,h.len⟩;rcases h.bk.own with q|⟨b,m,rest,q0,q1,q2,q3⟩
 ·exact .inl q
 ·exact .inr ⟨b,m,rest,q0,q1,xj hn q2,q3⟩
theorem bR.all {H0 H:AHeap} {r b:Nat} {sv bv:AV} {n:No} {ks:List Nat} (h:bR H0 H r b sv bv n ks) {z:Nat} (hz:fw r b sv bv z):H0.next<=z:=by
 rcases hz with rfl|(rfl|rfl) | hz
 ·exact h.lr
 ·exact h.lb
 ·exact h.ls
 ·exact (h.bk.fresh z hz).1
section
variable {H0 H:AHeap} {B D mp:Nat} {lv ev nv:AV} {l c s w:Int} {ad:List Na} {own:Nat->Nat}
theorem EY.step (h:EY H0 H B D mp lv ev nv l c s w ad own) (hl4:ad.length<=4) {H1:AHeap} {A:Na} (hA:bR H H1 A.r A.b A.sv A.bv (ig (ad.length:Int) l s w) A.ks) {K:bm->(Nat->AV)->Bool->AV->AHeap->Prop}
 (hk:∀ v H2,(∃ H3,Op.store 1 [.ptr B 1,v] H2=some (.undef,H3)/\(∃ own2,EY H0 H3 B D mp lv ev v l c s w (ad ++ [A]) own2)/\Fr (λ z=>z=B\/aI nv z) H H3 /\ ∀ z,aI v z->aI nv z\/H.next<=z)->K (.row [.ptr A.r 0] Er (0,0) true) (Op.sliceTo 1 1) true v H2) :
 gn true (Op.buildSlice Er 1 [.nilp] [(0,1)] [.ptr A.r 0]) λ g o mk=>gn g (Op.append Er 1 8 [nv,mk H1.next] (H1.alloc o)) (K o mk):=by
 have f01:Fr Em H H1:=hA.bk.fr;have m01:=f01.next
 refine gE (e:=Er) (size:=1) (bytes:=8) (Own.em h.Ob f01) (x:=.ptr A.r 0) rfl rfl rfl (by decide) (by rw [xu];omega) (by rw [xu];omega) λ v H2 hv hf hfr=>?_;refine hk v H2 ?_;have low:∀ z,(z=B\/iR D mp lv ev (List.replicate l.toNat (fA,.nils)) z\/aI nv z \/ ∃ k A2,ad[k]? = some A2/\Na.w A2 z)->z<H.next:=λ z hz=>by
  rcases hz with rfl|hz|hz|⟨k,A2,hA2,hz⟩
  ·exact h.lt
  ·exact h.d.low hz
  ·exact Own.lt h.Ob z hz
  ·exact (h.no k A2 hA2).low hz
 have ne:∀ {z k:Nat},own z=k->k ≠ 2 -> ¬ aI nv z:=λ e1 e2 q=>e2 (by rw [<-e1];exact h.oN _ q);have g2:H2.get B=some (OR [.ptr D 0,nv,.nils,.int .i64 l] Cw):=by
  rw [hf.ah _ (by have:=h.lt;omega) (ne h.oB (by decide)),f01.ah _ h.lt id];exact h.row
 have o1:aT v=true:=by have:=Sl.one (Own.sl hv);exact this
 have hc:v.cells=[v]:=by cases v<;>first|rfl|cases o1
 have st:=oS g2 (o:=1) (n:=1) (v:=v) (by rw [hc];rfl) (by simp) (by rw [hc,oQ];simpa using o1);rw [hc] at st;have m12:=hf.next
 have fS:Fr (On B) H2 (H2.set B (OR ([AV.ptr D 0,nv,.nils,.int .i64 l].take 1 ++ [v] ++ [AV.ptr D 0,nv,.nils,.int .i64 l].drop (1+1)) Cw)):=(Fr.refl H2).set (W:=On B) (.inl rfl) _;have H0n:H0.next<=H.next:=h.fr.next
 have nB:∀ {z k:Nat},own z=k->k ≠ 0 -> ¬ z=B:=λ e1 e2 q=>e2 (by rw [<-e1,q];exact h.oB);have onv:∀ z,aI v z->(aI nv z/\z<H.next)\/H1.next<=z:=λ z hz=>(hfr z hz).elim (λ q=>.inl ⟨q,low z (.inr (.inr (.inl q)))⟩) .inr
 have hfN:Fr (aI nv) H H2:=(f01.mono λ _ _ q=>q.elim).trans hf λ z q=>.inl q;have lowA:∀ z,A.w z->H.next<=z/\z<H1.next:=λ z hz=>⟨hA.all hz,hA.low hz⟩
 refine ⟨_,st,⟨(λ z=>if z<H.next then own z else if z<H1.next then 4+ad.length else 2),xb ..,?_,?_,?_,λ k A2 hA2=>?_,?_,λ z hz=>?_,λ z hz=>?_,λ k A2 hA2 z hz=>?_,h.Ie,h.loD,λ z hz=>?_,?_⟩,(hfN.mono λ z _ q=>.inr q).trans fS λ z (q:z=B)=>.inl (.inl q),λ z hz=>(onv z hz).elim (λ q=>.inl q.1) λ q=>.inr (by omega)⟩
 ·have:=h.lt;show B<H2.next;omega
 ·exact (h.d.fr hfN λ z q w=>ne (h.oD z w) (by decide) q).fr fS λ z q w=>nB (h.oD z w) (by decide) q
 ·have ow:cq rh Er 1 H2 v ((ad ++ [A]).map Na.r):=by
   rw [Ef];unfold cq;rw [qx,jd];exact hv
  refine Own.fr ow fS λ z hz (q:z=B)=>?_;rcases onv z hz with ⟨w,-⟩|w
  ·exact nB (h.oN z w) (by decide) q
  ·have:=h.lt;omega
 ·by_cases e:k<ad.length
  ·rw [j7 e] at hA2;refine ((h.no k A2 hA2).off hfN λ z w=>⟨h.HO z w,λ w2=>?_⟩).off fS λ z w=>?_
   ·have:=h.oC k A2 hA2 z w2;have:=h.oN z w;omega
   ·have w:z=B:=w;refine ⟨by rw [w];exact h.Ie,λ w2=>?_⟩;have:=h.oC k A2 hA2 z w2;rw [w,h.oB] at this;omega
  ·have hk:=(qe.1 hA2).1;rw [qx] at hk;have hke:k=ad.length:=by simp only [ky,vq] at hk;omega
   subst hke;rw [jg (qf _),Nat.sub_self] at hA2;injection hA2 with hA2;subst hA2
   refine ((hA.base h.fr).off hf λ z w=>⟨h.HO z w,λ w2=>?_⟩).off fS λ z w=>?_
   ·have:=lowA z w2;have:=low z (.inr (.inr (.inl w)));omega
   ·have w:z=B:=w;refine ⟨by rw [w];exact h.Ie,λ w2=>?_⟩;have:=lowA z w2;have:=h.lt;omega
 ·rw [ql h.lt];exact h.oB
 ·rw [ql (low z (.inr (.inl hz)))];exact h.oD z hz
 ·rcases onv z hz with ⟨w,w2⟩|w
  ·rw [ql w2];exact h.oN z w
  ·rw [qg (by omega),qg (by omega)]
 ·by_cases e:k<ad.length
  ·rw [j7 e] at hA2;rw [ql (low z (.inr (.inr (.inr ⟨k,A2,hA2,hz⟩))))];exact h.oC k A2 hA2 z hz
  ·have hk:=(qe.1 hA2).1;rw [qx] at hk;have hke:k=ad.length:=by simp only [ky,vq] at hk;omega
   subst hke;rw [jg (qf _),Nat.sub_self] at hA2;injection hA2 with hA2;subst hA2
   have:=lowA z hz;rw [qg (by omega),ql this.2]
 ·rcases onv z hz with ⟨w,-⟩|w
  ·exact h.HO z w
  ·omega
 ·exact ((h.fr.trans f01 λ _ q=>.inl q).trans hf λ z q=>.inr (h.HO z q)).trans fS λ z (q:z=B)=>.inr (by rw [q];exact h.Ie)
theorem EY.done (h:EY H0 H B D mp lv ev nv l c s w ad own) (hl:ad.length=c.toNat) (hc:0<=c) (hl0:0<=l):dg H0 H B ⟨D,mp,lv,ev,List.replicate l.toNat (fA,.nils),nv,.nils,ad⟩ (dJ l c s w) own:=by
 have hlen:((dJ l c s w).ns.length:Int)=c:=by show ((lE l s w c.toNat).length:Int)=c;rw [KP];omega
 refine ⟨?_,h.lt,?_,?_,h.Ob,λ k n A hn hA=>?_,?_,Sk.nil _,h.oB,h.oD,h.oN,λ z q=>absurd rfl q.1,h.oC,λ z hz=>?_⟩
 ·rw [h.row];have:((dJ l c s w).l.length:Int)=l:=by show ((List.replicate l.toNat fA).length:Int)=l;rw [zb];omega
  rw [this]
 ·rw [hlen];exact h.d
 ·show (List.replicate l.toNat (fA,AV.nils)).map Prod.fst=List.replicate l.toNat fA;rw [List.map_replicate]
 ·obtain ⟨-,rfl⟩:=Fh hn;exact h.no k A hA
 ·show ad.length=(lE l s w c.toNat).length;rw [KP,hl]
 ·rcases hz with rfl|hz|hz|hz|⟨k,A,hA,hz⟩
  ·exact h.Ie
  ·exact h.loD z hz
  ·exact h.HO z hz
  ·exact absurd rfl hz.1
  ·exact (h.no k A hA).all hz
end
def Bp (H:AHeap) (l c s w:Int) (v:AV) (H':AHeap):Prop:=(¬ kD l c s w/\v=.tuple [.nilp,.int .i64 2]/\Fr Em H H')\/kD l c s w /\ ∃ B bs own,v=.tuple [.ptr B 0,.int .i64 0]/\dg H H' B bs (dJ l c s w) own/\Fr Em H H'
theorem qz3 {H:AHeap} (l c s w:Int):zq M NM [.agg (bo l c s w),.nils] H (Bp H l c s w):=by
 refine q47 ?_;obtain ⟨w0,w4,w12,w14,w41,w19,w58,w46,w25,-,w40,w31,-,w39⟩:=q48 M ⟨none,NM⟩;obtain ⟨H1,e1⟩:∃ X,X=H.alloc (OR (bo l c s w) yf):=⟨_,rfl⟩
 have f1:Fr Em H H1:=by rw [e1];exact (Fr.refl H).alloc _
 have g1:H1.get H.next=some (OR (bo l c s w) yf):=by rw [e1,qw]
 have n1:H1.next=H.next+1:=by rw [e1,xd]
 have ls:∀ {Hx:AHeap} (k:Nat),Fr Em H1 Hx->Op.ae [.ptr H.next k] Hx=(bo l c s w)[k]?:=λ k f=>xp (qz (by rw [f.ah _ (by omega) id];exact g1)) k;have l0:Op.ae [.ptr H.next 0] H1=some (.int .i64 l):=ls 0 (Fr.refl _);have l1:Op.ae [.ptr H.next 1] H1=some (.int .i64 c):=ls 1 (Fr.refl _);simp only [↓qd,qp,aa,reduceIte,reduceEqDiff,w0,xk,<-e1,l0,l1];refine C3.q (qz9 (M:=M) l c) λ v H2 ⟨f2,hv⟩=>?_;rcases hv with ⟨hd,rfl⟩|⟨hd,D,mp,lv,ev,rfl,dr,lod⟩
 ·have t2:¬ (2:Int)=0:=by decide
  simp only [↓qd,qp,aa,reduceIte,reduceEqDiff,qn,w4,t2];exact .inl ⟨λ q=>hd q.1,rfl,f1.trans f2 λ _ q=>.inl q⟩
 have t0:=xc (show (0:Int)=0 from rfl);have hd':=hd;obtain ⟨⟨m1,m2⟩,c1,c2⟩:=hd';have l02:Op.ae [.ptr H.next 0] H2=some (.int .i64 l):=ls 0 f2;have hln:Op.dC [.nils]=some (.int .i64 0):=rfl;have q0:¬ l<0:=by omega
 have bd:Op.build [.nilp,.nils,.nils,.int .i64 0] [(0,1),(3,1)] [.ptr D 0,.int .i64 l]=some (.agg [.ptr D 0,.nils,.nils,.int .i64 l]):=rfl;obtain ⟨H3,e3⟩:∃ X,X=H2.alloc (OR [.ptr D 0,.nils,.nils,.int .i64 l] Cw):=⟨_,rfl⟩
 have f3:Fr Em H2 H3:=by rw [e3];exact (Fr.refl H2).alloc _
 have n3:H3.next=H2.next+1:=by rw [e3,xd]
 have g3:H3.get H2.next=some (OR [.ptr D 0,.nils,.nils,.int .i64 l] Cw):=by rw [e3,qw]
 have f13:Fr Em H1 H3:=f2.trans f3 λ _ q=>q.elim;have nz:Op.ae [.ptr H.next 1] H3=some (.int .i64 c):=ls 1 f13;have m12:=f2.next
 have d3:=dr.em f3;have i3:EY H H3 H2.next D mp lv ev .nils l c s w [] (λ z=>if z=H2.next then 0 else 1) :=
  ⟨g3,by omega,d3,Own.nil ..,λ k A hA=>by simp at hA,ql rfl,λ z hz=>by rw [qg (by have:=dr.low hz;omega)],λ z hz=>absurd rfl hz.1,λ k A hA=>by simp at hA,by omega,λ z hz=>by have:=lod z hz;omega,λ z hz=>absurd rfl hz.1,f1.trans f13 λ _ q=>q.elim⟩
 simp only [↓qd,qp,aa,reduceIte,reduceEqDiff,qn,w4,t0,hln,l02,q0,w12,bd,xk,<-e3,w14,nz];obtain ⟨cn,rfl⟩:=jb (show 0<=c by omega)
 -- what the loop leaves of the message's box
 refine aR.intro (λ k E Hx=>∃ (ad:List Na) (nv:AV) (own:Nat->Nat),E=[(38,.int .i64 (ad.length:Int)),(37,.int .i64 ((cn:Nat):Int)),(2,.ptr H.next 0),(8,.ptr H2.next 0),(1,.nils),(6,.ptr D 0)]/\k=cn-ad.length/\ad.length<=cn/\EY H Hx H2.next D mp lv ev nv l cn s w ad own/\(0<ad.length->mF s w)/\Hx.get H.next=some (OR (bo l cn s w) yf)/\H3.next<=Hx.next /\ ∀ z,aI nv z->H3.next<=z) ?_ ?_
 ·exact ⟨_,_,⟨[],.nils,_,rfl,rfl,xx _,i3,λ q=>absurd q (by simp),by rw [f13.ah _ (by omega) id];exact g1,qf _,λ z hz=>absurd rfl hz.1⟩,by simp only [↓qd,qp,aa,reduceIte,reduceEqDiff];rfl⟩
 rintro k E Hx ⟨ad,nv,own,rfl,rfl,hi,hI,hok,hg,hnx,hnv⟩;rcases zt ad.length cn with hlt|hge
 ·have q1:(ad.length:Int)<((cn:Nat):Int):=by omega
  have ldS:=fU (e:=yf) hg (show (bo l (cn:Int) s w).length=4 from rfl);simp only [↓qd,qp,aa,reduceIte,reduceEqDiff,w19,q1,w25,ldS];refine C3.q (qyw (M:=M) (ad.length:Int) l (cn:Int) s w) λ v Ha hv=>?_;rcases hv with ⟨hno,rfl,fa⟩|⟨hno,r,b,sv,rfl,hnr⟩
  ·have t2:¬ (2:Int)=0:=by decide
   simp only [↓qd,qp,aa,reduceIte,reduceEqDiff,qn,w31,t2];refine .inl ⟨λ q=>hno ⟨q.2,by omega,by omega,by omega,m1,m2⟩,rfl,hI.fr.trans fa λ _ q=>.inl q⟩
  ·have lB:Op.ae [.ptr H2.next 1] Ha=some nv:=by
    have fa:=hnr.bk.fr;rw [xp (qz (by rw [fa.ah _ hI.lt id];exact hI.row))];rfl
   have wj:ak .i64 ((ad.length:Int)+1)=((ad.length+1:Nat):Int):=by rw [xm (by omega) (by omega)];omega
   simp only [↓qd,qp,aa,reduceIte,reduceEqDiff,qn,w31,t0,w39,qi,lB];refine hI.step (by omega) (A:=⟨r,b,sv,.nils,[]⟩) hnr λ v2 Hb ⟨Hc,sc,⟨own2,hc⟩,fc,oc⟩=>?_;have hgc:Hc.get H.next=some (OR (bo l (cn:Int) s w) yf):=by
    rw [fc.ah _ (by omega) (λ q=>q.elim (λ q=>by omega) λ q=>by have:=hnv _ q;omega)];exact hg
   simp only [↓qd,qp,aa,reduceIte,reduceEqDiff,qi,sc,w40,wj];refine ⟨_,_,⟨ad ++ [⟨r,b,sv,.nils,[]⟩],v2,own2,rfl,rfl,by rw [qx];simp;omega,hc,λ _=>hno.1,hgc,xj hnx fc.next,λ z hz=>(oc z hz).elim (hnv z) λ q=>xj hnx q⟩,by simp only [↓qd,qp,aa,reduceIte,reduceEqDiff,qx,ky,vq],by rw [qx];simp;omega⟩
 ·have hiw:ad.length=cn:=by omega
  have q1:¬ (ad.length:Int)<((cn:Nat):Int):=by omega
  have z00:¬ (0:Int)<0:=by decide
  simp only [↓qd,qp,aa,reduceIte,reduceEqDiff,w19,q1,w41,hln];refine aR.intro (λ k E Hy=>E=[(62,.int .i64 0),(61,.int .i64 0),(8,.ptr H2.next 0)]/\k=0/\Hy=Hx) ?_ ?_
  ·exact ⟨_,_,⟨rfl,rfl,rfl⟩,by simp only [↓qd,qp,aa,reduceIte,reduceEqDiff]⟩
  rintro k E Hy ⟨rfl,rfl,rfl⟩;simp only [↓qd,qp,aa,reduceIte,reduceEqDiff,w46,z00,w58];exact .inr ⟨⟨hd,hok (by omega)⟩,_,_,own,rfl,hI.done (by omega) (by omega) (by omega),hI.fr⟩
end Go.Am
namespace Go.Am
open Ca
theorem Bq {c l:Int} (h0:0<=c):LC fA c 0 0 0 (qs [] c l) 0 0:=by
 have e:cE (-1) c=0:=oe (by omega);have z:∀ {p:Prop},0<0->p:=λ q=>absurd q (Ai 0);have z3:∀ {p:Prop},(0:Int)=3->p:=λ q=>absurd q (by decide);have z1:∀ {p:Prop},(0:Int)=1->p:=λ q=>absurd q (by decide);have z2:∀ {p:Prop},(0:Int)=2->p:=λ q=>absurd q (by decide);exact ⟨rfl,rfl,rfl,rfl,rfl,z,z,rfl,z,z,e.symm,z1,z1,z2,z,λ q=>q.elim z z3,z,z,by decide,by decide,by decide⟩
theorem q2b {co l s w i:Int}:(ig co l s w).vw i=.no:=by
 show (iO s.toNat w.toNat).vw i=.no;apply I1;unfold Ca.find Ca.pos;split
 ·rfl
 ·rw [Eg]
  ·rfl
  ·intro j _;unfold Ca.iX;rw [KA];rfl
theorem uA {l c s w:Int} (h:kD l c s w):BuI (dJ l c s w) λ _=>.zero:=by
 obtain ⟨⟨⟨l0,l1⟩,c0,c1⟩,hs⟩:=h;have hN:(dJ l c s w).ns.length=c.toNat:=KP ..;have hL:((dJ l c s w).l.length:Int)=l:=by show ((List.replicate l.toNat fA).length:Int)=l;rw [zb];omega
 have hcz:∀ (i d:Int),(dJ l c s w).s i d=0/\(dJ l c s w).ot i d=0/\(dJ l c s w).bk i d=0:=λ i d=>by
  unfold Bu.s Bu.ot Bu.bk;cases hn:(dJ l c s w).ns[d.toNat]? with
  | none=>exact ⟨rfl,rfl,rfl⟩
  | some n =>
   obtain ⟨-,rfl⟩:=Fh hn;refine ⟨by show ((ig _ l s w).vw i).st=0;rw [q2b];rfl,?_,?_⟩
   ·show (if (0:Int)=i then (0:Int) else 0)=0;split<;>rfl
   ·show (if i ∈ ([]:List Int) then 1 else 0)=0;simp
 refine ⟨by rw [hN];omega,?_,λ k n hn=>?_,λ m hm=>(nomatch hm),λ i x y hx hy=>?_,λ k n hn i hi=>?_⟩
 ·show (List.replicate l.toNat L8.zero).length=(List.replicate l.toNat fA).length;rw [zb,zb]
 ·obtain ⟨hk,rfl⟩:=Fh hn;exact ⟨yG (cores:=c) ⟨hs,by omega,by omega,by omega,l0,l1⟩,rfl,by rw [hL];rfl,.inl rfl,λ z hz=>(nomatch hz)⟩
 ·have hx:(List.replicate l.toNat fA)[i]? = some x:=hx;have hy:(List.replicate l.toNat L8.zero)[i]? = some y:=hy;rw [Jx] at hx hy;split at hx
  ·rename_i q;rw [ql q] at hy;injection hx with hx;injection hy with hy
   subst hx hy;rw [hN];refine ⟨⟨by omega,by decide,⟨by decide,by show (-1:Int)<_;omega⟩,by decide,by decide,λ d _ _ q=>?_,λ q=>absurd rfl q,λ q=>?_,λ q=>?_,λ q=>?_,λ q=>?_,λ q=>rfl,λ m hm=>(nomatch hm)⟩,λ _=>rfl,λ d d0 d1=>?_,λ _=>rfl,λ m hm=>(nomatch hm)⟩
   ·have:hb 0 d=1:=q;rw [sV] at this;cases this
   ·exact absurd (show (0:Int)=1 from q) (by decide)
   ·exact absurd (show (0:Int)=2 from q) (by decide)
   ·exact absurd (show (0:Int)=3 from q) (by decide)
   ·exact absurd (show (0:Int)=4 from q) (by decide)
   ·obtain ⟨a1,a2,a3⟩:=hcz i d;rw [a1,a2,a3];exact Bq d0
  ·cases hx
 ·obtain ⟨-,rfl⟩:=Fh hn;exact absurd (show ((ig _ l s w).vw i).st=0 by rw [q2b];rfl) hi
structure Bt where
 k:Int
 c:Int
 n:Int
 v:Int
 o:Int
def No.call (n:No) (x:Bt):No × List Mg :=
 if x.k=0 then ((n.load x.n).1,(n.load x.n).2.2.2.1)
 else if x.k=1 then ((n.store x.n x.v).1,(n.store x.n x.v).2.2.1)
 else if x.k=2 then n.fq x.n x.o x.v
 else if x.k=3 then (n.begin,[])
 else if x.k=4 then (n.bj,[])
 else if x.k=5 then ((n.abort x.n).1,[])
 else if x.k=6 then n.aH x.n
 else (n,[])
def Bu.step (b:Bu) (x:Bt):Bu :=
 if x.k=7 then if 0<=x.n/\x.n<b.fl.length then b.ti x.n.toNat else b
 else if 0<=x.c then match b.ns[x.c.toNat]? with
  | none=>b
  | some n=>b.put x.c.toNat (n.call x)
 else b
noncomputable def ry (b:Bu) (V:Int->L8) (x:Bt):Int->L8 :=
 if 0<=x.c then match b.ns[x.c.toNat]? with
  | none=>V
  | some n=>if x.k=1 then if (n.store x.n x.v).2.1=true then oh V n.live x.n x.v else V
   else if x.k=2 then if BuI.Fg n x.n x.o then oh V false x.n x.v else V
   else if x.k=4 then λ l=>if n.live=true/\n.st l=2 then (n.vw l).d else V l
   else V
 else V
theorem GW {b:Bu} {V:Int->L8} (h:BuI b V) (i:Nat):BuI (b.ti i) V:=by
 unfold Bu.ti;cases hm:b.fl[i]? with
 | none=>exact h
 | some m =>
  have hil:=(qe.1 hm).1;have hf:b.fl=b.fl.take i++m::b.fl.drop (i+1):=by
   rw [<-(qe.1 hm).2,<-List.drop_eq_getElem_cons hil,kr]
  have he:b.fl.eraseIdx i=b.fl.take i++b.fl.drop (i+1):=List.eraseIdx_eq_take_drop_succ ..;obtain ⟨mk,mc,ml⟩:=h.mw m (zg hm);simp only;rw [he]
  by_cases k7:m.k<=7
  ·rw [ql k7];obtain ⟨x,w,hx,hw,-⟩:=h.entry ml.1 ml.2;rw [hx,hw];exact h.EM hf k7 hx hw
  ·rw [qg k7];obtain ⟨n,hn,-⟩:=h.core mc.1 mc.2;rw [hn];exact h.Az hf hn (by omega) (by omega)
theorem LV {b:Bu} {V:Int->L8} (h:BuI b V) (x:Bt):BuI (b.step x) (if x.k=7 then V else ry b V x):=by
 unfold Bu.step
 by_cases k7:x.k=7
 ·rw [ql k7,ql k7];split
  ·exact GW h _
  ·exact h
 rw [qg k7,qg k7];unfold ry
 by_cases c0:0<=x.c
 ·rw [ql c0,ql c0];cases hn:b.ns[x.c.toNat]? with
  | none=>exact h
  | some n =>
   simp only;unfold No.call
   by_cases k0:x.k=0
   ·rw [ql k0,qg (by omega),qg (by omega),qg (by omega)];exact h.A4 hn _
   rw [qg k0]
   by_cases k1:x.k=1
   ·rw [ql k1,ql k1];exact h.yH hn _ _
   rw [qg k1,qg k1]
   by_cases k2:x.k=2
   ·rw [ql k2,ql k2];exact h.EV hn _ _ _
   rw [qg k2,qg k2]
   by_cases k3:x.k=3
   ·rw [ql k3,qg (by omega)];exact h.tS hn
   rw [qg k3]
   by_cases k4:x.k=4
   ·rw [ql k4,ql k4];exact h.sj hn
   rw [qg k4,qg k4]
   by_cases k5:x.k=5
   ·rw [ql k5];exact h.uD hn _
   rw [qg k5]
   by_cases k6:x.k=6
   ·rw [ql k6];exact h.Cf hn _
   rw [qg k6,tf hn];exact h
 ·rw [qg c0,qg c0];exact h
structure BC (b:Bu) (k:Nat):Prop where
 fl:b.fl.length<=5*k
 no:∀ (c:Nat) n,b.ns[c]? = some n->n.aq.length<=k/\n.c.us<=2*(k:Int)
 wt:∀ x ∈ b.l,x.wt.length<=k
theorem BC.mono {b:Bu} {k k':Nat} (h:BC b k) (hk:k<=k'):BC b k':=⟨xj h.fl (by omega),λ c n hn=>by have:=h.no c n hn;omega,λ x hx=>xj (h.wt x hx) hk⟩
theorem BC.bb {b:Bu} {V:Int->L8} {k:Nat} (h:BC b k) (hI:BuI b V) (hk:k<=2000):BB b:=⟨hI.N4,by have:=h.fl;omega,λ c n hn=>by have:=h.no c n hn;exact ⟨(hI.nw c n hn).ni,by omega,by omega⟩⟩
theorem wS {l c s w:Int}:BC (dJ l c s w) 0:=by
 refine ⟨qf _,λ k n hn=>?_,λ x hx=>?_⟩
 ·obtain ⟨-,rfl⟩:=Fh hn;exact ⟨qf _,Int.le_refl _⟩
 ·rw [List.eq_of_mem_replicate (show x ∈ List.replicate l.toNat fA from hx)];exact qf _
theorem Ju {b:Bu} {k c:Nat} {n n':No} {o:List Mg} (h:BC b k) (hn:b.ns[c]? = some n) (hb:Bd n n') (ho:o.length<=5):BC (b.put c (n',o)) (k+1):=by
 have hl:=(qe.1 hn).1;refine ⟨?_,λ d y hy=>?_,λ x hx=>FI (h.wt x hx)⟩
 ·show (b.fl++o).length<=_;rw [qx];have:=h.fl;omega
 ·have hy:(b.ns.set c n')[d]? = some y:=hy
  by_cases q:d=c
  ·rw [q,qu hl] at hy;injection hy with hy;subst hy
   obtain ⟨a1,a2⟩:=hb;have:=h.no c n hn;omega
  ·rw [qm (yt q)] at hy;have:=h.no d y hy;omega
theorem q1z (x:De) (w:L8):(x.bD w).1.wt=x.wt:=by
 unfold De.bD
 repeat' split
 all_goals rfl
theorem q1i (x:De) (n:Mg) (w:L8):(x.begin n w).1.wt=x.wt:=by
 unfold De.begin;split
 ·rfl
 ·split
  ·exact q1z _ w
  ·rfl
theorem KJ (x:De) (w:L8) (q:Prop) [Decidable q] (r:List Mg):(x.pU w q r).1.wt=x.wt:=by
 unfold De.pU;split
 ·exact q1z x w
 ·rfl
theorem BX (x:De) (w:L8) (m:Mg):(x.az w m).1.wt.length<=x.wt.length+1:=by
 unfold De.az;split;· exact j5 _
 split
 ·split
  ·simp
  ·rw [q1i];exact j5 _
 split;· rw [KJ];show x.wt.length<=_;omega
 split;· rw [KJ];show x.wt.length<=_;omega
 split;· rw [KJ];show x.wt.length<=_;omega
 split;· rw [KJ];show x.wt.length<=_;omega
 cases h:x.wt with
 | nil=>simp [h]
 | cons n r=>simp only;rw [q1i];simp only [ky];omega
theorem E6 (n:No) (x:Bt):Bd n (n.call x).1/\(n.call x).2.length<=5:=by
 unfold No.call;split;· exact ⟨BF n _,xj (q15 n _) (by decide)⟩
 split;· exact ⟨yE n _ _,xj (qzg n _ _) (by decide)⟩
 split;· exact ⟨DQ n _ _ _,xj (q5b n _ _ _) (by decide)⟩
 split
 ·refine ⟨?_,xx _⟩;show Bd n n.begin;unfold No.begin;split<;>exact ⟨by show n.aq.length<=_;omega,by show n.c.us<=_;omega⟩
 split
 ·refine ⟨?_,xx _⟩;show Bd n n.bj;unfold No.bj;split<;>exact ⟨by show n.aq.length<=_;omega,by show n.c.us<=_;omega⟩
 split
 ·refine ⟨?_,xx _⟩;show Bd n (n.abort _).1;unfold No.abort;repeat' split
  all_goals exact ⟨by show n.aq.length<=_;omega,by show n.c.us<=_;omega⟩
 split;· exact ⟨Cc n _,xj (qx4 n _) (by decide)⟩
 exact ⟨Bd.refl n,xx _⟩
theorem JC {b:Bu} {k:Nat} (h:BC b k) (i:Nat):BC (b.ti i) (k+1):=by
 unfold Bu.ti;cases hm:b.fl[i]? with
 | none=>exact h.mono (j5 k)
 | some m =>
  have hfl:=h.fl;have he:(b.fl.eraseIdx i).length<=b.fl.length:=List.length_eraseIdx_le ..;simp only
  by_cases k7:m.k<=7
  ·rw [ql k7];cases hx:b.l[m.line.toNat]? with
   | none=>exact h.mono (j5 k)
   | some x =>
    cases hw:b.m[m.line.toNat]? with
    | none=>exact h.mono (j5 k)
    | some w =>
     refine ⟨?_,λ c n hn=>by have:=h.no c n hn;omega,λ y hy=>?_⟩
     ·show (b.fl.eraseIdx i++(x.az w m).2.2).length<=_;rw [qx];have:=qyg x w m;omega
     ·have hy:y ∈ b.l.set m.line.toNat (x.az w m).1:=hy;rcases List.mem_or_eq_of_mem_set hy with q|rfl
      ·exact FI (h.wt y q)
      ·have:=BX x w m;have:=h.wt x (zg hx);omega
  ·rw [qg k7];cases hn:b.ns[m.core.toNat]? with
   | none=>exact h.mono (j5 k)
   | some n =>
    have hl:=(qe.1 hn).1;refine ⟨?_,λ d y hy=>?_,λ x hx=>FI (h.wt x hx)⟩
    ·show (b.fl.eraseIdx i++(n.az m).2).length<=_;rw [qx];have:=q12 n m;omega
    ·have hy:(b.ns.set m.core.toNat (n.az m).1)[d]? = some y:=hy
     by_cases q:d=m.core.toNat
     ·rw [q,qu hl] at hy;injection hy with hy;subst hy
      obtain ⟨a1,a2⟩:=AS n m;have:=h.no _ n hn;omega
     ·rw [qm (yt q)] at hy;have:=h.no d y hy;omega
theorem Nm {b:Bu} {k:Nat} (h:BC b k) (x:Bt):BC (b.step x) (k+1):=by
 unfold Bu.step;split
 ·split
  ·exact JC h _
  ·exact h.mono (j5 k)
 split
 ·cases hn:b.ns[x.c.toNat]? with
  | none=>exact h.mono (j5 k)
  | some n=>obtain ⟨a1,a2⟩:=E6 n x;exact Ju h hn a1 a2
 ·exact h.mono (j5 k)
end Go.Am
namespace Go.Am
open Go.Proofs Ca
open Lang (ints)
variable {M:aA} [MK M]
structure Pr where
 a:Int
 v:Int
def fY (p:Pr):List AV:=[.int .i64 p.a,.int .u64 p.v]
def nD (x:Int):List AV:=[.int .u64 x]
theorem Jk (p:Pr):(fY p).length=2:=rfl
theorem GV (x:Int):(nD x).length=1:=rfl
structure Gh where
 w:List Int
 own:Nat->List Pr
 live:Nat->Bool
structure Gs where
 wv:AV
 ov:Nat->AV
def im {α:Type} (f:Nat -> α) (i:Nat) (x:α) (j:Nat):α:=if j=i then x else f j
theorem uC {α:Type} (f:Nat -> α) (i:Nat) (x:α):im f i x i=x:=ql rfl
theorem sE {α:Type} {f:Nat -> α} {i j:Nat} {x:α} (h:j ≠ i):im f i x j=f j:=qg h
def gC (s:Gs) (g:Gh):List AV:=[s.wv,s.ov 0,s.ov 1,s.ov 2,s.ov 3,.bool (g.live 0),.bool (g.live 1),.bool (g.live 2),.bool (g.live 3)]
def uz (G:Nat) (s:Gs) (z:Nat):Prop:=z=G\/z=aF s.wv \/ ∃ c,c<4/\aI (s.ov c) z
structure iG (H0 H:AHeap) (G:Nat) (s:Gs) (g:Gh) (tg:Nat->Nat):Prop where
 row:H.get G=some (OR (gC s g) vz)
 lt:G<H.next
 w:dR nD KH 1 H s.wv g.w
 own:∀ c,c<4->cq fY Dq 2 H (s.ov c) (g.own c)
 oG:tg G=4
 oW:tg (aF s.wv)=5
 oO:∀ c,c<4 -> ∀ z,aI (s.ov c) z->tg z=c
 lo:∀ z,uz G s z->H0.next<=z
section
variable {H0 H:AHeap} {G:Nat} {s:Gs} {g:Gh} {tg:Nat->Nat}
theorem iG.low (h:iG H0 H G s g tg) {z:Nat} (hz:uz G s z):z<H.next:=by
 rcases hz with rfl|rfl|⟨c,hc,hz⟩
 ·exact h.lt
 ·exact h.w.lt
 ·exact Own.lt (h.own c hc) z hz
theorem iG.fr {H':AHeap} {W:Nat->Prop} (h:iG H0 H G s g tg) (f:Fr W H H') (hw:∀ z,W z -> ¬ uz G s z):iG H0 H' G s g tg :=
 ⟨by rw [f.ah _ h.lt λ q=>hw _ q (.inl rfl)];exact h.row,qk h.lt f.next,h.w.fr f λ q=>hw _ q (.inr (.inl rfl)),λ c hc=>Own.fr (h.own c hc) f λ z hz q=>hw _ q (.inr (.inr ⟨c,hc,hz⟩)),h.oG,h.oW,h.oO,h.lo⟩
theorem iG.em {H':AHeap} (h:iG H0 H G s g tg) (f:Fr Em H H'):iG H0 H' G s g tg:=h.fr f λ z q=>q.elim
theorem Fm (s:Gs) (g:Gh) {c:Nat} (hc:c<4):(gC s g)[1+c]? = some (s.ov c):=by
 match c,hc with
 | 0,_=>rfl
 | 1,_=>rfl
 | 2,_=>rfl
 | 3,_=>rfl
theorem AJ (s:Gs) (g:Gh) {c:Nat} (hc:c<4):(gC s g)[5+c]? = some (.bool (g.live c)):=by
 match c,hc with
 | 0,_=>rfl
 | 1,_=>rfl
 | 2,_=>rfl
 | 3,_=>rfl
theorem BO (s:Gs) (g:Gh) {c:Nat} (hc:c<4) (v:AV):(gC s g).take (1+c) ++ [v]++(gC s g).drop (1+c+1)=gC { s with ov:=im s.ov c v } g:=by
 match c,hc with
 | 0,_=>rfl
 | 1,_=>rfl
 | 2,_=>rfl
 | 3,_=>rfl
theorem Bb (s:Gs) (g:Gh) {c:Nat} (hc:c<4) (v:Bool):(gC s g).take (5+c) ++ [AV.bool v]++(gC s g).drop (5+c+1)=gC s { g with live:=im g.live c v }:=by
 match c,hc with
 | 0,_=>rfl
 | 1,_=>rfl
 | 2,_=>rfl
 | 3,_=>rfl
theorem LR (k:Nat) {c:Nat} (hc:c<4):Op.bE 4 1 [.ptr G k,.int .i64 (c:Int)]=some (.ptr G (k+c)):=by
 have:=HM (len:=4) (size:=1) (b:=G) (o:=k) (k:=.i64) (j:=(c:Int)) (i:=c) rfl hc;rw [this,A9]
theorem JX (k:Nat) {c:Nat} {z:Int} (hz:z=(c:Int)) (hc:c<4):Op.bE 4 1 [.ptr G k,.int .i64 z]=some (.ptr G (k+c)):=by rw [hz];exact LR k hc
theorem iG.l0 (h:iG H0 H G s g tg):Op.ae [.ptr G 0] H=some s.wv:=xp (qz h.row) 0
theorem iG.lO (h:iG H0 H G s g tg) {c:Nat} (hc:c<4):Op.ae [.ptr G (1+c)] H=some (s.ov c):=by rw [xp (qz h.row)];exact Fm s g hc
theorem iG.lL (h:iG H0 H G s g tg) {c:Nat} (hc:c<4):Op.ae [.ptr G (5+c)] H=some (.bool (g.live c)):=by rw [xp (qz h.row)];exact AJ s g hc
def Dc (H0 H:AHeap) (G:Nat) (s:Gs) (g':Gh) (H':AHeap):Prop:=∃ s' tg',iG H0 H' G s' g' tg'/\(∀ z,uz G s' z->uz G s z\/H.next<=z)/\Fr (uz G s) H H'
theorem iG.same (h:iG H0 H G s g tg) {H':AHeap} (f:Fr Em H H'):Dc H0 H G s g H':=⟨s,tg,h.em f,λ _ q=>.inl q,f.mono λ _ _ q=>q.elim⟩
theorem Dc.then {H1 H2:AHeap} {s1:Gs} {g':Gh} (f1:Fr (uz G s) H H1) (hs:∀ z,uz G s1 z->uz G s z\/H.next<=z) (h:Dc H0 H1 G s1 g' H2):Dc H0 H G s g' H2:=by
 obtain ⟨s2,t2,h2,q2,f2⟩:=h;have:=f1.next
 exact ⟨s2,t2,h2,λ z hz=>(q2 z hz).elim (hs z) λ w=>.inr (by omega),f1.trans f2 hs⟩
theorem iG.lJ (h:iG H0 H G s g tg) {c:Nat} (hc:c<4) (v:Bool):∃ H',Op.store 1 [.ptr G (5+c),.bool v] H=some (.undef,H')/\iG H0 H' G s { g with live:=im g.live c v } tg/\Fr (On G) H H':=by
 have st:=oS h.row (o:=5+c) (n:=1) (v:=.bool v) rfl (by show 5+c+1<=9;omega) rfl;have f:Fr (On G) H _:=(Fr.refl H).set (W:=On G) (.inl rfl) (OR (gC s { g with live:=im g.live c v }) vz);have e:(gC s g).take (5+c)++(AV.bool v).cells++(gC s g).drop (5+c+1)=gC s { g with live:=im g.live c v }:=Bb s g hc v;rw [e] at st;refine ⟨_,st,⟨xb ..,qk h.lt f.next,h.w.fr f λ (q:_=G)=>?_,λ d hd=>Own.fr (h.own d hd) f λ z hz (q:z=G)=>?_,h.oG,h.oW,h.oO,h.lo⟩,f⟩
 ·have:=h.oW;rw [q,h.oG] at this;cases this
 ·have:=h.oO d hd z hz;rw [q,h.oG] at this;omega
theorem iG.I5 (h:iG H0 H G s g tg) {c:Nat} (hc:c<4) {v:AV} {xs:List Pr} {H1:AHeap} (f1:Fr (aI (s.ov c)) H H1) (hv:cq fY Dq 2 H1 v xs) (ho:∀ z,aI v z->aI (s.ov c) z\/H.next<=z) (h1:aT v=true) :
 ∃ H',Op.store 1 [.ptr G (1+c),v] H1=some (.undef,H')/\Dc H0 H G s { g with own:=im g.own c xs } H' /\ ∃ tg',iG H0 H' G { s with ov:=im s.ov c v } { g with own:=im g.own c xs } tg':=by
 have hne:∀ {z k:Nat},tg z=k->k ≠ c -> ¬ aI (s.ov c) z:=λ e1 e2 q=>e2 (by rw [<-e1];exact h.oO c hc _ q);have hcl:v.cells=[v]:=by cases v<;>first|rfl|cases h1
 have gG:H1.get G=some (OR (gC s g) vz):=by rw [f1.ah _ h.lt (hne h.oG (by omega))];exact h.row
 have st:=oS gG (o:=1+c) (n:=1) (v:=v) (by rw [hcl];rfl) (by show 1+c+1<=9;omega) (by rw [hcl,oQ];simpa using h1);rw [hcl,BO s g hc v] at st;obtain ⟨H2,e2⟩:∃ X,X=H1.set G (OR (gC { s with ov:=im s.ov c v } g) vz):=⟨_,rfl⟩
 rw [<-e2] at st;have g2:H2.get G=some (OR (gC { s with ov:=im s.ov c v } g) vz):=by rw [e2];exact xb ..
 have f2:Fr (On G) H1 H2:=by rw [e2];exact (Fr.refl H1).set (W:=On G) (.inl rfl) _
 have m1:=f1.next
 have vG:∀ z,aI v z->z ≠ G:=λ z hz q=>(ho z hz).elim (λ w=>hne h.oG (by omega) (by rw [<-q];exact w)) λ w=>by have:=h.lt;omega
 have hr:iG H0 H2 G { s with ov:=im s.ov c v } { g with own:=im g.own c xs } (λ z=>if z<H.next then tg z else c):=by
  refine ⟨g2,qk h.lt (xj m1 f2.next),(h.w.fr f1 (hne h.oW (by omega))).fr f2 λ (q:_=G)=>?_,λ d hd=>?_,by rw [ql h.lt];exact h.oG,by rw [ql h.w.lt];exact h.oW,λ d hd z hz=>?_,λ z hz=>?_⟩
  ·have:=h.oW;rw [q,h.oG] at this;cases this
  ·by_cases q:d=c
   ·subst q;show cq fY Dq 2 _ (im s.ov d v d) (im g.own d xs d);rw [uC,uC];exact Own.fr hv f2 λ z hz=>vG z hz
   ·show cq fY Dq 2 _ (im s.ov c v d) (im g.own c xs d);rw [sE q,sE q];refine Own.fr (Own.fr (h.own d hd) f1 λ z hz=>hne (h.oO d hd z hz) q) f2 λ z hz (w:z=G)=>?_;have:=h.oO d hd z hz;rw [w,h.oG] at this;omega
  ·have hz:aI (im s.ov c v d) z:=hz
   by_cases q:d=c
   ·subst q;rw [uC] at hz;rcases ho z hz with w|w
    ·rw [ql (Own.lt (h.own d hd) z w)];exact h.oO d hd z w
    ·rw [qg (by omega)]
   ·rw [sE q] at hz;rw [ql (Own.lt (h.own d hd) z hz)];exact h.oO d hd z hz
  ·rcases hz with hz|hz|⟨d,hd,hz⟩
   ·exact h.lo z (.inl hz)
   ·exact h.lo z (.inr (.inl hz))
   ·have hz:aI (im s.ov c v d) z:=hz
    by_cases q:d=c
    ·subst q;rw [uC] at hz;rcases ho z hz with w|w
     ·exact h.lo z (.inr (.inr ⟨d,hd,w⟩))
     ·have:=h.lo G (.inl rfl);have:=h.lt;omega
    ·rw [sE q] at hz;exact h.lo z (.inr (.inr ⟨d,hd,hz⟩))
 refine ⟨_,st,⟨_,_,hr,λ z hz=>?_,(f1.mono λ z _ q=>.inr (.inr ⟨c,hc,q⟩)).trans f2 λ z (q:z=G)=>.inl (.inl q)⟩,_,hr⟩;rcases hz with hz|hz|⟨d,hd,hz⟩
 ·exact .inl (.inl hz)
 ·exact .inl (.inr (.inl hz))
 ·have hz:aI (im s.ov c v d) z:=hz
  by_cases q:d=c
  ·subst q;rw [uC] at hz;exact (ho z hz).elim (λ w=>.inl (.inr (.inr ⟨d,hd,w⟩))) .inr
  ·rw [sE q] at hz;exact .inl (.inr (.inr ⟨d,hd,hz⟩))
theorem iG.zQ (h:iG H0 H G s g tg) {z:Int} (h0:0<=z) (hi:z<g.w.length) (y:Int):∃ p H',Op.aQ 1 [s.wv,.int .i64 z]=some p/\Op.store 1 [p,.int .u64 y] H=some (.undef,H')/\iG H0 H' G s { g with w:=g.w.set z.toNat y } tg/\Fr (On (aF s.wv)) H H':=by
 have hi:z.toNat<g.w.length:=by omega
 have hx:g.w[z.toNat]? = some (g.w[z.toNat]'hi):=qy hi;have ix:=(h.w.sl GV).idx hx (z:=z) (by omega) .i64;obtain ⟨H',st,hw,f⟩:=h.w.A8 GV hx (y:=y) (j:=0) (u:=.int .u64 y) (by decide) rfl rfl;refine ⟨_,H',ix,st,⟨?_,qk h.lt f.next,hw,λ d hd=>Own.fr (h.own d hd) f λ z hz (q:z=aF s.wv)=>?_,h.oG,h.oW,h.oO,h.lo⟩,f⟩
 ·rw [f.ah _ h.lt λ (q:G=aF s.wv)=>?_];exact h.row;have:=h.oW;rw [<-q,h.oG] at this;cases this
 ·have:=h.oO d hd z hz;rw [q,h.oW] at this;omega
theorem iG.JE (h:iG H0 H G s g tg) {z x:Int} (h0:0<=z) (hx:g.w[z.toNat]? = some x):∃ p,Op.aQ 1 [s.wv,.int .i64 z]=some p/\Op.ae [p] H=some (.int .u64 x) :=
 ⟨_,(h.w.sl GV).idx hx (z:=z) (by omega) .i64,(h.w.sl GV).ae GV hx (j:=0) (by decide)⟩
end
end Go.Am
namespace Go.Am
open Go.Proofs Ca
open Lang (ints)
variable {M:aA} [MK M]
def gU (l:List Pr) (a:Int):Option Int:=(l.reverse.find? λ p=>p.a=a).map Pr.v
theorem q58 (a:Int):gU [] a=none:=rfl
theorem q3s (l:List Pr) (p:Pr) (a:Int):gU (l ++ [p]) a=if p.a=a then some p.v else gU l a:=by
 unfold gU;rw [List.reverse_append];show ((p::l.reverse).find? _).map _=_;rw [List.find?_cons]
 by_cases q:p.a=a
 ·simp [q]
 ·simp [q]
section
variable {H0 H:AHeap} {B:Nat} {s:Bs} {b:Bu} {own:Nat->Nat} {c:Int}
theorem q2u (h:dg H0 H B s b own) (hb:BB b) (hc:¬ (0<=c/\c<b.ns.length)):zq M Dm [.ptr B 0,.int .i64 c] H λ v H'=>v=.bool false/\H'=H:=by
 refine qlt ?_;simp only [↓qd,qp,aa,reduceIte,reduceEqDiff,qlu];refine C3.q (rv (M:=M) h hb.N4 c) λ v H1 ⟨hh,_,h1⟩=>?_;rw [h1 hc,hh];simp only [↓qd,qp,aa,reduceIte,reduceEqDiff,qn];refine C3.q (show zq M Oj [.nilp] H λ v H'=>v=.bool false/\H'=H from ?_) λ v H2 ⟨hv2,hh2⟩=>?_
 ·refine qj0 ?_;simp only [↓qd,qp,aa,reduceIte,reduceEqDiff,qj1,oR]
 rw [hv2,hh2];simp only [↓qd,qp,aa,reduceIte,reduceEqDiff]
end
section
variable {H0 H:AHeap} {G:Nat} {s:Gs} {g:Gh} {tg:Nat->Nat}
theorem q59 (h:iG H0 H G s g tg) {c:Nat} (hc:c<4) (a:Int) (hl:(g.own c).length<=1000):zq M P4 [.ptr G 0,.int .i64 (c:Int),.int .i64 a] H λ v H'=>H'=H/\v=.tuple [.int .u64 ((gU (g.own c) a).getD 0),.bool (gU (g.own c) a).isSome]:=by
 refine qnb ?_;obtain ⟨w0,w2,w23,w7,w13,w22⟩:=qnc M ⟨none,P4⟩;have sl:du fY 2 H (s.ov c) (g.own c):=Own.sl (h.own c hc);have ix1:=LR (G:=G) 1 hc;have lo:=h.lO hc;have wk:ak .i64 (((g.own c).length:Nat)-1:Int)=((g.own c).length:Nat)-1:=xm (by omega) (by omega);simp only [↓qd,qp,aa,reduceIte,reduceEqDiff,w0,w2,qi,ix1,lo,sl.len,wk];refine aR.intro (λ k E Hx=>∃ z:Int,z=(k:Int)-1/\Hx=H/\k<=(g.own c).length/\E=[(8,.int .i64 z),(7,.bool false),(6,.int .u64 0),(0,.ptr G 0),(1,.int .i64 (c:Int)),(2,.int .i64 a)]/\gU (g.own c) a=gU ((g.own c).take k) a) ?_ ?_
 ·exact ⟨_,_,⟨_,rfl,rfl,qf _,rfl,by rw [Gw]⟩,by simp only [↓qd,qp,aa,reduceIte,reduceEqDiff]⟩
 rintro k E Hx ⟨z,hz,rfl,hk,rfl,e⟩;cases k with
 | zero =>
  have q:¬ (0:Int)<=z:=by omega
  rw [e,BW,q58];simp only [↓qd,qp,aa,reduceIte,reduceEqDiff,w7,q,w23];rfl
 | succ k =>
  have q:(0:Int)<=z:=by omega
  obtain ⟨x,hx⟩:∃ x,(g.own c)[k]? = some x:=⟨_,qy (by omega)⟩
  have ix:=sl.idx hx (z:=z) (by omega) .i64;have l0:Op.ae [.ptr (aF (s.ov c)) (bI 2 (s.ov c) k)] Hx=some (.int .i64 x.a):=sl.ae Jk hx (j:=0) (by decide);have l1:Op.ae [.ptr (aF (s.ov c)) (bI 2 (s.ov c) k+1)] Hx=some (.int .u64 x.v):=sl.ae Jk hx (j:=1) (by decide);have wj:ak .i64 (z-1)=z-1:=xm (by omega) (by omega);have tk:(g.own c).take (k+1)=(g.own c).take k ++ [x]:=by rw [yq,hx];rfl
  rw [tk,q3s] at e
  by_cases qa:x.a=a
  ·rw [e,ql qa];simp only [↓qd,qp,aa,reduceIte,reduceEqDiff,w7,q,w13,qi,ix1,lo,ix,l0,l1,qa];rfl
  ·simp only [↓qd,qp,aa,reduceIte,reduceEqDiff,w7,q,w13,qi,ix1,lo,ix,l0,l1,qa,w22,wj];rw [qg qa] at e;exact ⟨k,_,⟨z-1,by omega,by omega,rfl,e⟩,by simp only [↓qd,qp,aa,reduceIte,reduceEqDiff],by omega⟩
end
end Go.Am
namespace Go.Am
open No
def Bu.lv (b:Bu) (c:Nat):Bool:=match b.ns[c]? with
 | some n=>n.live
 | none=>false
def eX (w:List Int) (l:List Pr):List Int:=l.foldl (λ w p=>w.set p.a.toNat p.v) w
theorem NA:∀ (l:List Pr) (w:List Int),(eX w l).length=w.length
 | [],w=>rfl
 | p::l,w=>by show (eX (w.set p.a.toNat p.v) l).length=_;rw [NA l,qv]
theorem q0y (l:List Pr) (p:Pr) (w:List Int):eX w (l ++ [p])=(eX w l).set p.a.toNat p.v:=by unfold eX;rw [List.foldl_append];rfl
namespace Gh
def at' (g:Gh) (a:Int):Int:=(g.w[a.toNat]?).getD 0
def act (g:Gh) (n:No) (x:Bt) (c:Nat):Gh × Bool :=
 if x.k=0 then (g,if (n.load x.n).2.2.1=true/\(n.load x.n).2.2.2.2=0 then decide ((n.load x.n).2.1=(gU (g.own c) x.n).getD (g.at' x.n)) else true)
 else if x.k=1 then
  (if (n.store x.n x.v).2.1=true/\(n.store x.n x.v).2.2.2=0 then if g.live c=true then { g with own:=im g.own c (g.own c ++ [⟨x.n,x.v⟩]) } else { g with w:=g.w.set x.n.toNat x.v } else g,true)
 else if x.k=2 then
  (if (n.cS x.n x.o).2.1=true/\(n.cS x.n x.o).2.2=0 then if (n.cS x.n x.o).1=true then { g with w:=g.w.set x.n.toNat x.v } else g else g,
   if (n.cS x.n x.o).2.1=true/\(n.cS x.n x.o).2.2=0 then decide ((n.cS x.n x.o).1=decide (g.at' x.n=x.o)) else true)
 else if x.k=3 then (if n.live=true then g else { g with live:=im g.live c true },true)
 else if x.k=4 then (if n.live=true then { g with w:=eX g.w (g.own c) } else g,true)
 else (g,true)
def bT (g:Gh) (b:Bu) (x:Bt):Gh × Bool :=
 if x.k=7 then (g,true)
 else if 0<=x.c then match b.ns[x.c.toNat]? with
  | none=>(g,true)
  | some n=>g.act n x x.c.toNat
 else (g,true)
def tail (g:Gh) (L:Nat->Bool) (k:Nat):Gh:={ g with own:=λ i=>if i<k/\g.live i=true/\L i=false then [] else g.own i,live:=λ i=>if i<k then g.live i && L i else g.live i }
def oU (g:Gh) (b:Bu) (x:Bt):Gh:=(g.bT b x).1.tail (b.step x).lv 4
end Gh
structure GI (b:Bu) (g:Gh) (k:Nat):Prop where
 len:(g.w.length:Int)=8*b.l.length
 own:∀ c,∀ p ∈ g.own c,0<=p.a/\p.a<8*b.l.length
 gQ:∀ c,(g.own c).length<=k
 Ib:∀ c,g.live c=b.lv c
 O8:∀ c,g.live c=false->g.own c=[]
theorem Mj (n:No) (k l:Int):(n.ask k l).1.live=n.live:=by unfold No.ask;split<;>rfl
theorem q6d (n:No) (a:Int):(n.load a).1.live=n.live:=by
 unfold No.load;split
 ·cases n.c.find (ln a) with
  | none=>exact Mj ..
  | some x=>rfl
 ·rfl
theorem q4e (n:No) (a y:Int):(n.store a y).1.live=n.live:=by
 unfold No.store;split
 ·split
  ·rfl
  ·exact Mj ..
 ·rfl
theorem wK (n:No) (a o y:Int):(n.fq a o y).1.live=n.live:=by
 unfold No.fq;split
 ·split
  ·rfl
  ·split
   ·rfl
   ·exact Mj ..
 ·rfl
theorem q3h (n:No) (l:Int) (h:(n.aH l).1.live=true):n.live=true:=by
 unfold No.aH at h;split at h
 ·exact h
 ·cases hf:n.c.find l with
  | none=>rw [hf] at h;exact h
  | some x =>
   rw [hf] at h;simp only [FZ] at h;split at h
   ·cases h
   ·exact h
theorem jA (n:No) (x:En) (t:Bool) (h:(n.lost x t).live=true):n.live=true:=by
 rw [ID] at h;split at h
 ·cases h
 ·exact h
theorem q5z (n:No) (m:Mg) (h:(n.fill m).1.live=true):n.live=true:=by
 unfold No.fill No.fG at h;generalize (if m.k=15 then (2:Int) else 1)=st at h;split at h
 ·rw [quy] at h;cases h
 ·rw [quy] at h;exact h
theorem q56 (n:No) (m:Mg) (h:(n.az m).1.live=true):n.live=true:=by
 unfold No.az at h;split at h;· exact h
 split at h;· exact jA n _ _ h
 split at h
 ·cases hf:n.c.find m.line with
  | none=>rw [hf] at h;exact h
  | some x =>
   rw [hf] at h;simp only at h;split at h
   ·exact jA n _ _ h
   ·exact jA n _ _ h
 split at h;· exact h
 cases hf:n.c.find m.line with
 | none =>
  rw [hf] at h;have h:(No.fill { n with out:=⟨0,0,0,.zero⟩ } m).1.live=true:=h;exact q5z { n with out:=⟨0,0,0,.zero⟩ } m h
 | some x=>rw [hf] at h;exact h
theorem q49 (n:No) (x:Bt) (h:(n.call x).1.live=true):n.live=true\/x.k=3:=by
 unfold No.call at h;split at h;· exact .inl (by rw [<-q6d];exact h)
 split at h;· exact .inl (by rw [<-q4e];exact h)
 split at h;· exact .inl (by rw [<-wK];exact h)
 split at h;· exact .inr ‹_›
 split at h
 ·refine .inl ?_;unfold No.bj at h;split at h
  ·cases h
  ·exact h
 split at h
 ·refine .inl ?_;unfold No.abort at h;split at h
  ·split at h
   ·exact h
   ·cases h
  ·exact h
 split at h;· exact .inl (q3h n _ h)
 exact .inl h
theorem uQ {n:No} {a:Int} (h:(n.load a).2.2.1=true):n.may a:=by
 by_cases q:n.may a
 ·exact q
 ·unfold No.load at h;rw [qg q] at h;cases h
theorem qzh {n:No} {a y:Int} (h:(n.store a y).2.1=true):n.may a:=by
 by_cases q:n.may a
 ·exact q
 ·unfold No.store at h;rw [qg q] at h;cases h
theorem xB {n:No} {a o:Int} (h:(n.cS a o).2.1=true):n.may a:=by
 by_cases q:n.may a
 ·exact q
 ·unfold No.cS at h;rw [qg q] at h;cases h
theorem KE {n:No} {a c L:Int} (w:NW n c L) (h:n.may a):0<=a/\a<8*L:=by
 have:=w.lines;unfold No.may at h;omega
theorem ud {b:Bu} {c:Nat} {n:No} {r:No × List Mg} (hn:b.ns[c]? = some n) (d:Nat):(b.put c r).lv d=if d=c then r.1.live else b.lv d:=by
 unfold Bu.lv Bu.put
 by_cases q:d=c
 ·rw [ql q,q,qu (qe.1 hn).1]
 ·rw [qg q,qm (yt q)]
theorem wO {b:Bu} {c:Nat} {n:No} (hn:b.ns[c]? = some n):b.lv c=n.live:=by unfold Bu.lv;rw [hn]
theorem C6 {b:Bu} {c:Nat} (h:b.lv c=true):c<b.ns.length:=by
 unfold Bu.lv at h;rcases zt c b.ns.length with q|q
 ·exact q
 ·rw [xz q] at h;cases h
theorem Kb (b:Bu) (x:Bt):(b.step x).ns.length=b.ns.length/\(b.step x).l.length=b.l.length:=by
 unfold Bu.step;split
 ·split
  ·unfold Bu.ti;cases b.fl[x.n.toNat]? with
   | none=>exact ⟨rfl,rfl⟩
   | some m =>
    simp only;split
    ·cases b.l[m.line.toNat]? with
     | none=>exact ⟨rfl,rfl⟩
     | some y =>
      cases b.m[m.line.toNat]? with
      | none=>exact ⟨rfl,rfl⟩
      | some w=>exact ⟨rfl,qv ..⟩
    ·cases b.ns[m.core.toNat]? with
     | none=>exact ⟨rfl,rfl⟩
     | some n=>exact ⟨qv ..,rfl⟩
  ·exact ⟨rfl,rfl⟩
 split
 ·cases b.ns[x.c.toNat]? with
  | none=>exact ⟨rfl,rfl⟩
  | some n=>exact ⟨qv ..,rfl⟩
 ·exact ⟨rfl,rfl⟩
theorem qzf {b:Bu} {g:Gh} {k:Nat} (hg:GI b g k) (x:Bt) (c:Nat) (h:(b.step x).lv c=true):(g.bT b x).1.live c=true:=by
 unfold Gh.bT;unfold Bu.step at h
 by_cases k7:x.k=7
 ·rw [ql k7] at h ⊢;show g.live c=true;rw [hg.Ib];split at h
  ·unfold Bu.ti at h;cases hm:b.fl[x.n.toNat]? with
   | none=>rw [hm] at h;exact h
   | some m =>
    rw [hm] at h;simp only at h;split at h
    ·cases hx:b.l[m.line.toNat]? with
     | none=>rw [hx] at h;exact h
     | some y =>
      cases hw:b.m[m.line.toNat]? with
      | none=>rw [hx,hw] at h;exact h
      | some w=>rw [hx,hw] at h;exact h
    ·cases hn:b.ns[m.core.toNat]? with
     | none=>rw [hn] at h;exact h
     | some n =>
      rw [hn] at h;have e:=ud (b:=b) (r:=((n.az m).1,[])) hn c;have h:(b.put m.core.toNat ((n.az m).1,[])).lv c=true:=h;rw [e] at h;split at h
      ·rename_i q;rw [q,wO hn];exact q56 n m h
      ·exact h
  ·exact h
 ·rw [qg k7] at h ⊢;split at h
  ·rename_i c0;rw [ql c0];cases hn:b.ns[x.c.toNat]? with
   | none=>rw [hn] at h;show g.live c=true;rw [hg.Ib];exact h
   | some n =>
    rw [hn] at h;have h:(b.put x.c.toNat (n.call x)).lv c=true:=h;rw [ud hn] at h;show (g.act n x x.c.toNat).1.live c=true;have hgl:∀ d,g.live d=b.lv d:=hg.Ib;have key:x.k ≠ 3->(g.act n x x.c.toNat).1.live=g.live:=λ k3=>by
     unfold Gh.act;split;· rfl
     split
     ·simp only;split
      ·split<;>rfl
      ·rfl
     split
     ·simp only;split
      ·split<;>rfl
      ·rfl
     try rw [qg k3]
     split
     ·simp only;split<;>rfl
     rfl
    by_cases k3:x.k=3
    ·unfold Gh.act;rw [qg (by omega),qg (by omega),qg (by omega),ql k3];simp only
     by_cases hl:n.live=true
     ·rw [ql hl,hgl];split at h
      ·rename_i q;rw [q,wO hn];exact hl
      ·exact h
     ·rw [qg hl];show im g.live _ true c=true;split at h
      ·rename_i q;rw [q,uC]
      ·rename_i q;rw [sE q,hgl];exact h
    ·rw [key k3,hgl];split at h
     ·rename_i q;rw [q,wO hn];exact (q49 n x h).elim id λ w=>absurd w k3
     ·exact h
  ·rename_i c0;rw [qg c0];show g.live c=true;rw [hg.Ib];exact h
theorem Jz {b:Bu} {V:Int->L8} {g:Gh} {k:Nat} (hI:BuI b V) (hg:GI b g k) (x:Bt) :
 (((g.bT b x).1.w.length:Nat):Int)=8*b.l.length/\(∀ c,∀ p ∈ (g.bT b x).1.own c,0<=p.a/\p.a<8*b.l.length)/\(∀ c,((g.bT b x).1.own c).length<=k+1) /\ ∀ c,(g.bT b x).1.live c=false->(g.bT b x).1.own c=[]:=by
 have h0:((g.w.length:Nat):Int)=8*b.l.length/\(∀ c,∀ p ∈ g.own c,0<=p.a/\p.a<8*b.l.length)/\(∀ c,(g.own c).length<=k+1) /\ ∀ c,g.live c=false->g.own c=[]:=⟨hg.len,hg.own,λ c=>FI (hg.gQ c),hg.O8⟩
 have hW:∀ w':List Int,w'.length=g.w.length->((w'.length:Nat):Int)=8*b.l.length/\(∀ c,∀ p ∈ g.own c,0<=p.a/\p.a<8*b.l.length)/\(∀ c,(g.own c).length<=k+1) /\ ∀ c,g.live c=false->g.own c=[]:=λ w' e=>⟨by rw [e];exact hg.len,h0.2⟩
 unfold Gh.bT;split;· exact h0
 split
 ·cases hn:b.ns[x.c.toNat]? with
  | none=>exact h0
  | some n =>
   have w:=hI.nw _ n hn;simp only;unfold Gh.act;split;· exact h0
   split
   ·simp only;split
    ·rename_i hd;have:=KE w (qzh hd.1);split
     ·rename_i hl;refine ⟨hg.len,λ c p hp=>?_,λ c=>?_,λ c hc=>?_⟩
      ·have hp:p ∈ im g.own x.c.toNat (g.own x.c.toNat ++ [⟨x.n,x.v⟩]) c:=hp
       by_cases q:c=x.c.toNat
       ·rw [q,uC] at hp;rcases xw.1 hp with q|q
        ·exact hg.own _ p q
        ·rw [xl.1 q];exact this
       ·rw [sE q] at hp;exact hg.own c p hp
      ·show (im g.own x.c.toNat (g.own x.c.toNat ++ [⟨x.n,x.v⟩]) c).length<=_
       by_cases q:c=x.c.toNat
       ·rw [q,uC,qx];have:=hg.gQ x.c.toNat;simp only [ky,vq];omega
       ·rw [sE q];exact FI (hg.gQ c)
      ·have hc:g.live c=false:=hc;show im g.own x.c.toNat (g.own x.c.toNat ++ [⟨x.n,x.v⟩]) c=[]
       by_cases q:c=x.c.toNat
       ·rw [q,hl] at hc;cases hc
       ·rw [sE q];exact hg.O8 c hc
     ·exact hW _ (qv ..)
    ·exact h0
   split
   ·simp only;split
    ·split
     ·exact hW _ (qv ..)
     ·exact h0
    ·exact h0
   split
   ·simp only;split
    ·exact h0
    ·refine ⟨hg.len,hg.own,h0.2.2.1,λ c hc=>hg.O8 c ?_⟩;have hc:im g.live x.c.toNat true c=false:=hc
     by_cases q:c=x.c.toNat
     ·rw [q,uC] at hc;cases hc
     ·rw [sE q] at hc;exact hc
   split
   ·simp only;split
    ·exact hW _ (NA ..)
    ·exact h0
   exact h0
 ·exact h0
theorem Fq {b:Bu} {g:Gh} {k:Nat} (hg:GI b g k) (x:Bt) {c:Nat} (h:(g.bT b x).1.live c=true):c<b.ns.length:=by
 have h0:g.live c=true->c<b.ns.length:=λ q=>C6 (by rw [<-hg.Ib];exact q);unfold Gh.bT at h;split at h;· exact h0 h
 split at h
 ·cases hn:b.ns[x.c.toNat]? with
  | none=>rw [hn] at h;exact h0 h
  | some n =>
   rw [hn] at h;have h:(g.act n x x.c.toNat).1.live c=true:=h;unfold Gh.act at h;split at h;· exact h0 h
   split at h
   ·simp only at h;split at h
    ·split at h<;>exact h0 h
    ·exact h0 h
   split at h
   ·simp only at h;split at h
    ·split at h<;>exact h0 h
    ·exact h0 h
   split at h
   ·simp only at h;split at h
    ·exact h0 h
    ·have h:im g.live x.c.toNat true c=true:=h
     by_cases q:c=x.c.toNat
     ·rw [q];exact (qe.1 hn).1
     ·rw [sE q] at h;exact h0 h
   split at h
   ·simp only at h;split at h<;>exact h0 h
   exact h0 h
 ·exact h0 h
theorem zP {b:Bu} {V:Int->L8} {g:Gh} {k:Nat} (hI:BuI b V) (hg:GI b g k) (x:Bt):GI (b.step x) (g.oU b x) (k+1):=by
 obtain ⟨a1,a2,a3,a4⟩:=Jz hI hg x;obtain ⟨s1,s2⟩:=Kb b x;refine ⟨by rw [s2];exact a1,λ c p hp=>?_,λ c=>?_,λ c=>?_,λ c hc=>?_⟩
 ·rw [s2];have hp:p ∈ if c<4/\_ then [] else (g.bT b x).1.own c:=hp
  split at hp
  ·cases hp
  ·exact a2 c p hp
 ·show (if c<4/\_ then [] else (g.bT b x).1.own c).length<=_;split
  ·exact xx _
  ·exact a3 c
 ·show (if c<4 then (g.bT b x).1.live c && (b.step x).lv c else (g.bT b x).1.live c)=_;have:=qzf hg x c;split
  ·cases h:(b.step x).lv c with
   | true=>rw [this h];rfl
   | false=>rw [Bool.and_false]
  ·rename_i c4;have e:(b.step x).lv c=false:=by
    cases h:(b.step x).lv c with
    | false=>rfl
    | true=>have:=C6 h;have:=hI.N4;omega
   rw [e];cases h:(g.bT b x).1.live c with
   | false=>rfl
   | true =>
    have:=Fq hg x h;have:=hI.N4;omega
 ·have hc:(if c<4 then (g.bT b x).1.live c && (b.step x).lv c else (g.bT b x).1.live c)=false:=hc;show (if c<4/\_ then [] else (g.bT b x).1.own c)=[];split
  ·rfl
  ·rename_i hx;split at hc
   ·rename_i c4;cases hl:(g.bT b x).1.live c with
    | false=>exact a4 c hl
    | true=>rw [hl,Bool.true_and] at hc;exact absurd ⟨c4,hl,hc⟩ hx
   ·exact a4 c hc
end Go.Am
