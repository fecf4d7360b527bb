/- BuK9: BsG BuL GhA GhB BuM. -/
import Derived.Test.YtiibohocdbaekaaAmRBuK8
set_option linter.unusedVariables false
set_option linter.unusedSimpArgs false
set_option linter.unusedSectionVars false
set_option maxRecDepth 100000
open Nat (reduceEqDiff)
namespace Go.Am
open Go.Proofs Ca
open Lang (ints)
variable {M:aO} [MK M]
def jJ (l s w:Int) (k:Nat):List No:=(List.range k).map λ (i:Nat)=>gg (i:Int) l s w
def cw (l c s w:Int):Bu:=⟨List.replicate l.toNat .zero,List.replicate l.toNat eC,jJ l s w c.toNat,[]⟩
def ib (l c s w:Int):Prop:=pY l c/\mn s w
instance (l c s w:Int):Decidable (ib l c s w):=inferInstanceAs (Decidable (_/\_))
theorem EK {l s w:Int} {k i:Nat} {n:No} (h:(jJ l s w k)[i]? = some n):i<k/\n=gg (i:Int) l s w:=by
 unfold jJ at h;rw [xm,xf] at h;obtain ⟨j,hj,e⟩:=h;have hk:=(ql.1 hj).1;rw [yl] at hk;rw [vv hk] at hj;injection hj with hj;subst hj
 exact ⟨hk,e.symm⟩
theorem I9 (l s w:Int) (k:Nat):(jJ l s w k).length=k:=by unfold jJ;rw [zb,yl]
structure E7 (H0 H:AHeap) (B D mp:Nat) (lv ev nv:AV) (l c s w:Int) (ad:List Na) (own:Nat->Nat):Prop where
 row:H.get B=some (OR [.ptr D 0,nv,.nils,.int .i64 l] wX)
 lt:B<H.next
 d:iq H D mp lv ev c (List.replicate l.toNat .zero) (List.replicate l.toNat (eC,.nils))
 MI:eB pR zK 1 H nv (ad.map Na.r)
 no:∀ (k:Nat) (A:Na),ad[k]? = some A->cd H0 H A.r A.b A.sv A.bv (gg (k:Int) l s w) A.ks
 oB:own B=0
 oD:∀ z,gY D mp lv ev (List.replicate l.toNat (eC,.nils)) z->own z=1
 oN:∀ z,bH nv z->own z=2
 oC:∀ (k:Nat) (A:Na),ad[k]? = some A -> ∀ z,A.w z->own z=4+k
 GG:H0.next<=B
 loD:∀ z,gY D mp lv ev (List.replicate l.toNat (eC,.nils)) z->H0.next<=z
 GR:∀ z,bH nv z->H0.next<=z
 fr:Fr Em H0 H
theorem cd.base {H0 H1 H:AHeap} {r b:Nat} {sv bv:AV} {n:No} {ks:List Nat} (h:cd H1 H r b sv bv n ks) (f:Fr Em H0 H1):cd H0 H r b sv bv n ks:=by
 have hn:=f.next
 refine ⟨h.row,h.lt,h.ca,⟨?_,f.trans h.bk.fr λ _ q=>.inl q⟩,h.eq,xt hn h.lr,xt hn h.lb,xt hn h.ls,h.n1,h.n2,h.o1,h.o2,h.o3,h.li,h.len⟩;rcases h.bk.own with q|⟨b,m,rest,q0,q1,q2,q3⟩
 ·exact .inl q
 ·exact .inr ⟨b,m,rest,q0,q1,xt hn q2,q3⟩
theorem cd.all {H0 H:AHeap} {r b:Nat} {sv bv:AV} {n:No} {ks:List Nat} (h:cd H0 H r b sv bv n ks) {z:Nat} (hz:eQ r b sv bv z):H0.next<=z:=by
 rcases hz with rfl|(rfl|rfl) | hz
 ·exact h.lr
 ·exact h.lb
 ·exact h.ls
 ·exact (h.bk.fresh z hz).1
section
variable {H0 H:AHeap} {B D mp:Nat} {lv ev nv:AV} {l c s w:Int} {ad:List Na} {own:Nat->Nat}
theorem E7.step (h:E7 H0 H B D mp lv ev nv l c s w ad own) (hl4:ad.length<=4) {H1:AHeap} {A:Na} (hA:cd H H1 A.r A.b A.sv A.bv (gg (ad.length:Int) l s w) A.ks) {K:bN->(Nat->AV)->Bool->AV->AHeap->Prop}
 (hk:∀ v H2,(∃ H3,Op.store 1 [.ptr B 1,v] H2=some (.undef,H3)/\(∃ own2,E7 H0 H3 B D mp lv ev v l c s w (ad ++ [A]) own2)/\Fr (λ z=>z=B\/bH nv z) H H3 /\ ∀ z,bH v z->bH nv z\/H.next<=z)->K (.row [.ptr A.r 0] zK (0,0) true) (Op.sliceTo 1 1) true v H2) :
 bf true (Op.buildSlice zK 1 [.nilp] [(0,1)] [.ptr A.r 0]) λ g o mk=>bf g (Op.append zK 1 8 [nv,mk H1.next] (H1.alloc o)) (K o mk):=by
 have f01:Fr Em H H1:=hA.bk.fr;have m01:=f01.next
 refine iM (e:=zK) (size:=1) (bytes:=8) (Own.em h.MI f01) (x:=.ptr A.r 0) rfl rfl rfl (by decide) (by rw [zb];omega) (by rw [zb];omega) λ v H2 hv hf hfr=>?_;refine hk v H2 ?_;have low:∀ z,(z=B\/gY D mp lv ev (List.replicate l.toNat (eC,.nils)) z\/bH nv z \/ ∃ k A2,ad[k]? = some A2/\Na.w A2 z)->z<H.next:=λ z hz=>by
  rcases hz with rfl|hz|hz|⟨k,A2,hA2,hz⟩
  ·exact h.lt
  ·exact h.d.low hz
  ·exact Own.lt h.MI z hz
  ·exact (h.no k A2 hA2).low hz
 have ne:∀ {z k:Nat},own z=k->k ≠ 2 -> ¬ bH nv z:=λ e1 e2 q=>e2 (by rw [<-e1];exact h.oN _ q);have g2:H2.get B=some (OR [.ptr D 0,nv,.nils,.int .i64 l] wX):=by
  rw [hf.ae _ (by have:=h.lt;omega) (ne h.oB (by decide)),f01.ae _ h.lt id];exact h.row
 have o1:br v=true:=by have:=Sl.one (Own.sl hv);exact this
 have hc:v.cells=[v]:=by cases v<;>first|rfl|cases o1
 have st:=po g2 (o:=1) (n:=1) (v:=v) (by rw [hc];rfl) (by simp) (by rw [hc,nU];simpa using o1);rw [hc] at st;have m12:=hf.next
 have fS:Fr (On B) H2 (H2.set B (OR ([AV.ptr D 0,nv,.nils,.int .i64 l].take 1 ++ [v] ++ [AV.ptr D 0,nv,.nils,.int .i64 l].drop (1+1)) wX)):=(Fr.refl H2).set (W:=On B) (.inl rfl) _;have H0n:H0.next<=H.next:=h.fr.next
 have nB:∀ {z k:Nat},own z=k->k ≠ 0 -> ¬ z=B:=λ e1 e2 q=>e2 (by rw [<-e1,q];exact h.oB);have onv:∀ z,bH v z->(bH nv z/\z<H.next)\/H1.next<=z:=λ z hz=>(hfr z hz).elim (λ q=>.inl ⟨q,low z (.inr (.inr (.inl q)))⟩) .inr
 have hfN:Fr (bH nv) H H2:=(f01.mono λ _ _ q=>q.elim).trans hf λ z q=>.inl q;have lowA:∀ z,A.w z->H.next<=z/\z<H1.next:=λ z hz=>⟨hA.all hz,hA.low hz⟩
 refine ⟨_,st,⟨(λ z=>if z<H.next then own z else if z<H1.next then 4+ad.length else 2),xd ..,?_,?_,?_,λ k A2 hA2=>?_,?_,λ z hz=>?_,λ z hz=>?_,λ k A2 hA2 z hz=>?_,h.GG,h.loD,λ z hz=>?_,?_⟩,(hfN.mono λ z _ q=>.inr q).trans fS λ z (q:z=B)=>.inl (.inl q),λ z hz=>(onv z hz).elim (λ q=>.inl q.1) λ q=>.inr (by omega)⟩
 ·have:=h.lt;show B<H2.next;omega
 ·exact (h.d.fr hfN λ z q w=>ne (h.oD z w) (by decide) q).fr fS λ z q w=>nB (h.oD z w) (by decide) q
 ·have ow:eB pR zK 1 H2 v ((ad ++ [A]).map Na.r):=by
   rw [BH];unfold eB;rw [qu,j7];exact hv
  refine Own.fr ow fS λ z hz (q:z=B)=>?_;rcases onv z hz with ⟨w,-⟩|w
  ·exact nB (h.oN z w) (by decide) q
  ·have:=h.lt;omega
 ·by_cases e:k<ad.length
  ·rw [kq e] at hA2;refine ((h.no k A2 hA2).off hfN λ z w=>⟨h.GR z w,λ w2=>?_⟩).off fS λ z w=>?_
   ·have:=h.oC k A2 hA2 z w2;have:=h.oN z w;omega
   ·have w:z=B:=w;refine ⟨by rw [w];exact h.GG,λ w2=>?_⟩;have:=h.oC k A2 hA2 z w2;rw [w,h.oB] at this;omega
  ·have hk:=(ql.1 hA2).1;rw [qu] at hk;have hke:k=ad.length:=by simp only [jx,vx] at hk;omega
   subst hke;rw [jo (qg _),Nat.sub_self] at hA2;injection hA2 with hA2;subst hA2
   refine ((hA.base h.fr).off hf λ z w=>⟨h.GR z w,λ w2=>?_⟩).off fS λ z w=>?_
   ·have:=lowA z w2;have:=low z (.inr (.inr (.inl w)));omega
   ·have w:z=B:=w;refine ⟨by rw [w];exact h.GG,λ w2=>?_⟩;have:=lowA z w2;have:=h.lt;omega
 ·rw [qm h.lt];exact h.oB
 ·rw [qm (low z (.inr (.inl hz)))];exact h.oD z hz
 ·rcases onv z hz with ⟨w,w2⟩|w
  ·rw [qm w2];exact h.oN z w
  ·rw [qd (by omega),qd (by omega)]
 ·by_cases e:k<ad.length
  ·rw [kq e] at hA2;rw [qm (low z (.inr (.inr (.inr ⟨k,A2,hA2,hz⟩))))];exact h.oC k A2 hA2 z hz
  ·have hk:=(ql.1 hA2).1;rw [qu] at hk;have hke:k=ad.length:=by simp only [jx,vx] at hk;omega
   subst hke;rw [jo (qg _),Nat.sub_self] at hA2;injection hA2 with hA2;subst hA2
   have:=lowA z hz;rw [qd (by omega),qm this.2]
 ·rcases onv z hz with ⟨w,-⟩|w
  ·exact h.GR z w
  ·omega
 ·exact ((h.fr.trans f01 λ _ q=>.inl q).trans hf λ z q=>.inr (h.GR z q)).trans fS λ z (q:z=B)=>.inr (by rw [q];exact h.GG)
theorem E7.done (h:E7 H0 H B D mp lv ev nv l c s w ad own) (hl:ad.length=c.toNat) (hc:0<=c) (hl0:0<=l):c6 H0 H B ⟨D,mp,lv,ev,List.replicate l.toNat (eC,.nils),nv,.nils,ad⟩ (cw l c s w) own:=by
 have hlen:((cw l c s w).ns.length:Int)=c:=by show ((jJ l s w c.toNat).length:Int)=c;rw [I9];omega
 refine ⟨?_,h.lt,?_,?_,h.MI,λ k n A hn hA=>?_,?_,Sk.nil _,h.oB,h.oD,h.oN,λ z q=>absurd rfl q.1,h.oC,λ z hz=>?_⟩
 ·rw [h.row];have:((cw l c s w).l.length:Int)=l:=by show ((List.replicate l.toNat eC).length:Int)=l;rw [za];omega
  rw [this]
 ·rw [hlen];exact h.d
 ·show (List.replicate l.toNat (eC,AV.nils)).map Prod.fst=List.replicate l.toNat eC;rw [List.map_replicate]
 ·obtain ⟨-,rfl⟩:=EK hn;exact h.no k A hA
 ·show ad.length=(jJ l s w c.toNat).length;rw [I9,hl]
 ·rcases hz with rfl|hz|hz|hz|⟨k,A,hA,hz⟩
  ·exact h.GG
  ·exact h.loD z hz
  ·exact h.GR z hz
  ·exact absurd rfl hz.1
  ·exact (h.no k A hA).all hz
end
def xT (H:AHeap) (l c s w:Int) (v:AV) (H':AHeap):Prop:=(¬ ib l c s w/\v=.tuple [.nilp,.int .i64 2]/\Fr Em H H')\/ib l c s w /\ ∃ B bs own,v=.tuple [.ptr B 0,.int .i64 0]/\c6 H H' B bs (cw l c s w) own/\Fr Em H H'
theorem q3a {H:AHeap} (l c s w:Int):jv M CD [.agg (cA l c s w),.nils] H (xT H l c s w):=by
 refine q74 ?_;obtain ⟨w0,w4,w12,w14,w41,w19,w58,w46,w25,-,w40,w31,-,w39⟩:=q75 M ⟨none,CD⟩;obtain ⟨H1,e1⟩:∃ X,X=H.alloc (OR (cA l c s w) vh):=⟨_,rfl⟩
 have f1:Fr Em H H1:=by rw [e1];exact (Fr.refl H).alloc _
 have g1:H1.get H.next=some (OR (cA l c s w) vh):=by rw [e1,qx]
 have n1:H1.next=H.next+1:=by rw [e1,xn]
 have ls:∀ {Hx:AHeap} (k:Nat),Fr Em H1 Hx->Op.aa [.ptr H.next k] Hx=(cA l c s w)[k]?:=λ k f=>zf (xb (by rw [f.ae _ (by omega) id];exact g1)) k;have l0:Op.aa [.ptr H.next 0] H1=some (.int .i64 l):=ls 0 (Fr.refl _);have l1:Op.aa [.ptr H.next 1] H1=some (.int .i64 c):=ls 1 (Fr.refl _);simp only [↓qh,xa,reduceIte,reduceEqDiff,w0,xw,<-e1,l0,l1];refine C3.q (q3g (M:=M) l c) λ v H2 ⟨f2,hv⟩=>?_;rcases hv with ⟨hd,rfl⟩|⟨hd,D,mp,lv,ev,rfl,dr,lod⟩
 ·have t2:¬ (2:Int)=0:=by decide
  simp only [↓qh,xa,reduceIte,reduceEqDiff,qp,w4,t2];exact .inl ⟨λ q=>hd q.1,rfl,f1.trans f2 λ _ q=>.inl q⟩
 have t0:=xj (show (0:Int)=0 from rfl);have hd':=hd;obtain ⟨⟨m1,m2⟩,c1,c2⟩:=hd';have l02:Op.aa [.ptr H.next 0] H2=some (.int .i64 l):=ls 0 f2;have hln:Op.bB [.nils]=some (.int .i64 0):=rfl;have q0:¬ l<0:=by omega
 have bd:Op.build [.nilp,.nils,.nils,.int .i64 0] [(0,1),(3,1)] [.ptr D 0,.int .i64 l]=some (.agg [.ptr D 0,.nils,.nils,.int .i64 l]):=rfl;obtain ⟨H3,e3⟩:∃ X,X=H2.alloc (OR [.ptr D 0,.nils,.nils,.int .i64 l] wX):=⟨_,rfl⟩
 have f3:Fr Em H2 H3:=by rw [e3];exact (Fr.refl H2).alloc _
 have n3:H3.next=H2.next+1:=by rw [e3,xn]
 have g3:H3.get H2.next=some (OR [.ptr D 0,.nils,.nils,.int .i64 l] wX):=by rw [e3,qx]
 have f13:Fr Em H1 H3:=f2.trans f3 λ _ q=>q.elim;have lQ:Op.aa [.ptr H.next 1] H3=some (.int .i64 c):=ls 1 f13;have m12:=f2.next
 have d3:=dr.em f3;have i3:E7 H H3 H2.next D mp lv ev .nils l c s w [] (λ z=>if z=H2.next then 0 else 1) :=
  ⟨g3,by omega,d3,Own.nil ..,λ k A hA=>by simp at hA,qm rfl,λ z hz=>by rw [qd (by have:=dr.low hz;omega)],λ z hz=>absurd rfl hz.1,λ k A hA=>by simp at hA,by omega,λ z hz=>by have:=lod z hz;omega,λ z hz=>absurd rfl hz.1,f1.trans f13 λ _ q=>q.elim⟩
 simp only [↓qh,xa,reduceIte,reduceEqDiff,qp,w4,t0,hln,l02,q0,w12,bd,xw,<-e3,w14,lQ];obtain ⟨cn,rfl⟩:=kj (show 0<=c by omega)
 -- what the loop leaves of the message's box
 refine bG.intro (λ k E Hx=>∃ (ad:List Na) (nv:AV) (own:Nat->Nat),E=[(38,.int .i64 (ad.length:Int)),(37,.int .i64 ((cn:Nat):Int)),(2,.ptr H.next 0),(8,.ptr H2.next 0),(1,.nils),(6,.ptr D 0)]/\k=cn-ad.length/\ad.length<=cn/\E7 H Hx H2.next D mp lv ev nv l cn s w ad own/\(0<ad.length->mn s w)/\Hx.get H.next=some (OR (cA l cn s w) vh)/\H3.next<=Hx.next /\ ∀ z,bH nv z->H3.next<=z) ?_ ?_
 ·exact ⟨_,_,⟨[],.nils,_,rfl,rfl,zl _,i3,λ q=>absurd q (by simp),by rw [f13.ae _ (by omega) id];exact g1,qg _,λ z hz=>absurd rfl hz.1⟩,by simp only [↓qh,xa,reduceIte,reduceEqDiff];rfl⟩
 rintro k E Hx ⟨ad,nv,own,rfl,rfl,hi,hI,hok,hg,hnx,hnv⟩;rcases jp ad.length cn with hlt|hge
 ·have q1:(ad.length:Int)<((cn:Nat):Int):=by omega
  have ldS:=fQ (e:=vh) hg (show (cA l (cn:Int) s w).length=4 from rfl);simp only [↓qh,xa,reduceIte,reduceEqDiff,w19,q1,w25,ldS];refine C3.q (q18 (M:=M) (ad.length:Int) l (cn:Int) s w) λ v Ha hv=>?_;rcases hv with ⟨hno,rfl,fa⟩|⟨hno,r,b,sv,rfl,hnr⟩
  ·have t2:¬ (2:Int)=0:=by decide
   simp only [↓qh,xa,reduceIte,reduceEqDiff,qp,w31,t2];refine .inl ⟨λ q=>hno ⟨q.2,by omega,by omega,by omega,m1,m2⟩,rfl,hI.fr.trans fa λ _ q=>.inl q⟩
  ·have lB:Op.aa [.ptr H2.next 1] Ha=some nv:=by
    have fa:=hnr.bk.fr;rw [zf (xb (by rw [fa.ae _ hI.lt id];exact hI.row))];rfl
   have wj:aZ .i64 ((ad.length:Int)+1)=((ad.length+1:Nat):Int):=by rw [wx (by omega) (by omega)];omega
   simp only [↓qh,xa,reduceIte,reduceEqDiff,qp,w31,t0,w39,qf,lB];refine hI.step (by omega) (A:=⟨r,b,sv,.nils,[]⟩) hnr λ v2 Hb ⟨Hc,sc,⟨own2,hc⟩,fc,oc⟩=>?_;have hgc:Hc.get H.next=some (OR (cA l (cn:Int) s w) vh):=by
    rw [fc.ae _ (by omega) (λ q=>q.elim (λ q=>by omega) λ q=>by have:=hnv _ q;omega)];exact hg
   simp only [↓qh,xa,reduceIte,reduceEqDiff,qf,sc,w40,wj];refine ⟨_,_,⟨ad ++ [⟨r,b,sv,.nils,[]⟩],v2,own2,rfl,rfl,by rw [qu];simp;omega,hc,λ _=>hno.1,hgc,xt hnx fc.next,λ z hz=>(oc z hz).elim (hnv z) λ q=>xt hnx q⟩,by simp only [↓qh,xa,reduceIte,reduceEqDiff,qu,jx,vx],by rw [qu];simp;omega⟩
 ·have hiw:ad.length=cn:=by omega
  have q1:¬ (ad.length:Int)<((cn:Nat):Int):=by omega
  have z00:¬ (0:Int)<0:=by decide
  simp only [↓qh,xa,reduceIte,reduceEqDiff,w19,q1,w41,hln];refine bG.intro (λ k E Hy=>E=[(62,.int .i64 0),(61,.int .i64 0),(8,.ptr H2.next 0)]/\k=0/\Hy=Hx) ?_ ?_
  ·exact ⟨_,_,⟨rfl,rfl,rfl⟩,by simp only [↓qh,xa,reduceIte,reduceEqDiff]⟩
  rintro k E Hy ⟨rfl,rfl,rfl⟩;simp only [↓qh,xa,reduceIte,reduceEqDiff,w46,z00,w58];exact .inr ⟨⟨hd,hok (by omega)⟩,_,_,own,rfl,hI.done (by omega) (by omega) (by omega),hI.fr⟩
end Go.Am
namespace Go.Am
open Ca
theorem zE {c l:Int} (h0:0<=c):LC eC c 0 0 0 (qs [] c l) 0 0:=by
 have e:cH (-1) c=0:=mB (by omega);have z:∀ {p:Prop},0<0->p:=λ q=>absurd q (wJ 0);have z3:∀ {p:Prop},(0:Int)=3->p:=λ q=>absurd q (by decide);have z1:∀ {p:Prop},(0:Int)=1->p:=λ q=>absurd q (by decide);have z2:∀ {p:Prop},(0:Int)=2->p:=λ q=>absurd q (by decide);exact ⟨rfl,rfl,rfl,rfl,rfl,z,z,rfl,z,z,e.symm,z1,z1,z2,z,λ q=>q.elim z z3,z,z,by decide,by decide,by decide⟩
theorem Nn {co l s w i:Int}:(gg co l s w).vw i=.no:=by
 show (gZ s.toNat w.toNat).vw i=.no;apply IH;unfold Ca.find Ca.pos;split
 ·rfl
 ·rw [Ce]
  ·rfl
  ·intro j _;unfold Ca.iI;rw [I5];rfl
theorem q4o {l c s w:Int} (h:ib l c s w):BuI (cw l c s w) λ _=>.zero:=by
 obtain ⟨⟨⟨l0,l1⟩,c0,c1⟩,hs⟩:=h;have hN:(cw l c s w).ns.length=c.toNat:=I9 ..;have hL:((cw l c s w).l.length:Int)=l:=by show ((List.replicate l.toNat eC).length:Int)=l;rw [za];omega
 have hcz:∀ (i d:Int),(cw l c s w).s i d=0/\(cw l c s w).ot i d=0/\(cw l c s w).bk i d=0:=λ i d=>by
  unfold Bu.s Bu.ot Bu.bk;cases hn:(cw l c s w).ns[d.toNat]? with
  | none=>exact ⟨rfl,rfl,rfl⟩
  | some n =>
   obtain ⟨-,rfl⟩:=EK hn;refine ⟨by show ((gg _ l s w).vw i).st=0;rw [Nn];rfl,?_,?_⟩
   ·show (if (0:Int)=i then (0:Int) else 0)=0;split<;>rfl
   ·show (if i ∈ ([]:List Int) then 1 else 0)=0;simp
 refine ⟨by rw [hN];omega,?_,λ k n hn=>?_,λ m hm=>(nomatch hm),λ i x y hx hy=>?_,λ k n hn i hi=>?_⟩
 ·show (List.replicate l.toNat L8.zero).length=(List.replicate l.toNat eC).length;rw [za,za]
 ·obtain ⟨hk,rfl⟩:=EK hn;exact ⟨uF (cores:=c) ⟨hs,by omega,by omega,by omega,l0,l1⟩,rfl,by rw [hL];rfl,.inl rfl,λ z hz=>(nomatch hz)⟩
 ·have hx:(List.replicate l.toNat eC)[i]? = some x:=hx;have hy:(List.replicate l.toNat L8.zero)[i]? = some y:=hy;rw [HE] at hx hy;split at hx
  ·rename_i q;rw [qm q] at hy;injection hx with hx;injection hy with hy
   subst hx hy;rw [hN];refine ⟨⟨by omega,by decide,⟨by decide,by show (-1:Int)<_;omega⟩,by decide,by decide,λ d _ _ q=>?_,λ q=>absurd rfl q,λ q=>?_,λ q=>?_,λ q=>?_,λ q=>?_,λ q=>rfl,λ m hm=>(nomatch hm)⟩,λ _=>rfl,λ d d0 d1=>?_,λ _=>rfl,λ m hm=>(nomatch hm)⟩
   ·have:hb 0 d=1:=q;rw [qG] at this;cases this
   ·exact absurd (show (0:Int)=1 from q) (by decide)
   ·exact absurd (show (0:Int)=2 from q) (by decide)
   ·exact absurd (show (0:Int)=3 from q) (by decide)
   ·exact absurd (show (0:Int)=4 from q) (by decide)
   ·obtain ⟨a1,a2,a3⟩:=hcz i d;rw [a1,a2,a3];exact zE d0
  ·cases hx
 ·obtain ⟨-,rfl⟩:=EK hn;exact absurd (show ((gg _ l s w).vw i).st=0 by rw [Nn];rfl) hi
structure Bt where
 k:Int
 c:Int
 n:Int
 v:Int
 o:Int
def No.call (n:No) (x:Bt):No × List Mg :=
 if x.k=0 then ((n.load x.n).1,(n.load x.n).2.2.2.1)
 else if x.k=1 then ((n.store x.n x.v).1,(n.store x.n x.v).2.2.1)
 else if x.k=2 then n.eD x.n x.o x.v
 else if x.k=3 then (n.begin,[])
 else if x.k=4 then (n.bn,[])
 else if x.k=5 then ((n.abort x.n).1,[])
 else if x.k=6 then n.aQ x.n
 else (n,[])
def Bu.step (b:Bu) (x:Bt):Bu :=
 if x.k=7 then if 0<=x.n/\x.n<b.fl.length then b.lK x.n.toNat else b
 else if 0<=x.c then match b.ns[x.c.toNat]? with
  | none=>b
  | some n=>b.put x.c.toNat (n.call x)
 else b
noncomputable def sG (b:Bu) (V:Int->L8) (x:Bt):Int->L8 :=
 if 0<=x.c then match b.ns[x.c.toNat]? with
  | none=>V
  | some n=>if x.k=1 then if (n.store x.n x.v).2.1=true then mF V n.live x.n x.v else V
   else if x.k=2 then if BuI.EA n x.n x.o then mF V false x.n x.v else V
   else if x.k=4 then λ l=>if n.live=true/\n.st l=2 then (n.vw l).d else V l
   else V
 else V
theorem A4 {b:Bu} {V:Int->L8} (h:BuI b V) (i:Nat):BuI (b.lK i) V:=by
 unfold Bu.lK;cases hm:b.fl[i]? with
 | none=>exact h
 | some m =>
  have hil:=(ql.1 hm).1;have hf:b.fl=b.fl.take i++m::b.fl.drop (i+1):=by
   rw [<-(ql.1 hm).2,<-List.drop_eq_getElem_cons hil,yd]
  have he:b.fl.eraseIdx i=b.fl.take i++b.fl.drop (i+1):=List.eraseIdx_eq_take_drop_succ ..;obtain ⟨mk,mc,ml⟩:=h.mw m (jf hm);simp only;rw [he]
  by_cases k7:m.k<=7
  ·rw [qm k7];obtain ⟨x,w,hx,hw,-⟩:=h.entry ml.1 ml.2;rw [hx,hw];exact h.DX hf k7 hx hw
  ·rw [qd k7];obtain ⟨n,hn,-⟩:=h.core mc.1 mc.2;rw [hn];exact h.Ax hf hn (by omega) (by omega)
theorem tD {b:Bu} {V:Int->L8} (h:BuI b V) (x:Bt):BuI (b.step x) (if x.k=7 then V else sG b V x):=by
 unfold Bu.step
 by_cases k7:x.k=7
 ·rw [qm k7,qm k7];split
  ·exact A4 h _
  ·exact h
 rw [qd k7,qd k7];unfold sG
 by_cases c0:0<=x.c
 ·rw [qm c0,qm c0];cases hn:b.ns[x.c.toNat]? with
  | none=>exact h
  | some n =>
   simp only;unfold No.call
   by_cases k0:x.k=0
   ·rw [qm k0,qd (by omega),qd (by omega),qd (by omega)];exact h.Ah hn _
   rw [qd k0]
   by_cases k1:x.k=1
   ·rw [qm k1,qm k1];exact h.uM hn _ _
   rw [qd k1,qd k1]
   by_cases k2:x.k=2
   ·rw [qm k2,qm k2];exact h.Dd hn _ _ _
   rw [qd k2,qd k2]
   by_cases k3:x.k=3
   ·rw [qm k3,qd (by omega)];exact h.uX hn
   rw [qd k3]
   by_cases k4:x.k=4
   ·rw [qm k4,qm k4];exact h.qD hn
   rw [qd k4,qd k4]
   by_cases k5:x.k=5
   ·rw [qm k5];exact h.rS hn _
   rw [qd k5]
   by_cases k6:x.k=6
   ·rw [qm k6];exact h.wR hn _
   rw [qd k6,rz hn];exact h
 ·rw [qd c0,qd c0];exact h
structure BC (b:Bu) (k:Nat):Prop where
 fl:b.fl.length<=5*k
 no:∀ (c:Nat) n,b.ns[c]? = some n->n.au.length<=k/\n.c.us<=2*(k:Int)
 wt:∀ x ∈ b.l,x.wt.length<=k
theorem BC.mono {b:Bu} {k k':Nat} (h:BC b k) (hk:k<=k'):BC b k':=⟨xt h.fl (by omega),λ c n hn=>by have:=h.no c n hn;omega,λ x hx=>xt (h.wt x hx) hk⟩
theorem BC.bb {b:Bu} {V:Int->L8} {k:Nat} (h:BC b k) (hI:BuI b V) (hk:k<=2000):BB b:=⟨hI.N4,by have:=h.fl;omega,λ c n hn=>by have:=h.no c n hn;exact ⟨(hI.nw c n hn).ni,by omega,by omega⟩⟩
theorem rF {l c s w:Int}:BC (cw l c s w) 0:=by
 refine ⟨qg _,λ k n hn=>?_,λ x hx=>?_⟩
 ·obtain ⟨-,rfl⟩:=EK hn;exact ⟨qg _,Int.le_refl _⟩
 ·rw [List.eq_of_mem_replicate (show x ∈ List.replicate l.toNat eC from hx)];exact qg _
theorem HW {b:Bu} {k c:Nat} {n n':No} {o:List Mg} (h:BC b k) (hn:b.ns[c]? = some n) (hb:Bd n n') (ho:o.length<=5):BC (b.put c (n',o)) (k+1):=by
 have hl:=(ql.1 hn).1;refine ⟨?_,λ d y hy=>?_,λ x hx=>DY (h.wt x hx)⟩
 ·show (b.fl++o).length<=_;rw [qu];have:=h.fl;omega
 ·have hy:(b.ns.set c n')[d]? = some y:=hy
  by_cases q:d=c
  ·rw [q,xp hl] at hy;injection hy with hy;subst hy
   obtain ⟨a1,a2⟩:=hb;have:=h.no c n hn;omega
  ·rw [xx (vp q)] at hy;have:=h.no d y hy;omega
theorem q45 (x:De) (w:L8):(x.bg w).1.wt=x.wt:=by
 unfold De.bg
 repeat' split
 all_goals rfl
theorem q4n (x:De) (n:Mg) (w:L8):(x.begin n w).1.wt=x.wt:=by
 unfold De.begin;split
 ·rfl
 ·split
  ·exact q45 _ w
  ·rfl
theorem I2 (x:De) (w:L8) (q:Prop) [Decidable q] (r:List Mg):(x.lY w q r).1.wt=x.wt:=by
 unfold De.lY;split
 ·exact q45 x w
 ·rfl
theorem Ac (x:De) (w:L8) (m:Mg):(x.av w m).1.wt.length<=x.wt.length+1:=by
 unfold De.av;split;· exact ko _
 split
 ·split
  ·simp
  ·rw [q4n];exact ko _
 split;· rw [I2];show x.wt.length<=_;omega
 split;· rw [I2];show x.wt.length<=_;omega
 split;· rw [I2];show x.wt.length<=_;omega
 split;· rw [I2];show x.wt.length<=_;omega
 cases h:x.wt with
 | nil=>simp [h]
 | cons n r=>simp only;rw [q4n];simp only [jx];omega
theorem ET (n:No) (x:Bt):Bd n (n.call x).1/\(n.call x).2.length<=5:=by
 unfold No.call;split;· exact ⟨zS n _,xt (q5b n _) (by decide)⟩
 split;· exact ⟨tf n _ _,xt (q2p n _ _) (by decide)⟩
 split;· exact ⟨EF n _ _ _,xt (q79 n _ _ _) (by decide)⟩
 split
 ·refine ⟨?_,zl _⟩;show Bd n n.begin;unfold No.begin;split<;>exact ⟨by show n.au.length<=_;omega,by show n.c.us<=_;omega⟩
 split
 ·refine ⟨?_,zl _⟩;show Bd n n.bn;unfold No.bn;split<;>exact ⟨by show n.au.length<=_;omega,by show n.c.us<=_;omega⟩
 split
 ·refine ⟨?_,zl _⟩;show Bd n (n.abort _).1;unfold No.abort;repeat' split
  all_goals exact ⟨by show n.au.length<=_;omega,by show n.c.us<=_;omega⟩
 split;· exact ⟨Ao n _,xt (q1g n _) (by decide)⟩
 exact ⟨Bd.refl n,zl _⟩
theorem Bf {b:Bu} {k:Nat} (h:BC b k) (i:Nat):BC (b.lK i) (k+1):=by
 unfold Bu.lK;cases hm:b.fl[i]? with
 | none=>exact h.mono (ko k)
 | some m =>
  have hfl:=h.fl;have he:(b.fl.eraseIdx i).length<=b.fl.length:=List.length_eraseIdx_le ..;simp only
  by_cases k7:m.k<=7
  ·rw [qm k7];cases hx:b.l[m.line.toNat]? with
   | none=>exact h.mono (ko k)
   | some x =>
    cases hw:b.m[m.line.toNat]? with
    | none=>exact h.mono (ko k)
    | some w =>
     refine ⟨?_,λ c n hn=>by have:=h.no c n hn;omega,λ y hy=>?_⟩
     ·show (b.fl.eraseIdx i++(x.av w m).2.2).length<=_;rw [qu];have:=q1r x w m;omega
     ·have hy:y ∈ b.l.set m.line.toNat (x.av w m).1:=hy;rcases List.mem_or_eq_of_mem_set hy with q|rfl
      ·exact DY (h.wt y q)
      ·have:=Ac x w m;have:=h.wt x (jf hx);omega
  ·rw [qd k7];cases hn:b.ns[m.core.toNat]? with
   | none=>exact h.mono (ko k)
   | some n =>
    have hl:=(ql.1 hn).1;refine ⟨?_,λ d y hy=>?_,λ x hx=>DY (h.wt x hx)⟩
    ·show (b.fl.eraseIdx i++(n.av m).2).length<=_;rw [qu];have:=q47 n m;omega
    ·have hy:(b.ns.set m.core.toNat (n.av m).1)[d]? = some y:=hy
     by_cases q:d=m.core.toNat
     ·rw [q,xp hl] at hy;injection hy with hy;subst hy
      obtain ⟨a1,a2⟩:=zQ n m;have:=h.no _ n hn;omega
     ·rw [xx (vp q)] at hy;have:=h.no d y hy;omega
theorem uh {b:Bu} {k:Nat} (h:BC b k) (x:Bt):BC (b.step x) (k+1):=by
 unfold Bu.step;split
 ·split
  ·exact Bf h _
  ·exact h.mono (ko k)
 split
 ·cases hn:b.ns[x.c.toNat]? with
  | none=>exact h.mono (ko k)
  | some n=>obtain ⟨a1,a2⟩:=ET n x;exact HW h hn a1 a2
 ·exact h.mono (ko k)
end Go.Am
namespace Go.Am
open Go.Proofs Ca
open Lang (ints)
variable {M:aO} [MK M]
structure Pr where
 a:Int
 v:Int
def fC (p:Pr):List AV:=[.int .i64 p.a,.int .u64 p.v]
def mq (x:Int):List AV:=[.int .u64 x]
theorem GD (p:Pr):(fC p).length=2:=rfl
theorem Ic (x:Int):(mq x).length=1:=rfl
structure Gh where
 w:List Int
 own:Nat->List Pr
 live:Nat->Bool
structure Gs where
 wv:AV
 ov:Nat->AV
def gD {α:Type} (f:Nat -> α) (i:Nat) (x:α) (j:Nat):α:=if j=i then x else f j
theorem sL {α:Type} (f:Nat -> α) (i:Nat) (x:α):gD f i x i=x:=qm rfl
theorem qZ {α:Type} {f:Nat -> α} {i j:Nat} {x:α} (h:j ≠ i):gD f i x j=f j:=qd h
def gC (s:Gs) (g:Gh):List AV:=[s.wv,s.ov 0,s.ov 1,s.ov 2,s.ov 3,.bool (g.live 0),.bool (g.live 1),.bool (g.live 2),.bool (g.live 3)]
def vK (G:Nat) (s:Gs) (z:Nat):Prop:=z=G\/z=aM s.wv \/ ∃ c,c<4/\bH (s.ov c) z
structure gQ (H0 H:AHeap) (G:Nat) (s:Gs) (g:Gh) (tg:Nat->Nat):Prop where
 row:H.get G=some (OR (gC s g) A0)
 lt:G<H.next
 w:dA mq HH 1 H s.wv g.w
 own:∀ c,c<4->eB fC wH 2 H (s.ov c) (g.own c)
 oG:tg G=4
 oW:tg (aM s.wv)=5
 oO:∀ c,c<4 -> ∀ z,bH (s.ov c) z->tg z=c
 lo:∀ z,vK G s z->H0.next<=z
section
variable {H0 H:AHeap} {G:Nat} {s:Gs} {g:Gh} {tg:Nat->Nat}
theorem gQ.low (h:gQ H0 H G s g tg) {z:Nat} (hz:vK G s z):z<H.next:=by
 rcases hz with rfl|rfl|⟨c,hc,hz⟩
 ·exact h.lt
 ·exact h.w.lt
 ·exact Own.lt (h.own c hc) z hz
theorem gQ.fr {H':AHeap} {W:Nat->Prop} (h:gQ H0 H G s g tg) (f:Fr W H H') (hw:∀ z,W z -> ¬ vK G s z):gQ H0 H' G s g tg :=
 ⟨by rw [f.ae _ h.lt λ q=>hw _ q (.inl rfl)];exact h.row,qn h.lt f.next,h.w.fr f λ q=>hw _ q (.inr (.inl rfl)),λ c hc=>Own.fr (h.own c hc) f λ z hz q=>hw _ q (.inr (.inr ⟨c,hc,hz⟩)),h.oG,h.oW,h.oO,h.lo⟩
theorem gQ.em {H':AHeap} (h:gQ H0 H G s g tg) (f:Fr Em H H'):gQ H0 H' G s g tg:=h.fr f λ z q=>q.elim
theorem EY (s:Gs) (g:Gh) {c:Nat} (hc:c<4):(gC s g)[1+c]? = some (s.ov c):=by
 match c,hc with
 | 0,_=>rfl
 | 1,_=>rfl
 | 2,_=>rfl
 | 3,_=>rfl
theorem yB (s:Gs) (g:Gh) {c:Nat} (hc:c<4):(gC s g)[5+c]? = some (.bool (g.live c)):=by
 match c,hc with
 | 0,_=>rfl
 | 1,_=>rfl
 | 2,_=>rfl
 | 3,_=>rfl
theorem yO (s:Gs) (g:Gh) {c:Nat} (hc:c<4) (v:AV):(gC s g).take (1+c) ++ [v]++(gC s g).drop (1+c+1)=gC { s with ov:=gD s.ov c v } g:=by
 match c,hc with
 | 0,_=>rfl
 | 1,_=>rfl
 | 2,_=>rfl
 | 3,_=>rfl
theorem yM (s:Gs) (g:Gh) {c:Nat} (hc:c<4) (v:Bool):(gC s g).take (5+c) ++ [AV.bool v]++(gC s g).drop (5+c+1)=gC s { g with live:=gD g.live c v }:=by
 match c,hc with
 | 0,_=>rfl
 | 1,_=>rfl
 | 2,_=>rfl
 | 3,_=>rfl
theorem Jr (k:Nat) {c:Nat} (hc:c<4):Op.aY 4 1 [.ptr G k,.int .i64 (c:Int)]=some (.ptr G (k+c)):=by
 have:=qyi (len:=4) (size:=1) (b:=G) (o:=k) (k:=.i64) (j:=(c:Int)) (i:=c) rfl hc;rw [this,Nat.mul_one]
theorem Js (k:Nat) {c:Nat} {z:Int} (hz:z=(c:Int)) (hc:c<4):Op.aY 4 1 [.ptr G k,.int .i64 z]=some (.ptr G (k+c)):=by rw [hz];exact Jr k hc
theorem gQ.l0 (h:gQ H0 H G s g tg):Op.aa [.ptr G 0] H=some s.wv:=zf (xb h.row) 0
theorem gQ.lO (h:gQ H0 H G s g tg) {c:Nat} (hc:c<4):Op.aa [.ptr G (1+c)] H=some (s.ov c):=by rw [zf (xb h.row)];exact EY s g hc
theorem gQ.lL (h:gQ H0 H G s g tg) {c:Nat} (hc:c<4):Op.aa [.ptr G (5+c)] H=some (.bool (g.live c)):=by rw [zf (xb h.row)];exact yB s g hc
def BA (H0 H:AHeap) (G:Nat) (s:Gs) (g':Gh) (H':AHeap):Prop:=∃ s' tg',gQ H0 H' G s' g' tg'/\(∀ z,vK G s' z->vK G s z\/H.next<=z)/\Fr (vK G s) H H'
theorem gQ.same (h:gQ H0 H G s g tg) {H':AHeap} (f:Fr Em H H'):BA H0 H G s g H':=⟨s,tg,h.em f,λ _ q=>.inl q,f.mono λ _ _ q=>q.elim⟩
theorem BA.then {H1 H2:AHeap} {s1:Gs} {g':Gh} (f1:Fr (vK G s) H H1) (hs:∀ z,vK G s1 z->vK G s z\/H.next<=z) (h:BA H0 H1 G s1 g' H2):BA H0 H G s g' H2:=by
 obtain ⟨s2,t2,h2,q2,f2⟩:=h;have:=f1.next
 exact ⟨s2,t2,h2,λ z hz=>(q2 z hz).elim (hs z) λ w=>.inr (by omega),f1.trans f2 hs⟩
theorem gQ.jP (h:gQ H0 H G s g tg) {c:Nat} (hc:c<4) (v:Bool):∃ H',Op.store 1 [.ptr G (5+c),.bool v] H=some (.undef,H')/\gQ H0 H' G s { g with live:=gD g.live c v } tg/\Fr (On G) H H':=by
 have st:=po h.row (o:=5+c) (n:=1) (v:=.bool v) rfl (by show 5+c+1<=9;omega) rfl;have f:Fr (On G) H _:=(Fr.refl H).set (W:=On G) (.inl rfl) (OR (gC s { g with live:=gD g.live c v }) A0);have e:(gC s g).take (5+c)++(AV.bool v).cells++(gC s g).drop (5+c+1)=gC s { g with live:=gD g.live c v }:=yM s g hc v;rw [e] at st;refine ⟨_,st,⟨xd ..,qn h.lt f.next,h.w.fr f λ (q:_=G)=>?_,λ d hd=>Own.fr (h.own d hd) f λ z hz (q:z=G)=>?_,h.oG,h.oW,h.oO,h.lo⟩,f⟩
 ·have:=h.oW;rw [q,h.oG] at this;cases this
 ·have:=h.oO d hd z hz;rw [q,h.oG] at this;omega
theorem gQ.Ik (h:gQ H0 H G s g tg) {c:Nat} (hc:c<4) {v:AV} {xs:List Pr} {H1:AHeap} (f1:Fr (bH (s.ov c)) H H1) (hv:eB fC wH 2 H1 v xs) (ho:∀ z,bH v z->bH (s.ov c) z\/H.next<=z) (h1:br v=true) :
 ∃ H',Op.store 1 [.ptr G (1+c),v] H1=some (.undef,H')/\BA H0 H G s { g with own:=gD g.own c xs } H' /\ ∃ tg',gQ H0 H' G { s with ov:=gD s.ov c v } { g with own:=gD g.own c xs } tg':=by
 have hne:∀ {z k:Nat},tg z=k->k ≠ c -> ¬ bH (s.ov c) z:=λ e1 e2 q=>e2 (by rw [<-e1];exact h.oO c hc _ q);have hcl:v.cells=[v]:=by cases v<;>first|rfl|cases h1
 have gG:H1.get G=some (OR (gC s g) A0):=by rw [f1.ae _ h.lt (hne h.oG (by omega))];exact h.row
 have st:=po gG (o:=1+c) (n:=1) (v:=v) (by rw [hcl];rfl) (by show 1+c+1<=9;omega) (by rw [hcl,nU];simpa using h1);rw [hcl,yO s g hc v] at st;obtain ⟨H2,e2⟩:∃ X,X=H1.set G (OR (gC { s with ov:=gD s.ov c v } g) A0):=⟨_,rfl⟩
 rw [<-e2] at st;have g2:H2.get G=some (OR (gC { s with ov:=gD s.ov c v } g) A0):=by rw [e2];exact xd ..
 have f2:Fr (On G) H1 H2:=by rw [e2];exact (Fr.refl H1).set (W:=On G) (.inl rfl) _
 have m1:=f1.next
 have vG:∀ z,bH v z->z ≠ G:=λ z hz q=>(ho z hz).elim (λ w=>hne h.oG (by omega) (by rw [<-q];exact w)) λ w=>by have:=h.lt;omega
 have hr:gQ H0 H2 G { s with ov:=gD s.ov c v } { g with own:=gD g.own c xs } (λ z=>if z<H.next then tg z else c):=by
  refine ⟨g2,qn h.lt (xt m1 f2.next),(h.w.fr f1 (hne h.oW (by omega))).fr f2 λ (q:_=G)=>?_,λ d hd=>?_,by rw [qm h.lt];exact h.oG,by rw [qm h.w.lt];exact h.oW,λ d hd z hz=>?_,λ z hz=>?_⟩
  ·have:=h.oW;rw [q,h.oG] at this;cases this
  ·by_cases q:d=c
   ·subst q;show eB fC wH 2 _ (gD s.ov d v d) (gD g.own d xs d);rw [sL,sL];exact Own.fr hv f2 λ z hz=>vG z hz
   ·show eB fC wH 2 _ (gD s.ov c v d) (gD g.own c xs d);rw [qZ q,qZ q];refine Own.fr (Own.fr (h.own d hd) f1 λ z hz=>hne (h.oO d hd z hz) q) f2 λ z hz (w:z=G)=>?_;have:=h.oO d hd z hz;rw [w,h.oG] at this;omega
  ·have hz:bH (gD s.ov c v d) z:=hz
   by_cases q:d=c
   ·subst q;rw [sL] at hz;rcases ho z hz with w|w
    ·rw [qm (Own.lt (h.own d hd) z w)];exact h.oO d hd z w
    ·rw [qd (by omega)]
   ·rw [qZ q] at hz;rw [qm (Own.lt (h.own d hd) z hz)];exact h.oO d hd z hz
  ·rcases hz with hz|hz|⟨d,hd,hz⟩
   ·exact h.lo z (.inl hz)
   ·exact h.lo z (.inr (.inl hz))
   ·have hz:bH (gD s.ov c v d) z:=hz
    by_cases q:d=c
    ·subst q;rw [sL] at hz;rcases ho z hz with w|w
     ·exact h.lo z (.inr (.inr ⟨d,hd,w⟩))
     ·have:=h.lo G (.inl rfl);have:=h.lt;omega
    ·rw [qZ q] at hz;exact h.lo z (.inr (.inr ⟨d,hd,hz⟩))
 refine ⟨_,st,⟨_,_,hr,λ z hz=>?_,(f1.mono λ z _ q=>.inr (.inr ⟨c,hc,q⟩)).trans f2 λ z (q:z=G)=>.inl (.inl q)⟩,_,hr⟩;rcases hz with hz|hz|⟨d,hd,hz⟩
 ·exact .inl (.inl hz)
 ·exact .inl (.inr (.inl hz))
 ·have hz:bH (gD s.ov c v d) z:=hz
  by_cases q:d=c
  ·subst q;rw [sL] at hz;exact (ho z hz).elim (λ w=>.inl (.inr (.inr ⟨d,hd,w⟩))) .inr
  ·rw [qZ q] at hz;exact .inl (.inr (.inr ⟨d,hd,hz⟩))
theorem gQ.vD (h:gQ H0 H G s g tg) {z:Int} (h0:0<=z) (hi:z<g.w.length) (y:Int):∃ p H',Op.aS 1 [s.wv,.int .i64 z]=some p/\Op.store 1 [p,.int .u64 y] H=some (.undef,H')/\gQ H0 H' G s { g with w:=g.w.set z.toNat y } tg/\Fr (On (aM s.wv)) H H':=by
 have hi:z.toNat<g.w.length:=by omega
 have hx:g.w[z.toNat]? = some (g.w[z.toNat]'hi):=qv hi;have ix:=(h.w.sl Ic).idx hx (z:=z) (by omega) .i64;obtain ⟨H',st,hw,f⟩:=h.w.zC Ic hx (y:=y) (j:=0) (u:=.int .u64 y) (by decide) rfl rfl;refine ⟨_,H',ix,st,⟨?_,qn h.lt f.next,hw,λ d hd=>Own.fr (h.own d hd) f λ z hz (q:z=aM s.wv)=>?_,h.oG,h.oW,h.oO,h.lo⟩,f⟩
 ·rw [f.ae _ h.lt λ (q:G=aM s.wv)=>?_];exact h.row;have:=h.oW;rw [<-q,h.oG] at this;cases this
 ·have:=h.oO d hd z hz;rw [q,h.oW] at this;omega
theorem gQ.GN (h:gQ H0 H G s g tg) {z x:Int} (h0:0<=z) (hx:g.w[z.toNat]? = some x):∃ p,Op.aS 1 [s.wv,.int .i64 z]=some p/\Op.aa [p] H=some (.int .u64 x) :=
 ⟨_,(h.w.sl Ic).idx hx (z:=z) (by omega) .i64,(h.w.sl Ic).aa Ic hx (j:=0) (by decide)⟩
end
end Go.Am
namespace Go.Am
open Go.Proofs Ca
open Lang (ints)
variable {M:aO} [MK M]
def eU (l:List Pr) (a:Int):Option Int:=(l.reverse.find? λ p=>p.a=a).map Pr.v
theorem q85 (a:Int):eU [] a=none:=rfl
theorem qye (l:List Pr) (p:Pr) (a:Int):eU (l ++ [p]) a=if p.a=a then some p.v else eU l a:=by
 unfold eU;rw [List.reverse_append];show ((p::l.reverse).find? _).map _=_;rw [List.find?_cons]
 by_cases q:p.a=a
 ·simp [q]
 ·simp [q]
section
variable {H0 H:AHeap} {B:Nat} {s:Bs} {b:Bu} {own:Nat->Nat} {c:Int}
theorem q5y (h:c6 H0 H B s b own) (hb:BB b) (hc:¬ (0<=c/\c<b.ns.length)):jv M AD [.ptr B 0,.int .i64 c] H λ v H'=>v=.bool false/\H'=H:=by
 refine qoc ?_;simp only [↓qh,xa,reduceIte,reduceEqDiff,qod];refine C3.q (qN (M:=M) h hb.N4 c) λ v H1 ⟨hh,_,h1⟩=>?_;rw [h1 hc,hh];simp only [↓qh,xa,reduceIte,reduceEqDiff,qp];refine C3.q (show jv M C0 [.nilp] H λ v H'=>v=.bool false/\H'=H from ?_) λ v H2 ⟨hv2,hh2⟩=>?_
 ·refine ql4 ?_;simp only [↓qh,xa,reduceIte,reduceEqDiff,ql5,nD]
 rw [hv2,hh2];simp only [↓qh,xa,reduceIte,reduceEqDiff]
end
section
variable {H0 H:AHeap} {G:Nat} {s:Gs} {g:Gh} {tg:Nat->Nat}
theorem q86 (h:gQ H0 H G s g tg) {c:Nat} (hc:c<4) (a:Int) (hl:(g.own c).length<=1000):jv M Dv [.ptr G 0,.int .i64 (c:Int),.int .i64 a] H λ v H'=>H'=H/\v=.tuple [.int .u64 ((eU (g.own c) a).getD 0),.bool (eU (g.own c) a).isSome]:=by
 refine qqb ?_;obtain ⟨w0,w2,w23,w7,w13,w22⟩:=qqc M ⟨none,Dv⟩;have sl:ep fC 2 H (s.ov c) (g.own c):=Own.sl (h.own c hc);have ix1:=Jr (G:=G) 1 hc;have lo:=h.lO hc;have wk:aZ .i64 (((g.own c).length:Nat)-1:Int)=((g.own c).length:Nat)-1:=wx (by omega) (by omega);simp only [↓qh,xa,reduceIte,reduceEqDiff,w0,w2,qf,ix1,lo,sl.len,wk];refine bG.intro (λ k E Hx=>∃ z:Int,z=(k:Int)-1/\Hx=H/\k<=(g.own c).length/\E=[(8,.int .i64 z),(7,.bool false),(6,.int .u64 0),(0,.ptr G 0),(1,.int .i64 (c:Int)),(2,.int .i64 a)]/\eU (g.own c) a=eU ((g.own c).take k) a) ?_ ?_
 ·exact ⟨_,_,⟨_,rfl,rfl,qg _,rfl,by rw [List.take_length]⟩,by simp only [↓qh,xa,reduceIte,reduceEqDiff]⟩
 rintro k E Hx ⟨z,hz,rfl,hk,rfl,e⟩;cases k with
 | zero =>
  have q:¬ (0:Int)<=z:=by omega
  rw [e,Dm,q85];simp only [↓qh,xa,reduceIte,reduceEqDiff,w7,q,w23];rfl
 | succ k =>
  have q:(0:Int)<=z:=by omega
  obtain ⟨x,hx⟩:∃ x,(g.own c)[k]? = some x:=⟨_,qv (by omega)⟩
  have ix:=sl.idx hx (z:=z) (by omega) .i64;have l0:Op.aa [.ptr (aM (s.ov c)) (cu 2 (s.ov c) k)] Hx=some (.int .i64 x.a):=sl.aa GD hx (j:=0) (by decide);have l1:Op.aa [.ptr (aM (s.ov c)) (cu 2 (s.ov c) k+1)] Hx=some (.int .u64 x.v):=sl.aa GD hx (j:=1) (by decide);have wj:aZ .i64 (z-1)=z-1:=wx (by omega) (by omega);have tk:(g.own c).take (k+1)=(g.own c).take k ++ [x]:=by rw [FC,hx];rfl
  rw [tk,qye] at e
  by_cases qa:x.a=a
  ·rw [e,qm qa];simp only [↓qh,xa,reduceIte,reduceEqDiff,w7,q,w13,qf,ix1,lo,ix,l0,l1,qa];rfl
  ·simp only [↓qh,xa,reduceIte,reduceEqDiff,w7,q,w13,qf,ix1,lo,ix,l0,l1,qa,w22,wj];rw [qd qa] at e;exact ⟨k,_,⟨z-1,by omega,by omega,rfl,e⟩,by simp only [↓qh,xa,reduceIte,reduceEqDiff],by omega⟩
end
end Go.Am
namespace Go.Am
open No
def Bu.lv (b:Bu) (c:Nat):Bool:=match b.ns[c]? with
 | some n=>n.live
 | none=>false
def eJ (w:List Int) (l:List Pr):List Int:=l.foldl (λ w p=>w.set p.a.toNat p.v) w
theorem LV:∀ (l:List Pr) (w:List Int),(eJ w l).length=w.length
 | [],w=>rfl
 | p::l,w=>by show (eJ (w.set p.a.toNat p.v) l).length=_;rw [LV l,qz]
theorem q32 (l:List Pr) (p:Pr) (w:List Int):eJ w (l ++ [p])=(eJ w l).set p.a.toNat p.v:=by unfold eJ;rw [List.foldl_append];rfl
namespace Gh
def at' (g:Gh) (a:Int):Int:=(g.w[a.toNat]?).getD 0
def act (g:Gh) (n:No) (x:Bt) (c:Nat):Gh × Bool :=
 if x.k=0 then (g,if (n.load x.n).2.2.1=true/\(n.load x.n).2.2.2.2=0 then decide ((n.load x.n).2.1=(eU (g.own c) x.n).getD (g.at' x.n)) else true)
 else if x.k=1 then
  (if (n.store x.n x.v).2.1=true/\(n.store x.n x.v).2.2.2=0 then if g.live c=true then { g with own:=gD g.own c (g.own c ++ [⟨x.n,x.v⟩]) } else { g with w:=g.w.set x.n.toNat x.v } else g,true)
 else if x.k=2 then
  (if (n.cS x.n x.o).2.1=true/\(n.cS x.n x.o).2.2=0 then if (n.cS x.n x.o).1=true then { g with w:=g.w.set x.n.toNat x.v } else g else g,
   if (n.cS x.n x.o).2.1=true/\(n.cS x.n x.o).2.2=0 then decide ((n.cS x.n x.o).1=decide (g.at' x.n=x.o)) else true)
 else if x.k=3 then (if n.live=true then g else { g with live:=gD g.live c true },true)
 else if x.k=4 then (if n.live=true then { g with w:=eJ g.w (g.own c) } else g,true)
 else (g,true)
def fq (g:Gh) (b:Bu) (x:Bt):Gh × Bool :=
 if x.k=7 then (g,true)
 else if 0<=x.c then match b.ns[x.c.toNat]? with
  | none=>(g,true)
  | some n=>g.act n x x.c.toNat
 else (g,true)
def tail (g:Gh) (L:Nat->Bool) (k:Nat):Gh:={ g with own:=λ i=>if i<k/\g.live i=true/\L i=false then [] else g.own i,live:=λ i=>if i<k then g.live i && L i else g.live i }
def oM (g:Gh) (b:Bu) (x:Bt):Gh:=(g.fq b x).1.tail (b.step x).lv 4
end Gh
structure GI (b:Bu) (g:Gh) (k:Nat):Prop where
 len:(g.w.length:Int)=8*b.l.length
 own:∀ c,∀ p ∈ g.own c,0<=p.a/\p.a<8*b.l.length
 fM:∀ c,(g.own c).length<=k
 ID:∀ c,g.live c=b.lv c
 KG:∀ c,g.live c=false->g.own c=[]
theorem NZ (n:No) (k l:Int):(n.ask k l).1.live=n.live:=by unfold No.ask;split<;>rfl
theorem q9a (n:No) (a:Int):(n.load a).1.live=n.live:=by
 unfold No.load;split
 ·cases n.c.find (ln a) with
  | none=>exact NZ ..
  | some x=>rfl
 ·rfl
theorem q7d (n:No) (a y:Int):(n.store a y).1.live=n.live:=by
 unfold No.store;split
 ·split
  ·rfl
  ·exact NZ ..
 ·rfl
theorem uy (n:No) (a o y:Int):(n.eD a o y).1.live=n.live:=by
 unfold No.eD;split
 ·split
  ·rfl
  ·split
   ·rfl
   ·exact NZ ..
 ·rfl
theorem q6i (n:No) (l:Int) (h:(n.aQ l).1.live=true):n.live=true:=by
 unfold No.aQ at h;split at h
 ·exact h
 ·cases hf:n.c.find l with
  | none=>rw [hf] at h;exact h
  | some x =>
   rw [hf] at h;simp only [FL] at h;split at h
   ·cases h
   ·exact h
theorem ik (n:No) (x:En) (t:Bool) (h:(n.lost x t).live=true):n.live=true:=by
 rw [Io] at h;split at h
 ·cases h
 ·exact h
theorem q8x (n:No) (m:Mg) (h:(n.fill m).1.live=true):n.live=true:=by
 unfold No.fill No.fZ at h;generalize (if m.k=15 then (2:Int) else 1)=st at h;split at h
 ·rw [qx4] at h;cases h
 ·rw [qx4] at h;exact h
theorem q82 (n:No) (m:Mg) (h:(n.av m).1.live=true):n.live=true:=by
 unfold No.av at h;split at h;· exact h
 split at h;· exact ik n _ _ h
 split at h
 ·cases hf:n.c.find m.line with
  | none=>rw [hf] at h;exact h
  | some x =>
   rw [hf] at h;simp only at h;split at h
   ·exact ik n _ _ h
   ·exact ik n _ _ h
 split at h;· exact h
 cases hf:n.c.find m.line with
 | none =>
  rw [hf] at h;have h:(No.fill { n with out:=⟨0,0,0,.zero⟩ } m).1.live=true:=h;exact q8x { n with out:=⟨0,0,0,.zero⟩ } m h
 | some x=>rw [hf] at h;exact h
theorem q76 (n:No) (x:Bt) (h:(n.call x).1.live=true):n.live=true\/x.k=3:=by
 unfold No.call at h;split at h;· exact .inl (by rw [<-q9a];exact h)
 split at h;· exact .inl (by rw [<-q7d];exact h)
 split at h;· exact .inl (by rw [<-uy];exact h)
 split at h;· exact .inr ‹_›
 split at h
 ·refine .inl ?_;unfold No.bn at h;split at h
  ·cases h
  ·exact h
 split at h
 ·refine .inl ?_;unfold No.abort at h;split at h
  ·split at h
   ·exact h
   ·cases h
  ·exact h
 split at h;· exact .inl (q6i n _ h)
 exact .inl h
theorem rD {n:No} {a:Int} (h:(n.load a).2.2.1=true):n.may a:=by
 by_cases q:n.may a
 ·exact q
 ·unfold No.load at h;rw [qd q] at h;cases h
theorem q2q {n:No} {a y:Int} (h:(n.store a y).2.1=true):n.may a:=by
 by_cases q:n.may a
 ·exact q
 ·unfold No.store at h;rw [qd q] at h;cases h
theorem sg {n:No} {a o:Int} (h:(n.cS a o).2.1=true):n.may a:=by
 by_cases q:n.may a
 ·exact q
 ·unfold No.cS at h;rw [qd q] at h;cases h
theorem JM {n:No} {a c L:Int} (w:NW n c L) (h:n.may a):0<=a/\a<8*L:=by
 have:=w.lines;unfold No.may at h;omega
theorem uC {b:Bu} {c:Nat} {n:No} {r:No × List Mg} (hn:b.ns[c]? = some n) (d:Nat):(b.put c r).lv d=if d=c then r.1.live else b.lv d:=by
 unfold Bu.lv Bu.put
 by_cases q:d=c
 ·rw [qm q,q,xp (ql.1 hn).1]
 ·rw [qd q,xx (vp q)]
theorem uP {b:Bu} {c:Nat} {n:No} (hn:b.ns[c]? = some n):b.lv c=n.live:=by unfold Bu.lv;rw [hn]
theorem Bz {b:Bu} {c:Nat} (h:b.lv c=true):c<b.ns.length:=by
 unfold Bu.lv at h;rcases jp c b.ns.length with q|q
 ·exact q
 ·rw [zm q] at h;cases h
theorem N1 (b:Bu) (x:Bt):(b.step x).ns.length=b.ns.length/\(b.step x).l.length=b.l.length:=by
 unfold Bu.step;split
 ·split
  ·unfold Bu.lK;cases b.fl[x.n.toNat]? with
   | none=>exact ⟨rfl,rfl⟩
   | some m =>
    simp only;split
    ·cases b.l[m.line.toNat]? with
     | none=>exact ⟨rfl,rfl⟩
     | some y =>
      cases b.m[m.line.toNat]? with
      | none=>exact ⟨rfl,rfl⟩
      | some w=>exact ⟨rfl,qz ..⟩
    ·cases b.ns[m.core.toNat]? with
     | none=>exact ⟨rfl,rfl⟩
     | some n=>exact ⟨qz ..,rfl⟩
  ·exact ⟨rfl,rfl⟩
 split
 ·cases b.ns[x.c.toNat]? with
  | none=>exact ⟨rfl,rfl⟩
  | some n=>exact ⟨qz ..,rfl⟩
 ·exact ⟨rfl,rfl⟩
theorem q2n {b:Bu} {g:Gh} {k:Nat} (hg:GI b g k) (x:Bt) (c:Nat) (h:(b.step x).lv c=true):(g.fq b x).1.live c=true:=by
 unfold Gh.fq;unfold Bu.step at h
 by_cases k7:x.k=7
 ·rw [qm k7] at h ⊢;show g.live c=true;rw [hg.ID];split at h
  ·unfold Bu.lK at h;cases hm:b.fl[x.n.toNat]? with
   | none=>rw [hm] at h;exact h
   | some m =>
    rw [hm] at h;simp only at h;split at h
    ·cases hx:b.l[m.line.toNat]? with
     | none=>rw [hx] at h;exact h
     | some y =>
      cases hw:b.m[m.line.toNat]? with
      | none=>rw [hx,hw] at h;exact h
      | some w=>rw [hx,hw] at h;exact h
    ·cases hn:b.ns[m.core.toNat]? with
     | none=>rw [hn] at h;exact h
     | some n =>
      rw [hn] at h;have e:=uC (b:=b) (r:=((n.av m).1,[])) hn c;have h:(b.put m.core.toNat ((n.av m).1,[])).lv c=true:=h;rw [e] at h;split at h
      ·rename_i q;rw [q,uP hn];exact q82 n m h
      ·exact h
  ·exact h
 ·rw [qd k7] at h ⊢;split at h
  ·rename_i c0;rw [qm c0];cases hn:b.ns[x.c.toNat]? with
   | none=>rw [hn] at h;show g.live c=true;rw [hg.ID];exact h
   | some n =>
    rw [hn] at h;have h:(b.put x.c.toNat (n.call x)).lv c=true:=h;rw [uC hn] at h;show (g.act n x x.c.toNat).1.live c=true;have hgl:∀ d,g.live d=b.lv d:=hg.ID;have key:x.k ≠ 3->(g.act n x x.c.toNat).1.live=g.live:=λ k3=>by
     unfold Gh.act;split;· rfl
     split
     ·simp only;split
      ·split<;>rfl
      ·rfl
     split
     ·simp only;split
      ·split<;>rfl
      ·rfl
     try rw [qd k3]
     split
     ·simp only;split<;>rfl
     rfl
    by_cases k3:x.k=3
    ·unfold Gh.act;rw [qd (by omega),qd (by omega),qd (by omega),qm k3];simp only
     by_cases hl:n.live=true
     ·rw [qm hl,hgl];split at h
      ·rename_i q;rw [q,uP hn];exact hl
      ·exact h
     ·rw [qd hl];show gD g.live _ true c=true;split at h
      ·rename_i q;rw [q,sL]
      ·rename_i q;rw [qZ q,hgl];exact h
    ·rw [key k3,hgl];split at h
     ·rename_i q;rw [q,uP hn];exact (q76 n x h).elim id λ w=>absurd w k3
     ·exact h
  ·rename_i c0;rw [qd c0];show g.live c=true;rw [hg.ID];exact h
theorem IP {b:Bu} {V:Int->L8} {g:Gh} {k:Nat} (hI:BuI b V) (hg:GI b g k) (x:Bt) :
 (((g.fq b x).1.w.length:Nat):Int)=8*b.l.length/\(∀ c,∀ p ∈ (g.fq b x).1.own c,0<=p.a/\p.a<8*b.l.length)/\(∀ c,((g.fq b x).1.own c).length<=k+1) /\ ∀ c,(g.fq b x).1.live c=false->(g.fq b x).1.own c=[]:=by
 have h0:((g.w.length:Nat):Int)=8*b.l.length/\(∀ c,∀ p ∈ g.own c,0<=p.a/\p.a<8*b.l.length)/\(∀ c,(g.own c).length<=k+1) /\ ∀ c,g.live c=false->g.own c=[]:=⟨hg.len,hg.own,λ c=>DY (hg.fM c),hg.KG⟩
 have hW:∀ w':List Int,w'.length=g.w.length->((w'.length:Nat):Int)=8*b.l.length/\(∀ c,∀ p ∈ g.own c,0<=p.a/\p.a<8*b.l.length)/\(∀ c,(g.own c).length<=k+1) /\ ∀ c,g.live c=false->g.own c=[]:=λ w' e=>⟨by rw [e];exact hg.len,h0.2⟩
 unfold Gh.fq;split;· exact h0
 split
 ·cases hn:b.ns[x.c.toNat]? with
  | none=>exact h0
  | some n =>
   have w:=hI.nw _ n hn;simp only;unfold Gh.act;split;· exact h0
   split
   ·simp only;split
    ·rename_i hd;have:=JM w (q2q hd.1);split
     ·rename_i hl;refine ⟨hg.len,λ c p hp=>?_,λ c=>?_,λ c hc=>?_⟩
      ·have hp:p ∈ gD g.own x.c.toNat (g.own x.c.toNat ++ [⟨x.n,x.v⟩]) c:=hp
       by_cases q:c=x.c.toNat
       ·rw [q,sL] at hp;rcases xy.1 hp with q|q
        ·exact hg.own _ p q
        ·rw [xl.1 q];exact this
       ·rw [qZ q] at hp;exact hg.own c p hp
      ·show (gD g.own x.c.toNat (g.own x.c.toNat ++ [⟨x.n,x.v⟩]) c).length<=_
       by_cases q:c=x.c.toNat
       ·rw [q,sL,qu];have:=hg.fM x.c.toNat;simp only [jx,vx];omega
       ·rw [qZ q];exact DY (hg.fM c)
      ·have hc:g.live c=false:=hc;show gD g.own x.c.toNat (g.own x.c.toNat ++ [⟨x.n,x.v⟩]) c=[]
       by_cases q:c=x.c.toNat
       ·rw [q,hl] at hc;cases hc
       ·rw [qZ q];exact hg.KG c hc
     ·exact hW _ (qz ..)
    ·exact h0
   split
   ·simp only;split
    ·split
     ·exact hW _ (qz ..)
     ·exact h0
    ·exact h0
   split
   ·simp only;split
    ·exact h0
    ·refine ⟨hg.len,hg.own,h0.2.2.1,λ c hc=>hg.KG c ?_⟩;have hc:gD g.live x.c.toNat true c=false:=hc
     by_cases q:c=x.c.toNat
     ·rw [q,sL] at hc;cases hc
     ·rw [qZ q] at hc;exact hc
   split
   ·simp only;split
    ·exact hW _ (LV ..)
    ·exact h0
   exact h0
 ·exact h0
theorem EP {b:Bu} {g:Gh} {k:Nat} (hg:GI b g k) (x:Bt) {c:Nat} (h:(g.fq b x).1.live c=true):c<b.ns.length:=by
 have h0:g.live c=true->c<b.ns.length:=λ q=>Bz (by rw [<-hg.ID];exact q);unfold Gh.fq at h;split at h;· exact h0 h
 split at h
 ·cases hn:b.ns[x.c.toNat]? with
  | none=>rw [hn] at h;exact h0 h
  | some n =>
   rw [hn] at h;have h:(g.act n x x.c.toNat).1.live c=true:=h;unfold Gh.act at h;split at h;· exact h0 h
   split at h
   ·simp only at h;split at h
    ·split at h<;>exact h0 h
    ·exact h0 h
   split at h
   ·simp only at h;split at h
    ·split at h<;>exact h0 h
    ·exact h0 h
   split at h
   ·simp only at h;split at h
    ·exact h0 h
    ·have h:gD g.live x.c.toNat true c=true:=h
     by_cases q:c=x.c.toNat
     ·rw [q];exact (ql.1 hn).1
     ·rw [qZ q] at h;exact h0 h
   split at h
   ·simp only at h;split at h<;>exact h0 h
   exact h0 h
 ·exact h0 h
theorem Cp {b:Bu} {V:Int->L8} {g:Gh} {k:Nat} (hI:BuI b V) (hg:GI b g k) (x:Bt):GI (b.step x) (g.oM b x) (k+1):=by
 obtain ⟨a1,a2,a3,a4⟩:=IP hI hg x;obtain ⟨s1,s2⟩:=N1 b x;refine ⟨by rw [s2];exact a1,λ c p hp=>?_,λ c=>?_,λ c=>?_,λ c hc=>?_⟩
 ·rw [s2];have hp:p ∈ if c<4/\_ then [] else (g.fq b x).1.own c:=hp
  split at hp
  ·cases hp
  ·exact a2 c p hp
 ·show (if c<4/\_ then [] else (g.fq b x).1.own c).length<=_;split
  ·exact zl _
  ·exact a3 c
 ·show (if c<4 then (g.fq b x).1.live c && (b.step x).lv c else (g.fq b x).1.live c)=_;have:=q2n hg x c;split
  ·cases h:(b.step x).lv c with
   | true=>rw [this h];rfl
   | false=>rw [Bool.and_false]
  ·rename_i c4;have e:(b.step x).lv c=false:=by
    cases h:(b.step x).lv c with
    | false=>rfl
    | true=>have:=Bz h;have:=hI.N4;omega
   rw [e];cases h:(g.fq b x).1.live c with
   | false=>rfl
   | true =>
    have:=EP hg x h;have:=hI.N4;omega
 ·have hc:(if c<4 then (g.fq b x).1.live c && (b.step x).lv c else (g.fq b x).1.live c)=false:=hc;show (if c<4/\_ then [] else (g.fq b x).1.own c)=[];split
  ·rfl
  ·rename_i hx;split at hc
   ·rename_i c4;cases hl:(g.fq b x).1.live c with
    | false=>exact a4 c hl
    | true=>rw [hl,Bool.true_and] at hc;exact absurd ⟨c4,hl,hc⟩ hx
   ·exact a4 c hc
end Go.Am
