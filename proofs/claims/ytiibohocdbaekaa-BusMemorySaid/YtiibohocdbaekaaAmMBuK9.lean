/- BuK9: BsG BuL GhA GhB BuM. -/
import Derived.Test.YtiibohocdbaekaaAmMBuK8
set_option linter.unusedVariables false
set_option linter.unusedSimpArgs false
set_option linter.unusedSectionVars false
set_option maxRecDepth 100000
open Nat (reduceEqDiff)
namespace Go.Am
open Go.Proofs Ca
open Lang (ints)
variable {M:aL} [MK M]
def jE (l s w:Int) (k:Nat):List No:=(List.range k).map λ (i:Nat)=>gD (i:Int) l s w
def di (l c s w:Int):Bu:=⟨List.replicate l.toNat .zero,List.replicate l.toNat eL,jE l s w c.toNat,[]⟩
def gW (l c s w:Int):Prop:=pU l c/\lV s w
instance (l c s w:Int):Decidable (gW l c s w):=inferInstanceAs (Decidable (_/\_))
theorem DV {l s w:Int} {k i:Nat} {n:No} (h:(jE l s w k)[i]? = some n):i<k/\n=gD (i:Int) l s w:=by
 unfold jE at h;rw [xj,xh] at h;obtain ⟨j,hj,e⟩:=h;have hk:=(qj.1 hj).1;rw [yj] at hk;rw [vn hk] at hj;injection hj with hj;subst hj
 exact ⟨hk,e.symm⟩
theorem I3 (l s w:Int) (k:Nat):(jE l s w k).length=k:=by unfold jE;rw [zg,yj]
structure EN (H0 H:AHeap) (B D mp:Nat) (lv ev nv:AV) (l c s w:Int) (ad:List Na) (own:Nat->Nat):Prop where
 row:H.get B=some (OR [.ptr D 0,nv,.nils,.int .i64 l] xW)
 lt:B<H.next
 d:iv H D mp lv ev c (List.replicate l.toNat .zero) (List.replicate l.toNat (eL,.nils))
 Ky:d9 pJ zT 1 H nv (ad.map Na.r)
 no:∀ (k:Nat) (A:Na),ad[k]? = some A->bY H0 H A.r A.b A.sv A.bv (gD (k:Int) l s w) A.ks
 oB:own B=0
 oD:∀ z,gY D mp lv ev (List.replicate l.toNat (eL,.nils)) z->own z=1
 oN:∀ z,bC nv z->own z=2
 oC:∀ (k:Nat) (A:Na),ad[k]? = some A -> ∀ z,A.w z->own z=4+k
 Ia:H0.next<=B
 loD:∀ z,gY D mp lv ev (List.replicate l.toNat (eL,.nils)) z->H0.next<=z
 HU:∀ z,bC nv z->H0.next<=z
 fr:Fr Em H0 H
theorem bY.base {H0 H1 H:AHeap} {r b:Nat} {sv bv:AV} {n:No} {ks:List Nat} (h:bY H1 H r b sv bv n ks) (f:Fr Em H0 H1):bY H0 H r b sv bv n ks:=by
 have hn:=f.next
 refine ⟨h.row,h.lt,h.ca,⟨?_,f.trans h.bk.fr λ _ q=>.inl q⟩,h.eq,xu hn h.lr,xu hn h.lb,xu hn h.ls,h.n1,h.n2,h.o1,h.o2,h.o3,h.li,h.len⟩;rcases h.bk.own with q|⟨b,m,rest,q0,q1,q2,q3⟩
 ·exact .inl q
 ·exact .inr ⟨b,m,rest,q0,q1,xu hn q2,q3⟩
theorem bY.all {H0 H:AHeap} {r b:Nat} {sv bv:AV} {n:No} {ks:List Nat} (h:bY H0 H r b sv bv n ks) {z:Nat} (hz:eM r b sv bv z):H0.next<=z:=by
 rcases hz with rfl|(rfl|rfl) | hz
 ·exact h.lr
 ·exact h.lb
 ·exact h.ls
 ·exact (h.bk.fresh z hz).1
section
variable {H0 H:AHeap} {B D mp:Nat} {lv ev nv:AV} {l c s w:Int} {ad:List Na} {own:Nat->Nat}
theorem EN.step (h:EN H0 H B D mp lv ev nv l c s w ad own) (hl4:ad.length<=4) {H1:AHeap} {A:Na} (hA:bY H H1 A.r A.b A.sv A.bv (gD (ad.length:Int) l s w) A.ks) {K:bK->(Nat->AV)->Bool->AV->AHeap->Prop}
 (hk:∀ v H2,(∃ H3,Op.store 1 [.ptr B 1,v] H2=some (.undef,H3)/\(∃ own2,EN H0 H3 B D mp lv ev v l c s w (ad ++ [A]) own2)/\Fr (λ z=>z=B\/bC nv z) H H3 /\ ∀ z,bC v z->bC nv z\/H.next<=z)->K (.row [.ptr A.r 0] zT (0,0) true) (Op.sliceTo 1 1) true v H2) :
 aY true (Op.buildSlice zT 1 [.nilp] [(0,1)] [.ptr A.r 0]) λ g o mk=>aY g (Op.append zT 1 8 [nv,mk H1.next] (H1.alloc o)) (K o mk):=by
 have f01:Fr Em H H1:=hA.bk.fr;have m01:=f01.next
 refine iH (e:=zT) (size:=1) (bytes:=8) (Own.em h.Ky f01) (x:=.ptr A.r 0) rfl rfl rfl (by decide) (by rw [zg];omega) (by rw [zg];omega) λ v H2 hv hf hfr=>?_;refine hk v H2 ?_;have low:∀ z,(z=B\/gY D mp lv ev (List.replicate l.toNat (eL,.nils)) z\/bC nv z \/ ∃ k A2,ad[k]? = some A2/\Na.w A2 z)->z<H.next:=λ z hz=>by
  rcases hz with rfl|hz|hz|⟨k,A2,hA2,hz⟩
  ·exact h.lt
  ·exact h.d.low hz
  ·exact Own.lt h.Ky z hz
  ·exact (h.no k A2 hA2).low hz
 have ne:∀ {z k:Nat},own z=k->k ≠ 2 -> ¬ bC nv z:=λ e1 e2 q=>e2 (by rw [<-e1];exact h.oN _ q);have g2:H2.get B=some (OR [.ptr D 0,nv,.nils,.int .i64 l] xW):=by
  rw [hf.ae _ (by have:=h.lt;omega) (ne h.oB (by decide)),f01.ae _ h.lt id];exact h.row
 have o1:bn v=true:=by have:=Sl.one (Own.sl hv);exact this
 have hc:v.cells=[v]:=by cases v<;>first|rfl|cases o1
 have st:=oA g2 (o:=1) (n:=1) (v:=v) (by rw [hc];rfl) (by simp) (by rw [hc,nZ];simpa using o1);rw [hc] at st;have m12:=hf.next
 have fS:Fr (On B) H2 (H2.set B (OR ([AV.ptr D 0,nv,.nils,.int .i64 l].take 1 ++ [v] ++ [AV.ptr D 0,nv,.nils,.int .i64 l].drop (1+1)) xW)):=(Fr.refl H2).set (W:=On B) (.inl rfl) _;have H0n:H0.next<=H.next:=h.fr.next
 have nB:∀ {z k:Nat},own z=k->k ≠ 0 -> ¬ z=B:=λ e1 e2 q=>e2 (by rw [<-e1,q];exact h.oB);have onv:∀ z,bC v z->(bC nv z/\z<H.next)\/H1.next<=z:=λ z hz=>(hfr z hz).elim (λ q=>.inl ⟨q,low z (.inr (.inr (.inl q)))⟩) .inr
 have hfN:Fr (bC nv) H H2:=(f01.mono λ _ _ q=>q.elim).trans hf λ z q=>.inl q;have lowA:∀ z,A.w z->H.next<=z/\z<H1.next:=λ z hz=>⟨hA.all hz,hA.low hz⟩
 refine ⟨_,st,⟨(λ z=>if z<H.next then own z else if z<H1.next then 4+ad.length else 2),xe ..,?_,?_,?_,λ k A2 hA2=>?_,?_,λ z hz=>?_,λ z hz=>?_,λ k A2 hA2 z hz=>?_,h.Ia,h.loD,λ z hz=>?_,?_⟩,(hfN.mono λ z _ q=>.inr q).trans fS λ z (q:z=B)=>.inl (.inl q),λ z hz=>(onv z hz).elim (λ q=>.inl q.1) λ q=>.inr (by omega)⟩
 ·have:=h.lt;show B<H2.next;omega
 ·exact (h.d.fr hfN λ z q w=>ne (h.oD z w) (by decide) q).fr fS λ z q w=>nB (h.oD z w) (by decide) q
 ·have ow:d9 pJ zT 1 H2 v ((ad ++ [A]).map Na.r):=by
   rw [EC];unfold d9;rw [qx,j4];exact hv
  refine Own.fr ow fS λ z hz (q:z=B)=>?_;rcases onv z hz with ⟨w,-⟩|w
  ·exact nB (h.oN z w) (by decide) q
  ·have:=h.lt;omega
 ·by_cases e:k<ad.length
  ·rw [km e] at hA2;refine ((h.no k A2 hA2).off hfN λ z w=>⟨h.HU z w,λ w2=>?_⟩).off fS λ z w=>?_
   ·have:=h.oC k A2 hA2 z w2;have:=h.oN z w;omega
   ·have w:z=B:=w;refine ⟨by rw [w];exact h.Ia,λ w2=>?_⟩;have:=h.oC k A2 hA2 z w2;rw [w,h.oB] at this;omega
  ·have hk:=(qj.1 hA2).1;rw [qx] at hk;have hke:k=ad.length:=by simp only [yi,xK] at hk;omega
   subst hke;rw [jh (qh _),Nat.sub_self] at hA2;injection hA2 with hA2;subst hA2
   refine ((hA.base h.fr).off hf λ z w=>⟨h.HU z w,λ w2=>?_⟩).off fS λ z w=>?_
   ·have:=lowA z w2;have:=low z (.inr (.inr (.inl w)));omega
   ·have w:z=B:=w;refine ⟨by rw [w];exact h.Ia,λ w2=>?_⟩;have:=lowA z w2;have:=h.lt;omega
 ·rw [qm h.lt];exact h.oB
 ·rw [qm (low z (.inr (.inl hz)))];exact h.oD z hz
 ·rcases onv z hz with ⟨w,w2⟩|w
  ·rw [qm w2];exact h.oN z w
  ·rw [qe (by omega),qe (by omega)]
 ·by_cases e:k<ad.length
  ·rw [km e] at hA2;rw [qm (low z (.inr (.inr (.inr ⟨k,A2,hA2,hz⟩))))];exact h.oC k A2 hA2 z hz
  ·have hk:=(qj.1 hA2).1;rw [qx] at hk;have hke:k=ad.length:=by simp only [yi,xK] at hk;omega
   subst hke;rw [jh (qh _),Nat.sub_self] at hA2;injection hA2 with hA2;subst hA2
   have:=lowA z hz;rw [qe (by omega),qm this.2]
 ·rcases onv z hz with ⟨w,-⟩|w
  ·exact h.HU z w
  ·omega
 ·exact ((h.fr.trans f01 λ _ q=>.inl q).trans hf λ z q=>.inr (h.HU z q)).trans fS λ z (q:z=B)=>.inr (by rw [q];exact h.Ia)
theorem EN.done (h:EN H0 H B D mp lv ev nv l c s w ad own) (hl:ad.length=c.toNat) (hc:0<=c) (hl0:0<=l):cR H0 H B ⟨D,mp,lv,ev,List.replicate l.toNat (eL,.nils),nv,.nils,ad⟩ (di l c s w) own:=by
 have hlen:((di l c s w).ns.length:Int)=c:=by show ((jE l s w c.toNat).length:Int)=c;rw [I3];omega
 refine ⟨?_,h.lt,?_,?_,h.Ky,λ k n A hn hA=>?_,?_,Sk.nil _,h.oB,h.oD,h.oN,λ z q=>absurd rfl q.1,h.oC,λ z hz=>?_⟩
 ·rw [h.row];have:((di l c s w).l.length:Int)=l:=by show ((List.replicate l.toNat eL).length:Int)=l;rw [zj];omega
  rw [this]
 ·rw [hlen];exact h.d
 ·show (List.replicate l.toNat (eL,AV.nils)).map Prod.fst=List.replicate l.toNat eL;rw [List.map_replicate]
 ·obtain ⟨-,rfl⟩:=DV hn;exact h.no k A hA
 ·show ad.length=(jE l s w c.toNat).length;rw [I3,hl]
 ·rcases hz with rfl|hz|hz|hz|⟨k,A,hA,hz⟩
  ·exact h.Ia
  ·exact h.loD z hz
  ·exact h.HU z hz
  ·exact absurd rfl hz.1
  ·exact (h.no k A hA).all hz
end
def yZ (H:AHeap) (l c s w:Int) (v:AV) (H':AHeap):Prop:=(¬ gW l c s w/\v=.tuple [.nilp,.int .i64 2]/\Fr Em H H')\/gW l c s w /\ ∃ B bs own,v=.tuple [.ptr B 0,.int .i64 0]/\cR H H' B bs (di l c s w) own/\Fr Em H H'
theorem q3h {H:AHeap} (l c s w:Int):jx M Et [.agg (cB l c s w),.nils] H (yZ H l c s w):=by
 refine q75 ?_;obtain ⟨w0,w4,w12,w14,w41,w19,w58,w46,w25,-,w40,w31,-,w39⟩:=q76 M ⟨none,Et⟩;obtain ⟨H1,e1⟩:∃ X,X=H.alloc (OR (cB l c s w) vx):=⟨_,rfl⟩
 have f1:Fr Em H H1:=by rw [e1];exact (Fr.refl H).alloc _
 have g1:H1.get H.next=some (OR (cB l c s w) vx):=by rw [e1,qy]
 have n1:H1.next=H.next+1:=by rw [e1,xp]
 have ls:∀ {Hx:AHeap} (k:Nat),Fr Em H1 Hx->Op.aa [.ptr H.next k] Hx=(cB l c s w)[k]?:=λ k f=>ze (xb (by rw [f.ae _ (by omega) id];exact g1)) k;have l0:Op.aa [.ptr H.next 0] H1=some (.int .i64 l):=ls 0 (Fr.refl _);have l1:Op.aa [.ptr H.next 1] H1=some (.int .i64 c):=ls 1 (Fr.refl _);simp only [↓qi,xd,reduceIte,reduceEqDiff,w0,x9,<-e1,l0,l1];refine C3.q (q3m (M:=M) l c) λ v H2 ⟨f2,hv⟩=>?_;rcases hv with ⟨hd,rfl⟩|⟨hd,D,mp,lv,ev,rfl,dr,lod⟩
 ·have t2:¬ (2:Int)=0:=by decide
  simp only [↓qi,xd,reduceIte,reduceEqDiff,qr,w4,t2];exact .inl ⟨λ q=>hd q.1,rfl,f1.trans f2 λ _ q=>.inl q⟩
 have t0:=xf (show (0:Int)=0 from rfl);have hd':=hd;obtain ⟨⟨m1,m2⟩,c1,c2⟩:=hd';have l02:Op.aa [.ptr H.next 0] H2=some (.int .i64 l):=ls 0 f2;have hln:Op.bJ [.nils]=some (.int .i64 0):=rfl;have q0:¬ l<0:=by omega
 have bd:Op.build [.nilp,.nils,.nils,.int .i64 0] [(0,1),(3,1)] [.ptr D 0,.int .i64 l]=some (.agg [.ptr D 0,.nils,.nils,.int .i64 l]):=rfl;obtain ⟨H3,e3⟩:∃ X,X=H2.alloc (OR [.ptr D 0,.nils,.nils,.int .i64 l] xW):=⟨_,rfl⟩
 have f3:Fr Em H2 H3:=by rw [e3];exact (Fr.refl H2).alloc _
 have n3:H3.next=H2.next+1:=by rw [e3,xp]
 have g3:H3.get H2.next=some (OR [.ptr D 0,.nils,.nils,.int .i64 l] xW):=by rw [e3,qy]
 have f13:Fr Em H1 H3:=f2.trans f3 λ _ q=>q.elim;have lF:Op.aa [.ptr H.next 1] H3=some (.int .i64 c):=ls 1 f13;have m12:=f2.next
 have d3:=dr.em f3;have i3:EN H H3 H2.next D mp lv ev .nils l c s w [] (λ z=>if z=H2.next then 0 else 1) :=
  ⟨g3,by omega,d3,Own.nil ..,λ k A hA=>by simp at hA,qm rfl,λ z hz=>by rw [qe (by have:=dr.low hz;omega)],λ z hz=>absurd rfl hz.1,λ k A hA=>by simp at hA,by omega,λ z hz=>by have:=lod z hz;omega,λ z hz=>absurd rfl hz.1,f1.trans f13 λ _ q=>q.elim⟩
 simp only [↓qi,xd,reduceIte,reduceEqDiff,qr,w4,t0,hln,l02,q0,w12,bd,x9,<-e3,w14,lF];obtain ⟨cn,rfl⟩:=ke (show 0<=c by omega)
 -- what the loop leaves of the message's box
 refine bu.intro (λ k E Hx=>∃ (ad:List Na) (nv:AV) (own:Nat->Nat),E=[(38,.int .i64 (ad.length:Int)),(37,.int .i64 ((cn:Nat):Int)),(2,.ptr H.next 0),(8,.ptr H2.next 0),(1,.nils),(6,.ptr D 0)]/\k=cn-ad.length/\ad.length<=cn/\EN H Hx H2.next D mp lv ev nv l cn s w ad own/\(0<ad.length->lV s w)/\Hx.get H.next=some (OR (cB l cn s w) vx)/\H3.next<=Hx.next /\ ∀ z,bC nv z->H3.next<=z) ?_ ?_
 ·exact ⟨_,_,⟨[],.nils,_,rfl,rfl,zq _,i3,λ q=>absurd q (by simp),by rw [f13.ae _ (by omega) id];exact g1,qh _,λ z hz=>absurd rfl hz.1⟩,by simp only [↓qi,xd,reduceIte,reduceEqDiff];rfl⟩
 rintro k E Hx ⟨ad,nv,own,rfl,rfl,hi,hI,hok,hg,hnx,hnv⟩;rcases jr ad.length cn with hlt|hge
 ·have q1:(ad.length:Int)<((cn:Nat):Int):=by omega
  have ldS:=fm (e:=vx) hg (show (cB l (cn:Int) s w).length=4 from rfl);simp only [↓qi,xd,reduceIte,reduceEqDiff,w19,q1,w25,ldS];refine C3.q (q2e (M:=M) (ad.length:Int) l (cn:Int) s w) λ v Ha hv=>?_;rcases hv with ⟨hno,rfl,fa⟩|⟨hno,r,b,sv,rfl,hnr⟩
  ·have t2:¬ (2:Int)=0:=by decide
   simp only [↓qi,xd,reduceIte,reduceEqDiff,qr,w31,t2];refine .inl ⟨λ q=>hno ⟨q.2,by omega,by omega,by omega,m1,m2⟩,rfl,hI.fr.trans fa λ _ q=>.inl q⟩
  ·have lB:Op.aa [.ptr H2.next 1] Ha=some nv:=by
    have fa:=hnr.bk.fr;rw [ze (xb (by rw [fa.ae _ hI.lt id];exact hI.row))];rfl
   have wj:aW .i64 ((ad.length:Int)+1)=((ad.length+1:Nat):Int):=by rw [vl (by omega) (by omega)];omega
   simp only [↓qi,xd,reduceIte,reduceEqDiff,qr,w31,t0,w39,qg,lB];refine hI.step (by omega) (A:=⟨r,b,sv,.nils,[]⟩) hnr λ v2 Hb ⟨Hc,sc,⟨own2,hc⟩,fc,oc⟩=>?_;have hgc:Hc.get H.next=some (OR (cB l (cn:Int) s w) vx):=by
    rw [fc.ae _ (by omega) (λ q=>q.elim (λ q=>by omega) λ q=>by have:=hnv _ q;omega)];exact hg
   simp only [↓qi,xd,reduceIte,reduceEqDiff,qg,sc,w40,wj];refine ⟨_,_,⟨ad ++ [⟨r,b,sv,.nils,[]⟩],v2,own2,rfl,rfl,by rw [qx];simp;omega,hc,λ _=>hno.1,hgc,xu hnx fc.next,λ z hz=>(oc z hz).elim (hnv z) λ q=>xu hnx q⟩,by simp only [↓qi,xd,reduceIte,reduceEqDiff,qx,yi,xK],by rw [qx];simp;omega⟩
 ·have hiw:ad.length=cn:=by omega
  have q1:¬ (ad.length:Int)<((cn:Nat):Int):=by omega
  have z00:¬ (0:Int)<0:=by decide
  simp only [↓qi,xd,reduceIte,reduceEqDiff,w19,q1,w41,hln];refine bu.intro (λ k E Hy=>E=[(62,.int .i64 0),(61,.int .i64 0),(8,.ptr H2.next 0)]/\k=0/\Hy=Hx) ?_ ?_
  ·exact ⟨_,_,⟨rfl,rfl,rfl⟩,by simp only [↓qi,xd,reduceIte,reduceEqDiff]⟩
  rintro k E Hy ⟨rfl,rfl,rfl⟩;simp only [↓qi,xd,reduceIte,reduceEqDiff,w46,z00,w58];exact .inr ⟨⟨hd,hok (by omega)⟩,_,_,own,rfl,hI.done (by omega) (by omega) (by omega),hI.fr⟩
end Go.Am
namespace Go.Am
open Ca
theorem AG {c l:Int} (h0:0<=c):LC eL c 0 0 0 (qs [] c l) 0 0:=by
 have e:cC (-1) c=0:=mi (by omega);have z:∀ {p:Prop},0<0->p:=λ q=>absurd q (wN 0);have z3:∀ {p:Prop},(0:Int)=3->p:=λ q=>absurd q (by decide);have z1:∀ {p:Prop},(0:Int)=1->p:=λ q=>absurd q (by decide);have z2:∀ {p:Prop},(0:Int)=2->p:=λ q=>absurd q (by decide);exact ⟨rfl,rfl,rfl,rfl,rfl,z,z,rfl,z,z,e.symm,z1,z1,z2,z,λ q=>q.elim z z3,z,z,by decide,by decide,by decide⟩
theorem q5i {co l s w i:Int}:(gD co l s w).vw i=.no:=by
 show (ic s.toNat w.toNat).vw i=.no;apply gN;unfold Ca.find Ca.pos;split
 ·rfl
 ·rw [CY]
  ·rfl
  ·intro j _;unfold Ca.iF;rw [JW];rfl
theorem tw {l c s w:Int} (h:gW l c s w):BuI (di l c s w) λ _=>.zero:=by
 obtain ⟨⟨⟨l0,l1⟩,c0,c1⟩,hs⟩:=h;have hN:(di l c s w).ns.length=c.toNat:=I3 ..;have hL:((di l c s w).l.length:Int)=l:=by show ((List.replicate l.toNat eL).length:Int)=l;rw [zj];omega
 have hcz:∀ (i d:Int),(di l c s w).s i d=0/\(di l c s w).ot i d=0/\(di l c s w).bk i d=0:=λ i d=>by
  unfold Bu.s Bu.ot Bu.bk;cases hn:(di l c s w).ns[d.toNat]? with
  | none=>exact ⟨rfl,rfl,rfl⟩
  | some n =>
   obtain ⟨-,rfl⟩:=DV hn;refine ⟨by show ((gD _ l s w).vw i).st=0;rw [q5i];rfl,?_,?_⟩
   ·show (if (0:Int)=i then (0:Int) else 0)=0;split<;>rfl
   ·show (if i ∈ ([]:List Int) then 1 else 0)=0;simp
 refine ⟨by rw [hN];omega,?_,λ k n hn=>?_,λ m hm=>(nomatch hm),λ i x y hx hy=>?_,λ k n hn i hi=>?_⟩
 ·show (List.replicate l.toNat L8.zero).length=(List.replicate l.toNat eL).length;rw [zj,zj]
 ·obtain ⟨hk,rfl⟩:=DV hn;exact ⟨sM (cores:=c) ⟨hs,by omega,by omega,by omega,l0,l1⟩,rfl,by rw [hL];rfl,.inl rfl,λ z hz=>(nomatch hz)⟩
 ·have hx:(List.replicate l.toNat eL)[i]? = some x:=hx;have hy:(List.replicate l.toNat L8.zero)[i]? = some y:=hy;rw [Gg] at hx hy;split at hx
  ·rename_i q;rw [qm q] at hy;injection hx with hx;injection hy with hy
   subst hx hy;rw [hN];refine ⟨⟨by omega,by decide,⟨by decide,by show (-1:Int)<_;omega⟩,by decide,by decide,λ d _ _ q=>?_,λ q=>absurd rfl q,λ q=>?_,λ q=>?_,λ q=>?_,λ q=>?_,λ q=>rfl,λ m hm=>(nomatch hm)⟩,λ _=>rfl,λ d d0 d1=>?_,λ _=>rfl,λ m hm=>(nomatch hm)⟩
   ·have:hb 0 d=1:=q;rw [rz] at this;cases this
   ·exact absurd (show (0:Int)=1 from q) (by decide)
   ·exact absurd (show (0:Int)=2 from q) (by decide)
   ·exact absurd (show (0:Int)=3 from q) (by decide)
   ·exact absurd (show (0:Int)=4 from q) (by decide)
   ·obtain ⟨a1,a2,a3⟩:=hcz i d;rw [a1,a2,a3];exact AG d0
  ·cases hx
 ·obtain ⟨-,rfl⟩:=DV hn;exact absurd (show ((gD _ l s w).vw i).st=0 by rw [q5i];rfl) hi
structure Bt where
 k:Int
 c:Int
 n:Int
 v:Int
 o:Int
def No.call (n:No) (x:Bt):No × List Mg :=
 if x.k=0 then ((n.load x.n).1,(n.load x.n).2.2.2.1)
 else if x.k=1 then ((n.store x.n x.v).1,(n.store x.n x.v).2.2.1)
 else if x.k=2 then n.dP x.n x.o x.v
 else if x.k=3 then (n.begin,[])
 else if x.k=4 then (n.bl,[])
 else if x.k=5 then ((n.abort x.n).1,[])
 else if x.k=6 then n.aO x.n
 else (n,[])
def Bu.step (b:Bu) (x:Bt):Bu :=
 if x.k=7 then if 0<=x.n/\x.n<b.fl.length then b.tG x.n.toNat else b
 else if 0<=x.c then match b.ns[x.c.toNat]? with
  | none=>b
  | some n=>b.put x.c.toNat (n.call x)
 else b
noncomputable def fw (b:Bu) (V:Int->L8) (x:Bt):Int->L8 :=
 if 0<=x.c then match b.ns[x.c.toNat]? with
  | none=>V
  | some n=>if x.k=1 then if (n.store x.n x.v).2.1=true then fY V n.live x.n x.v else V
   else if x.k=2 then if BuI.oZ n x.n x.o then fY V false x.n x.v else V
   else if x.k=4 then λ l=>if n.live=true/\n.st l=2 then (n.vw l).d else V l
   else V
 else V
theorem Hg {b:Bu} {V:Int->L8} (h:BuI b V) (i:Nat):BuI (b.tG i) V:=by
 unfold Bu.tG;cases hm:b.fl[i]? with
 | none=>exact h
 | some m =>
  have hil:=(qj.1 hm).1;have hf:b.fl=b.fl.take i++m::b.fl.drop (i+1):=by
   rw [<-(qj.1 hm).2,<-List.drop_eq_getElem_cons hil,kn]
  have he:b.fl.eraseIdx i=b.fl.take i++b.fl.drop (i+1):=List.eraseIdx_eq_take_drop_succ ..;obtain ⟨mk,mc,ml⟩:=h.mw m (ja hm);simp only;rw [he]
  by_cases k7:m.k<=7
  ·rw [qm k7];obtain ⟨x,w,hx,hw,-⟩:=h.entry ml.1 ml.2;rw [hx,hw];exact h.DC hf k7 hx hw
  ·rw [qe k7];obtain ⟨n,hn,-⟩:=h.core mc.1 mc.2;rw [hn];exact h.yV hf hn (by omega) (by omega)
theorem tj {b:Bu} {V:Int->L8} (h:BuI b V) (x:Bt):BuI (b.step x) (if x.k=7 then V else fw b V x):=by
 unfold Bu.step
 by_cases k7:x.k=7
 ·rw [qm k7,qm k7];split
  ·exact Hg h _
  ·exact h
 rw [qe k7,qe k7];unfold fw
 by_cases c0:0<=x.c
 ·rw [qm c0,qm c0];cases hn:b.ns[x.c.toNat]? with
  | none=>exact h
  | some n =>
   simp only;unfold No.call
   by_cases k0:x.k=0
   ·rw [qm k0,qe (by omega),qe (by omega),qe (by omega)];exact h.zU hn _
   rw [qe k0]
   by_cases k1:x.k=1
   ·rw [qm k1,qm k1];exact h.tK hn _ _
   rw [qe k1,qe k1]
   by_cases k2:x.k=2
   ·rw [qm k2,qm k2];exact h.Cg hn _ _ _
   rw [qe k2,qe k2]
   by_cases k3:x.k=3
   ·rw [qm k3,qe (by omega)];exact h.uR hn
   rw [qe k3]
   by_cases k4:x.k=4
   ·rw [qm k4,qm k4];exact h.qM hn
   rw [qe k4,qe k4]
   by_cases k5:x.k=5
   ·rw [qm k5];exact h.uP hn _
   rw [qe k5]
   by_cases k6:x.k=6
   ·rw [qm k6];exact h.Ae hn _
   rw [qe k6,rE hn];exact h
 ·rw [qe c0,qe c0];exact h
structure BC (b:Bu) (k:Nat):Prop where
 fl:b.fl.length<=5*k
 no:∀ (c:Nat) n,b.ns[c]? = some n->n.au.length<=k/\n.c.us<=2*(k:Int)
 wt:∀ x ∈ b.l,x.wt.length<=k
theorem BC.mono {b:Bu} {k k':Nat} (h:BC b k) (hk:k<=k'):BC b k':=⟨xu h.fl (by omega),λ c n hn=>by have:=h.no c n hn;omega,λ x hx=>xu (h.wt x hx) hk⟩
theorem BC.bb {b:Bu} {V:Int->L8} {k:Nat} (h:BC b k) (hI:BuI b V) (hk:k<=2000):BB b:=⟨hI.N4,by have:=h.fl;omega,λ c n hn=>by have:=h.no c n hn;exact ⟨(hI.nw c n hn).ni,by omega,by omega⟩⟩
theorem sR {l c s w:Int}:BC (di l c s w) 0:=by
 refine ⟨qh _,λ k n hn=>?_,λ x hx=>?_⟩
 ·obtain ⟨-,rfl⟩:=DV hn;exact ⟨qh _,Int.le_refl _⟩
 ·rw [List.eq_of_mem_replicate (show x ∈ List.replicate l.toNat eL from hx)];exact qh _
theorem G8 {b:Bu} {k c:Nat} {n n':No} {o:List Mg} (h:BC b k) (hn:b.ns[c]? = some n) (hb:Bd n n') (ho:o.length<=5):BC (b.put c (n',o)) (k+1):=by
 have hl:=(qj.1 hn).1;refine ⟨?_,λ d y hy=>?_,λ x hx=>FR (h.wt x hx)⟩
 ·show (b.fl++o).length<=_;rw [qx];have:=h.fl;omega
 ·have hy:(b.ns.set c n')[d]? = some y:=hy
  by_cases q:d=c
  ·rw [q,xg hl] at hy;injection hy with hy;subst hy
   obtain ⟨a1,a2⟩:=hb;have:=h.no c n hn;omega
  ·rw [xt (ve q)] at hy;have:=h.no d y hy;omega
theorem q44 (x:De) (w:L8):(x.bI w).1.wt=x.wt:=by
 unfold De.bI
 repeat' split
 all_goals rfl
theorem q4p (x:De) (n:Mg) (w:L8):(x.begin n w).1.wt=x.wt:=by
 unfold De.begin;split
 ·rfl
 ·split
  ·exact q44 _ w
  ·rfl
theorem IU (x:De) (w:L8) (q:Prop) [Decidable q] (r:List Mg):(x.nU w q r).1.wt=x.wt:=by
 unfold De.nU;split
 ·exact q44 x w
 ·rfl
theorem zH (x:De) (w:L8) (m:Mg):(x.az w m).1.wt.length<=x.wt.length+1:=by
 unfold De.az;split;· exact ki _
 split
 ·split
  ·simp
  ·rw [q4p];exact ki _
 split;· rw [IU];show x.wt.length<=_;omega
 split;· rw [IU];show x.wt.length<=_;omega
 split;· rw [IU];show x.wt.length<=_;omega
 split;· rw [IU];show x.wt.length<=_;omega
 cases h:x.wt with
 | nil=>simp [h]
 | cons n r=>simp only;rw [q4p];simp only [yi];omega
theorem EE (n:No) (x:Bt):Bd n (n.call x).1/\(n.call x).2.length<=5:=by
 unfold No.call;split;· exact ⟨Ak n _,xu (q5a n _) (by decide)⟩
 split;· exact ⟨vM n _ _,xu (q2x n _ _) (by decide)⟩
 split;· exact ⟨EI n _ _ _,xu (q8a n _ _ _) (by decide)⟩
 split
 ·refine ⟨?_,zq _⟩;show Bd n n.begin;unfold No.begin;split<;>exact ⟨by show n.au.length<=_;omega,by show n.c.us<=_;omega⟩
 split
 ·refine ⟨?_,zq _⟩;show Bd n n.bl;unfold No.bl;split<;>exact ⟨by show n.au.length<=_;omega,by show n.c.us<=_;omega⟩
 split
 ·refine ⟨?_,zq _⟩;show Bd n (n.abort _).1;unfold No.abort;repeat' split
  all_goals exact ⟨by show n.au.length<=_;omega,by show n.c.us<=_;omega⟩
 split;· exact ⟨xE n _,xu (q1n n _) (by decide)⟩
 exact ⟨Bd.refl n,zq _⟩
theorem G9 {b:Bu} {k:Nat} (h:BC b k) (i:Nat):BC (b.tG i) (k+1):=by
 unfold Bu.tG;cases hm:b.fl[i]? with
 | none=>exact h.mono (ki k)
 | some m =>
  have hfl:=h.fl;have he:(b.fl.eraseIdx i).length<=b.fl.length:=List.length_eraseIdx_le ..;simp only
  by_cases k7:m.k<=7
  ·rw [qm k7];cases hx:b.l[m.line.toNat]? with
   | none=>exact h.mono (ki k)
   | some x =>
    cases hw:b.m[m.line.toNat]? with
    | none=>exact h.mono (ki k)
    | some w =>
     refine ⟨?_,λ c n hn=>by have:=h.no c n hn;omega,λ y hy=>?_⟩
     ·show (b.fl.eraseIdx i++(x.az w m).2.2).length<=_;rw [qx];have:=q1x x w m;omega
     ·have hy:y ∈ b.l.set m.line.toNat (x.az w m).1:=hy;rcases List.mem_or_eq_of_mem_set hy with q|rfl
      ·exact FR (h.wt y q)
      ·have:=zH x w m;have:=h.wt x (ja hx);omega
  ·rw [qe k7];cases hn:b.ns[m.core.toNat]? with
   | none=>exact h.mono (ki k)
   | some n =>
    have hl:=(qj.1 hn).1;refine ⟨?_,λ d y hy=>?_,λ x hx=>FR (h.wt x hx)⟩
    ·show (b.fl.eraseIdx i++(n.az m).2).length<=_;rw [qx];have:=q46 n m;omega
    ·have hy:(b.ns.set m.core.toNat (n.az m).1)[d]? = some y:=hy
     by_cases q:d=m.core.toNat
     ·rw [q,xg hl] at hy;injection hy with hy;subst hy
      obtain ⟨a1,a2⟩:=Ao n m;have:=h.no _ n hn;omega
     ·rw [xt (ve q)] at hy;have:=h.no d y hy;omega
theorem t9 {b:Bu} {k:Nat} (h:BC b k) (x:Bt):BC (b.step x) (k+1):=by
 unfold Bu.step;split
 ·split
  ·exact G9 h _
  ·exact h.mono (ki k)
 split
 ·cases hn:b.ns[x.c.toNat]? with
  | none=>exact h.mono (ki k)
  | some n=>obtain ⟨a1,a2⟩:=EE n x;exact G8 h hn a1 a2
 ·exact h.mono (ki k)
end Go.Am
namespace Go.Am
open Go.Proofs Ca
open Lang (ints)
variable {M:aL} [MK M]
structure Pr where
 a:Int
 v:Int
def fD (p:Pr):List AV:=[.int .i64 p.a,.int .u64 p.v]
def mj (x:Int):List AV:=[.int .u64 x]
theorem GJ (p:Pr):(fD p).length=2:=rfl
theorem Fy (x:Int):(mj x).length=1:=rfl
structure Gh where
 w:List Int
 own:Nat->List Pr
 live:Nat->Bool
structure Gs where
 wv:AV
 ov:Nat->AV
def fZ {α:Type} (f:Nat -> α) (i:Nat) (x:α) (j:Nat):α:=if j=i then x else f j
theorem rB {α:Type} (f:Nat -> α) (i:Nat) (x:α):fZ f i x i=x:=qm rfl
theorem pz {α:Type} {f:Nat -> α} {i j:Nat} {x:α} (h:j ≠ i):fZ f i x j=f j:=qe h
def gC (s:Gs) (g:Gh):List AV:=[s.wv,s.ov 0,s.ov 1,s.ov 2,s.ov 3,.bool (g.live 0),.bool (g.live 1),.bool (g.live 2),.bool (g.live 3)]
def tc (G:Nat) (s:Gs) (z:Nat):Prop:=z=G\/z=aN s.wv \/ ∃ c,c<4/\bC (s.ov c) z
structure gQ (H0 H:AHeap) (G:Nat) (s:Gs) (g:Gh) (tg:Nat->Nat):Prop where
 row:H.get G=some (OR (gC s g) wy)
 lt:G<H.next
 w:dp mj Ik 1 H s.wv g.w
 own:∀ c,c<4->d9 fD wF 2 H (s.ov c) (g.own c)
 oG:tg G=4
 oW:tg (aN s.wv)=5
 oO:∀ c,c<4 -> ∀ z,bC (s.ov c) z->tg z=c
 lo:∀ z,tc G s z->H0.next<=z
section
variable {H0 H:AHeap} {G:Nat} {s:Gs} {g:Gh} {tg:Nat->Nat}
theorem gQ.low (h:gQ H0 H G s g tg) {z:Nat} (hz:tc G s z):z<H.next:=by
 rcases hz with rfl|rfl|⟨c,hc,hz⟩
 ·exact h.lt
 ·exact h.w.lt
 ·exact Own.lt (h.own c hc) z hz
theorem gQ.fr {H':AHeap} {W:Nat->Prop} (h:gQ H0 H G s g tg) (f:Fr W H H') (hw:∀ z,W z -> ¬ tc G s z):gQ H0 H' G s g tg :=
 ⟨by rw [f.ae _ h.lt λ q=>hw _ q (.inl rfl)];exact h.row,qp h.lt f.next,h.w.fr f λ q=>hw _ q (.inr (.inl rfl)),λ c hc=>Own.fr (h.own c hc) f λ z hz q=>hw _ q (.inr (.inr ⟨c,hc,hz⟩)),h.oG,h.oW,h.oO,h.lo⟩
theorem gQ.em {H':AHeap} (h:gQ H0 H G s g tg) (f:Fr Em H H'):gQ H0 H' G s g tg:=h.fr f λ z q=>q.elim
theorem C4 (s:Gs) (g:Gh) {c:Nat} (hc:c<4):(gC s g)[1+c]? = some (s.ov c):=by
 match c,hc with
 | 0,_=>rfl
 | 1,_=>rfl
 | 2,_=>rfl
 | 3,_=>rfl
theorem Aw (s:Gs) (g:Gh) {c:Nat} (hc:c<4):(gC s g)[5+c]? = some (.bool (g.live c)):=by
 match c,hc with
 | 0,_=>rfl
 | 1,_=>rfl
 | 2,_=>rfl
 | 3,_=>rfl
theorem xG (s:Gs) (g:Gh) {c:Nat} (hc:c<4) (v:AV):(gC s g).take (1+c) ++ [v]++(gC s g).drop (1+c+1)=gC { s with ov:=fZ s.ov c v } g:=by
 match c,hc with
 | 0,_=>rfl
 | 1,_=>rfl
 | 2,_=>rfl
 | 3,_=>rfl
theorem yM (s:Gs) (g:Gh) {c:Nat} (hc:c<4) (v:Bool):(gC s g).take (5+c) ++ [AV.bool v]++(gC s g).drop (5+c+1)=gC s { g with live:=fZ g.live c v }:=by
 match c,hc with
 | 0,_=>rfl
 | 1,_=>rfl
 | 2,_=>rfl
 | 3,_=>rfl
theorem I6 (k:Nat) {c:Nat} (hc:c<4):Op.aT 4 1 [.ptr G k,.int .i64 (c:Int)]=some (.ptr G (k+c)):=by
 have:=Nu (len:=4) (size:=1) (b:=G) (o:=k) (k:=.i64) (j:=(c:Int)) (i:=c) rfl hc;rw [this,Dm]
theorem JG (k:Nat) {c:Nat} {z:Int} (hz:z=(c:Int)) (hc:c<4):Op.aT 4 1 [.ptr G k,.int .i64 z]=some (.ptr G (k+c)):=by rw [hz];exact I6 k hc
theorem gQ.l0 (h:gQ H0 H G s g tg):Op.aa [.ptr G 0] H=some s.wv:=ze (xb h.row) 0
theorem gQ.lO (h:gQ H0 H G s g tg) {c:Nat} (hc:c<4):Op.aa [.ptr G (1+c)] H=some (s.ov c):=by rw [ze (xb h.row)];exact C4 s g hc
theorem gQ.lL (h:gQ H0 H G s g tg) {c:Nat} (hc:c<4):Op.aa [.ptr G (5+c)] H=some (.bool (g.live c)):=by rw [ze (xb h.row)];exact Aw s g hc
def BJ (H0 H:AHeap) (G:Nat) (s:Gs) (g':Gh) (H':AHeap):Prop:=∃ s' tg',gQ H0 H' G s' g' tg'/\(∀ z,tc G s' z->tc G s z\/H.next<=z)/\Fr (tc G s) H H'
theorem gQ.same (h:gQ H0 H G s g tg) {H':AHeap} (f:Fr Em H H'):BJ H0 H G s g H':=⟨s,tg,h.em f,λ _ q=>.inl q,f.mono λ _ _ q=>q.elim⟩
theorem BJ.then {H1 H2:AHeap} {s1:Gs} {g':Gh} (f1:Fr (tc G s) H H1) (hs:∀ z,tc G s1 z->tc G s z\/H.next<=z) (h:BJ H0 H1 G s1 g' H2):BJ H0 H G s g' H2:=by
 obtain ⟨s2,t2,h2,q2,f2⟩:=h;have:=f1.next
 exact ⟨s2,t2,h2,λ z hz=>(q2 z hz).elim (hs z) λ w=>.inr (by omega),f1.trans f2 hs⟩
theorem gQ.jJ (h:gQ H0 H G s g tg) {c:Nat} (hc:c<4) (v:Bool):∃ H',Op.store 1 [.ptr G (5+c),.bool v] H=some (.undef,H')/\gQ H0 H' G s { g with live:=fZ g.live c v } tg/\Fr (On G) H H':=by
 have st:=oA h.row (o:=5+c) (n:=1) (v:=.bool v) rfl (by show 5+c+1<=9;omega) rfl;have f:Fr (On G) H _:=(Fr.refl H).set (W:=On G) (.inl rfl) (OR (gC s { g with live:=fZ g.live c v }) wy);have e:(gC s g).take (5+c)++(AV.bool v).cells++(gC s g).drop (5+c+1)=gC s { g with live:=fZ g.live c v }:=yM s g hc v;rw [e] at st;refine ⟨_,st,⟨xe ..,qp h.lt f.next,h.w.fr f λ (q:_=G)=>?_,λ d hd=>Own.fr (h.own d hd) f λ z hz (q:z=G)=>?_,h.oG,h.oW,h.oO,h.lo⟩,f⟩
 ·have:=h.oW;rw [q,h.oG] at this;cases this
 ·have:=h.oO d hd z hz;rw [q,h.oG] at this;omega
theorem gQ.Ir (h:gQ H0 H G s g tg) {c:Nat} (hc:c<4) {v:AV} {xs:List Pr} {H1:AHeap} (f1:Fr (bC (s.ov c)) H H1) (hv:d9 fD wF 2 H1 v xs) (ho:∀ z,bC v z->bC (s.ov c) z\/H.next<=z) (h1:bn v=true) :
 ∃ H',Op.store 1 [.ptr G (1+c),v] H1=some (.undef,H')/\BJ H0 H G s { g with own:=fZ g.own c xs } H' /\ ∃ tg',gQ H0 H' G { s with ov:=fZ s.ov c v } { g with own:=fZ g.own c xs } tg':=by
 have hne:∀ {z k:Nat},tg z=k->k ≠ c -> ¬ bC (s.ov c) z:=λ e1 e2 q=>e2 (by rw [<-e1];exact h.oO c hc _ q);have hcl:v.cells=[v]:=by cases v<;>first|rfl|cases h1
 have gG:H1.get G=some (OR (gC s g) wy):=by rw [f1.ae _ h.lt (hne h.oG (by omega))];exact h.row
 have st:=oA gG (o:=1+c) (n:=1) (v:=v) (by rw [hcl];rfl) (by show 1+c+1<=9;omega) (by rw [hcl,nZ];simpa using h1);rw [hcl,xG s g hc v] at st;obtain ⟨H2,e2⟩:∃ X,X=H1.set G (OR (gC { s with ov:=fZ s.ov c v } g) wy):=⟨_,rfl⟩
 rw [<-e2] at st;have g2:H2.get G=some (OR (gC { s with ov:=fZ s.ov c v } g) wy):=by rw [e2];exact xe ..
 have f2:Fr (On G) H1 H2:=by rw [e2];exact (Fr.refl H1).set (W:=On G) (.inl rfl) _
 have m1:=f1.next
 have vG:∀ z,bC v z->z ≠ G:=λ z hz q=>(ho z hz).elim (λ w=>hne h.oG (by omega) (by rw [<-q];exact w)) λ w=>by have:=h.lt;omega
 have hr:gQ H0 H2 G { s with ov:=fZ s.ov c v } { g with own:=fZ g.own c xs } (λ z=>if z<H.next then tg z else c):=by
  refine ⟨g2,qp h.lt (xu m1 f2.next),(h.w.fr f1 (hne h.oW (by omega))).fr f2 λ (q:_=G)=>?_,λ d hd=>?_,by rw [qm h.lt];exact h.oG,by rw [qm h.w.lt];exact h.oW,λ d hd z hz=>?_,λ z hz=>?_⟩
  ·have:=h.oW;rw [q,h.oG] at this;cases this
  ·by_cases q:d=c
   ·subst q;show d9 fD wF 2 _ (fZ s.ov d v d) (fZ g.own d xs d);rw [rB,rB];exact Own.fr hv f2 λ z hz=>vG z hz
   ·show d9 fD wF 2 _ (fZ s.ov c v d) (fZ g.own c xs d);rw [pz q,pz q];refine Own.fr (Own.fr (h.own d hd) f1 λ z hz=>hne (h.oO d hd z hz) q) f2 λ z hz (w:z=G)=>?_;have:=h.oO d hd z hz;rw [w,h.oG] at this;omega
  ·have hz:bC (fZ s.ov c v d) z:=hz
   by_cases q:d=c
   ·subst q;rw [rB] at hz;rcases ho z hz with w|w
    ·rw [qm (Own.lt (h.own d hd) z w)];exact h.oO d hd z w
    ·rw [qe (by omega)]
   ·rw [pz q] at hz;rw [qm (Own.lt (h.own d hd) z hz)];exact h.oO d hd z hz
  ·rcases hz with hz|hz|⟨d,hd,hz⟩
   ·exact h.lo z (.inl hz)
   ·exact h.lo z (.inr (.inl hz))
   ·have hz:bC (fZ s.ov c v d) z:=hz
    by_cases q:d=c
    ·subst q;rw [rB] at hz;rcases ho z hz with w|w
     ·exact h.lo z (.inr (.inr ⟨d,hd,w⟩))
     ·have:=h.lo G (.inl rfl);have:=h.lt;omega
    ·rw [pz q] at hz;exact h.lo z (.inr (.inr ⟨d,hd,hz⟩))
 refine ⟨_,st,⟨_,_,hr,λ z hz=>?_,(f1.mono λ z _ q=>.inr (.inr ⟨c,hc,q⟩)).trans f2 λ z (q:z=G)=>.inl (.inl q)⟩,_,hr⟩;rcases hz with hz|hz|⟨d,hd,hz⟩
 ·exact .inl (.inl hz)
 ·exact .inl (.inr (.inl hz))
 ·have hz:bC (fZ s.ov c v d) z:=hz
  by_cases q:d=c
  ·subst q;rw [rB] at hz;exact (ho z hz).elim (λ w=>.inl (.inr (.inr ⟨d,hd,w⟩))) .inr
  ·rw [pz q] at hz;exact .inl (.inr (.inr ⟨d,hd,hz⟩))
theorem gQ.uv (h:gQ H0 H G s g tg) {z:Int} (h0:0<=z) (hi:z<g.w.length) (y:Int):∃ p H',Op.aP 1 [s.wv,.int .i64 z]=some p/\Op.store 1 [p,.int .u64 y] H=some (.undef,H')/\gQ H0 H' G s { g with w:=g.w.set z.toNat y } tg/\Fr (On (aN s.wv)) H H':=by
 have hi:z.toNat<g.w.length:=by omega
 have hx:g.w[z.toNat]? = some (g.w[z.toNat]'hi):=qz hi;have ix:=(h.w.sl Fy).idx hx (z:=z) (by omega) .i64;obtain ⟨H',st,hw,f⟩:=h.w.Al Fy hx (y:=y) (j:=0) (u:=.int .u64 y) (by decide) rfl rfl;refine ⟨_,H',ix,st,⟨?_,qp h.lt f.next,hw,λ d hd=>Own.fr (h.own d hd) f λ z hz (q:z=aN s.wv)=>?_,h.oG,h.oW,h.oO,h.lo⟩,f⟩
 ·rw [f.ae _ h.lt λ (q:G=aN s.wv)=>?_];exact h.row;have:=h.oW;rw [<-q,h.oG] at this;cases this
 ·have:=h.oO d hd z hz;rw [q,h.oW] at this;omega
theorem gQ.Ep (h:gQ H0 H G s g tg) {z x:Int} (h0:0<=z) (hx:g.w[z.toNat]? = some x):∃ p,Op.aP 1 [s.wv,.int .i64 z]=some p/\Op.aa [p] H=some (.int .u64 x) :=
 ⟨_,(h.w.sl Fy).idx hx (z:=z) (by omega) .i64,(h.w.sl Fy).aa Fy hx (j:=0) (by decide)⟩
end
end Go.Am
namespace Go.Am
open Go.Proofs Ca
open Lang (ints)
variable {M:aL} [MK M]
def dM (l:List Pr) (a:Int):Option Int:=(l.reverse.find? λ p=>p.a=a).map Pr.v
theorem q84 (a:Int):dM [] a=none:=rfl
theorem Nj (l:List Pr) (p:Pr) (a:Int):dM (l ++ [p]) a=if p.a=a then some p.v else dM l a:=by
 unfold dM;rw [List.reverse_append];show ((p::l.reverse).find? _).map _=_;rw [List.find?_cons]
 by_cases q:p.a=a
 ·simp [q]
 ·simp [q]
section
variable {H0 H:AHeap} {B:Nat} {s:Bs} {b:Bu} {own:Nat->Nat} {c:Int}
theorem q5z (h:cR H0 H B s b own) (hb:BB b) (hc:¬ (0<=c/\c<b.ns.length)):jx M zS [.ptr B 0,.int .i64 c] H λ v H'=>v=.bool false/\H'=H:=by
 refine qoj ?_;simp only [↓qi,xd,reduceIte,reduceEqDiff,qok];refine C3.q (rv (M:=M) h hb.N4 c) λ v H1 ⟨hh,_,h1⟩=>?_;rw [h1 hc,hh];simp only [↓qi,xd,reduceIte,reduceEqDiff,qr];refine C3.q (show jx M Cv [.nilp] H λ v H'=>v=.bool false/\H'=H from ?_) λ v H2 ⟨hv2,hh2⟩=>?_
 ·refine qme ?_;simp only [↓qi,xd,reduceIte,reduceEqDiff,qmf,nq]
 rw [hv2,hh2];simp only [↓qi,xd,reduceIte,reduceEqDiff]
end
section
variable {H0 H:AHeap} {G:Nat} {s:Gs} {g:Gh} {tg:Nat->Nat}
theorem q85 (h:gQ H0 H G s g tg) {c:Nat} (hc:c<4) (a:Int) (hl:(g.own c).length<=1000):jx M DO [.ptr G 0,.int .i64 (c:Int),.int .i64 a] H λ v H'=>H'=H/\v=.tuple [.int .u64 ((dM (g.own c) a).getD 0),.bool (dM (g.own c) a).isSome]:=by
 refine qqk ?_;obtain ⟨w0,w2,w23,w7,w13,w22⟩:=qql M ⟨none,DO⟩;have sl:eJ fD 2 H (s.ov c) (g.own c):=Own.sl (h.own c hc);have ix1:=I6 (G:=G) 1 hc;have lo:=h.lO hc;have wk:aW .i64 (((g.own c).length:Nat)-1:Int)=((g.own c).length:Nat)-1:=vl (by omega) (by omega);simp only [↓qi,xd,reduceIte,reduceEqDiff,w0,w2,qg,ix1,lo,sl.len,wk];refine bu.intro (λ k E Hx=>∃ z:Int,z=(k:Int)-1/\Hx=H/\k<=(g.own c).length/\E=[(8,.int .i64 z),(7,.bool false),(6,.int .u64 0),(0,.ptr G 0),(1,.int .i64 (c:Int)),(2,.int .i64 a)]/\dM (g.own c) a=dM ((g.own c).take k) a) ?_ ?_
 ·exact ⟨_,_,⟨_,rfl,rfl,qh _,rfl,by rw [List.take_length]⟩,by simp only [↓qi,xd,reduceIte,reduceEqDiff]⟩
 rintro k E Hx ⟨z,hz,rfl,hk,rfl,e⟩;cases k with
 | zero =>
  have q:¬ (0:Int)<=z:=by omega
  rw [e,CN,q84];simp only [↓qi,xd,reduceIte,reduceEqDiff,w7,q,w23];rfl
 | succ k =>
  have q:(0:Int)<=z:=by omega
  obtain ⟨x,hx⟩:∃ x,(g.own c)[k]? = some x:=⟨_,qz (by omega)⟩
  have ix:=sl.idx hx (z:=z) (by omega) .i64;have l0:Op.aa [.ptr (aN (s.ov c)) (cr 2 (s.ov c) k)] Hx=some (.int .i64 x.a):=sl.aa GJ hx (j:=0) (by decide);have l1:Op.aa [.ptr (aN (s.ov c)) (cr 2 (s.ov c) k+1)] Hx=some (.int .u64 x.v):=sl.aa GJ hx (j:=1) (by decide);have wj:aW .i64 (z-1)=z-1:=vl (by omega) (by omega);have tk:(g.own c).take (k+1)=(g.own c).take k ++ [x]:=by rw [yT,hx];rfl
  rw [tk,Nj] at e
  by_cases qa:x.a=a
  ·rw [e,qm qa];simp only [↓qi,xd,reduceIte,reduceEqDiff,w7,q,w13,qg,ix1,lo,ix,l0,l1,qa];rfl
  ·simp only [↓qi,xd,reduceIte,reduceEqDiff,w7,q,w13,qg,ix1,lo,ix,l0,l1,qa,w22,wj];rw [qe qa] at e;exact ⟨k,_,⟨z-1,by omega,by omega,rfl,e⟩,by simp only [↓qi,xd,reduceIte,reduceEqDiff],by omega⟩
end
end Go.Am
namespace Go.Am
open No
def Bu.lv (b:Bu) (c:Nat):Bool:=match b.ns[c]? with
 | some n=>n.live
 | none=>false
def dA (w:List Int) (l:List Pr):List Int:=l.foldl (λ w p=>w.set p.a.toNat p.v) w
theorem I1:∀ (l:List Pr) (w:List Int),(dA w l).length=w.length
 | [],w=>rfl
 | p::l,w=>by show (dA (w.set p.a.toNat p.v) l).length=_;rw [I1 l,xc]
theorem qwz (l:List Pr) (p:Pr) (w:List Int):dA w (l ++ [p])=(dA w l).set p.a.toNat p.v:=by unfold dA;rw [List.foldl_append];rfl
namespace Gh
def at' (g:Gh) (a:Int):Int:=(g.w[a.toNat]?).getD 0
def act (g:Gh) (n:No) (x:Bt) (c:Nat):Gh × Bool :=
 if x.k=0 then (g,if (n.load x.n).2.2.1=true/\(n.load x.n).2.2.2.2=0 then decide ((n.load x.n).2.1=(dM (g.own c) x.n).getD (g.at' x.n)) else true)
 else if x.k=1 then
  (if (n.store x.n x.v).2.1=true/\(n.store x.n x.v).2.2.2=0 then if g.live c=true then { g with own:=fZ g.own c (g.own c ++ [⟨x.n,x.v⟩]) } else { g with w:=g.w.set x.n.toNat x.v } else g,true)
 else if x.k=2 then
  (if (n.bL x.n x.o).2.1=true/\(n.bL x.n x.o).2.2=0 then if (n.bL x.n x.o).1=true then { g with w:=g.w.set x.n.toNat x.v } else g else g,
   if (n.bL x.n x.o).2.1=true/\(n.bL x.n x.o).2.2=0 then decide ((n.bL x.n x.o).1=decide (g.at' x.n=x.o)) else true)
 else if x.k=3 then (if n.live=true then g else { g with live:=fZ g.live c true },true)
 else if x.k=4 then (if n.live=true then { g with w:=dA g.w (g.own c) } else g,true)
 else (g,true)
def eI (g:Gh) (b:Bu) (x:Bt):Gh × Bool :=
 if x.k=7 then (g,true)
 else if 0<=x.c then match b.ns[x.c.toNat]? with
  | none=>(g,true)
  | some n=>g.act n x x.c.toNat
 else (g,true)
def tail (g:Gh) (L:Nat->Bool) (k:Nat):Gh:={ g with own:=λ i=>if i<k/\g.live i=true/\L i=false then [] else g.own i,live:=λ i=>if i<k then g.live i && L i else g.live i }
def lJ (g:Gh) (b:Bu) (x:Bt):Gh:=(g.eI b x).1.tail (b.step x).lv 4
end Gh
structure GI (b:Bu) (g:Gh) (k:Nat):Prop where
 len:(g.w.length:Int)=8*b.l.length
 own:∀ c,∀ p ∈ g.own c,0<=p.a/\p.a<8*b.l.length
 fK:∀ c,(g.own c).length<=k
 D3:∀ c,g.live c=b.lv c
 Fk:∀ c,g.live c=false->g.own c=[]
theorem NU (n:No) (k l:Int):(n.ask k l).1.live=n.live:=by unfold No.ask;split<;>rfl
theorem q12 (n:No) (a:Int):(n.load a).1.live=n.live:=by
 unfold No.load;split
 ·cases n.c.find (ln a) with
  | none=>exact NU ..
  | some x=>rfl
 ·rfl
theorem qy1 (n:No) (a y:Int):(n.store a y).1.live=n.live:=by
 unfold No.store;split
 ·split
  ·rfl
  ·exact NU ..
 ·rfl
theorem q4q (n:No) (a o y:Int):(n.dP a o y).1.live=n.live:=by
 unfold No.dP;split
 ·split
  ·rfl
  ·split
   ·rfl
   ·exact NU ..
 ·rfl
theorem q6k (n:No) (l:Int) (h:(n.aO l).1.live=true):n.live=true:=by
 unfold No.aO at h;split at h
 ·exact h
 ·cases hf:n.c.find l with
  | none=>rw [hf] at h;exact h
  | some x =>
   rw [hf] at h;simp only [Fg] at h;split at h
   ·cases h
   ·exact h
theorem ig (n:No) (x:En) (t:Bool) (h:(n.lost x t).live=true):n.live=true:=by
 rw [GY] at h;split at h
 ·cases h
 ·exact h
theorem q8y (n:No) (m:Mg) (h:(n.fill m).1.live=true):n.live=true:=by
 unfold No.fill No.fU at h;generalize (if m.k=15 then (2:Int) else 1)=st at h;split at h
 ·rw [qyg] at h;cases h
 ·rw [qyg] at h;exact h
theorem Nz (n:No) (m:Mg) (h:(n.az m).1.live=true):n.live=true:=by
 unfold No.az at h;split at h;· exact h
 split at h;· exact ig n _ _ h
 split at h
 ·cases hf:n.c.find m.line with
  | none=>rw [hf] at h;exact h
  | some x =>
   rw [hf] at h;simp only at h;split at h
   ·exact ig n _ _ h
   ·exact ig n _ _ h
 split at h;· exact h
 cases hf:n.c.find m.line with
 | none =>
  rw [hf] at h;have h:(No.fill { n with out:=⟨0,0,0,.zero⟩ } m).1.live=true:=h;exact q8y { n with out:=⟨0,0,0,.zero⟩ } m h
 | some x=>rw [hf] at h;exact h
theorem q77 (n:No) (x:Bt) (h:(n.call x).1.live=true):n.live=true\/x.k=3:=by
 unfold No.call at h;split at h;· exact .inl (by rw [<-q12];exact h)
 split at h;· exact .inl (by rw [<-qy1];exact h)
 split at h;· exact .inl (by rw [<-q4q];exact h)
 split at h;· exact .inr ‹_›
 split at h
 ·refine .inl ?_;unfold No.bl at h;split at h
  ·cases h
  ·exact h
 split at h
 ·refine .inl ?_;unfold No.abort at h;split at h
  ·split at h
   ·exact h
   ·cases h
  ·exact h
 split at h;· exact .inl (q6k n _ h)
 exact .inl h
theorem q5b {n:No} {a:Int} (h:(n.load a).2.2.1=true):n.may a:=by
 by_cases q:n.may a
 ·exact q
 ·unfold No.load at h;rw [qe q] at h;cases h
theorem Mo {n:No} {a y:Int} (h:(n.store a y).2.1=true):n.may a:=by
 by_cases q:n.may a
 ·exact q
 ·unfold No.store at h;rw [qe q] at h;cases h
theorem uo {n:No} {a o:Int} (h:(n.bL a o).2.1=true):n.may a:=by
 by_cases q:n.may a
 ·exact q
 ·unfold No.bL at h;rw [qe q] at h;cases h
theorem DE {n:No} {a c L:Int} (w:NW n c L) (h:n.may a):0<=a/\a<8*L:=by
 have:=w.lines;unfold No.may at h;omega
theorem sF {b:Bu} {c:Nat} {n:No} {r:No × List Mg} (hn:b.ns[c]? = some n) (d:Nat):(b.put c r).lv d=if d=c then r.1.live else b.lv d:=by
 unfold Bu.lv Bu.put
 by_cases q:d=c
 ·rw [qm q,q,xg (qj.1 hn).1]
 ·rw [qe q,xt (ve q)]
theorem lX {b:Bu} {c:Nat} {n:No} (hn:b.ns[c]? = some n):b.lv c=n.live:=by unfold Bu.lv;rw [hn]
theorem Bo {b:Bu} {c:Nat} (h:b.lv c=true):c<b.ns.length:=by
 unfold Bu.lv at h;rcases jr c b.ns.length with q|q
 ·exact q
 ·rw [zr q] at h;cases h
theorem q2w (b:Bu) (x:Bt):(b.step x).ns.length=b.ns.length/\(b.step x).l.length=b.l.length:=by
 unfold Bu.step;split
 ·split
  ·unfold Bu.tG;cases b.fl[x.n.toNat]? with
   | none=>exact ⟨rfl,rfl⟩
   | some m =>
    simp only;split
    ·cases b.l[m.line.toNat]? with
     | none=>exact ⟨rfl,rfl⟩
     | some y =>
      cases b.m[m.line.toNat]? with
      | none=>exact ⟨rfl,rfl⟩
      | some w=>exact ⟨rfl,xc ..⟩
    ·cases b.ns[m.core.toNat]? with
     | none=>exact ⟨rfl,rfl⟩
     | some n=>exact ⟨xc ..,rfl⟩
  ·exact ⟨rfl,rfl⟩
 split
 ·cases b.ns[x.c.toNat]? with
  | none=>exact ⟨rfl,rfl⟩
  | some n=>exact ⟨xc ..,rfl⟩
 ·exact ⟨rfl,rfl⟩
theorem q2v {b:Bu} {g:Gh} {k:Nat} (hg:GI b g k) (x:Bt) (c:Nat) (h:(b.step x).lv c=true):(g.eI b x).1.live c=true:=by
 unfold Gh.eI;unfold Bu.step at h
 by_cases k7:x.k=7
 ·rw [qm k7] at h ⊢;show g.live c=true;rw [hg.D3];split at h
  ·unfold Bu.tG at h;cases hm:b.fl[x.n.toNat]? with
   | none=>rw [hm] at h;exact h
   | some m =>
    rw [hm] at h;simp only at h;split at h
    ·cases hx:b.l[m.line.toNat]? with
     | none=>rw [hx] at h;exact h
     | some y =>
      cases hw:b.m[m.line.toNat]? with
      | none=>rw [hx,hw] at h;exact h
      | some w=>rw [hx,hw] at h;exact h
    ·cases hn:b.ns[m.core.toNat]? with
     | none=>rw [hn] at h;exact h
     | some n =>
      rw [hn] at h;have e:=sF (b:=b) (r:=((n.az m).1,[])) hn c;have h:(b.put m.core.toNat ((n.az m).1,[])).lv c=true:=h;rw [e] at h;split at h
      ·rename_i q;rw [q,lX hn];exact Nz n m h
      ·exact h
  ·exact h
 ·rw [qe k7] at h ⊢;split at h
  ·rename_i c0;rw [qm c0];cases hn:b.ns[x.c.toNat]? with
   | none=>rw [hn] at h;show g.live c=true;rw [hg.D3];exact h
   | some n =>
    rw [hn] at h;have h:(b.put x.c.toNat (n.call x)).lv c=true:=h;rw [sF hn] at h;show (g.act n x x.c.toNat).1.live c=true;have hgl:∀ d,g.live d=b.lv d:=hg.D3;have key:x.k ≠ 3->(g.act n x x.c.toNat).1.live=g.live:=λ k3=>by
     unfold Gh.act;split;· rfl
     split
     ·simp only;split
      ·split<;>rfl
      ·rfl
     split
     ·simp only;split
      ·split<;>rfl
      ·rfl
     try rw [qe k3]
     split
     ·simp only;split<;>rfl
     rfl
    by_cases k3:x.k=3
    ·unfold Gh.act;rw [qe (by omega),qe (by omega),qe (by omega),qm k3];simp only
     by_cases hl:n.live=true
     ·rw [qm hl,hgl];split at h
      ·rename_i q;rw [q,lX hn];exact hl
      ·exact h
     ·rw [qe hl];show fZ g.live _ true c=true;split at h
      ·rename_i q;rw [q,rB]
      ·rename_i q;rw [pz q,hgl];exact h
    ·rw [key k3,hgl];split at h
     ·rename_i q;rw [q,lX hn];exact (q77 n x h).elim id λ w=>absurd w k3
     ·exact h
  ·rename_i c0;rw [qe c0];show g.live c=true;rw [hg.D3];exact h
theorem Hu {b:Bu} {V:Int->L8} {g:Gh} {k:Nat} (hI:BuI b V) (hg:GI b g k) (x:Bt) :
 (((g.eI b x).1.w.length:Nat):Int)=8*b.l.length/\(∀ c,∀ p ∈ (g.eI b x).1.own c,0<=p.a/\p.a<8*b.l.length)/\(∀ c,((g.eI b x).1.own c).length<=k+1) /\ ∀ c,(g.eI b x).1.live c=false->(g.eI b x).1.own c=[]:=by
 have h0:((g.w.length:Nat):Int)=8*b.l.length/\(∀ c,∀ p ∈ g.own c,0<=p.a/\p.a<8*b.l.length)/\(∀ c,(g.own c).length<=k+1) /\ ∀ c,g.live c=false->g.own c=[]:=⟨hg.len,hg.own,λ c=>FR (hg.fK c),hg.Fk⟩
 have hW:∀ w':List Int,w'.length=g.w.length->((w'.length:Nat):Int)=8*b.l.length/\(∀ c,∀ p ∈ g.own c,0<=p.a/\p.a<8*b.l.length)/\(∀ c,(g.own c).length<=k+1) /\ ∀ c,g.live c=false->g.own c=[]:=λ w' e=>⟨by rw [e];exact hg.len,h0.2⟩
 unfold Gh.eI;split;· exact h0
 split
 ·cases hn:b.ns[x.c.toNat]? with
  | none=>exact h0
  | some n =>
   have w:=hI.nw _ n hn;simp only;unfold Gh.act;split;· exact h0
   split
   ·simp only;split
    ·rename_i hd;have:=DE w (Mo hd.1);split
     ·rename_i hl;refine ⟨hg.len,λ c p hp=>?_,λ c=>?_,λ c hc=>?_⟩
      ·have hp:p ∈ fZ g.own x.c.toNat (g.own x.c.toNat ++ [⟨x.n,x.v⟩]) c:=hp
       by_cases q:c=x.c.toNat
       ·rw [q,rB] at hp;rcases xy.1 hp with q|q
        ·exact hg.own _ p q
        ·rw [xn.1 q];exact this
       ·rw [pz q] at hp;exact hg.own c p hp
      ·show (fZ g.own x.c.toNat (g.own x.c.toNat ++ [⟨x.n,x.v⟩]) c).length<=_
       by_cases q:c=x.c.toNat
       ·rw [q,rB,qx];have:=hg.fK x.c.toNat;simp only [yi,xK];omega
       ·rw [pz q];exact FR (hg.fK c)
      ·have hc:g.live c=false:=hc;show fZ g.own x.c.toNat (g.own x.c.toNat ++ [⟨x.n,x.v⟩]) c=[]
       by_cases q:c=x.c.toNat
       ·rw [q,hl] at hc;cases hc
       ·rw [pz q];exact hg.Fk c hc
     ·exact hW _ (xc ..)
    ·exact h0
   split
   ·simp only;split
    ·split
     ·exact hW _ (xc ..)
     ·exact h0
    ·exact h0
   split
   ·simp only;split
    ·exact h0
    ·refine ⟨hg.len,hg.own,h0.2.2.1,λ c hc=>hg.Fk c ?_⟩;have hc:fZ g.live x.c.toNat true c=false:=hc
     by_cases q:c=x.c.toNat
     ·rw [q,rB] at hc;cases hc
     ·rw [pz q] at hc;exact hc
   split
   ·simp only;split
    ·exact hW _ (I1 ..)
    ·exact h0
   exact h0
 ·exact h0
theorem Ez {b:Bu} {g:Gh} {k:Nat} (hg:GI b g k) (x:Bt) {c:Nat} (h:(g.eI b x).1.live c=true):c<b.ns.length:=by
 have h0:g.live c=true->c<b.ns.length:=λ q=>Bo (by rw [<-hg.D3];exact q);unfold Gh.eI at h;split at h;· exact h0 h
 split at h
 ·cases hn:b.ns[x.c.toNat]? with
  | none=>rw [hn] at h;exact h0 h
  | some n =>
   rw [hn] at h;have h:(g.act n x x.c.toNat).1.live c=true:=h;unfold Gh.act at h;split at h;· exact h0 h
   split at h
   ·simp only at h;split at h
    ·split at h<;>exact h0 h
    ·exact h0 h
   split at h
   ·simp only at h;split at h
    ·split at h<;>exact h0 h
    ·exact h0 h
   split at h
   ·simp only at h;split at h
    ·exact h0 h
    ·have h:fZ g.live x.c.toNat true c=true:=h
     by_cases q:c=x.c.toNat
     ·rw [q];exact (qj.1 hn).1
     ·rw [pz q] at h;exact h0 h
   split at h
   ·simp only at h;split at h<;>exact h0 h
   exact h0 h
 ·exact h0 h
theorem Cj {b:Bu} {V:Int->L8} {g:Gh} {k:Nat} (hI:BuI b V) (hg:GI b g k) (x:Bt):GI (b.step x) (g.lJ b x) (k+1):=by
 obtain ⟨a1,a2,a3,a4⟩:=Hu hI hg x;obtain ⟨s1,s2⟩:=q2w b x;refine ⟨by rw [s2];exact a1,λ c p hp=>?_,λ c=>?_,λ c=>?_,λ c hc=>?_⟩
 ·rw [s2];have hp:p ∈ if c<4/\_ then [] else (g.eI b x).1.own c:=hp
  split at hp
  ·cases hp
  ·exact a2 c p hp
 ·show (if c<4/\_ then [] else (g.eI b x).1.own c).length<=_;split
  ·exact zq _
  ·exact a3 c
 ·show (if c<4 then (g.eI b x).1.live c && (b.step x).lv c else (g.eI b x).1.live c)=_;have:=q2v hg x c;split
  ·cases h:(b.step x).lv c with
   | true=>rw [this h];rfl
   | false=>rw [Bool.and_false]
  ·rename_i c4;have e:(b.step x).lv c=false:=by
    cases h:(b.step x).lv c with
    | false=>rfl
    | true=>have:=Bo h;have:=hI.N4;omega
   rw [e];cases h:(g.eI b x).1.live c with
   | false=>rfl
   | true =>
    have:=Ez hg x h;have:=hI.N4;omega
 ·have hc:(if c<4 then (g.eI b x).1.live c && (b.step x).lv c else (g.eI b x).1.live c)=false:=hc;show (if c<4/\_ then [] else (g.eI b x).1.own c)=[];split
  ·rfl
  ·rename_i hx;split at hc
   ·rename_i c4;cases hl:(g.eI b x).1.live c with
    | false=>exact a4 c hl
    | true=>rw [hl,Bool.true_and] at hc;exact absurd ⟨c4,hl,hc⟩ hx
   ·exact a4 c hc
end Go.Am
