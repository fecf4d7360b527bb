/- BuK6: DiF DiG DiH. -/
import Derived.Test.YtiibohocdbaekaaGreatAmCBuK5
set_option linter.unusedVariables false
set_option linter.unusedSimpArgs false
set_option linter.unusedSectionVars false
set_option maxRecDepth 100000
open Nat (reduceEqDiff)
namespace Go.Am
open Go.Proofs Ca
variable {M:aA} [MK M]
structure Lr (t:Nat) (ms:List Mg) (V:Nat->Prop) (Hx:AHeap):Prop where
 vt:V t
 lt:t<Hx.next
 ls:∃ lv,Hx.get t=some (OR [lv] mK)/\cq ai qt 11 Hx lv ms /\ ∀ z,aI lv z->V z/\t<z
theorem Lr.loc {t:Nat} {ms:List Mg} {V:Nat->Prop} {Ha Hb:AHeap} (h:Lr t ms V Ha) (hs:∀ x,V x->Hb.get x=Ha.get x) (hn:Ha.next<=Hb.next):Lr t ms V Hb:=by
 obtain ⟨lv,l1,l2,l3⟩:=h.ls;exact ⟨h.vt,qk h.lt hn,lv,by rw [hs _ h.vt];exact l1,Own.fr l2 (⟨hn,λ b _ hw=>hs b (vg.1 hw)⟩:Fr (λ b=>¬ V b) Ha Hb) λ x hx w=>w (l3 x hx).1,l3⟩
abbrev nq (l:Int) (k:Nat):Mg:=⟨11,(k:Int),l,.zero⟩
theorem q57 (s:Nat) (l:Int):(nd s).map (λ c=>(⟨11,c,l,.zero⟩:Mg))=(gY s).map (nq l):=by
 rw [DE,td];rfl
theorem xX (s:Nat):(gY s).length<=4:=by
 have:=vh (λ (k:Nat)=>hb s (k:Int) == 1) (List.range 4);rw [jq] at this;exact this
section
variable {H:AHeap} {D mp:Nat} {lv ev:AV} {N:Int} {ws:List L8} {xs:List (De × AV)} {i:Nat} {x:De} {a:AV}
theorem kX (h:cC H D mp lv ev N ws xs i x a) (m:Mg) {w:L8} (hw:ws[m.line.toNat]? = some w) (hl:0<=m.line) (hs:x.sh<16) (c0:0<=m.core) (c1:m.core<4) (hk:m.k=1\/m.k=2) (ho:x.ow<4) :
 zq M GH [.ptr D 0,xA ev i,.agg (ai m)] H λ v H'=>jJ H H' v (x.begin m w).2/\cC H' D mp lv ev N ws xs i (x.begin m w).1 a/\Fr (On (aF ev)) H H':=by
 refine qr7 ?_;obtain ⟨w0,wa,wb,w4,w22,w10,w24,w12,w32,w18,w36,w41⟩:=qkr M ⟨none,GH⟩;obtain ⟨H1,e1⟩:∃ X,X=H.alloc (OR (ai m) qt):=⟨_,rfl⟩
 have f1:Fr Em H H1:=by rw [e1];exact (Fr.refl H).alloc _
 have g1:H1.get H.next=some (OR (ai m) qt):=by rw [e1,qw]
 have n1:H1.next=H.next+1:=by rw [e1,xd]
 have hev:=h.d.es.lt;have nb:¬ H.next=aF ev:=by omega
 have lU:=fU g1 (xq m);obtain ⟨H2,s2,h2,f2⟩:=(h.em f1).sU m;have m2:=f2.next
 have F2:Fr (On (aF ev)) H H2:=(f1.mono λ _ _ q=>q.elim).trans f2 λ _ q=>.inl q;have lm:∀ {Hx:AHeap} (k:Nat),Fr (On (aF ev)) H2 Hx->Op.ae [.ptr H.next k] Hx=(ai m)[k]?:=λ k f=>xp (qz (by rw [f.ah _ (by omega) nb,f2.ah _ (by omega) nb];exact g1)) k;simp only [↓qd,qp,aa,reduceIte,reduceEqDiff,w0,xk,<-e1,lU,qi,s2,w4,h2.l0];unfold De.begin
 by_cases q:0<=x.ow
 ·rw [ql q];have sh1:=FA q ho;obtain ⟨H3,s3,h3,f3⟩:=h2.Jd 2;obtain ⟨H4,s4,h4,f4⟩:=h3.K5 (2 ^ x.ow.toNat);have F24:Fr (On (aF ev)) H2 H4:=f3.trans f4 λ _ q=>.inl q;have F4:=F2.trans F24 λ _ q=>.inl q;have l0:Op.ae [.ptr H.next 0] H4=some (.int .i64 m.k):=lm 0 F24;have l2:Op.ae [.ptr H.next 2] H4=some (.int .i64 m.line):=lm 2 F24;have m4:=F4.next
  have out:∀ k:Int,jJ H (H4.alloc (OR (ai ⟨k,x.ow,m.line,.zero⟩) qt)) (Op.sliceTo 1 1 H4.next) [⟨k,x.ow,m.line,.zero⟩]/\cC (H4.alloc (OR (ai ⟨k,x.ow,m.line,.zero⟩) qt)) D mp lv ev N ws xs i { x with un:=m,ph:=2,ask:=2 ^ x.ow.toNat } a/\Fr (On (aF ev)) H (H4.alloc (OR (ai ⟨k,x.ow,m.line,.zero⟩) qt)):=λ k =>
   ⟨Fw _ m4,h4.em ((Fr.refl H4).alloc _),F4.alloc _⟩
  by_cases k2:m.k=2
  ·rw [ql k2];simp only [↓qd,qp,aa,reduceIte,reduceEqDiff,xc q,h2.l0,qi,sh1,s3,s4,w10,w12,l0,xc k2,w18,h4.l0,l2,mZ,Kn,sW];exact out 13
  ·rw [qg k2];simp only [↓qd,qp,aa,reduceIte,reduceEqDiff,xc q,h2.l0,qi,sh1,s3,s4,w10,w12,l0,k2,w18,h4.l0,l2,mZ,Kn,sW];exact out 12
 ·rw [qg q];have sh1:=FA c0 c1;have sd:=O6 hs c0 c1;obtain ⟨H3,s3,h3,f3⟩:=h2.K5 (aU x.sh m.core);have F3:=F2.trans f3 λ _ q=>.inl q;have l1:Op.ae [.ptr H.next 1] H2=some (.int .i64 m.core):=lm 1 (Fr.refl _);have l0:Op.ae [.ptr H.next 0] H3=some (.int .i64 m.k):=lm 0 f3;have dz:aU x.sh m.core=0 ↔ ((aU x.sh m.core:Nat):Int)=0:=by omega
  have tog:m.k=1\/aU x.sh m.core=0->zq M Kc [.ptr D 0,xA ev i] H3 λ v H'=>v=.agg (ai (De.bD { x with un:=m,ask:=aU x.sh m.core } w).2)/\cC H' D mp lv ev N ws xs i (De.bD { x with un:=m,ask:=aU x.sh m.core } w).1 a/\Fr (On (aF ev)) H3 H':=λ _=>qu1 (M:=M) h3 hw hl hs c0 c1;have outg:∀ {v:AV} {H4:AHeap},(v=.agg (ai (De.bD { x with un:=m,ask:=aU x.sh m.core } w).2)/\cC H4 D mp lv ev N ws xs i (De.bD { x with un:=m,ask:=aU x.sh m.core } w).1 a/\Fr (On (aF ev)) H3 H4) ->
   jJ H (H4.alloc (OR (ai (De.bD { x with un:=m,ask:=aU x.sh m.core } w).2) qt)) (Op.sliceTo 1 1 H4.next) [(De.bD { x with un:=m,ask:=aU x.sh m.core } w).2]/\cC (H4.alloc (OR (ai (De.bD { x with un:=m,ask:=aU x.sh m.core } w).2) qt)) D mp lv ev N ws xs i (De.bD { x with un:=m,ask:=aU x.sh m.core } w).1 a/\Fr (On (aF ev)) H (H4.alloc (OR (ai (De.bD { x with un:=m,ask:=aU x.sh m.core } w).2) qt)):=λ {v H4} ⟨_,h4,f4⟩=>by
   have F4:=F3.trans f4 λ _ q=>.inl q;exact ⟨Fw _ F4.next,h4.em ((Fr.refl H4).alloc _),F4.alloc _⟩
  by_cases k1:m.k=1
  ·rw [ql (.inl k1)];simp only [↓qd,qp,aa,reduceIte,reduceEqDiff,q,w22,h2.l1,qi,l1,sh1,sd,s3,w24,l0,xc k1];refine C3.q (tog (.inl k1)) λ v H4 hh=>?_;rw [hh.1];simp only [↓qd,qp,aa,reduceIte,reduceEqDiff,mZ,sW];exact outg hh
  by_cases d0:aU x.sh m.core=0
  ·rw [ql (.inr d0)];have d1:=dz.1 d0;simp only [↓qd,qp,aa,reduceIte,reduceEqDiff,q,w22,h2.l1,qi,l1,sh1,sd,s3,w24,l0,k1,h3.rf,xc d1];refine C3.q (tog (.inr d0)) λ v H4 hh=>?_;rw [hh.1];simp only [↓qd,qp,aa,reduceIte,reduceEqDiff,mZ,sW];exact outg hh
  rw [qg (λ w=>w.elim k1 d0)];have d1:¬ ((aU x.sh m.core:Nat):Int)=0:=λ q=>d0 (dz.2 q);obtain ⟨H4,s4,h4,f4⟩:=h3.Jd 1;obtain ⟨H5,e5⟩:∃ X,X=H4.alloc (OR [.nils] mK):=⟨_,rfl⟩
  have f45:Fr Em H4 H5:=by rw [e5];exact (Fr.refl H4).alloc _
  have h5:=h4.em f45;have n5:H5.next=H4.next+1:=by rw [e5,xd]
  have g5:H5.get H4.next=some (OR [.nils] mK):=by rw [e5,qw]
  have F24:Fr (On (aF ev)) H2 H4:=f3.trans f4 λ _ q=>.inl q;have F4:=F2.trans F24 λ _ q=>.inl q;have m24:=F24.next
  simp only [↓qd,qp,aa,reduceIte,reduceEqDiff,q,w22,h2.l1,qi,l1,sh1,sd,s3,w24,l0,k1,h3.rf,d1,w32,s4,<-e5,w36,h5.rf];refine C3.q (q5p (M:=M) (aU x.sh m.core)) λ v H7 ⟨hv,hh⟩=>?_;obtain ⟨H6,e6⟩:∃ X,X=H5.alloc (OR [uB (aU x.sh m.core)] Le):=⟨_,rfl⟩
  rw [<-e6] at hh;rw [hv,hh];have f56:Fr Em H5 H6:=by rw [e6];exact (Fr.refl H5).alloc _
  have n6:H6.next=H4.next+2:=by rw [e6,xd,n5]
  have g6:H6.get H5.next=some (OR [uB (aU x.sh m.core)] Le):=by rw [e6,qw]
  have g6t:H6.get H4.next=some (OR [.nils] mK):=by rw [f56.ah _ (by omega) id];exact g5
  have h6:=h5.em f56;have g6m:H6.get H.next=some (OR (ai m) qt):=by
   rw [f56.ah _ (by omega) id,f45.ah _ (by omega) id,F24.ah _ (by omega) nb,f2.ah _ (by omega) nb];exact g1
  have hd16:aU x.sh m.core<16:=(FT hs c0 c1 (d:=0) (by decide) (by decide)).1;refine gN.iter (fn:=KB) (lp:=Iy) (pa:=Mf 0) (pb:=OB 0) qpp qik.1 qik.2 (by decide) qn9 qoa
   (q3i (M:=M) g6 (by omega) hd16) (λ j V Hx=>Lr H4.next (((gY (aU x.sh m.core)).take j).map (nq m.line)) V Hx) (λ _ _ _=>False) (λ z=>z=H4.next) (qf _) ?_ ?_ ?_ ?_ ?_ ?_ ?_ ?_
  ·rintro z (q|q)
   ·exact ⟨by omega,rfl,by omega⟩
   ·exact q.elim
  ·exact λ z hz=>by omega
  ·exact ⟨rfl,by omega,.nils,g6t,Own.nil ..,λ z q=>(q.1 rfl).elim⟩
  ·exact λ j V Ha Hb hp hs hn=>hp.loc hs hn
  ·exact λ e V Ha Hb hp _ _=>hp
  ·intro L2 j lr lb y hy hL2 V Hc hP hV hfc hnL hLc hgL;rw [xg,xe] at hy;obtain ⟨k,hk,rfl⟩:=hy;refine ⟨_,rfl,?_⟩;obtain ⟨-,wa,wb,-⟩:=qkr M ⟨some L2,GH⟩;simp only [↓qd,qp,aa,reduceIte,reduceEqDiff,wa,EK];refine ⟨hgL,?_⟩;have fx:Fr (On L2) Hc (Hc.set L2 lb):=(Fr.refl Hc).set (W:=On L2) (.inl rfl) _;have gL:(Hc.set L2 lb).get L2=some lb:=xb ..;have nL:(Hc.set L2 lb).next=Hc.next:=rfl
   have hP7:=hP.loc (Hb:=Hc.set L2 lb) (λ y hy=>by rw [yb (λ q:L2=y=>hnL (by rw [q];exact hy))]) (qf _);have gm:(Hc.set L2 lb).get H.next=some (OR (ai m) qt):=by
    rw [yb (by omega),hfc.ah H.next (by omega) (λ q=>q.elim (λ q=>by omega) id)];exact g6m
   generalize Hc.set L2 lb=Hd at *;obtain ⟨lv2,l1,l2,l3⟩:=hP7.ls;have lq:Op.ae [.ptr H4.next 0] Hd=some lv2:=xp (qz l1) 0;have ll:Op.ae [.ptr H.next 2] Hd=some (.int .i64 m.line):=xp (qz gm) 2;have iX:(((gY (aU x.sh m.core)).take j).map (nq m.line)).length<=4:=by
    rw [xu,ja];have:=xX (aU x.sh m.core);omega
   simp only [↓qd,qp,aa,reduceIte,reduceEqDiff,wb,lq,ll,mZ,Kn];refine gE (e:=qt) (size:=11) (bytes:=88) l2 (x:=.agg (ai (nq m.line k))) (xq _) (by rw [xk];exact xq _) (by rw [xk];exact vk _) (by decide) (by omega) (by omega) λ lv' H8 hlv' hf hfr=>?_;rw [xk] at hlv';have q8:H8.get H4.next=some (OR [lv2] mK):=by rw [hf.ah _ hP7.lt λ q=>by have:=(l3 _ q).2;omega];exact l1
   have o1:aT lv'=true:=by have:=Sl.one (Own.sl hlv');exact this
   have st:=tj q8 o1;obtain ⟨H9,e9⟩:∃ X,X=H8.set H4.next (OR [lv'] mK):=⟨_,rfl⟩
   rw [<-e9] at st;have f9:Fr (On H4.next) H8 H9:=by rw [e9];exact (Fr.refl H8).set (W:=On H4.next) (.inl rfl) _
   simp only [↓qd,qp,aa,reduceIte,reduceEqDiff,st];have lo':∀ y,aI lv' y->H4.next<y:=λ y q=>(hfr y q).elim (λ q=>(l3 y q).2) λ q=>by have:=hP.lt;omega
   have nf:=hf.next
   have n9:H9.next=H8.next:=by rw [e9];rfl
   refine ⟨rfl,?_,λ y=>V y\/aI lv' y,?_,?_,.inl ⟨rfl,⟨.inl hP.vt,?_,lv',?_,?_,λ y q=>⟨.inr q,lo' y q⟩⟩⟩⟩
   ·rw [f9.ah L2 (by omega) (λ (q:L2=H4.next)=>hnL (by rw [q];exact hP.vt)),hf.ah L2 (by omega) λ q=>hnL (l3 _ q).1];exact gL
   ·rintro y (q|q)
    ·exact ⟨by have:=(hV y q).1;omega,.inl q⟩
    ·refine ⟨by rw [n9];exact Own.lt hlv' y q,?_⟩;rcases hfr y q with w|w
     ·exact .inl (l3 y w).1
     ·exact .inr (by omega)
   ·have a1:Fr (λ b=>V b\/b=L2) Hc Hd:=fx.mono λ x _ q=>.inr q;exact (a1.trans hf λ x hx=>.inl (.inl (l3 x hx).1)).trans f9 λ x hx=>.inl (.inl (by rw [show x=H4.next from hx];exact hP.vt))
   ·have:=hP.lt;omega
   ·rw [e9,xb]
   ·have hx2:((gY (aU x.sh m.core)).take (j+1)).map (nq m.line)=((gY (aU x.sh m.core)).take j).map (nq m.line) ++ [nq m.line k]:=by rw [yq,hk];simp
    rw [hx2];have ow:cq ai qt 11 H8 lv' (((gY (aU x.sh m.core)).take j).map (nq m.line) ++ [nq m.line k]):=by
     unfold cq;rw [qx,jd,zx,IU,xt];exact hlv'
    exact Own.fr ow f9 λ x hx (q:x=H4.next)=>by have:=lo' x hx;omega
  ·intro d V Hd hd1 hd2 hgd hfd hVd hP;obtain ⟨lv2,l1,l2,l3⟩:=hP.ls;have el:((gY (aU x.sh m.core)).map λ (k:Nat)=>[AV.int .i64 (k:Int)]).length=(gY (aU x.sh m.core)).length:=xu _;rw [el,zj (qf _)] at l2;have lq:Op.ae [.ptr H4.next 0] (Hd.set d (.deferred none))=some lv2:=xp (qz (show (Hd.set d (.deferred none)).get H4.next=some (OR [lv2] mK) from by rw [yb (λ q:d=H4.next=>by have:=(hVd _ hP.vt).2.2;omega)];exact l1)) 0;have lq0:Op.ae [.ptr H4.next 0] Hd=some lv2:=xp (qz l1) 0;have sl2:du ai 11 (Hd.set d (.deferred none)) lv2 ((gY (aU x.sh m.core)).map (nq m.line)):=by
    have fs:Fr (On d) Hd (Hd.set d (.deferred none)):=(Fr.refl Hd).set (W:=On d) (.inl rfl) _;exact (Own.fr l2 fs λ z hz (q:z=d)=>(hVd z (l3 z hz).1).2.2 q).sl
   have hx1:cC (Hd.set d (.deferred none)) D mp lv ev N ws xs i { x with un:=m,ph:=1,ask:=aU x.sh m.core } a:=by
    refine h.loc h6 ((hfd.mono λ z _ hz=>?_).set (.inl (show H.next<=d by omega)) _);rcases hz with hz|hz
    ·show H.next<=z;omega
    ·exact hz.elim
   have fr1:Fr (On (aF ev)) H (Hd.set d (.deferred none)):=by
    refine (((F4.trans f45 λ _ q=>q.elim).trans f56 λ _ q=>q.elim).trans hfd λ z hz=>?_).set (.inr (by omega)) _;rcases hz with hz|hz
    ·exact .inr (by omega)
    ·exact hz.elim
   simp only [↓qd,qp,aa,reduceIte,reduceEqDiff,w41,lq,lq0,zX];refine ⟨hgd,⟨by rw [q57];exact sl2,λ hne=>?_⟩,hx1,fr1⟩;have hlo:lv2 ≠ .nils:=λ q=>by
    rw [q57] at hne;subst q;have:=l2.1;rw [tu xq] at this;rcases l2.2 with ⟨z,-⟩|⟨b,q,-⟩
    ·exact hne (jm.1 z)
    ·cases q
   have:=(l3 (aF lv2) ⟨hlo,rfl⟩).2;omega
  ·exact λ e d V Hd _ _ _ _ _ _ hp=>hp.elim
end
end Go.Am
namespace Go.Am
open Go.Proofs Ca
variable {M:aA} [MK M]
section
variable {H:AHeap} {D mp:Nat} {lv ev:AV} {N:Int} {ws:List L8} {xs:List (De × AV)} {i:Nat} {x:De} {a:AV}
theorem cC.mem (h:cC H D mp lv ev N ws xs i x a) {H':AHeap} {ws':List L8} (hm:zW H' mp lv ws') (f:Fr (On (aF lv)) H H') (hl:ws'.length=ws.length):cC H' D mp lv ev N ws' xs i x a:=by
 obtain ⟨e1,e2,e3,e4,e5⟩:=h.d.d1;exact ⟨h.il,by rw [f.ah _ h.d.lt (λ q=>e2 q)];exact h.d.row,qk h.d.lt f.next,hm,h.d.es.fr f (λ q=>e5 q.symm),λ k y b hk=>(h.d.wt k y b hk).fr f λ z hz q=>(h.d.d2 k y b hk z hz).2.2.1 q,h.d.d1,h.d.d2,h.d.d3,by rw [hl];exact h.d.len⟩
def tL (H:AHeap) (D mp:Nat) (lv ev:AV) (N:Int) (ws:List L8) (xs:List (De × AV)) (i:Nat) (a:AV) (r:De × L8 × List Mg) (v:AV) (H':AHeap):Prop :=
 (∃ ov e,v=.tuple [ov,e]/\jJ H H' ov r.2.2) /\ ∃ a',cC H' D mp lv ev N (ws.set i r.2.1) xs i r.1 a'/\Fr (iR D mp lv ev xs) H H' /\ ∀ z,aI a' z->aI a z\/H.next<=z
theorem I2 {ws:List L8} {i:Nat} {w:L8} (h:ws[i]? = some w):ws.set i w=ws:=by
 apply jp;intro j
 by_cases q:j=i
 ·rw [q,qu (qe.1 h).1,h]
 ·rw [qm (yt q)]
theorem wD {H1 H2:AHeap} (f:Fr (On (aF ev)) H1 H2):Fr (iR D mp lv ev xs) H1 H2:=f.mono λ _ _ q=>.inr (.inr (.inr (.inl q)))
theorem frM {H1 H2:AHeap} (f:Fr (On (aF lv)) H1 H2):Fr (iR D mp lv ev xs) H1 H2:=f.mono λ _ _ q=>.inr (.inr (.inl q))
theorem qL {H1 H2 H3:AHeap} (f:Fr (iR D mp lv ev xs) H1 H2) (g:Fr (iR D mp lv ev xs) H2 H3):Fr (iR D mp lv ev xs) H1 H3:=f.trans g λ _ q=>.inl q
theorem kT {E:Env} {Hy:AHeap} {y:De} {w':L8} {o:List Mg} {vo:AV} {q:Prop} [Decidable q] {b8:Bool} (hb8:b8=decide q) (b1:lk E 8=some (.bool b8)) (b2:lk E 7=some vo) (b3:lk E 0=some (.ptr D 0)) (b4:lk E 6=some (xA ev i))
 (hx:xs[i]? = some (x,a)) (h:cC Hy D mp lv ev N (ws.set i w') xs i y a) (hq:q->(ws.set i w')[y.un.line.toNat]? = some w'/\0<=y.un.line/\y.sh<16/\0<=y.un.core/\y.un.core<4)
 (ho:cq ai qt 11 Hy vo o) (hol:o.length<=3) (hof:∀ z,aI vo z->H.next<=z) (f:Fr (iR D mp lv ev xs) H Hy) (hlow:∀ z,iR D mp lv ev xs z->z<H.next) :
 W M ⟨none,vp⟩ (OO 113) true (c6 M [.tmp 4,.tmp 5] (kO (tL H D mp lv ev N ws xs i a (y.pU w' q o)))) E [] Hy:=by
 obtain ⟨-,-,-,-,-,-,-,w113,-,w119,-⟩:=ql0 M ⟨none,vp⟩;have hne:∀ {vo:AV} {o:List Mg} {Hy:AHeap},cq ai qt 11 Hy vo o->(∀ z,aI vo z->H.next<=z)->o ≠ []->H.next<=aF vo:=λ {vo o Hy} h1 h2 h3=>by
  refine h2 _ ⟨λ e=>?_,rfl⟩;subst e;have:=h1.1;rw [tu xq] at this;rcases h1.2 with ⟨z,-⟩|⟨b,q,-⟩
  ·exact h3 (jm.1 z)
  ·cases q
 unfold De.pU
 by_cases qq:q
 ·obtain ⟨hw,hl,hs,c0,c1⟩:=hq qq;rw [ql qq];rw [hb8,Af qq] at b1;simp only [↓qd,qp,aa,reduceIte,reduceEqDiff,w113,b1,b2,b3,b4];refine C3.q (qu1 (M:=M) h hw hl hs c0 c1) λ v H2 ⟨hv,h2,f2⟩=>?_;rw [hv];have ho2:cq ai qt 11 H2 vo o:=Own.fr ho f2 λ z hz (q:z=aF ev)=>by have:=hof z hz;have:=hlow (aF ev) (.inr (.inr (.inr (.inl rfl))));omega
  simp only [↓qd,qp,aa,reduceIte,reduceEqDiff,mZ];refine gE (e:=qt) (size:=11) (bytes:=88) ho2 (x:=.agg (ai (y.bD w').2)) (xq _) (by rw [xk];exact xq _) (by rw [xk];exact vk _) (by decide) (by omega) (by omega) λ v3 H3 hv3 hf hfr=>?_;rw [xk] at hv3;simp only [↓qd,qp,aa,reduceIte,reduceEqDiff,w119];have f23:Fr (Lo H) H2 H3:=hf.mono λ z _ hz=>hof z hz;have ho3:cq ai qt 11 H3 v3 (o ++ [(y.bD w').2]):=by
   unfold cq;rw [qx,jd,zx,IU,xt];exact hv3
  have hn:H.next<=H2.next:=xj f.next f2.next
  have hof3:∀ z,aI v3 z->H.next<=z:=λ z hz=>(hfr z hz).elim (λ q=>hof z q) λ q=>xj hn q
  have hlow2:∀ z,iR D mp lv ev (xs.set i ((y.bD w').1,a)) z->z<H.next:=λ z hz=>by
   refine hlow z ?_;rcases hz with hz|hz|hz|hz|⟨k,yy,b,hk,hz⟩
   ·exact .inl hz
   ·exact .inr (.inl hz)
   ·exact .inr (.inr (.inl hz))
   ·exact .inr (.inr (.inr (.inl hz)))
   ·by_cases e:k=i
    ·subst e;rw [h2.here] at hk;injection hk with hk;injection hk with _ hk;subst hk
     exact .inr (.inr (.inr (.inr ⟨k,x,a,hx,hz⟩)))
    ·rw [qm (yt e)] at hk;exact .inr (.inr (.inr (.inr ⟨k,yy,b,hk,hz⟩)))
  refine ⟨⟨_,_,rfl,ho3.sl,λ e=>hne ho3 hof3 e⟩,a,⟨h2.il,h2.d.fr f23 λ z hz q=>?_⟩,?_,λ z hz=>.inl hz⟩
  ·have:=hlow2 z q;have hz:H.next<=z:=hz;omega
  ·exact (qL f (wD f2)).trans f23 λ z hz=>.inr hz
 ·rw [qg qq];rw [hb8,AO qq] at b1;simp only [↓qd,qp,aa,reduceIte,reduceEqDiff,w113,b1,b2,w119];exact ⟨⟨_,_,rfl,ho.sl,λ e=>hne ho hof e⟩,a,h,f,λ z hz=>.inl hz⟩
end
end Go.Am
namespace Go.Am
open Go.Proofs Ca
variable {M:aA} [MK M]
theorem bdA (co l:Int):Op.build (ai ⟨0,0,0,.zero⟩) [(0,1),(1,1),(2,1)] [.int .i64 16,.int .i64 co,.int .i64 l]=some (.agg (ai ⟨16,co,l,.zero⟩)):=rfl
theorem bd8:Op.build (cJ .zero) [] []=some (.agg (cJ .zero)):=rfl
theorem BV:Op.build (ai ⟨0,0,0,.zero⟩) [] []=some (.agg (ai ⟨0,0,0,.zero⟩)):=rfl
theorem BA (m:Mg):(ai m).take 3++(AV.agg (cJ .zero)).cells++(ai m).drop (3+8)=ai { m with d:=.zero }:=Mr m .zero
section
variable {H:AHeap} {D mp:Nat} {lv ev:AV} {N:Int} {ws:List L8} {xs:List (De × AV)} {x:De} {a:AV} {m:Mg} {w:L8} {ys:List Mg}
theorem cC.wait {i:Nat} (h:cC H D mp lv ev N ws xs i x a) {a':AV} {ys:List Mg} {H1:AHeap} (hs:Sk ai qt 11 H1 a' ys) (f:Fr (aI a) H H1) (hf:∀ z,aI a' z->aI a z\/H.next<=z) (h1:aT a'=true) :
 ∃ H',Op.store 1 [.ptr (aF ev) (bI 16 ev i+15),a'] H1=some (.undef,H')/\cC H' D mp lv ev N ws xs i { x with wt:=ys } a'/\Fr (iR D mp lv ev (xs.set i (x,a))) H H'/\Fr (On (aF ev)) H1 H':=by
 obtain ⟨H',s,r,f1,f2⟩:=h.d.wait h.here hs f hf h1;rw [List.set_set] at r;exact ⟨H',s,⟨h.il,r⟩,f1,f2⟩
theorem Sk.one (h:Sk ai qt 11 H a ys):aT a=true:=by
 rcases h with ⟨rfl,-⟩|⟨b,i,alt,r,h⟩
 ·rfl
 ·rw [h.eq];rfl
theorem q4o {i:Nat} {y:De} (hx:xs[i]? = some (x,a)) {z:Nat}:iR D mp lv ev (xs.set i (y,a)) z ↔ iR D mp lv ev xs z:=by
 have hi:=(qe.1 hx).1;have key:(∃ (k:Nat) (yy:De) (b:AV),(xs.set i (y,a))[k]? = some (yy,b)/\aI b z) ↔ ∃ (k:Nat) (yy:De) (b:AV),xs[k]? = some (yy,b)/\aI b z:=by
  constructor
  ·rintro ⟨k,yy,b,hk,hz⟩
   by_cases e:k=i
   ·subst e;rw [qu hi] at hk;injection hk with hk;injection hk with _ hk;subst hk
    exact ⟨k,x,a,hx,hz⟩
   ·rw [qm (yt e)] at hk;exact ⟨k,yy,b,hk,hz⟩
  ·rintro ⟨k,yy,b,hk,hz⟩
   by_cases e:k=i
   ·subst e;rw [hx] at hk;injection hk with hk;injection hk with _ hk;subst hk
    exact ⟨k,y,a,qu hi,hz⟩
   ·exact ⟨k,yy,b,by rw [qm (yt e)];exact hk,hz⟩
 unfold iR;rw [key]
theorem q2x (h:iT H D mp lv ev N ws xs) (hx:xs[m.line.toNat]? = some (x,a)) (hw:ws[m.line.toNat]? = some w) (xi:XI x N m.line) (h0:0<=m.line) (c0:0<=m.core) (c1:m.core<N) (hwl:x.wt.length<=900000) :
 zq M vp [.ptr D 0,.agg (ai m)] H (tL H D mp lv ev N ws xs m.line.toNat a (x.az w m)):=by
 have N4:=xi.N4;have c4:m.core<4:=by omega
 have hil:=(qe.1 hx).1;have hlow:∀ z,iR D mp lv ev xs z->z<H.next:=λ z hz=>h.low hz
 refine qt8 ?_;obtain ⟨w0,w2,w10,w12,w20,w28,w32,w113,w42,w119,w45,w61,w66,w55,w71,w86,w73,w99,w79⟩:=ql0 M ⟨none,vp⟩;obtain ⟨H1,e1⟩:∃ X,X=H.alloc (OR (ai m) qt):=⟨_,rfl⟩
 have f1:Fr Em H H1:=by rw [e1];exact (Fr.refl H).alloc _
 have g1:H1.get H.next=some (OR (ai m) qt):=by rw [e1,qw]
 have n1:H1.next=H.next+1:=by rw [e1,xd]
 have d1:=h.em f1;have l2:Op.ae [.ptr H.next 2] H1=some (.int .i64 m.line):=xp (qz g1) 2;have l1:Op.ae [.ptr H.next 1] H1=some (.int .i64 m.core):=xp (qz g1) 1;have lN:Op.ae [.ptr D 1] H1=some (.int .i64 N):=xp (qz d1.row) 1;have lU:=fU g1 (xq m);have q0:¬ m.core<0:=by omega
 have q1:¬ N<=m.core:=by omega
 simp only [↓qd,qp,aa,reduceIte,reduceEqDiff,w0,xk,<-e1,w2,kv,w10,l2];refine C3.q (xY (M:=M) d1 h0 (by omega)) λ v H2 ⟨hv,hh⟩=>?_;rw [hv,hh];simp only [↓qd,qp,aa,reduceIte,reduceEqDiff,w12,kv,l1,q0,qi,lN,q1,w20,lU];have en1:cC H1 D mp lv ev N ws xs m.line.toNat x a:=cC.of d1 hx;refine C3.q (q5l (M:=M) en1 m c0 c4 xi.ab (by omega)) λ v H2 ⟨hv,f2⟩=>?_;rw [hv];have en2:=en1.em f2;have F2:Fr Em H H2:=f1.trans f2 λ _ q=>q.elim;have m2:=f2.next
 by_cases may:x.may m
 case neg =>
  simp only [↓qd,qp,aa,reduceIte,reduceEqDiff,may];unfold De.az;rw [ql may];exact ⟨⟨_,_,rfl,.nil ..⟩,a,by rw [I2 hw];exact en2,F2.mono λ _ _ q=>q.elim,λ z hz=>.inl hz⟩
 -- what the box of the message stays under
 have lm:∀ {Hx:AHeap} (k:Nat),Fr (iR D mp lv ev xs) H2 Hx->Op.ae [.ptr H.next k] Hx=(ai m)[k]?:=λ k f=>xp (qz (by rw [f.ah _ (by omega) (λ q=>by have:=hlow _ q;omega),f2.ah _ (by omega) id];exact g1)) k;have lD:∀ {Hx:AHeap},Fr (iR D mp lv ev xs) H2 Hx->Op.aG 8 [.ptr H.next 3] Hx=some (.agg (cJ m.d)):=λ {Hx} f=>by
  have g:Hx.get H.next=some (OR (ai m) qt):=by rw [f.ah _ (by omega) (λ q=>by have:=hlow _ q;omega),f2.ah _ (by omega) id];exact g1
  rw [Ac (qz g) (by rw [xq];decide)];obtain ⟨k,co,li,⟨d,hd⟩⟩:=m
  match d,hd with
  | [_,_,_,_,_,_,_,_],_=>rfl
 have r2:=Fr.refl (W:=iR D mp lv ev xs) H2;have k0:Op.ae [.ptr H.next 0] H2=some (.int .i64 m.k):=lm 0 r2;have k1r:∀ {Hx:AHeap},Fr (iR D mp lv ev xs) H2 Hx->Op.ae [.ptr H.next 1] Hx=some (.int .i64 m.core):=λ f=>lm 1 f;have k2r:∀ {Hx:AHeap},Fr (iR D mp lv ev xs) H2 Hx->Op.ae [.ptr H.next 2] Hx=some (.int .i64 m.line):=λ f=>lm 2 f;have hwt:=en2.d.wt m.line.toNat x a en2.here;have bx:=λ z (hz:aI a z)=>(hlow z (.inr (.inr (.inr (.inr ⟨_,x,a,hx,hz⟩)))))
 unfold De.az;rw [qg (λ q=>q may)];have sh1:=FA c0 c4;simp only [↓qd,qp,aa,reduceIte,reduceEqDiff,may,w28,w32,k0]
 by_cases kg:m.k=1\/m.k=2
 ·rw [ql kg]
  -- the message in hand has no words
  have st:Op.store 8 [.ptr H.next 3,.agg (cJ .zero)] H2=some (.undef,H2.set H.next (OR (ai { m with d:=.zero }) qt)):=by
   have g:H2.get H.next=some (OR (ai m) qt):=by rw [f2.ah _ (by omega) id];exact g1
   have:=oS g (o:=3) (n:=8) (v:=.agg (cJ .zero)) (by rw [xk];exact vf _) (by rw [xq];decide) (by rw [xk];exact tq _);rw [this,BA]
  obtain ⟨H3,e3⟩:∃ X,X=H2.set H.next (OR (ai { m with d:=.zero }) qt):=⟨_,rfl⟩
  rw [<-e3] at st;have f3:Fr (On H.next) H2 H3:=by rw [e3];exact (Fr.refl H2).set (W:=On H.next) (.inl rfl) _
  have g3:H3.get H.next=some (OR (ai { m with d:=.zero }) qt):=by rw [e3,xb]
  have lU3:=fU g3 (xq { m with d:=.zero });have en3:cC H3 D mp lv ev N ws xs m.line.toNat x a:=(cC.of h hx).loc en2 (f3.mono λ z _ (q:z=H.next)=>by show H.next<=z;omega);have F3:Fr Em H H3:=F2.trans (f3.mono (W':=Lo H) λ z _ (q:z=H.next)=>by show H.next<=z;omega) λ z q=>.inr q;have m3:=f3.next
  have key:∀ {E:Env},lk E 38=some (.bool true)->lk E 3=some (.ptr H.next 0)->lk E 6=some (xA ev m.line.toNat)->lk E 0=some (.ptr D 0)->lk E 4=some .nils ->
   W M ⟨none,vp⟩ (OO 42) true (cw 0 (cT (W M ⟨none,vp⟩ (OO 113)) (c6 M [.tmp 4,.tmp 5] (kO (tL H D mp lv ev N ws xs m.line.toNat a (if x.ph ≠ 0 then ({ x with wt:=x.wt ++ [{ m with d:=.zero }] },w,[]) else ((x.begin { m with d:=.zero } w).1,w,(x.begin { m with d:=.zero } w).2))))))) E [] H2:=by
   intro E b38 b3 b6 b0 b4
   by_cases p0:x.ph=0
   ·rw [qg (λ q=>q p0)];simp only [↓qd,qp,aa,reduceIte,reduceEqDiff,w42,b38,lZ,bd8,b3,st,w45,b6,qi,en3.nz,xc p0,w55,b0,lU3];refine C3.q (kX (M:=M) en3 { m with d:=.zero } hw h0 xi.sb c0 c4 kg (by have:=xi.ow;omega)) λ v H4 ⟨hms,en4,f4⟩=>?_;simp only [↓qd,qp,aa,reduceIte,reduceEqDiff];refine ⟨⟨_,_,rfl,hms.1,λ q=>xj F3.next (hms.2 q)⟩,a,by rw [I2 hw];exact en4,(F3.mono λ _ _ q=>q.elim).trans (wD f4) λ _ q=>.inl q,λ z hz=>.inl hz⟩
   ·rw [ql p0];have hsk:=en3.d.wt m.line.toNat x a en3.here;obtain ⟨H4,e4⟩:∃ X,X=H3.alloc (OR (ai { m with d:=.zero }) qt):=⟨_,rfl⟩
    have f34:Fr Em H3 H4:=by rw [e4];exact (Fr.refl H3).alloc _
    have rw1:=EN (H:=H3) { m with d:=.zero };rw [<-e4] at rw1;have sl1:=rw1.sl xq;obtain ⟨v5,H5,s5,k5,f5,o5⟩:=(hsk.em f34).app xq (by decide) (ys:=[{ m with d:=.zero }]) (k:=1) (new:=ai { m with d:=.zero }) rfl (by simp) (Sl.dD sl1) (by have:=Sl.first sl1;simpa using this) (vk _) (bytes:=88) (by omega) (by omega);have n4:H4.next=H3.next+1:=by rw [e4,xd]
    have f35:Fr (aI a) H3 H5:=(f34.mono λ _ _ q=>q.elim).trans f5 λ _ q=>.inl q;obtain ⟨H6,s6,en6,f6,f56⟩:=en3.wait k5 f35 (λ z hz=>(o5 z hz).elim .inl λ q=>.inr (by omega)) k5.one;simp only [↓qd,qp,aa,reduceIte,reduceEqDiff,w42,b38,lZ,bd8,b3,st];simp only [↓qd,qp,aa,reduceIte,reduceEqDiff,w45,b3,b6,qi,en3.nz,p0,en3.ft,lU3,mZ,sW,<-e4,s5,s6];refine ⟨⟨_,_,rfl,.nil ..⟩,v5,by rw [I2 hw];exact en6,?_,λ z hz=>(o5 z hz).elim .inl λ q=>.inr (by have:=F3.next;omega)⟩;exact (F3.mono λ _ _ q=>q.elim).trans f6 λ z q=>.inl ((q4o hx).1 q)
  rcases kg with k|k
  ·simp only [↓qd,qp,aa,reduceIte,reduceEqDiff,xc k];exact key rfl rfl rfl rfl rfl
  ·have nk:¬ m.k=1:=by omega
   simp only [↓qd,qp,aa,reduceIte,reduceEqDiff,nk,xc k];exact key rfl rfl rfl rfl rfl
 rw [qg kg];have nk1:¬ m.k=1:=λ q=>kg (.inl q);have nk2:¬ m.k=2:=λ q=>kg (.inr q);have hm:=may;unfold De.may at hm;rw [qg kg] at hm;have hU:=xi.un;have grd:∀ {y:De} {w':L8},x.ph ≠ 0->y.un=x.un->y.sh<16->(ws.set m.line.toNat w')[y.un.line.toNat]? = some w'/\0<=y.un.line/\y.sh<16/\0<=y.un.core/\y.un.core<4:=λ {y w'} p e1 e2=>by
  obtain ⟨-,u0,u1,ul⟩:=hU p;have hl:=(qe.1 hw).1;rw [e1];exact ⟨by rw [ul,qu hl],by rw [ul];exact h0,e2,u0,by omega⟩
 have sameE:∀ {Hx:AHeap} {y:De},cC Hx D mp lv ev N ws xs m.line.toNat y a->cC Hx D mp lv ev N (ws.set m.line.toNat w) xs m.line.toNat y a:=λ e=>by rw [I2 hw];exact e
 have full:∀ {Hx:AHeap},Fr (iR D mp lv ev xs) H2 Hx->Fr (iR D mp lv ev xs) H Hx:=λ f=>(F2.mono λ _ _ q=>q.elim).trans f λ _ q=>.inl q;have nilO:∀ {Hx:AHeap},cq ai qt 11 Hx .nils ([]:List Mg):=Own.nil ..;have nilF:∀ z,aI AV.nils z->H.next<=z:=λ z q=>absurd rfl q.1
 simp only [↓qd,qp,aa,reduceIte,reduceEqDiff,nk1,nk2,w42]
 by_cases k4:m.k=4
 ·rw [ql k4] at hm ⊢;have sd:=O6 xi.sb c0 c4;have sda:=O6 xi.ab c0 c4;obtain ⟨H3,s3,en3,f3⟩:=en2.s1 (aU x.sh m.core);obtain ⟨H4,s4,en4,f4⟩:=en3.K5 (aU x.ask m.core);have F3:=wD (D:=D) (mp:=mp) (lv:=lv) (xs:=xs) f3;have F4:=qL F3 (wD f4);have dl:aU x.sh m.core<16:=(FT xi.sb c0 c4 (d:=0) (by decide) (by decide)).1;have dd:decide (((aU x.ask m.core:Nat):Int)=0)=decide (aU x.ask m.core=0):=by
   by_cases e:aU x.ask m.core=0
   ·rw [e];rfl
   ·rw [AO e,AO (by omega)]
  simp only [↓qd,qp,aa,reduceIte,reduceEqDiff,xc k4,w61,qi,en2.l1,k1r r2,sh1,sd,s3,en3.rf,k1r F3,sda,s4,en4.rf];exact kT (M:=M) (q:=aU x.ask m.core=0) dd rfl rfl rfl rfl hx (sameE en4) (λ _=>grd (by omega) rfl dl) nilO (by decide) nilF (full F4) hlow
 rw [qg k4] at hm ⊢
 by_cases k5:m.k=5
 ·rw [ql k5] at hm ⊢;have BS:Op.ae [.ptr D 0] H2=some (.ptr mp 0):=xp (qz en2.d.row) 0;have hlen:m.line<ws.length:=by have:=(qe.1 hw).1;omega
  simp only [↓qd,qp,aa,reduceIte,reduceEqDiff,k4,w66,xc k5,qi,BS,k2r r2,lD r2];refine C3.q (qph (M:=M) en2.d.me h0 hlen m.d) λ v H3 ⟨hv,hm3,f3⟩=>?_;have en3:=en2.mem hm3 f3 (qv ..);have F3:=frM (D:=D) (mp:=mp) (ev:=ev) (xs:=xs) f3;obtain ⟨H4,s4,en4,f4⟩:=en3.s0 (-1);have F4:=qL F3 (wD f4)
  by_cases u1:x.un.k=1
  ·rw [ql u1];have sa:=q45 xi.sb c0 c4;obtain ⟨H5,s5,en5,f5⟩:=en4.s1 (jC x.sh m.core);have F5:=qL F4 (wD f5);simp only [↓qd,qp,aa,reduceIte,reduceEqDiff,w71,qi,s4,w73,en4.l2,xc u1,en4.l1,k1r F4,sh1,sa,s5,w79];exact kT (M:=M) (q:=True) rfl rfl rfl rfl rfl hx en5 (λ _=>grd (by omega) rfl (EJ xi.sb c0 c4 (d:=0) (by decide) (by decide)).1) nilO (by decide) nilF (full F5) hlow
  ·rw [qg u1];simp only [↓qd,qp,aa,reduceIte,reduceEqDiff,w71,qi,s4,w73,en4.l2,u1,w79];exact kT (M:=M) (q:=True) rfl rfl rfl rfl rfl hx en4 (λ _=>grd (by omega) rfl xi.sb) nilO (by decide) nilF (full F4) hlow
 rw [qg k5] at hm ⊢
 by_cases k6:m.k=6
 ·rw [ql k6] at hm ⊢;obtain ⟨H3,s3,en3,f3⟩:=en2.Jd 3;simp only [↓qd,qp,aa,reduceIte,reduceEqDiff,k4,w66,k5,xc k6,qi,s3,en3.l0];exact kT (M:=M) (q:=x.ow<0) rfl rfl rfl rfl rfl hx (sameE en3) (λ _=>grd (by omega) rfl xi.sb) nilO (by decide) nilF (full (wD f3)) hlow
 rw [qg k6] at hm ⊢
 by_cases k3:m.k=3
 ·rw [ql k3] at hm ⊢;have BS:Op.ae [.ptr D 0] H2=some (.ptr mp 0):=xp (qz en2.d.row) 0;have hlen:m.line<ws.length:=by have:=(qe.1 hw).1;omega
  simp only [↓qd,qp,aa,reduceIte,reduceEqDiff,k4,w66,k5,k6,w86,xc k3,qi,BS,k2r r2,lD r2];refine C3.q (qph (M:=M) en2.d.me h0 hlen m.d) λ v H3 ⟨hv,hm3,f3⟩=>?_;have en3:=en2.mem hm3 f3 (qv ..);have F3:=frM (D:=D) (mp:=mp) (ev:=ev) (xs:=xs) f3;obtain ⟨H4,s4,en4,f4⟩:=en3.s0 (-1);have F4:=qL F3 (wD f4);simp only [↓qd,qp,aa,reduceIte,reduceEqDiff,qi,s4,k1r F4,k2r F4,mZ,bdA];refine gE (e:=qt) (size:=11) (bytes:=88) (Own.nil H4 qt 11) (x:=.agg (ai ⟨16,m.core,m.line,.zero⟩)) (xq _) (by rw [xk];exact xq _) (by rw [xk];exact vk _) (by decide) (by omega) (by omega) λ v5 H5 hv5 hf hfr=>?_;rw [xk] at hv5;have f45:Fr Em H4 H5:=hf.mono λ z _ hz=>absurd rfl hz.1;have en5:=en4.em f45;have F5:=F4.trans f45 λ _ q=>q.elim;have nn:H.next<=H4.next:=(full F4).next
  simp only [↓qd,qp,aa,reduceIte,reduceEqDiff,qi,en5.nz];refine kT (M:=M) (q:=x.ph=3) rfl rfl rfl rfl rfl hx en5 (λ q=>grd (by omega) rfl xi.sb) (o:=[⟨16,m.core,m.line,.zero⟩]) ?_ (by simp) (λ z hz=>(hfr z hz).elim (λ q=>absurd rfl q.1) λ q=>by omega) (full F5) hlow;unfold cq
  simpa using hv5
 rw [qg k3] at hm ⊢;obtain ⟨k7,p4,pu⟩:=hm;obtain ⟨H3,s3,en3,f3⟩:=en2.Jd 0;obtain ⟨H4,s4,en4,f4⟩:=en3.sU ⟨0,0,0,.zero⟩;have F4:=qL (wD (D:=D) (mp:=mp) (lv:=lv) (xs:=xs) f3) (wD f4);have hsk:=en4.d.wt m.line.toNat _ a en4.here;have hln:=hsk.len xq;cases hwt2:x.wt with
 | nil =>
  have hln:Op.dC [a]=some (.int .i64 0):=by rw [hln];simp only [hwt2];rfl
  have z00:¬ (0:Int)<0:=by decide
  have en4n:cC H4 D mp lv ev N ws xs m.line.toNat { x with ph:=0,un:=⟨0,0,0,.zero⟩,wt:=[] } a:=by rw [<-hwt2];exact en4
  simp only [↓qd,qp,aa,reduceIte,reduceEqDiff,k4,w66,k5,k6,w86,k3,xc k7,w99,qi,mZ,BV,s3,s4,en4.ft,hln,z00];exact kT (M:=M) (q:=False) (b8:=false) rfl rfl rfl rfl rfl hx (sameE en4n) (λ q=>q.elim) nilO (by decide) nilF (full F4) hlow
 | cons n r =>
  have hn:=xi.wt n (by rw [hwt2];simp);have hln:Op.dC [a]=some (.int .i64 ((r.length+1:Nat):Int)):=by rw [hln];simp only [hwt2];rfl
  have z01:(0:Int)<((r.length+1:Nat):Int):=by omega
  have hsk':Sk ai qt 11 H4 a (n::r):=by
   have:({ x with ph:=0,un:=⟨0,0,0,.zero⟩ }:De).wt=n::r:=hwt2;rw [<-this];exact hsk
  have ix:=(hsk'.sl xq).idx (i:=0) (x:=n) rfl (z:=0) rfl .i64;have ld:=(hsk'.sl xq).aG xq (by decide) (i:=0) (x:=n) rfl;obtain ⟨H5,e5⟩:∃ X,X=H4.alloc (OR (ai ⟨0,0,0,.zero⟩) qt):=⟨_,rfl⟩
  have g5:H5.get H4.next=some (OR (ai ⟨0,0,0,.zero⟩) qt):=by rw [e5,qw]
  have st5:=iH g5 (xq _) (xq n) (vk n);obtain ⟨H6,e6⟩:∃ X,X=H5.set H4.next (OR (ai n) qt):=⟨_,rfl⟩
  rw [<-e6] at st5;have g6:H6.get H4.next=some (OR (ai n) qt):=by rw [e6,xb]
  have f45:Fr Em H4 H5:=by rw [e5];exact (Fr.refl H4).alloc _
  have f46:Fr Em H4 H6:=by rw [e6];exact f45.set (.inr (qf _)) _
  have n6:H4.next<H6.next:=by rw [e6,C8,e5,xd];omega
  have en6:=en4.em f46;have hsk6:=hsk'.em f46;rcases hsk6 with ⟨-,q⟩|⟨b,i,alt,rr,hsb⟩
  ·cases q
  obtain ⟨v7,alt',s7,hsb7,-⟩:=hsb.off xq (k:=1) (by simp) .i64;have s7:Op.aJ 11 [some 0,none,none] [a,.int .i64 1]=some v7:=s7;have hon7:∀ z,aI v7 z->aI a z:=λ z hz=>by rw [hsb7.KG hz];exact hsb.on
  obtain ⟨H8,s8,en8,f8,f68⟩:=en6.wait (ys:=r) (.inr ⟨_,_,_,_,hsb7⟩) (Fr.refl H6) (λ z hz=>.inl (hon7 z hz)) (by rw [hsb7.eq];rfl);have F6:=F4.trans f46 λ _ q=>q.elim;have F8:=F6.trans f8 λ z q=>.inl ((q4o hx).1 q);have nev:¬ H4.next=aF ev:=by have:=hlow (aF ev) (.inr (.inr (.inr (.inl rfl))));have:=(full F4).next;omega
  have l8:Op.aG 11 [.ptr H4.next 0] H8=some (.agg (ai n)):=fU (by rw [f68.ah _ n6 nev];exact g6) (xq n);simp only [↓qd,qp,aa,reduceIte,reduceEqDiff,k4,w66,k5,k6,w86,k3,xc k7,w99,qi,mZ,BV,s3,s4,en4.ft,hln,xc z01,ix,ld,<-e5,st5,en6.ft,s7,s8,l8];obtain ⟨nk,n0,n1',nl⟩:=hn;refine C3.q (kX (M:=M) en8 n (w:=w) (by rw [nl];exact hw) (by rw [nl];exact h0) xi.sb n0 (by omega) nk (by have:=xi.ow;show x.ow<4;omega)) λ v H9 ⟨hms,en9,f9⟩=>?_;simp only [↓qd,qp,aa,reduceIte,reduceEqDiff];refine ⟨⟨_,_,rfl,hms.1,λ q=>xj (full F8).next (hms.2 q)⟩,v7,by rw [I2 hw];exact en9,full (qL F8 (wD f9)),λ z hz=>.inl (hon7 z hz)⟩
end
end Go.Am
