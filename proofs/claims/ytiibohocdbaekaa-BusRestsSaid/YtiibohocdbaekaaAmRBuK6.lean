/- BuK6: DiF DiG DiH. -/
import Derived.Test.YtiibohocdbaekaaAmRBuK5
set_option linter.unusedVariables false
set_option linter.unusedSimpArgs false
set_option linter.unusedSectionVars false
set_option maxRecDepth 100000
open Nat (reduceEqDiff)
namespace Go.Am
open Go.Proofs Ca
variable {M:aO} [MK M]
structure JY (t:Nat) (ms:List Mg) (V:Nat->Prop) (Hx:AHeap):Prop where
 vt:V t
 lt:t<Hx.next
 ls:∃ lv,Hx.get t=some (OR [lv] jI)/\eB ai qk 11 Hx lv ms /\ ∀ z,bH lv z->V z/\t<z
theorem JY.loc {t:Nat} {ms:List Mg} {V:Nat->Prop} {Ha Hb:AHeap} (h:JY t ms V Ha) (hs:∀ x,V x->Hb.get x=Ha.get x) (hn:Ha.next<=Hb.next):JY t ms V Hb:=by
 obtain ⟨lv,l1,l2,l3⟩:=h.ls;exact ⟨h.vt,qn h.lt hn,lv,by rw [hs _ h.vt];exact l1,Own.fr l2 (⟨hn,λ b _ hw=>hs b (Ft.1 hw)⟩:Fr (λ b=>¬ V b) Ha Hb) λ x hx w=>w (l3 x hx).1,l3⟩
abbrev lJ (l:Int) (k:Nat):Mg:=⟨11,(k:Int),l,.zero⟩
theorem q84 (s:Nat) (l:Int):(jR s).map (λ c=>(⟨11,c,l,.zero⟩:Mg))=(gi s).map (lJ l):=by
 rw [Ek,re];rfl
theorem ua (s:Nat):(gi s).length<=4:=by
 have:=List.length_filter_le (λ (k:Nat)=>hb s (k:Int) == 1) (List.range 4);rw [yl] at this;exact this
section
variable {H:AHeap} {D mp:Nat} {lv ev:AV} {N:Int} {ws:List L8} {xs:List (De × AV)} {i:Nat} {x:De} {a:AV}
theorem jE (h:cG H D mp lv ev N ws xs i x a) (m:Mg) {w:L8} (hw:ws[m.line.toNat]? = some w) (hl:0<=m.line) (hs:x.sh<16) (c0:0<=m.core) (c1:m.core<4) (hk:m.k=1\/m.k=2) (ho:x.ow<4) :
 jv M wM [.ptr D 0,xA ev i,.agg (ai m)] H λ v H'=>ir H H' v (x.begin m w).2/\cG H' D mp lv ev N ws xs i (x.begin m w).1 a/\Fr (On (aM ev)) H H':=by
 refine quv ?_;obtain ⟨w0,wa,wb,w4,w22,w10,w24,w12,w32,w18,w36,w41⟩:=qm0 M ⟨none,wM⟩;obtain ⟨H1,e1⟩:∃ X,X=H.alloc (OR (ai m) qk):=⟨_,rfl⟩
 have f1:Fr Em H H1:=by rw [e1];exact (Fr.refl H).alloc _
 have g1:H1.get H.next=some (OR (ai m) qk):=by rw [e1,qx]
 have n1:H1.next=H.next+1:=by rw [e1,xn]
 have hev:=h.d.es.lt;have nb:¬ H.next=aM ev:=by omega
 have lU:=fQ g1 (xu m);obtain ⟨H2,s2,h2,f2⟩:=(h.em f1).sU m;have m2:=f2.next
 have F2:Fr (On (aM ev)) H H2:=(f1.mono λ _ _ q=>q.elim).trans f2 λ _ q=>.inl q;have lm:∀ {Hx:AHeap} (k:Nat),Fr (On (aM ev)) H2 Hx->Op.aa [.ptr H.next k] Hx=(ai m)[k]?:=λ k f=>zf (xb (by rw [f.ae _ (by omega) nb,f2.ae _ (by omega) nb];exact g1)) k;simp only [↓qh,xa,reduceIte,reduceEqDiff,w0,xw,<-e1,lU,qf,s2,w4,h2.l0];unfold De.begin
 by_cases q:0<=x.ow
 ·rw [qm q];have sh1:=Fc q ho;obtain ⟨H3,s3,h3,f3⟩:=h2.GQ 2;obtain ⟨H4,s4,h4,f4⟩:=h3.JA (2 ^ x.ow.toNat);have F24:Fr (On (aM ev)) H2 H4:=f3.trans f4 λ _ q=>.inl q;have F4:=F2.trans F24 λ _ q=>.inl q;have l0:Op.aa [.ptr H.next 0] H4=some (.int .i64 m.k):=lm 0 F24;have l2:Op.aa [.ptr H.next 2] H4=some (.int .i64 m.line):=lm 2 F24;have m4:=F4.next
  have out:∀ k:Int,ir H (H4.alloc (OR (ai ⟨k,x.ow,m.line,.zero⟩) qk)) (Op.sliceTo 1 1 H4.next) [⟨k,x.ow,m.line,.zero⟩]/\cG (H4.alloc (OR (ai ⟨k,x.ow,m.line,.zero⟩) qk)) D mp lv ev N ws xs i { x with un:=m,ph:=2,ask:=2 ^ x.ow.toNat } a/\Fr (On (aM ev)) H (H4.alloc (OR (ai ⟨k,x.ow,m.line,.zero⟩) qk)):=λ k =>
   ⟨Ec _ m4,h4.em ((Fr.refl H4).alloc _),F4.alloc _⟩
  by_cases k2:m.k=2
  ·rw [qm k2];simp only [↓qh,xa,reduceIte,reduceEqDiff,xj q,h2.l0,qf,sh1,s3,s4,w10,w12,l0,xj k2,w18,h4.l0,l2,mZ,JL,rB];exact out 13
  ·rw [qd k2];simp only [↓qh,xa,reduceIte,reduceEqDiff,xj q,h2.l0,qf,sh1,s3,s4,w10,w12,l0,k2,w18,h4.l0,l2,mZ,JL,rB];exact out 12
 ·rw [qd q];have sh1:=Fc c0 c1;have sd:=LI hs c0 c1;obtain ⟨H3,s3,h3,f3⟩:=h2.JA (aX x.sh m.core);have F3:=F2.trans f3 λ _ q=>.inl q;have l1:Op.aa [.ptr H.next 1] H2=some (.int .i64 m.core):=lm 1 (Fr.refl _);have l0:Op.aa [.ptr H.next 0] H3=some (.int .i64 m.k):=lm 0 f3;have dz:aX x.sh m.core=0 ↔ ((aX x.sh m.core:Nat):Int)=0:=by omega
  have tog:m.k=1\/aX x.sh m.core=0->jv M zJ [.ptr D 0,xA ev i] H3 λ v H'=>v=.agg (ai (De.bg { x with un:=m,ask:=aX x.sh m.core } w).2)/\cG H' D mp lv ev N ws xs i (De.bg { x with un:=m,ask:=aX x.sh m.core } w).1 a/\Fr (On (aM ev)) H3 H':=λ _=>qx7 (M:=M) h3 hw hl hs c0 c1;have outg:∀ {v:AV} {H4:AHeap},(v=.agg (ai (De.bg { x with un:=m,ask:=aX x.sh m.core } w).2)/\cG H4 D mp lv ev N ws xs i (De.bg { x with un:=m,ask:=aX x.sh m.core } w).1 a/\Fr (On (aM ev)) H3 H4) ->
   ir H (H4.alloc (OR (ai (De.bg { x with un:=m,ask:=aX x.sh m.core } w).2) qk)) (Op.sliceTo 1 1 H4.next) [(De.bg { x with un:=m,ask:=aX x.sh m.core } w).2]/\cG (H4.alloc (OR (ai (De.bg { x with un:=m,ask:=aX x.sh m.core } w).2) qk)) D mp lv ev N ws xs i (De.bg { x with un:=m,ask:=aX x.sh m.core } w).1 a/\Fr (On (aM ev)) H (H4.alloc (OR (ai (De.bg { x with un:=m,ask:=aX x.sh m.core } w).2) qk)):=λ {v H4} ⟨_,h4,f4⟩=>by
   have F4:=F3.trans f4 λ _ q=>.inl q;exact ⟨Ec _ F4.next,h4.em ((Fr.refl H4).alloc _),F4.alloc _⟩
  by_cases k1:m.k=1
  ·rw [qm (.inl k1)];simp only [↓qh,xa,reduceIte,reduceEqDiff,q,w22,h2.l1,qf,l1,sh1,sd,s3,w24,l0,xj k1];refine C3.q (tog (.inl k1)) λ v H4 hh=>?_;rw [hh.1];simp only [↓qh,xa,reduceIte,reduceEqDiff,mZ,rB];exact outg hh
  by_cases d0:aX x.sh m.core=0
  ·rw [qm (.inr d0)];have d1:=dz.1 d0;simp only [↓qh,xa,reduceIte,reduceEqDiff,q,w22,h2.l1,qf,l1,sh1,sd,s3,w24,l0,k1,h3.py,xj d1];refine C3.q (tog (.inr d0)) λ v H4 hh=>?_;rw [hh.1];simp only [↓qh,xa,reduceIte,reduceEqDiff,mZ,rB];exact outg hh
  rw [qd (λ w=>w.elim k1 d0)];have d1:¬ ((aX x.sh m.core:Nat):Int)=0:=λ q=>d0 (dz.2 q);obtain ⟨H4,s4,h4,f4⟩:=h3.GQ 1;obtain ⟨H5,e5⟩:∃ X,X=H4.alloc (OR [.nils] jI):=⟨_,rfl⟩
  have f45:Fr Em H4 H5:=by rw [e5];exact (Fr.refl H4).alloc _
  have h5:=h4.em f45;have n5:H5.next=H4.next+1:=by rw [e5,xn]
  have g5:H5.get H4.next=some (OR [.nils] jI):=by rw [e5,qx]
  have F24:Fr (On (aM ev)) H2 H4:=f3.trans f4 λ _ q=>.inl q;have F4:=F2.trans F24 λ _ q=>.inl q;have m24:=F24.next
  simp only [↓qh,xa,reduceIte,reduceEqDiff,q,w22,h2.l1,qf,l1,sh1,sd,s3,w24,l0,k1,h3.py,d1,w32,s4,<-e5,w36,h5.py];refine C3.q (q8n (M:=M) (aX x.sh m.core)) λ v H7 ⟨hv,hh⟩=>?_;obtain ⟨H6,e6⟩:∃ X,X=H5.alloc (OR [uB (aX x.sh m.core)] Ij):=⟨_,rfl⟩
  rw [<-e6] at hh;rw [hv,hh];have f56:Fr Em H5 H6:=by rw [e6];exact (Fr.refl H5).alloc _
  have n6:H6.next=H4.next+2:=by rw [e6,xn,n5]
  have g6:H6.get H5.next=some (OR [uB (aX x.sh m.core)] Ij):=by rw [e6,qx]
  have g6t:H6.get H4.next=some (OR [.nils] jI):=by rw [f56.ae _ (by omega) id];exact g5
  have h6:=h5.em f56;have g6m:H6.get H.next=some (OR (ai m) qk):=by
   rw [f56.ae _ (by omega) id,f45.ae _ (by omega) id,F24.ae _ (by omega) nb,f2.ae _ (by omega) nb];exact g1
  have hd16:aX x.sh m.core<16:=(FQ hs c0 c1 (d:=0) (by decide) (by decide)).1;refine fw.iter (fn:=Cv) (lp:=Ew) (pa:=qlt 0) (pb:=qlu 0) qs2 qj5.1 qj5.2 (by decide) ⟨rfl,sD Ew.assign⟩ ⟨rfl,sD Ew.body⟩
   (q6j (M:=M) g6 (by omega) hd16) (λ j V Hx=>JY H4.next (((gi (aX x.sh m.core)).take j).map (lJ m.line)) V Hx) (λ _ _ _=>False) (λ z=>z=H4.next) (qg _) ?_ ?_ ?_ ?_ ?_ ?_ ?_ ?_
  ·rintro z (q|q)
   ·exact ⟨by omega,rfl,by omega⟩
   ·exact q.elim
  ·exact λ z hz=>by omega
  ·exact ⟨rfl,by omega,.nils,g6t,Own.nil ..,λ z q=>(q.1 rfl).elim⟩
  ·exact λ j V Ha Hb hp hs hn=>hp.loc hs hn
  ·exact λ e V Ha Hb hp _ _=>hp
  ·intro L2 j lr lb y hy hL2 V Hc hP hV hfc hnL hLc hgL;rw [xm,xf] at hy;obtain ⟨k,hk,rfl⟩:=hy;refine ⟨_,rfl,?_⟩;obtain ⟨-,wa,wb,-⟩:=qm0 M ⟨some L2,wM⟩;simp only [↓qh,xa,reduceIte,reduceEqDiff,wa,GS];refine ⟨hgL,?_⟩;have fx:Fr (On L2) Hc (Hc.set L2 lb):=(Fr.refl Hc).set (W:=On L2) (.inl rfl) _;have gL:(Hc.set L2 lb).get L2=some lb:=xd ..;have nL:(Hc.set L2 lb).next=Hc.next:=rfl
   have hP7:=hP.loc (Hb:=Hc.set L2 lb) (λ y hy=>by rw [wq (λ q:L2=y=>hnL (by rw [q];exact hy))]) (qg _);have gm:(Hc.set L2 lb).get H.next=some (OR (ai m) qk):=by
    rw [wq (by omega),hfc.ae H.next (by omega) (λ q=>q.elim (λ q=>by omega) id)];exact g6m
   generalize Hc.set L2 lb=Hd at *;obtain ⟨lv2,l1,l2,l3⟩:=hP7.ls;have lq:Op.aa [.ptr H4.next 0] Hd=some lv2:=zf (xb l1) 0;have ll:Op.aa [.ptr H.next 2] Hd=some (.int .i64 m.line):=zf (xb gm) 2;have iI:(((gi (aX x.sh m.core)).take j).map (lJ m.line)).length<=4:=by
    rw [zb,j9];have:=ua (aX x.sh m.core);omega
   simp only [↓qh,xa,reduceIte,reduceEqDiff,wb,lq,ll,mZ,JL];refine iM (e:=qk) (size:=11) (bytes:=88) l2 (x:=.agg (ai (lJ m.line k))) (xu _) (by rw [xw];exact xu _) (by rw [xw];exact jS _) (by decide) (by omega) (by omega) λ lv' H8 hlv' hf hfr=>?_;rw [xw] at hlv';have q8:H8.get H4.next=some (OR [lv2] jI):=by rw [hf.ae _ hP7.lt λ q=>by have:=(l3 _ q).2;omega];exact l1
   have o1:br lv'=true:=by have:=Sl.one (Own.sl hlv');exact this
   have st:=Ge q8 o1;obtain ⟨H9,e9⟩:∃ X,X=H8.set H4.next (OR [lv'] jI):=⟨_,rfl⟩
   rw [<-e9] at st;have f9:Fr (On H4.next) H8 H9:=by rw [e9];exact (Fr.refl H8).set (W:=On H4.next) (.inl rfl) _
   simp only [↓qh,xa,reduceIte,reduceEqDiff,st];have lo':∀ y,bH lv' y->H4.next<y:=λ y q=>(hfr y q).elim (λ q=>(l3 y q).2) λ q=>by have:=hP.lt;omega
   have nf:=hf.next
   have n9:H9.next=H8.next:=by rw [e9];rfl
   refine ⟨rfl,?_,λ y=>V y\/bH lv' y,?_,?_,.inl ⟨rfl,⟨.inl hP.vt,?_,lv',?_,?_,λ y q=>⟨.inr q,lo' y q⟩⟩⟩⟩
   ·rw [f9.ae L2 (by omega) (λ (q:L2=H4.next)=>hnL (by rw [q];exact hP.vt)),hf.ae L2 (by omega) λ q=>hnL (l3 _ q).1];exact gL
   ·rintro y (q|q)
    ·exact ⟨by have:=(hV y q).1;omega,.inl q⟩
    ·refine ⟨by rw [n9];exact Own.lt hlv' y q,?_⟩;rcases hfr y q with w|w
     ·exact .inl (l3 y w).1
     ·exact .inr (by omega)
   ·have a1:Fr (λ b=>V b\/b=L2) Hc Hd:=fx.mono λ x _ q=>.inr q;exact (a1.trans hf λ x hx=>.inl (.inl (l3 x hx).1)).trans f9 λ x hx=>.inl (.inl (by rw [show x=H4.next from hx];exact hP.vt))
   ·have:=hP.lt;omega
   ·rw [e9,xd]
   ·have hx2:((gi (aX x.sh m.core)).take (j+1)).map (lJ m.line)=((gi (aX x.sh m.core)).take j).map (lJ m.line) ++ [lJ m.line k]:=by rw [FC,hk];simp
    rw [hx2];have ow:eB ai qk 11 H8 lv' (((gi (aX x.sh m.core)).take j).map (lJ m.line) ++ [lJ m.line k]):=by
     unfold eB;rw [qu,j7,jt,List.flatMap_nil,x9];exact hlv'
    exact Own.fr ow f9 λ x hx (q:x=H4.next)=>by have:=lo' x hx;omega
  ·intro d V Hd hd1 hd2 hgd hfd hVd hP;obtain ⟨lv2,l1,l2,l3⟩:=hP.ls;have el:((gi (aX x.sh m.core)).map λ (k:Nat)=>[AV.int .i64 (k:Int)]).length=(gi (aX x.sh m.core)).length:=zb _;rw [el,zw (qg _)] at l2;have lq:Op.aa [.ptr H4.next 0] (Hd.set d (.deferred none))=some lv2:=zf (xb (show (Hd.set d (.deferred none)).get H4.next=some (OR [lv2] jI) from by rw [wq (λ q:d=H4.next=>by have:=(hVd _ hP.vt).2.2;omega)];exact l1)) 0;have lq0:Op.aa [.ptr H4.next 0] Hd=some lv2:=zf (xb l1) 0;have sl2:ep ai 11 (Hd.set d (.deferred none)) lv2 ((gi (aX x.sh m.core)).map (lJ m.line)):=by
    have fs:Fr (On d) Hd (Hd.set d (.deferred none)):=(Fr.refl Hd).set (W:=On d) (.inl rfl) _;exact (Own.fr l2 fs λ z hz (q:z=d)=>(hVd z (l3 z hz).1).2.2 q).sl
   have hx1:cG (Hd.set d (.deferred none)) D mp lv ev N ws xs i { x with un:=m,ph:=1,ask:=aX x.sh m.core } a:=by
    refine h.loc h6 ((hfd.mono λ z _ hz=>?_).set (.inl (show H.next<=d by omega)) _);rcases hz with hz|hz
    ·show H.next<=z;omega
    ·exact hz.elim
   have fr1:Fr (On (aM ev)) H (Hd.set d (.deferred none)):=by
    refine (((F4.trans f45 λ _ q=>q.elim).trans f56 λ _ q=>q.elim).trans hfd λ z hz=>?_).set (.inr (by omega)) _;rcases hz with hz|hz
    ·exact .inr (by omega)
    ·exact hz.elim
   simp only [↓qh,xa,reduceIte,reduceEqDiff,w41,lq,lq0,DD];refine ⟨hgd,⟨by rw [q84];exact sl2,λ hne=>?_⟩,hx1,fr1⟩;have hlo:lv2 ≠ .nils:=λ q=>by
    rw [q84] at hne;subst q;have:=l2.1;rw [ru xu] at this;rcases l2.2 with ⟨z,-⟩|⟨b,q,-⟩
    ·exact hne (yc.1 z)
    ·cases q
   have:=(l3 (aM lv2) ⟨hlo,rfl⟩).2;omega
  ·exact λ e d V Hd _ _ _ _ _ _ hp=>hp.elim
end
end Go.Am
namespace Go.Am
open Go.Proofs Ca
variable {M:aO} [MK M]
section
variable {H:AHeap} {D mp:Nat} {lv ev:AV} {N:Int} {ws:List L8} {xs:List (De × AV)} {i:Nat} {x:De} {a:AV}
theorem cG.mem (h:cG H D mp lv ev N ws xs i x a) {H':AHeap} {ws':List L8} (hm:wK H' mp lv ws') (f:Fr (On (aM lv)) H H') (hl:ws'.length=ws.length):cG H' D mp lv ev N ws' xs i x a:=by
 obtain ⟨e1,e2,e3,e4,e5⟩:=h.d.d1;exact ⟨h.il,by rw [f.ae _ h.d.lt (λ q=>e2 q)];exact h.d.row,qn h.d.lt f.next,hm,h.d.es.fr f (λ q=>e5 q.symm),λ k y b hk=>(h.d.wt k y b hk).fr f λ z hz q=>(h.d.d2 k y b hk z hz).2.2.1 q,h.d.d1,h.d.d2,h.d.d3,by rw [hl];exact h.d.len⟩
def sB (H:AHeap) (D mp:Nat) (lv ev:AV) (N:Int) (ws:List L8) (xs:List (De × AV)) (i:Nat) (a:AV) (r:De × L8 × List Mg) (v:AV) (H':AHeap):Prop :=
 (∃ ov e,v=.tuple [ov,e]/\ir H H' ov r.2.2) /\ ∃ a',cG H' D mp lv ev N (ws.set i r.2.1) xs i r.1 a'/\Fr (gY D mp lv ev xs) H H' /\ ∀ z,bH a' z->bH a z\/H.next<=z
theorem GA {ws:List L8} {i:Nat} {w:L8} (h:ws[i]? = some w):ws.set i w=ws:=by
 apply kx;intro j
 by_cases q:j=i
 ·rw [q,xp (ql.1 h).1,h]
 ·rw [xx (vp q)]
theorem tG {H1 H2:AHeap} (f:Fr (On (aM ev)) H1 H2):Fr (gY D mp lv ev xs) H1 H2:=f.mono λ _ _ q=>.inr (.inr (.inr (.inl q)))
theorem frM {H1 H2:AHeap} (f:Fr (On (aM lv)) H1 H2):Fr (gY D mp lv ev xs) H1 H2:=f.mono λ _ _ q=>.inr (.inr (.inl q))
theorem oS {H1 H2 H3:AHeap} (f:Fr (gY D mp lv ev xs) H1 H2) (g:Fr (gY D mp lv ev xs) H2 H3):Fr (gY D mp lv ev xs) H1 H3:=f.trans g λ _ q=>.inl q
theorem iY {E:Env} {Hy:AHeap} {y:De} {w':L8} {o:List Mg} {vo:AV} {q:Prop} [Decidable q] {b8:Bool} (hb8:b8=decide q) (b1:lk E 8=some (.bool b8)) (b2:lk E 7=some vo) (b3:lk E 0=some (.ptr D 0)) (b4:lk E 6=some (xA ev i))
 (hx:xs[i]? = some (x,a)) (h:cG Hy D mp lv ev N (ws.set i w') xs i y a) (hq:q->(ws.set i w')[y.un.line.toNat]? = some w'/\0<=y.un.line/\y.sh<16/\0<=y.un.core/\y.un.core<4)
 (ho:eB ai qk 11 Hy vo o) (hol:o.length<=3) (hof:∀ z,bH vo z->H.next<=z) (f:Fr (gY D mp lv ev xs) H Hy) (hlow:∀ z,gY D mp lv ev xs z->z<H.next) :
 W M ⟨none,y8⟩ (xg 113) true (aP M [.tmp 4,.tmp 5] (lM (sB H D mp lv ev N ws xs i a (y.lY w' q o)))) E [] Hy:=by
 obtain ⟨-,-,-,-,-,-,-,w113,-,w119,-⟩:=qoo M ⟨none,y8⟩;have hne:∀ {vo:AV} {o:List Mg} {Hy:AHeap},eB ai qk 11 Hy vo o->(∀ z,bH vo z->H.next<=z)->o ≠ []->H.next<=aM vo:=λ {vo o Hy} h1 h2 h3=>by
  refine h2 _ ⟨λ e=>?_,rfl⟩;subst e;have:=h1.1;rw [ru xu] at this;rcases h1.2 with ⟨z,-⟩|⟨b,q,-⟩
  ·exact h3 (yc.1 z)
  ·cases q
 unfold De.lY
 by_cases qq:q
 ·obtain ⟨hw,hl,hs,c0,c1⟩:=hq qq;rw [qm qq];rw [hb8,DG qq] at b1;simp only [↓qh,xa,reduceIte,reduceEqDiff,w113,b1,b2,b3,b4];refine C3.q (qx7 (M:=M) h hw hl hs c0 c1) λ v H2 ⟨hv,h2,f2⟩=>?_;rw [hv];have ho2:eB ai qk 11 H2 vo o:=Own.fr ho f2 λ z hz (q:z=aM ev)=>by have:=hof z hz;have:=hlow (aM ev) (.inr (.inr (.inr (.inl rfl))));omega
  simp only [↓qh,xa,reduceIte,reduceEqDiff,mZ];refine iM (e:=qk) (size:=11) (bytes:=88) ho2 (x:=.agg (ai (y.bg w').2)) (xu _) (by rw [xw];exact xu _) (by rw [xw];exact jS _) (by decide) (by omega) (by omega) λ v3 H3 hv3 hf hfr=>?_;rw [xw] at hv3;simp only [↓qh,xa,reduceIte,reduceEqDiff,w119];have f23:Fr (Lo H) H2 H3:=hf.mono λ z _ hz=>hof z hz;have ho3:eB ai qk 11 H3 v3 (o ++ [(y.bg w').2]):=by
   unfold eB;rw [qu,j7,jt,List.flatMap_nil,x9];exact hv3
  have hn:H.next<=H2.next:=xt f.next f2.next
  have hof3:∀ z,bH v3 z->H.next<=z:=λ z hz=>(hfr z hz).elim (λ q=>hof z q) λ q=>xt hn q
  have hlow2:∀ z,gY D mp lv ev (xs.set i ((y.bg w').1,a)) z->z<H.next:=λ z hz=>by
   refine hlow z ?_;rcases hz with hz|hz|hz|hz|⟨k,yy,b,hk,hz⟩
   ·exact .inl hz
   ·exact .inr (.inl hz)
   ·exact .inr (.inr (.inl hz))
   ·exact .inr (.inr (.inr (.inl hz)))
   ·by_cases e:k=i
    ·subst e;rw [h2.here] at hk;injection hk with hk;injection hk with _ hk;subst hk
     exact .inr (.inr (.inr (.inr ⟨k,x,a,hx,hz⟩)))
    ·rw [xx (vp e)] at hk;exact .inr (.inr (.inr (.inr ⟨k,yy,b,hk,hz⟩)))
  refine ⟨⟨_,_,rfl,ho3.sl,λ e=>hne ho3 hof3 e⟩,a,⟨h2.il,h2.d.fr f23 λ z hz q=>?_⟩,?_,λ z hz=>.inl hz⟩
  ·have:=hlow2 z q;have hz:H.next<=z:=hz;omega
  ·exact (oS f (tG f2)).trans f23 λ z hz=>.inr hz
 ·rw [qd qq];rw [hb8,Er qq] at b1;simp only [↓qh,xa,reduceIte,reduceEqDiff,w113,b1,b2,w119];exact ⟨⟨_,_,rfl,ho.sl,λ e=>hne ho hof e⟩,a,h,f,λ z hz=>.inl hz⟩
end
end Go.Am
namespace Go.Am
open Go.Proofs Ca
variable {M:aO} [MK M]
theorem bdA (co l:Int):Op.build (ai ⟨0,0,0,.zero⟩) [(0,1),(1,1),(2,1)] [.int .i64 16,.int .i64 co,.int .i64 l]=some (.agg (ai ⟨16,co,l,.zero⟩)):=rfl
theorem bd8:Op.build (cN .zero) [] []=some (.agg (cN .zero)):=rfl
theorem Aj:Op.build (ai ⟨0,0,0,.zero⟩) [] []=some (.agg (ai ⟨0,0,0,.zero⟩)):=rfl
theorem yE (m:Mg):(ai m).take 3++(AV.agg (cN .zero)).cells++(ai m).drop (3+8)=ai { m with d:=.zero }:=Oj m .zero
section
variable {H:AHeap} {D mp:Nat} {lv ev:AV} {N:Int} {ws:List L8} {xs:List (De × AV)} {x:De} {a:AV} {m:Mg} {w:L8} {ys:List Mg}
theorem cG.wait {i:Nat} (h:cG H D mp lv ev N ws xs i x a) {a':AV} {ys:List Mg} {H1:AHeap} (hs:Sk ai qk 11 H1 a' ys) (f:Fr (bH a) H H1) (hf:∀ z,bH a' z->bH a z\/H.next<=z) (h1:br a'=true) :
 ∃ H',Op.store 1 [.ptr (aM ev) (cu 16 ev i+15),a'] H1=some (.undef,H')/\cG H' D mp lv ev N ws xs i { x with wt:=ys } a'/\Fr (gY D mp lv ev (xs.set i (x,a))) H H'/\Fr (On (aM ev)) H1 H':=by
 obtain ⟨H',s,r,f1,f2⟩:=h.d.wait h.here hs f hf h1;rw [List.set_set] at r;exact ⟨H',s,⟨h.il,r⟩,f1,f2⟩
theorem Sk.one (h:Sk ai qk 11 H a ys):br a=true:=by
 rcases h with ⟨rfl,-⟩|⟨b,i,alt,r,h⟩
 ·rfl
 ·rw [h.eq];rfl
theorem q7j {i:Nat} {y:De} (hx:xs[i]? = some (x,a)) {z:Nat}:gY D mp lv ev (xs.set i (y,a)) z ↔ gY D mp lv ev xs z:=by
 have hi:=(ql.1 hx).1;have key:(∃ (k:Nat) (yy:De) (b:AV),(xs.set i (y,a))[k]? = some (yy,b)/\bH b z) ↔ ∃ (k:Nat) (yy:De) (b:AV),xs[k]? = some (yy,b)/\bH b z:=by
  constructor
  ·rintro ⟨k,yy,b,hk,hz⟩
   by_cases e:k=i
   ·subst e;rw [xp hi] at hk;injection hk with hk;injection hk with _ hk;subst hk
    exact ⟨k,x,a,hx,hz⟩
   ·rw [xx (vp e)] at hk;exact ⟨k,yy,b,hk,hz⟩
  ·rintro ⟨k,yy,b,hk,hz⟩
   by_cases e:k=i
   ·subst e;rw [hx] at hk;injection hk with hk;injection hk with _ hk;subst hk
    exact ⟨k,y,a,xp hi,hz⟩
   ·exact ⟨k,yy,b,by rw [xx (vp e)];exact hk,hz⟩
 unfold gY;rw [key]
theorem q50 (h:iq H D mp lv ev N ws xs) (hx:xs[m.line.toNat]? = some (x,a)) (hw:ws[m.line.toNat]? = some w) (xi:XI x N m.line) (h0:0<=m.line) (c0:0<=m.core) (c1:m.core<N) (hwl:x.wt.length<=900000) :
 jv M y8 [.ptr D 0,.agg (ai m)] H (sB H D mp lv ev N ws xs m.line.toNat a (x.av w m)):=by
 have N4:=xi.N4;have c4:m.core<4:=by omega
 have hil:=(ql.1 hx).1;have hlow:∀ z,gY D mp lv ev xs z->z<H.next:=λ z hz=>h.low hz
 refine qxe ?_;obtain ⟨w0,w2,w10,w12,w20,w28,w32,w113,w42,w119,w45,w61,w66,w55,w71,w86,w73,w99,w79⟩:=qoo M ⟨none,y8⟩;obtain ⟨H1,e1⟩:∃ X,X=H.alloc (OR (ai m) qk):=⟨_,rfl⟩
 have f1:Fr Em H H1:=by rw [e1];exact (Fr.refl H).alloc _
 have g1:H1.get H.next=some (OR (ai m) qk):=by rw [e1,qx]
 have n1:H1.next=H.next+1:=by rw [e1,xn]
 have d1:=h.em f1;have l2:Op.aa [.ptr H.next 2] H1=some (.int .i64 m.line):=zf (xb g1) 2;have l1:Op.aa [.ptr H.next 1] H1=some (.int .i64 m.core):=zf (xb g1) 1;have lN:Op.aa [.ptr D 1] H1=some (.int .i64 N):=zf (xb d1.row) 1;have lU:=fQ g1 (xu m);have q0:¬ m.core<0:=by omega
 have q1:¬ N<=m.core:=by omega
 simp only [↓qh,xa,reduceIte,reduceEqDiff,w0,xw,<-e1,w2,yk,w10,l2];refine C3.q (tl (M:=M) d1 h0 (by omega)) λ v H2 ⟨hv,hh⟩=>?_;rw [hv,hh];simp only [↓qh,xa,reduceIte,reduceEqDiff,w12,yk,l1,q0,qf,lN,q1,w20,lU];have en1:cG H1 D mp lv ev N ws xs m.line.toNat x a:=cG.of d1 hx;refine C3.q (q8k (M:=M) en1 m c0 c4 xi.ab (by omega)) λ v H2 ⟨hv,f2⟩=>?_;rw [hv];have en2:=en1.em f2;have F2:Fr Em H H2:=f1.trans f2 λ _ q=>q.elim;have m2:=f2.next
 by_cases may:x.may m
 case neg =>
  simp only [↓qh,xa,reduceIte,reduceEqDiff,may];unfold De.av;rw [qm may];exact ⟨⟨_,_,rfl,.nil ..⟩,a,by rw [GA hw];exact en2,F2.mono λ _ _ q=>q.elim,λ z hz=>.inl hz⟩
 -- what the box of the message stays under
 have lm:∀ {Hx:AHeap} (k:Nat),Fr (gY D mp lv ev xs) H2 Hx->Op.aa [.ptr H.next k] Hx=(ai m)[k]?:=λ k f=>zf (xb (by rw [f.ae _ (by omega) (λ q=>by have:=hlow _ q;omega),f2.ae _ (by omega) id];exact g1)) k;have lD:∀ {Hx:AHeap},Fr (gY D mp lv ev xs) H2 Hx->Op.aq 8 [.ptr H.next 3] Hx=some (.agg (cN m.d)):=λ {Hx} f=>by
  have g:Hx.get H.next=some (OR (ai m) qk):=by rw [f.ae _ (by omega) (λ q=>by have:=hlow _ q;omega),f2.ae _ (by omega) id];exact g1
  rw [wF (xb g) (by rw [xu];decide)];obtain ⟨k,co,li,⟨d,hd⟩⟩:=m
  match d,hd with
  | [_,_,_,_,_,_,_,_],_=>rfl
 have r2:=Fr.refl (W:=gY D mp lv ev xs) H2;have k0:Op.aa [.ptr H.next 0] H2=some (.int .i64 m.k):=lm 0 r2;have k1r:∀ {Hx:AHeap},Fr (gY D mp lv ev xs) H2 Hx->Op.aa [.ptr H.next 1] Hx=some (.int .i64 m.core):=λ f=>lm 1 f;have k2r:∀ {Hx:AHeap},Fr (gY D mp lv ev xs) H2 Hx->Op.aa [.ptr H.next 2] Hx=some (.int .i64 m.line):=λ f=>lm 2 f;have hwt:=en2.d.wt m.line.toNat x a en2.here;have bx:=λ z (hz:bH a z)=>(hlow z (.inr (.inr (.inr (.inr ⟨_,x,a,hx,hz⟩)))))
 unfold De.av;rw [qd (λ q=>q may)];have sh1:=Fc c0 c4;simp only [↓qh,xa,reduceIte,reduceEqDiff,may,w28,w32,k0]
 by_cases kg:m.k=1\/m.k=2
 ·rw [qm kg]
  -- the message in hand has no words
  have st:Op.store 8 [.ptr H.next 3,.agg (cN .zero)] H2=some (.undef,H2.set H.next (OR (ai { m with d:=.zero }) qk)):=by
   have g:H2.get H.next=some (OR (ai m) qk):=by rw [f2.ae _ (by omega) id];exact g1
   have:=po g (o:=3) (n:=8) (v:=.agg (cN .zero)) (by rw [xw];exact iu _) (by rw [xu];decide) (by rw [xw];exact rn _);rw [this,yE]
  obtain ⟨H3,e3⟩:∃ X,X=H2.set H.next (OR (ai { m with d:=.zero }) qk):=⟨_,rfl⟩
  rw [<-e3] at st;have f3:Fr (On H.next) H2 H3:=by rw [e3];exact (Fr.refl H2).set (W:=On H.next) (.inl rfl) _
  have g3:H3.get H.next=some (OR (ai { m with d:=.zero }) qk):=by rw [e3,xd]
  have lU3:=fQ g3 (xu { m with d:=.zero });have en3:cG H3 D mp lv ev N ws xs m.line.toNat x a:=(cG.of h hx).loc en2 (f3.mono λ z _ (q:z=H.next)=>by show H.next<=z;omega);have F3:Fr Em H H3:=F2.trans (f3.mono (W':=Lo H) λ z _ (q:z=H.next)=>by show H.next<=z;omega) λ z q=>.inr q;have m3:=f3.next
  have key:∀ {E:Env},lk E 38=some (.bool true)->lk E 3=some (.ptr H.next 0)->lk E 6=some (xA ev m.line.toNat)->lk E 0=some (.ptr D 0)->lk E 4=some .nils ->
   W M ⟨none,y8⟩ (xg 42) true (aK 0 (ao (W M ⟨none,y8⟩ (xg 113)) (aP M [.tmp 4,.tmp 5] (lM (sB H D mp lv ev N ws xs m.line.toNat a (if x.ph ≠ 0 then ({ x with wt:=x.wt ++ [{ m with d:=.zero }] },w,[]) else ((x.begin { m with d:=.zero } w).1,w,(x.begin { m with d:=.zero } w).2))))))) E [] H2:=by
   intro E b38 b3 b6 b0 b4
   by_cases p0:x.ph=0
   ·rw [qd (λ q=>q p0)];simp only [↓qh,xa,reduceIte,reduceEqDiff,w42,b38,lZ,bd8,b3,st,w45,b6,qf,en3.lQ,xj p0,w55,b0,lU3];refine C3.q (jE (M:=M) en3 { m with d:=.zero } hw h0 xi.sb c0 c4 kg (by have:=xi.ow;omega)) λ v H4 ⟨hms,en4,f4⟩=>?_;simp only [↓qh,xa,reduceIte,reduceEqDiff];refine ⟨⟨_,_,rfl,hms.1,λ q=>xt F3.next (hms.2 q)⟩,a,by rw [GA hw];exact en4,(F3.mono λ _ _ q=>q.elim).trans (tG f4) λ _ q=>.inl q,λ z hz=>.inl hz⟩
   ·rw [qm p0];have hsk:=en3.d.wt m.line.toNat x a en3.here;obtain ⟨H4,e4⟩:∃ X,X=H3.alloc (OR (ai { m with d:=.zero }) qk):=⟨_,rfl⟩
    have f34:Fr Em H3 H4:=by rw [e4];exact (Fr.refl H3).alloc _
    have rw1:=CM (H:=H3) { m with d:=.zero };rw [<-e4] at rw1;have sl1:=rw1.sl xu;obtain ⟨v5,H5,s5,k5,f5,o5⟩:=(hsk.em f34).app xu (by decide) (ys:=[{ m with d:=.zero }]) (k:=1) (new:=ai { m with d:=.zero }) rfl (by simp) (Sl.dS sl1) (by have:=Sl.first sl1;simpa using this) (jS _) (bytes:=88) (by omega) (by omega);have n4:H4.next=H3.next+1:=by rw [e4,xn]
    have f35:Fr (bH a) H3 H5:=(f34.mono λ _ _ q=>q.elim).trans f5 λ _ q=>.inl q;obtain ⟨H6,s6,en6,f6,f56⟩:=en3.wait k5 f35 (λ z hz=>(o5 z hz).elim .inl λ q=>.inr (by omega)) k5.one;simp only [↓qh,xa,reduceIte,reduceEqDiff,w42,b38,lZ,bd8,b3,st];simp only [↓qh,xa,reduceIte,reduceEqDiff,w45,b3,b6,qf,en3.lQ,p0,en3.eO,lU3,mZ,rB,<-e4,s5,s6];refine ⟨⟨_,_,rfl,.nil ..⟩,v5,by rw [GA hw];exact en6,?_,λ z hz=>(o5 z hz).elim .inl λ q=>.inr (by have:=F3.next;omega)⟩;exact (F3.mono λ _ _ q=>q.elim).trans f6 λ z q=>.inl ((q7j hx).1 q)
  rcases kg with k|k
  ·simp only [↓qh,xa,reduceIte,reduceEqDiff,xj k];exact key rfl rfl rfl rfl rfl
  ·have nk:¬ m.k=1:=by omega
   simp only [↓qh,xa,reduceIte,reduceEqDiff,nk,xj k];exact key rfl rfl rfl rfl rfl
 rw [qd kg];have nk1:¬ m.k=1:=λ q=>kg (.inl q);have nk2:¬ m.k=2:=λ q=>kg (.inr q);have hm:=may;unfold De.may at hm;rw [qd kg] at hm;have hU:=xi.un;have grd:∀ {y:De} {w':L8},x.ph ≠ 0->y.un=x.un->y.sh<16->(ws.set m.line.toNat w')[y.un.line.toNat]? = some w'/\0<=y.un.line/\y.sh<16/\0<=y.un.core/\y.un.core<4:=λ {y w'} p e1 e2=>by
  obtain ⟨-,u0,u1,ul⟩:=hU p;have hl:=(ql.1 hw).1;rw [e1];exact ⟨by rw [ul,xp hl],by rw [ul];exact h0,e2,u0,by omega⟩
 have sameE:∀ {Hx:AHeap} {y:De},cG Hx D mp lv ev N ws xs m.line.toNat y a->cG Hx D mp lv ev N (ws.set m.line.toNat w) xs m.line.toNat y a:=λ e=>by rw [GA hw];exact e
 have full:∀ {Hx:AHeap},Fr (gY D mp lv ev xs) H2 Hx->Fr (gY D mp lv ev xs) H Hx:=λ f=>(F2.mono λ _ _ q=>q.elim).trans f λ _ q=>.inl q;have nilO:∀ {Hx:AHeap},eB ai qk 11 Hx .nils ([]:List Mg):=Own.nil ..;have nilF:∀ z,bH AV.nils z->H.next<=z:=λ z q=>absurd rfl q.1
 simp only [↓qh,xa,reduceIte,reduceEqDiff,nk1,nk2,w42]
 by_cases k4:m.k=4
 ·rw [qm k4] at hm ⊢;have sd:=LI xi.sb c0 c4;have sda:=LI xi.ab c0 c4;obtain ⟨H3,s3,en3,f3⟩:=en2.s1 (aX x.sh m.core);obtain ⟨H4,s4,en4,f4⟩:=en3.JA (aX x.ask m.core);have F3:=tG (D:=D) (mp:=mp) (lv:=lv) (xs:=xs) f3;have F4:=oS F3 (tG f4);have dl:aX x.sh m.core<16:=(FQ xi.sb c0 c4 (d:=0) (by decide) (by decide)).1;have dd:decide (((aX x.ask m.core:Nat):Int)=0)=decide (aX x.ask m.core=0):=by
   by_cases e:aX x.ask m.core=0
   ·rw [e];rfl
   ·rw [Er e,Er (by omega)]
  simp only [↓qh,xa,reduceIte,reduceEqDiff,xj k4,w61,qf,en2.l1,k1r r2,sh1,sd,s3,en3.py,k1r F3,sda,s4,en4.py];exact iY (M:=M) (q:=aX x.ask m.core=0) dd rfl rfl rfl rfl hx (sameE en4) (λ _=>grd (by omega) rfl dl) nilO (by decide) nilF (full F4) hlow
 rw [qd k4] at hm ⊢
 by_cases k5:m.k=5
 ·rw [qm k5] at hm ⊢;have yR:Op.aa [.ptr D 0] H2=some (.ptr mp 0):=zf (xb en2.d.row) 0;have hlen:m.line<ws.length:=by have:=(ql.1 hw).1;omega
  simp only [↓qh,xa,reduceIte,reduceEqDiff,k4,w66,xj k5,qf,yR,k2r r2,lD r2];refine C3.q (qss (M:=M) en2.d.me h0 hlen m.d) λ v H3 ⟨hv,hm3,f3⟩=>?_;have en3:=en2.mem hm3 f3 (qz ..);have F3:=frM (D:=D) (mp:=mp) (ev:=ev) (xs:=xs) f3;obtain ⟨H4,s4,en4,f4⟩:=en3.s0 (-1);have F4:=oS F3 (tG f4)
  by_cases u1:x.un.k=1
  ·rw [qm u1];have sa:=q71 xi.sb c0 c4;obtain ⟨H5,s5,en5,f5⟩:=en4.s1 (gV x.sh m.core);have F5:=oS F4 (tG f5);simp only [↓qh,xa,reduceIte,reduceEqDiff,w71,qf,s4,w73,en4.l2,xj u1,en4.l1,k1r F4,sh1,sa,s5,w79];exact iY (M:=M) (q:=True) rfl rfl rfl rfl rfl hx en5 (λ _=>grd (by omega) rfl (D2 xi.sb c0 c4 (d:=0) (by decide) (by decide)).1) nilO (by decide) nilF (full F5) hlow
  ·rw [qd u1];simp only [↓qh,xa,reduceIte,reduceEqDiff,w71,qf,s4,w73,en4.l2,u1,w79];exact iY (M:=M) (q:=True) rfl rfl rfl rfl rfl hx en4 (λ _=>grd (by omega) rfl xi.sb) nilO (by decide) nilF (full F4) hlow
 rw [qd k5] at hm ⊢
 by_cases k6:m.k=6
 ·rw [qm k6] at hm ⊢;obtain ⟨H3,s3,en3,f3⟩:=en2.GQ 3;simp only [↓qh,xa,reduceIte,reduceEqDiff,k4,w66,k5,xj k6,qf,s3,en3.l0];exact iY (M:=M) (q:=x.ow<0) rfl rfl rfl rfl rfl hx (sameE en3) (λ _=>grd (by omega) rfl xi.sb) nilO (by decide) nilF (full (tG f3)) hlow
 rw [qd k6] at hm ⊢
 by_cases k3:m.k=3
 ·rw [qm k3] at hm ⊢;have yR:Op.aa [.ptr D 0] H2=some (.ptr mp 0):=zf (xb en2.d.row) 0;have hlen:m.line<ws.length:=by have:=(ql.1 hw).1;omega
  simp only [↓qh,xa,reduceIte,reduceEqDiff,k4,w66,k5,k6,w86,xj k3,qf,yR,k2r r2,lD r2];refine C3.q (qss (M:=M) en2.d.me h0 hlen m.d) λ v H3 ⟨hv,hm3,f3⟩=>?_;have en3:=en2.mem hm3 f3 (qz ..);have F3:=frM (D:=D) (mp:=mp) (ev:=ev) (xs:=xs) f3;obtain ⟨H4,s4,en4,f4⟩:=en3.s0 (-1);have F4:=oS F3 (tG f4);simp only [↓qh,xa,reduceIte,reduceEqDiff,qf,s4,k1r F4,k2r F4,mZ,bdA];refine iM (e:=qk) (size:=11) (bytes:=88) (Own.nil H4 qk 11) (x:=.agg (ai ⟨16,m.core,m.line,.zero⟩)) (xu _) (by rw [xw];exact xu _) (by rw [xw];exact jS _) (by decide) (by omega) (by omega) λ v5 H5 hv5 hf hfr=>?_;rw [xw] at hv5;have f45:Fr Em H4 H5:=hf.mono λ z _ hz=>absurd rfl hz.1;have en5:=en4.em f45;have F5:=F4.trans f45 λ _ q=>q.elim;have nn:H.next<=H4.next:=(full F4).next
  simp only [↓qh,xa,reduceIte,reduceEqDiff,qf,en5.lQ];refine iY (M:=M) (q:=x.ph=3) rfl rfl rfl rfl rfl hx en5 (λ q=>grd (by omega) rfl xi.sb) (o:=[⟨16,m.core,m.line,.zero⟩]) ?_ (by simp) (λ z hz=>(hfr z hz).elim (λ q=>absurd rfl q.1) λ q=>by omega) (full F5) hlow;unfold eB
  simpa using hv5
 rw [qd k3] at hm ⊢;obtain ⟨k7,p4,pu⟩:=hm;obtain ⟨H3,s3,en3,f3⟩:=en2.GQ 0;obtain ⟨H4,s4,en4,f4⟩:=en3.sU ⟨0,0,0,.zero⟩;have F4:=oS (tG (D:=D) (mp:=mp) (lv:=lv) (xs:=xs) f3) (tG f4);have hsk:=en4.d.wt m.line.toNat _ a en4.here;have hln:=hsk.len xu;cases hwt2:x.wt with
 | nil =>
  have hln:Op.bB [a]=some (.int .i64 0):=by rw [hln];simp only [hwt2];rfl
  have z00:¬ (0:Int)<0:=by decide
  have en4n:cG H4 D mp lv ev N ws xs m.line.toNat { x with ph:=0,un:=⟨0,0,0,.zero⟩,wt:=[] } a:=by rw [<-hwt2];exact en4
  simp only [↓qh,xa,reduceIte,reduceEqDiff,k4,w66,k5,k6,w86,k3,xj k7,w99,qf,mZ,Aj,s3,s4,en4.eO,hln,z00];exact iY (M:=M) (q:=False) (b8:=false) rfl rfl rfl rfl rfl hx (sameE en4n) (λ q=>q.elim) nilO (by decide) nilF (full F4) hlow
 | cons n r =>
  have hn:=xi.wt n (by rw [hwt2];simp);have hln:Op.bB [a]=some (.int .i64 ((r.length+1:Nat):Int)):=by rw [hln];simp only [hwt2];rfl
  have z01:(0:Int)<((r.length+1:Nat):Int):=by omega
  have hsk':Sk ai qk 11 H4 a (n::r):=by
   have:({ x with ph:=0,un:=⟨0,0,0,.zero⟩ }:De).wt=n::r:=hwt2;rw [<-this];exact hsk
  have ix:=(hsk'.sl xu).idx (i:=0) (x:=n) rfl (z:=0) rfl .i64;have ld:=(hsk'.sl xu).aq xu (by decide) (i:=0) (x:=n) rfl;obtain ⟨H5,e5⟩:∃ X,X=H4.alloc (OR (ai ⟨0,0,0,.zero⟩) qk):=⟨_,rfl⟩
  have g5:H5.get H4.next=some (OR (ai ⟨0,0,0,.zero⟩) qk):=by rw [e5,qx]
  have st5:=iw g5 (xu _) (xu n) (jS n);obtain ⟨H6,e6⟩:∃ X,X=H5.set H4.next (OR (ai n) qk):=⟨_,rfl⟩
  rw [<-e6] at st5;have g6:H6.get H4.next=some (OR (ai n) qk):=by rw [e6,xd]
  have f45:Fr Em H4 H5:=by rw [e5];exact (Fr.refl H4).alloc _
  have f46:Fr Em H4 H6:=by rw [e6];exact f45.set (.inr (qg _)) _
  have n6:H4.next<H6.next:=by rw [e6,F0,e5,xn];omega
  have en6:=en4.em f46;have hsk6:=hsk'.em f46;rcases hsk6 with ⟨-,q⟩|⟨b,i,alt,rr,hsb⟩
  ·cases q
  obtain ⟨v7,alt',s7,hsb7,-⟩:=hsb.off xu (k:=1) (by simp) .i64;have s7:Op.aR 11 [some 0,none,none] [a,.int .i64 1]=some v7:=s7;have hon7:∀ z,bH v7 z->bH a z:=λ z hz=>by rw [hsb7.Je hz];exact hsb.on
  obtain ⟨H8,s8,en8,f8,f68⟩:=en6.wait (ys:=r) (.inr ⟨_,_,_,_,hsb7⟩) (Fr.refl H6) (λ z hz=>.inl (hon7 z hz)) (by rw [hsb7.eq];rfl);have F6:=F4.trans f46 λ _ q=>q.elim;have F8:=F6.trans f8 λ z q=>.inl ((q7j hx).1 q);have nev:¬ H4.next=aM ev:=by have:=hlow (aM ev) (.inr (.inr (.inr (.inl rfl))));have:=(full F4).next;omega
  have l8:Op.aq 11 [.ptr H4.next 0] H8=some (.agg (ai n)):=fQ (by rw [f68.ae _ n6 nev];exact g6) (xu n);simp only [↓qh,xa,reduceIte,reduceEqDiff,k4,w66,k5,k6,w86,k3,xj k7,w99,qf,mZ,Aj,s3,s4,en4.eO,hln,xj z01,ix,ld,<-e5,st5,en6.eO,s7,s8,l8];obtain ⟨nk,n0,n1',nl⟩:=hn;refine C3.q (jE (M:=M) en8 n (w:=w) (by rw [nl];exact hw) (by rw [nl];exact h0) xi.sb n0 (by omega) nk (by have:=xi.ow;show x.ow<4;omega)) λ v H9 ⟨hms,en9,f9⟩=>?_;simp only [↓qh,xa,reduceIte,reduceEqDiff];refine ⟨⟨_,_,rfl,hms.1,λ q=>xt (full F8).next (hms.2 q)⟩,v7,by rw [GA hw];exact en9,full (oS F8 (tG f9)),λ z hz=>.inl (hon7 z hz)⟩
end
end Go.Am
