/- LrQ9: RfE RfF RfG RfH. -/
import Derived.Test.YtbimikjajohflaaDoorAmQLrQ8
import Derived.Test.YtbimikjajohflaaDoorAmQLrQ5
import Derived.Test.YtbimikjajohflaaDoorAmQLrQ6
import Derived.Test.YtbimikjajohflaaDoorAmQCodeQc
import Derived.Test.YtbimikjajohflaaDoorAmQLrQ7
set_option linter.unusedVariables false
set_option linter.unusedSimpArgs false
set_option linter.unusedSectionVars false
set_option maxRecDepth 100000
namespace Go.Am
open Lang Go.Proofs
variable {M:Mac} [MK M]
theorem sig_one {t:Tk} (h:sigR t=1):t.length=1:=by
 unfold sigR sigK at h
 by_cases h1:t=[43]
 ·rw [h1];rfl
 by_cases h2:t=[45]
 ·rw [h2];rfl
 by_cases h3:t=[94]
 ·rw [h3];rfl
 rw [qx h1,qx h2,qx h3] at h
 by_cases h4:t=[42]
 ·subst h4;exact absurd h (by decide)
 by_cases h5:t=[38]
 ·subst h5;exact absurd h (by decide)
 by_cases h6:t=[60,60]
 ·subst h6;exact absurd h (by decide)
 by_cases h7:t=[62,62]
 ·subst h7;exact absurd h (by decide)
 rw [qx h4,qx h5,qx h6,qx h7] at h
 exact absurd h (by decide)
def RL2 (M:Mac) (c:RFk) (x:Ex) (σ:PS) (o:Nat) (a:Bool) (y:Ex) (τ:PS):Prop:=∃ m,∀ (H:AHeap) (nv:AV) (zs:List (Nd × AV)) (k d:Nat) (pre:List Nd) (i:Int) (E:Env) (R:AV->AHeap->Prop),
 RF c H nv zs σ k o a->zs.length+d<=k->AtE pre x zs σ i->lk E 3=some (.int .i64 i)->lk E 0=some (.ptr c.r 0) ->
 (∀ (i:Int) (H':AHeap) (nv':AV) (zs':List (Nd × AV)) (k':Nat),RF c H' nv' zs' τ k' o a->PK c.r nv zs H nv' zs' H'->zs'.length+d<=k'->AtE pre y zs' τ i->R (.int .i64 i) H') ->
 LN (W M ⟨none,xx⟩ (xo 7)) (BLK3 0 (SEQ3 (W M ⟨none,xx⟩ (xo 29)) (FIN3 M [.tmp 2] (RT3 R)))) m E [] H
section
variable {c:RFk} {σ τ:PS} {o:Nat} {a:Bool} {L:Tk} {x y z:Ex}
theorem qzs:RL2 M c x (.bad L) o a y (.bad L):=by
 refine ⟨1,fun H nv zs k d pre i E R h hd ha e3 e0 hR=>?_⟩
 obtain ⟨-,-,w29,w7,-,-,-⟩:=qaz M ⟨none,xx⟩
 have l5:Op.load1 [.ptr c.r 5] H=some (.bool true):=h.ld5
 simp only [↓qi,qy,reduceIte,Nat.reduceEqDiff,w7,e0,qg,l5,reduceCtorEq,w29,e3]
 exact hR i H nv zs k h PK.refl hd fun q=>by cases q
theorem rl2_stop (hs:sigR (tok L) ≠ 2):RL2 M c x (.ok L) o a x (.ok L):=by
 refine ⟨1,fun H nv zs k d pre i E R h hd ha e3 e0 hR=>?_⟩
 obtain ⟨-,-,w29,w7,w13,w18,-⟩:=qaz M ⟨none,xx⟩
 have l5:Op.load1 [.ptr c.r 5] H=some (.bool false):=h.ld5
 simp only [↓qi,qy,reduceIte,Nat.reduceEqDiff,w7,e0,qg,l5,w13]
 refine C3.q (qa6 (M:=M) h) fun v H1 ⟨hv1,m,hkm,hm,pm,hdr⟩=>?_
 subst hv1
 simp only [↓qi,qy,reduceIte,Nat.reduceEqDiff,PS.left]
 refine C3.q (qks (M:=M) (r:=2) (by decide)) fun v H2 ⟨hh,hv⟩=>?_
 subst hv;subst hh
 have z0:((if sigR (tok L)=2 then sigK (tok L) else 0:Nat):Int)=0:=by rw [qx hs];rfl
 simp only [↓qi,qy,reduceIte,Nat.reduceEqDiff,w18,z0,jn,reduceCtorEq,w29,e3]
 exact hR i H2 nv zs m hm pm (by omega) ha
theorem rl2_more (hs:sigR (tok L)=2) (hp:CR M xf [] c (.e y) (.ok (adv L)) o a σ) (hz:RL2 M c (.bin (sigK (tok L)) x y) σ o a z τ):RL2 M c x (.ok L) o a z τ:=by
 obtain ⟨m,hz⟩:=hz
 refine ⟨m+1,fun H nv zs k d pre i E R h hd ha e3 e0 hR=>?_⟩
 obtain ⟨-,-,-,w7,w13,w18,w24⟩:=qaz M ⟨none,xx⟩
 have l5:Op.load1 [.ptr c.r 5] H=some (.bool false):=h.ld5
 simp only [↓qi,qy,reduceIte,Nat.reduceEqDiff,w7,e0,qg,l5,w13]
 refine C3.q (qa6 (M:=M) h) fun v H1 ⟨hv1,k1,hkm,hm,pm,hdr⟩=>?_
 subst hv1
 simp only [↓qi,qy,reduceIte,Nat.reduceEqDiff,PS.left]
 refine C3.q (qks (M:=M) (r:=2) (by decide)) fun v H2 ⟨hh,hv⟩=>?_
 subst hv;subst hh
 have hg:RFg c H2 nv zs false k1 o a:=hm.toRFg
 have z0:((if sigR (tok L)=2 then sigK (tok L) else 0:Nat):Int)=((sigK (tok L):Nat):Int):=by rw [xv hs]
 have hk0:¬ ((sigK (tok L):Nat):Int)=0:=fun q=>by
  have:sigK (tok L)=0:=by omega
  unfold sigR at hs;rw [xv this] at hs;cases hs
 have tne:=qpo (t:=tok L) (by omega)
 have hk:=hm.sz
 have hmle:=hm.le
 have hms:=hm.sm
 have htl:=qm7 (qav tne)
 have hLl:=congrArg List.length hdr
 rw [zy] at hLl
 have hLl:List.length L=c.text.length-k1:=hLl.symm
 have e9:=qmr (qav tne)
 have l1:=hg.ld1
 obtain ⟨H3,st,h3,p3,hp1⟩:=hg.adv (L:=L) hdr tne
 have wk:wrapI .i64 ((k1:Int)+((tok L).length:Nat))=((k1+(tok L).length:Nat):Int):=wat (by omega)
 have ln:Op.lenStr [.str (tok L)]=some (.int .i64 ((tok L).length:Nat)):=qev _
 simp only [↓qi,qy,reduceIte,Nat.reduceEqDiff,w18,z0,hk0,w24,e0,qg,l1,ln,wk,st]
 refine C3.q (hp H3 nv zs (k1+(tok L).length) (d+1) h3 (by omega)) fun v H4 ⟨nv4,zs4,k4,h4,p4,hd4,hv4⟩=>?_
 obtain ⟨j,hj⟩:=hv4.int
 subst hj
 have hk4:=h4.sz
 simp only [↓qi,qy,reduceIte,Nat.reduceEqDiff,e0,e3,bsk2]
 refine C3.q (qc6 (M:=M) h4 (by omega) (kids:=[i,j]) (kid2 i j) rfl) fun w H6 ⟨nv6,hw,h6,p6⟩=>?_
 subst hw
 simp only [↓qi,qy,reduceIte,Nat.reduceEqDiff]
 refine hz H6 nv6 _ k4 d pre ((zs4.length:Nat):Int) _ R h6 (by rw [qe,qt];omega) (fun hb=>?_) ?_ ?_ fun i' H' nv' zs' k' q1 q2 q3 q4=>hR i' H' nv' zs' k' q1 ((((pm.trans p3).trans p4).trans p6).trans q2) q3 q4
 rotate_left
 ·simp only [↓qi,qy,reduceIte,Nat.reduceEqDiff]
 ·simp only [↓qi,qy,reduceIte,Nat.reduceEqDiff,e0]
 obtain ⟨hi,hzs⟩:=ha rfl
 cases σ with
 | bad L'=>cases hb
 | ok L' =>
  obtain ⟨hj,hz4⟩:=hv4
  injection hj with _ hj
  have hzl:=congrArg List.length hz4
  have hzl0:=congrArg List.length hzs
  rw [qn,qe,qn,It.len] at hzl
  rw [qn,qe,Ex.len] at hzl0
  have hsy:(It.e y).sz=y.sz:=rfl
  have px:=x.pos
  have py:=y.pos
  refine ⟨?_,?_⟩
  ·simp only [Ex.sz];omega
  ·rw [jt,hz4,hzs]
   simp only [It.enc,Ex.enc,qu,x3,j0,hzl0]
   congr 3
   rw [hi,hj]
   simp only [hzl0,hsy]
theorem qt1 (hp:CR M xf [] c (.e x) σ o a τ) {τ2:PS} (hz:RL2 M c x τ o a y τ2):CR M xx [] c (.e y) σ o a τ2:=by
 intro H nv zs k d h hd
 obtain ⟨m,hz⟩:=hz
 refine qig ?_
 obtain ⟨w0,w4,-,-,-,-,-⟩:=qaz M ⟨none,xx⟩
 simp only [↓qi,qy,reduceIte,Nat.reduceEqDiff,w0]
 refine C3.q (hp H nv zs k d h hd) fun v H4 ⟨nv4,zs4,k4,h4,p4,hd4,hv4⟩=>?_
 obtain ⟨j,hj⟩:=hv4.int
 subst hj
 simp only [↓qi,qy,reduceIte,Nat.reduceEqDiff,w4]
 refine LOOP3.few m (hz H4 nv4 zs4 k4 d (zs.map (·.1)) j _ _ h4 hd4 (fun hb=>?_) ?_ ?_ fun i' H' nv' zs' k' q1 q2 q3 q4=>⟨nv',zs',k',q1,p4.trans q2,q3,?_⟩)
 ·cases τ with
  | bad L'=>cases hb
  | ok L' =>
   obtain ⟨hj,hz4⟩:=hv4
   injection hj with _ hj
   rw [qn]
   exact ⟨hj,hz4⟩
 ·simp only [↓qi,qy,reduceIte,Nat.reduceEqDiff]
 ·simp only [↓qi,qy,reduceIte,Nat.reduceEqDiff]
 ·cases τ2 with
  | bad L'=>exact ⟨_,rfl⟩
  | ok L' =>
   obtain ⟨q5,q6⟩:=q4 rfl
   rw [qn] at q5 q6
   exact ⟨by rw [q5];rfl,q6⟩
theorem qwh:CR M xx [] c (.e y) (.bad L) o a (.bad L):=qt1 (x:=y) (τ:=.bad L) qv4 qzs
end
def RL1 (M:Mac) (c:RFk) (x:Ex) (σ:PS) (o:Nat) (a:Bool) (y:Ex) (τ:PS):Prop:=∃ m,∀ (H:AHeap) (nv:AV) (zs:List (Nd × AV)) (k d:Nat) (pre:List Nd) (i:Int) (E:Env) (R:AV->AHeap->Prop),
 RF c H nv zs σ k o a->zs.length+d<=k->AtE pre x zs σ i->lk E 3=some (.int .i64 i)->lk E 0=some (.ptr c.r 0) ->
 (∀ (i:Int) (H':AHeap) (nv':AV) (zs':List (Nd × AV)) (k':Nat),RF c H' nv' zs' τ k' o a->PK c.r nv zs H nv' zs' H'->zs'.length+d<=k'->AtE pre y zs' τ i->R (.int .i64 i) H') ->
 LN (W M ⟨none,xi⟩ (zg 7)) (BLK3 0 (SEQ3 (W M ⟨none,xi⟩ (zg 29)) (FIN3 M [.tmp 2] (RT3 R)))) m E [] H
section
variable {c:RFk} {σ τ:PS} {o:Nat} {a:Bool} {L:Tk} {x y z:Ex}
theorem qzr:RL1 M c x (.bad L) o a y (.bad L):=by
 refine ⟨1,fun H nv zs k d pre i E R h hd ha e3 e0 hR=>?_⟩
 obtain ⟨-,-,w29,w7,-,-,-⟩:=qcc M ⟨none,xi⟩
 have l5:Op.load1 [.ptr c.r 5] H=some (.bool true):=h.ld5
 simp only [↓qi,qy,reduceIte,Nat.reduceEqDiff,w7,e0,qg,l5,reduceCtorEq,w29,e3]
 exact hR i H nv zs k h PK.refl hd fun q=>by cases q
theorem rl1_stop (hs:sigR (tok L) ≠ 1):RL1 M c x (.ok L) o a x (.ok L):=by
 refine ⟨1,fun H nv zs k d pre i E R h hd ha e3 e0 hR=>?_⟩
 obtain ⟨-,-,w29,w7,w13,w18,-⟩:=qcc M ⟨none,xi⟩
 have l5:Op.load1 [.ptr c.r 5] H=some (.bool false):=h.ld5
 simp only [↓qi,qy,reduceIte,Nat.reduceEqDiff,w7,e0,qg,l5,w13]
 refine C3.q (qa6 (M:=M) h) fun v H1 ⟨hv1,m,hkm,hm,pm,hdr⟩=>?_
 subst hv1
 simp only [↓qi,qy,reduceIte,Nat.reduceEqDiff,PS.left]
 refine C3.q (qks (M:=M) (r:=1) (by decide)) fun v H2 ⟨hh,hv⟩=>?_
 subst hv;subst hh
 have z0:((if sigR (tok L)=1 then sigK (tok L) else 0:Nat):Int)=0:=by rw [qx hs];rfl
 simp only [↓qi,qy,reduceIte,Nat.reduceEqDiff,w18,z0,jn,reduceCtorEq,w29,e3]
 exact hR i H2 nv zs m hm pm (by omega) ha
theorem rl1_more (hs:sigR (tok L)=1) (hp:CR M xx [] c (.e y) (.ok (adv L)) o a σ) (hz:RL1 M c (.bin (sigK (tok L)) x y) σ o a z τ):RL1 M c x (.ok L) o a z τ:=by
 obtain ⟨m,hz⟩:=hz
 refine ⟨m+1,fun H nv zs k d pre i E R h hd ha e3 e0 hR=>?_⟩
 obtain ⟨-,-,-,w7,w13,w18,w24⟩:=qcc M ⟨none,xi⟩
 have l5:Op.load1 [.ptr c.r 5] H=some (.bool false):=h.ld5
 simp only [↓qi,qy,reduceIte,Nat.reduceEqDiff,w7,e0,qg,l5,w13]
 refine C3.q (qa6 (M:=M) h) fun v H1 ⟨hv1,k1,hkm,hm,pm,hdr⟩=>?_
 subst hv1
 simp only [↓qi,qy,reduceIte,Nat.reduceEqDiff,PS.left]
 refine C3.q (qks (M:=M) (r:=1) (by decide)) fun v H2 ⟨hh,hv⟩=>?_
 subst hv;subst hh
 have hg:RFg c H2 nv zs false k1 o a:=hm.toRFg
 have z0:((if sigR (tok L)=1 then sigK (tok L) else 0:Nat):Int)=((sigK (tok L):Nat):Int):=by rw [xv hs]
 have hk0:¬ ((sigK (tok L):Nat):Int)=0:=fun q=>by
  have:sigK (tok L)=0:=by omega
  unfold sigR at hs;rw [xv this] at hs;cases hs
 have tne:=qpo (t:=tok L) (by omega)
 have hk:=hm.sz
 have hmle:=hm.le
 have hms:=hm.sm
 have htl:=qm7 (qav tne)
 have hLl:=congrArg List.length hdr
 rw [zy] at hLl
 have hLl:List.length L=c.text.length-k1:=hLl.symm
 have e9:=qmr (qav tne)
 have l1:=hg.ld1
 obtain ⟨H3,st,h3,p3,hp1⟩:=hg.adv (L:=L) hdr tne
 have w1:=sig_one hs
 have wk:wrapI .i64 ((k1:Int)+1)=((k1+(tok L).length:Nat):Int):=by rw [w1];exact wat1 (by omega)
 simp only [↓qi,qy,reduceIte,Nat.reduceEqDiff,w18,z0,hk0,w24,e0,qg,l1,  wk,st]
 refine C3.q (hp H3 nv zs (k1+(tok L).length) (d+1) h3 (by omega)) fun v H4 ⟨nv4,zs4,k4,h4,p4,hd4,hv4⟩=>?_
 obtain ⟨j,hj⟩:=hv4.int
 subst hj
 have hk4:=h4.sz
 simp only [↓qi,qy,reduceIte,Nat.reduceEqDiff,e0,e3,bsk2]
 refine C3.q (qc6 (M:=M) h4 (by omega) (kids:=[i,j]) (kid2 i j) rfl) fun w H6 ⟨nv6,hw,h6,p6⟩=>?_
 subst hw
 simp only [↓qi,qy,reduceIte,Nat.reduceEqDiff]
 refine hz H6 nv6 _ k4 d pre ((zs4.length:Nat):Int) _ R h6 (by rw [qe,qt];omega) (fun hb=>?_) ?_ ?_ fun i' H' nv' zs' k' q1 q2 q3 q4=>hR i' H' nv' zs' k' q1 ((((pm.trans p3).trans p4).trans p6).trans q2) q3 q4
 rotate_left
 ·simp only [↓qi,qy,reduceIte,Nat.reduceEqDiff]
 ·simp only [↓qi,qy,reduceIte,Nat.reduceEqDiff,e0]
 obtain ⟨hi,hzs⟩:=ha rfl
 cases σ with
 | bad L'=>cases hb
 | ok L' =>
  obtain ⟨hj,hz4⟩:=hv4
  injection hj with _ hj
  have hzl:=congrArg List.length hz4
  have hzl0:=congrArg List.length hzs
  rw [qn,qe,qn,It.len] at hzl
  rw [qn,qe,Ex.len] at hzl0
  have hsy:(It.e y).sz=y.sz:=rfl
  have px:=x.pos
  have py:=y.pos
  refine ⟨?_,?_⟩
  ·simp only [Ex.sz];omega
  ·rw [jt,hz4,hzs]
   simp only [It.enc,Ex.enc,qu,x3,j0,hzl0]
   congr 3
   rw [hi,hj]
   simp only [hzl0,hsy]
theorem qt0 (hp:CR M xx [] c (.e x) σ o a τ) {τ2:PS} (hz:RL1 M c x τ o a y τ2):CR M xi [] c (.e y) σ o a τ2:=by
 intro H nv zs k d h hd
 obtain ⟨m,hz⟩:=hz
 refine qls ?_
 obtain ⟨w0,w4,-,-,-,-,-⟩:=qcc M ⟨none,xi⟩
 simp only [↓qi,qy,reduceIte,Nat.reduceEqDiff,w0]
 refine C3.q (hp H nv zs k d h hd) fun v H4 ⟨nv4,zs4,k4,h4,p4,hd4,hv4⟩=>?_
 obtain ⟨j,hj⟩:=hv4.int
 subst hj
 simp only [↓qi,qy,reduceIte,Nat.reduceEqDiff,w4]
 refine LOOP3.few m (hz H4 nv4 zs4 k4 d (zs.map (·.1)) j _ _ h4 hd4 (fun hb=>?_) ?_ ?_ fun i' H' nv' zs' k' q1 q2 q3 q4=>⟨nv',zs',k',q1,p4.trans q2,q3,?_⟩)
 ·cases τ with
  | bad L'=>cases hb
  | ok L' =>
   obtain ⟨hj,hz4⟩:=hv4
   injection hj with _ hj
   rw [qn]
   exact ⟨hj,hz4⟩
 ·simp only [↓qi,qy,reduceIte,Nat.reduceEqDiff]
 ·simp only [↓qi,qy,reduceIte,Nat.reduceEqDiff]
 ·cases τ2 with
  | bad L'=>exact ⟨_,rfl⟩
  | ok L' =>
   obtain ⟨q5,q6⟩:=q4 rfl
   rw [qn] at q5 q6
   exact ⟨by rw [q5];rfl,q6⟩
theorem qwg:CR M xi [] c (.e y) (.bad L) o a (.bad L):=qt0 (x:=y) (τ:=.bad L) qwh qzr
end
end Go.Am
namespace Go.Am
open Lang Go.Proofs
variable {M:Mac} [MK M]
theorem Lang.P.bad_eq {nt:NT} {o:Nat} {a:Bool} {L:Tk} {x:It} {τ:PS} (h:P nt o a (.bad L) x τ):τ = .bad L:=by cases h;rfl
section
variable {c:RFk} {σ τ σ0:PS} {o:Nat} {a:Bool} {L L1:Tk} {x y:Ex}
theorem qqg {H:AHeap} {E:Env} {t:Tk} {v:AV} {Q:Post3} (e0:lk E 0=some (.ptr c.r 0)) (e3:lk E 3=some v) (e4:lk E 4=some (.str t))
 (go:∀ E',lk E' 0=some (.ptr c.r 0)->lk E' 3=some v->lk E' 4=some (.str t)->lk E' 5=some (.int .i64 (csgK t:Nat))->W M ⟨none,x7⟩ (xn 28) true Q E' [] H) :
 W M ⟨none,x7⟩ (xn 8) true Q E [] H:=by
 obtain ⟨-,-,w8,w10,w16,w22,-,-⟩:=qdf M ⟨none,x7⟩
 rcases qod t with ⟨q,n1,n2,n3⟩|⟨q,rfl⟩|⟨q,rfl⟩|⟨q,rfl⟩
 ·have n1:¬ t=[61,61]:=n1
  have n2:¬ t=[33,61]:=n2
  have n3:¬ t=[60]:=n3
  simp only [↓qi,qy,reduceIte,Nat.reduceEqDiff,w8,w10,e4,n1,w16,n2,w22,n3]
  refine go _ ?_ ?_ ?_ ?_
  ·simp only [↓qi,qy,reduceIte,Nat.reduceEqDiff,e0]
  ·simp only [↓qi,qy,reduceIte,Nat.reduceEqDiff,e3]
  ·simp only [↓qi,qy,reduceIte,Nat.reduceEqDiff,e4]
  ·rw [q];rfl
 all_goals
  have d1:¬ ([61,61]:Tk)=[33,61]:=by decide
  have d2:¬ ([61,61]:Tk)=[60]:=by decide
  have d3:¬ ([33,61]:Tk)=[61,61]:=by decide
  have d4:¬ ([33,61]:Tk)=[60]:=by decide
  have d5:¬ ([60]:Tk)=[61,61]:=by decide
  have d6:¬ ([60]:Tk)=[33,61]:=by decide
  simp only [↓qi,qy,reduceIte,Nat.reduceEqDiff,w8,w10,e4,w16,w22,jn,d1,d2,d3,d4,d5,d6]
  refine go _ ?_ ?_ ?_ ?_
  ·simp only [↓qi,qy,reduceIte,Nat.reduceEqDiff,e0]
  ·simp only [↓qi,qy,reduceIte,Nat.reduceEqDiff,e3]
  ·simp only [↓qi,qy,reduceIte,Nat.reduceEqDiff,e4]
  ·rw [q];rfl
theorem qra {z:It} (ho:σ0.isBad=false->o<=50) (hx:CR M xi [] c (.e x) (Lang.take [40] o σ0) (o+1) a τ) (ht:τ.isBad=true\/csgK (tok τ.left)=0):CR M x7 [] c z σ0 o a (.bad τ.left):=by
 intro H nv zs k d h hd
 refine qf7 ?_
 obtain ⟨w0,w4,-,-,-,-,w28,-⟩:=qdf M ⟨none,x7⟩
 simp only [↓qi,qy,reduceIte,Nat.reduceEqDiff,w0]
 refine C3.q (qar (M:=M) (s:=[40]) (o':=o+1) (by decide) (.inl ⟨.inl rfl,rfl⟩) ho h) fun u H1 ⟨k1,h1,p1,hk1,_⟩=>?_
 simp only [↓qi,qy,reduceIte,Nat.reduceEqDiff,w4]
 refine C3.q (hx H1 nv zs k1 d h1 (by omega)) fun v H2 ⟨nv2,zs2,k2,h2,p2,hd2,hv⟩=>?_
 simp only [↓qi,qy,reduceIte,Nat.reduceEqDiff]
 refine C3.q (qa6 (M:=M) h2) fun w H3 ⟨hw,m,hkm,hm,pm,hdr⟩=>?_
 subst hw
 refine qqg (c:=c) (t:=tok τ.left) (v:=v) rfl rfl rfl fun E e0 e3 e4 e5=>?_
 have l5:=hm.ld5
 obtain ⟨Hf,stf,hf,pf⟩:=hm.toRFg.failF (o':=o) (a':=a) hm.ps hdr
 have fin:RQ c H nv zs d o a (.bad τ.left) (VOK z zs · (.bad τ.left)) (.int .i64 0) Hf:=⟨nv2,zs2,m,hf,((p1.trans p2).trans pm).trans pf,by omega,_,rfl⟩
 cases hb:τ.isBad with
 | true =>
  rw [hb] at l5
  simp only [↓qi,qy,reduceIte,Nat.reduceEqDiff,w28,e0,qg,l5,stf]
  exact fin
 | false =>
  rw [hb] at l5
  have z0:((csgK (tok τ.left):Nat):Int)=0:=by rcases ht with q|q;rw [hb] at q;cases q;rw [q];rfl
  simp only [↓qi,qy,reduceIte,Nat.reduceEqDiff,w28,e0,qg,l5,e5,z0,jn,stf]
  exact fin
theorem condR_ok (ho:σ0.isBad=false->o<=50) (hx:CR M xi [] c (.e x) (Lang.take [40] o σ0) (o+1) a (.ok L1)) (hs:csgK (tok L1) ≠ 0) (hy:CR M xi [] c (.e y) (.ok (adv L1)) (o+1) a σ) (ho1:σ.isBad=false->o+1<=50):CR M x7 [] c (.c ⟨csgK (tok L1),x,y⟩) σ0 o a (Lang.take [41] (o+1) σ):=by
 intro H nv zs k d h hd
 refine qf7 ?_
 obtain ⟨w0,w4,-,-,-,-,w28,w38⟩:=qdf M ⟨none,x7⟩
 simp only [↓qi,qy,reduceIte,Nat.reduceEqDiff,w0]
 refine C3.q (qar (M:=M) (s:=[40]) (o':=o+1) (by decide) (.inl ⟨.inl rfl,rfl⟩) ho h) fun u H1 ⟨k1,h1,p1,hk1,_⟩=>?_
 simp only [↓qi,qy,reduceIte,Nat.reduceEqDiff,w4]
 refine C3.q (hx H1 nv zs k1 d h1 (by omega)) fun v H2 ⟨nv2,zs2,k2,h2,p2,hd2,hv⟩=>?_
 simp only [↓qi,qy,reduceIte,Nat.reduceEqDiff]
 refine C3.q (qa6 (M:=M) h2) fun w H3 ⟨hw,m,hkm,hm,pm,hdr⟩=>?_
 subst hw
 refine qqg (c:=c) (t:=tok (PS.ok L1).left) (v:=v) rfl rfl rfl fun E e0 e3 e4 e5=>?_
 have hg:RFg c H3 nv2 zs2 false m (o+1) a:=hm.toRFg
 have l5:=hg.ld5
 have l1:=hg.ld1
 have z0:¬ ((csgK (tok L1):Nat):Int)=0:=fun q=>hs (by omega)
 obtain ⟨hi,hz1⟩:=hv
 have tne:=qsy hs
 have hmz:=hm.sz
 have hml:=hm.le
 have hms:=hm.sm
 have htl:=qm7 (qav tne)
 have hLl:c.text.length-m=L1.length:=by have:=congrArg List.length hdr;rwa [zy] at this
 have e9:=qmr (qav tne)
 have wk:wrapI .i64 ((m:Int)+((tok L1).length:Nat))=((m+(tok L1).length:Nat):Int):=wat (by omega)
 have ln:Op.lenStr [.str (tok L1)]=some (.int .i64 ((tok L1).length:Nat)):=qev _
 obtain ⟨H4,st,h4,p4,hp1⟩:=hg.adv (L:=L1) hdr tne
 simp only [↓qi,qy,reduceIte,Nat.reduceEqDiff,w28,e0,qg,l5,e5,z0,w38,l1,e4,PS.left,ln,wk,st]
 refine C3.q (hy H4 nv2 zs2 _ (d+1) h4 (by omega)) fun w H5 ⟨nv5,zs5,k5,h5,p5,hd5,hv5⟩=>?_
 obtain ⟨j,hj⟩:=hv5.int
 have hk5:=h5.sz
 subst hj
 rw [hi] at e3
 have e5:lk E 5=some (.int .i64 (csgK (tok L1):Nat)):=e5
 simp only [↓qi,qy,reduceIte,Nat.reduceEqDiff,e0,e5,e3,bsk2]
 refine C3.q (qc6 (M:=M) h5 (by omega) (kids:=[((zs.length+(It.e x).sz-1:Nat):Int),j]) (kid2 _ j) rfl) fun w H6 ⟨nv6,hw,h6,p6⟩=>?_
 subst hw
 simp only [↓qi,qy,reduceIte,Nat.reduceEqDiff,e0]
 refine C3.q (qar (M:=M) (s:=[41]) (o':=o) (by decide) (.inr (.inl ⟨.inl rfl,rfl⟩)) ho1 h6) fun u H7 ⟨k7,h7,p7,hk7,_⟩=>?_
 simp only [↓qi,qy,reduceIte,Nat.reduceEqDiff]
 refine ⟨nv6,_,k7,h7,(((((p1.trans p2).trans pm).trans p4).trans p5).trans p6).trans p7,by rw [qe,qt];omega,?_⟩
 refine VOK.take ?_
 cases σ with
 | bad L'=>exact ⟨_,rfl⟩
 | ok L' =>
  obtain ⟨hj,hz4⟩:=hv5
  injection hj with _ hj
  have hzl:=congrArg List.length hz4
  have hzl1:=congrArg List.length hz1
  rw [qn,qe,qn,It.len] at hzl hzl1
  have px:=x.pos
  have py:=y.pos
  have hsx:(It.e x).sz=x.sz:=rfl
  have hsy:(It.e y).sz=y.sz:=rfl
  refine ⟨?_,?_⟩
  ·congr 2;simp only [It.sz,Cn.sz];omega
  ·rw [jt,hz4,hz1]
   simp only [It.enc,Cn.enc,qu,x3,j0,hzl1,hsx]
   congr 3
   rw [hj,hzl1]
   simp only [hsx,hsy]
theorem RF.only {H H':AHeap} {nv:AV} {zs:List (Nd × AV)} {k:Nat} {W:Nat->Prop} (h:RF c H nv zs σ k o a) (f:Fr W H H') (hw:∀ b,W b->Bs H c.r nv zs b/\c.H0.next<=b):RF c H' nv zs σ k o a:=by
 obtain ⟨o1,a1,n,q⟩:=h.ns
 exact ⟨⟨⟨o1,a1,n.only f hw,q⟩,h.le,h.sm⟩,h.ps,h.bx⟩
def CS (M:Mac) (c:RFk) (x:It) (σ:PS) (o:Nat) (a:Bool) (τ:PS):Prop :=
 ∀ (L:Tk),σ = .ok L -> ∀ (H:AHeap) (nv:AV) (zs:List (Nd × AV)) (k d:Nat),RF c H nv zs (.ok L) k o a->c.text.drop k=L->zs.length+d<=k->y9 M qv [.ptr c.r 0,.str (tok L)] H (RQ c H nv zs d o a τ (VOK x zs · τ))
def PLR (M:Mac) (c:RFk) (e:Tk) (l:Ls) (σ:PS) (o:Nat) (a:Bool) (τ:PS):Prop:=∃ m,∀ (H1:AHeap) (nv1:AV) (zs1:List (Nd × AV)) (H:AHeap) (nv:AV) (zs:List (Nd × AV)) (k d:Nat) (ov:AV) (ks:List Int) (E:Env) (R:AV->AHeap->Prop),
 RF c H nv zs σ k o a->PK c.r nv1 zs1 H1 nv zs H->zs.length+d<=k->c.H0.next<=H1.next->OwnT encI T_int 1 H ov ks->(∀ b,OnS ov b->Bs H c.r nv zs b/\H1.next<=b)->ks.length<=zs.length+1/\(σ.isBad=false->ks.length<=zs.length) ->
 lk E 5=some ov->lk E 0=some (.ptr c.r 0)->lk E 1=some (.str e) ->
 (∀ (ov':AV) (H':AHeap) (nv':AV) (zs':List (Nd × AV)) (k':Nat) (ks':List Int) (E':Env),RF c H' nv' zs' τ k' o a->PK c.r nv1 zs1 H1 nv' zs' H'->zs'.length+d<=k'->OwnT encI T_int 1 H' ov' ks'->(∀ b,OnS ov' b->Bs H' c.r nv' zs' b/\H1.next<=b)->ks'.length<=zs'.length+1 ->
  (τ.isBad=false->ks'=ks++ints (l.ends zs.length)/\zs'.map (·.1)=zs.map (·.1)++l.enc zs.length)->lk E' 5=some ov'->lk E' 0=some (.ptr c.r 0)->W M ⟨none,z4⟩ (zl 19) true (FIN3 M [.tmp 4] (RT3 R)) E' [] H') ->
 LN (W M ⟨none,z4⟩ (zl 7)) (BLK3 0 (SEQ3 (W M ⟨none,z4⟩ (zl 19)) (FIN3 M [.tmp 4] (RT3 R)))) m E [] H
theorem BsPK {H H':AHeap} {r:Nat} {nv nv':AV} {zs zs':List (Nd × AV)} {ov:AV} {N:Nat} (hb:∀ b,OnS ov b->Bs H r nv zs b/\N<=b) (p:PK r nv zs H nv' zs' H'):∀ b,OnS ov b->Bs H' r nv' zs' b/\N<=b:=fun b q=>⟨(hb b q).1.step p,(hb b q).2⟩
theorem lr_bad {e:Tk} {l:Ls}:PLR M c e l (.bad L) o a (.bad L):=by
 refine ⟨1,fun H1 nv1 zs1 H nv zs k d ov ks E R h p hd h0 ho hb hkl e5 e0 e1 hR=>?_⟩
 obtain ⟨-,-,-,w7,w10,-⟩:=qby M ⟨none,z4⟩
 simp only [↓qi,qy,reduceIte,Nat.reduceEqDiff,w7,e0]
 refine C3.q (qa6 (M:=M) h) fun v H2 ⟨hv1,m,hkm,hm,pm,hdr⟩=>?_
 subst hv1
 have l5:Op.load1 [.ptr c.r 5] H2=some (.bool true):=hm.ld5
 simp only [↓qi,qy,reduceIte,Nat.reduceEqDiff,w10,e0,qg,l5,reduceCtorEq]
 refine hR ov H2 nv zs m ks _ hm (p.trans pm) (by omega) (Own.fr ho pm.fr fun x hx w=>w.elim (hb x hx).1.nr (hb x hx).1.ns) (BsPK hb pm) hkl.1 (fun q=>by cases q) ?_ ?_
 ·simp only [↓qi,qy,reduceIte,Nat.reduceEqDiff,e5]
 ·simp only [↓qi,qy,reduceIte,Nat.reduceEqDiff,e0]
theorem lr_nil:PLR M c (tok L) .nil (.ok L) o a (.ok L):=by
 refine ⟨1,fun H1 nv1 zs1 H nv zs k d ov ks E R h p hd h0 ho hb hkl e5 e0 e1 hR=>?_⟩
 obtain ⟨-,-,-,w7,w10,-⟩:=qby M ⟨none,z4⟩
 simp only [↓qi,qy,reduceIte,Nat.reduceEqDiff,w7,e0]
 refine C3.q (qa6 (M:=M) h) fun v H2 ⟨hv1,m,hkm,hm,pm,hdr⟩=>?_
 subst hv1
 have l5:Op.load1 [.ptr c.r 5] H2=some (.bool false):=hm.ld5
 simp only [↓qi,qy,reduceIte,Nat.reduceEqDiff,w10,e0,qg,l5,e1,PS.left,jn,reduceCtorEq]
 refine hR ov H2 nv zs m ks _ hm (p.trans pm) (by omega) (Own.fr ho pm.fr fun x hx w=>w.elim (hb x hx).1.nr (hb x hx).1.ns) (BsPK hb pm) hkl.1 (fun q=>by simp [Ls.ends,Ls.enc,ints]) ?_ ?_
 ·simp only [↓qi,qy,reduceIte,Nat.reduceEqDiff,e5]
 ·simp only [↓qi,qy,reduceIte,Nat.reduceEqDiff,e0]
theorem lr_cons {e:Tk} {s:Lang.St} {l:Ls} (hne:tok L ≠ e) (hs:CS M c (.s s) (.ok L) o a σ) (hl:PLR M c e l σ o a τ) (hτ:τ.isBad=false -> σ.isBad=false):PLR M c e (.cons s l) (.ok L) o a τ:=by
 obtain ⟨m,hl⟩:=hl
 refine ⟨m+1,fun H1 nv1 zs1 H nv zs k d ov ks E R h p hd h0 ho hb hkl e5 e0 e1 hR=>?_⟩
 obtain ⟨-,-,-,w7,w10,w16⟩:=qby M ⟨none,z4⟩
 simp only [↓qi,qy,reduceIte,Nat.reduceEqDiff,w7,e0]
 refine C3.q (qa6 (M:=M) h) fun v H2 ⟨hv1,k2,hkm,hm,pm,hdr⟩=>?_
 subst hv1
 have l5:Op.load1 [.ptr c.r 5] H2=some (.bool false):=hm.ld5
 have hne:¬ tok L=e:=hne
 simp only [↓qi,qy,reduceIte,Nat.reduceEqDiff,w10,e0,qg,l5,e1,PS.left,hne,w16]
 have hk:=hm.sz
 have ho2:OwnT encI T_int 1 H2 ov ks:=Own.fr ho pm.fr fun x hx w=>w.elim (hb x hx).1.nr (hb x hx).1.ns
 have hb2:=BsPK hb pm
 have p2:=p.trans pm
 refine C3.q (hs L rfl H2 nv zs k2 d hm hdr (by omega)) fun v H4 ⟨nv4,zs4,k4,h4,p4,hd4,hv4⟩=>?_
 obtain ⟨j,hj⟩:=hv4.int
 subst hj
 have hk4:=h4.sz
 have hb4:=BsPK hb2 p4
 have ho4:OwnT encI T_int 1 H4 ov ks:=Own.fr ho2 p4.fr fun x hx w=>w.elim (hb2 x hx).1.nr (hb2 x hx).1.ns
 have pn:=p2.fr.next
 have p4n:=p4.fr.next
 obtain ⟨ys,hys,_⟩:=p4.nx
 have hzl:zs.length<=zs4.length:=by rw [hys,qe];omega
 have hk0:=hkl.2 rfl
 simp only [↓qi,qy,reduceIte,Nat.reduceEqDiff,e5]
 refine append3 (e:=T_int) (size:=1) (bytes:=8) ho4 (zero:=[.int .i64 0]) (x:=.int .i64 j) rfl rfl rfl (by decide) (by omega) (by omega) fun ov' H6 hov' hf hfr=>?_
 have h6:=h4.only hf (fun b q=>⟨(hb4 b q).1,by have:=(hb4 b q).2;omega⟩)
 have p6:PK c.r nv1 zs1 H1 nv4 zs4 H6:=(p2.trans p4).side hf fun x hx=>(hb4 x hx).2
 have hb6:∀ b,OnS ov' b->Bs H6 c.r nv4 zs4 b/\H1.next<=b:=fun b q=>by
  rcases hfr b q with w|w
  ·have:=(hb4 b w).1
   exact ⟨⟨qj this.lt hf.next,this.nr,this.ns,this.nk⟩,(hb4 b w).2⟩
  ·obtain ⟨o1,a1,n4,_⟩:=h4.ns
   exact ⟨Bs.new n4 w (Own.lt hov' b q),by omega⟩
 have hov6:OwnT encI T_int 1 H6 ov' (ks ++ [j]):=by
  unfold OwnT
  rw [qe,vl]
  exact hov'
 simp only [↓qi,qy,reduceIte,Nat.reduceEqDiff]
 refine hl H1 nv1 zs1 H6 nv4 zs4 k4 d ov' (ks ++ [j]) _ R h6 p6 hd4 h0 hov6 hb6 ⟨by rw [qe,qt];omega,fun q=>?_⟩ ?_ ?_ ?_ fun ov2 H8 nv8 zs8 k8 ks8 E8 q1 q2 q3 q4 q5 q6 q7=>hR ov2 H8 nv8 zs8 k8 ks8 E8 q1 q2 q3 q4 q5 q6 fun q=>?_
 rotate_left
 ·simp only [↓qi,qy,reduceIte,Nat.reduceEqDiff]
 ·simp only [↓qi,qy,reduceIte,Nat.reduceEqDiff,e0]
 ·simp only [↓qi,qy,reduceIte,Nat.reduceEqDiff,e1]
 ·obtain ⟨r1,r2⟩:=q7 q
  have hσ:=hτ q
  cases σ with
  | bad L'=>cases hσ
  | ok L' =>
   obtain ⟨hj,hz4⟩:=hv4
   injection hj with _ hj
   have hzl:=congrArg List.length hz4
   rw [qn,qe,qn,It.len] at hzl
   have hss:(It.s s).sz=s.sz:=rfl
   rw [hss] at hzl hj
   refine ⟨?_,?_⟩
   ·rw [r1,hj,hzl,qu];rfl
   ·rw [r2,hz4,hzl,qu];rfl
 ·cases σ with
  | bad L'=>cases q
  | ok L' =>
   obtain ⟨hj,hz4⟩:=hv4
   have hzl:=congrArg List.length hz4
   rw [qn,qe,qn,It.len] at hzl
   have:=(It.s s).pos
   have:=hkl.2 rfl
   rw [qe,qt];omega
theorem listR {e:Tk} {l:Ls} (hl:PLR M c e l σ o a τ) {H:AHeap} {nv:AV} {zs:List (Nd × AV)} {k d:Nat} (h:RF c H nv zs σ k o a) (hd:zs.length+d<=k) :
 y9 M z4 [.ptr c.r 0,.str e] H fun v H'=>∃ nv' zs' k',RF c H' nv' zs' τ k' o a/\PK c.r nv zs H nv' zs' H'/\zs'.length+d<=k'+1/\VOK (.l l) zs zs' τ v:=by
 obtain ⟨m,hl⟩:=hl
 refine qj0 ?_
 obtain ⟨w0,w4,w19,-,-,-⟩:=qby M ⟨none,z4⟩
 obtain ⟨o1,a1,n,_⟩:=h.ns
 simp only [↓qi,qy,reduceIte,Nat.reduceEqDiff,w0,w4]
 refine LOOP3.few m (hl H nv zs H nv zs k d .nils [] _ _ h PK.refl hd n.nw.fr.next (Own.nil ..) (fun b q=>(q.1 rfl).elim) ⟨by simp,fun _=>by simp⟩ ?_ ?_ ?_ fun ov' H' nv' zs' k' ks' E' q1 q2 q3 q4 q5 q6 q7 e5 e0=>?_)
 ·simp only [↓qi,qy,reduceIte,Nat.reduceEqDiff]
 ·simp only [↓qi,qy,reduceIte,Nat.reduceEqDiff]
 ·simp only [↓qi,qy,reduceIte,Nat.reduceEqDiff]
 have hk:=q1.sz
 simp only [↓qi,qy,reduceIte,Nat.reduceEqDiff,w19,e0,e5]
 have sl:SlT encI 1 H' ov' ks':=q4.sl
 have hb:ks'.length=0\/OnS ov' (slB ov'):=by
  by_cases hn:ov'=.nils
  ·rw [hn] at sl;exact .inl sl.2
  ·exact .inr ⟨hn,rfl⟩
 refine C3.q (qme (M:=M) q1 (by omega) (kids:=ks') sl (hb.imp id fun w=>(q5 _ w).1) q2 (hb.imp id fun w=>(q5 _ w).2)) fun w H2 ⟨nv2,hw,h2,p2⟩=>?_
 subst hw
 simp only [↓qi,qy,reduceIte,Nat.reduceEqDiff]
 refine ⟨nv2,_,k',h2,p2,by rw [qe,qt];omega,?_⟩
 cases τ with
 | bad L'=>exact ⟨_,rfl⟩
 | ok L' =>
  obtain ⟨r1,r2⟩:=q7 rfl
  have hzl:=congrArg List.length r2
  rw [qn,qe,qn,Ls.len] at hzl
  rw [zo] at r1
  refine ⟨?_,?_⟩
  ·congr 2<;>simp only [It.sz]<;>omega
  ·rw [jt,r2,r1]
   simp [It.enc,Ls.encL]
theorem qw0 {z:It}:CR M xq [] c z (.bad L) o a (.bad L):=by
 intro H nv zs k d h hd
 refine qfc ?_
 obtain ⟨w0,w4,-⟩:=qfd M ⟨none,xq⟩
 simp only [↓qi,qy,reduceIte,Nat.reduceEqDiff,w0]
 refine C3.q (qar (M:=M) (s:=[123]) (o':=o+1) (by decide) (.inl ⟨.inr rfl,rfl⟩) (fun q=>by cases q) h) fun u H1 ⟨k1,h1,p1,hk1,_⟩=>?_
 have h1:RF c H1 nv zs (.bad L) k1 (o+1) a:=h1
 have l5:Op.load1 [.ptr c.r 5] H1=some (.bool true):=h1.ld5
 simp only [↓qi,qy,reduceIte,Nat.reduceEqDiff,w4,qg,l5]
 exact ⟨nv,zs,k1,h1.bad,p1,by omega,_,rfl⟩
theorem blockR (ho:o<=50) {l:Ls} (hl:PLR M c [125] l (Lang.take [123] o (.ok L)) (o+1) a σ) (hσ:∀ L',Lang.take [123] o (.ok L)=.bad L' -> σ = .bad L'):CR M xq [] c (.l l) (.ok L) o a (Lang.take [125] (o+1) σ):=by
 intro H nv zs k d h hd
 refine qfc ?_
 obtain ⟨w0,w4,w12⟩:=qfd M ⟨none,xq⟩
 simp only [↓qi,qy,reduceIte,Nat.reduceEqDiff,w0]
 refine C3.q (qar (M:=M) (s:=[123]) (o':=o+1) (by decide) (.inl ⟨.inr rfl,rfl⟩) (fun _=>ho) h) fun u H1 ⟨k1,h1,p1,hk1,hok1⟩=>?_
 have l5:=h1.ld5
 cases hq:Lang.take [123] o (.ok L) with
 | bad L' =>
  rw [hq] at h1 l5
  have l5:Op.load1 [.ptr c.r 5] H1=some (.bool true):=l5
  simp only [↓qi,qy,reduceIte,Nat.reduceEqDiff,w4,qg,l5]
  rw [hσ L' hq]
  exact ⟨nv,zs,k1,h1.bad,p1,by omega,_,rfl⟩
 | ok L' =>
  have hk1':=hok1 L' hq
  have h50:=jw (s:=[123]) (o:=o) (σ:=.ok L) (.inr rfl) (by rw [hq];rfl)
  have l5:Op.load1 [.ptr c.r 5] H1=some (.bool false):=by rw [hq] at l5;exact l5
  simp only [↓qi,qy,reduceIte,Nat.reduceEqDiff,w4,qg,l5,w12]
  refine C3.q (listR (M:=M) (d:=d+1) hl h1 (by omega)) fun v H2 ⟨nv2,zs2,k2,h2,p2,hd2,hv⟩=>?_
  simp only [↓qi,qy,reduceIte,Nat.reduceEqDiff]
  refine C3.q (qar (M:=M) (s:=[125]) (o':=o) (by decide) (.inr (.inl ⟨.inr rfl,rfl⟩)) (fun _=>h50) h2) fun u H3 ⟨k3,h3,p3,hk3,_⟩=>?_
  simp only [↓qi,qy,reduceIte,Nat.reduceEqDiff]
  exact ⟨nv2,zs2,k3,h3,(p1.trans p2).trans p3,by omega,hv.take⟩
end
end Go.Am
namespace Go.Am
open Lang Go.Proofs
variable {M:Mac} [MK M]
theorem kid3 {H:AHeap} (x y z:Int):SlT encI 1 (H.alloc (OR [.int .i64 x,.int .i64 y,.int .i64 z] T_int)) (Op.sliceTo 3 3 H.next) [x,y,z]:=⟨rfl,rfl,qf _,.inr ⟨by rw [jh];omega,_,kh (jb ..),rfl⟩⟩
theorem bsk3 (x y z:Int):Op.buildSlice T_int 3 [.int .i64 0] [(0,1),(1,1),(2,1)] [.int .i64 x,.int .i64 y,.int .i64 z]=some (OR [.int .i64 x,.int .i64 y,.int .i64 z] T_int,Op.sliceTo 3 3):=rfl
section
variable {c:RFk} {σ τ ρ:PS} {o:Nat} {a:Bool} {L L2:Tk} {x y:Ex}
theorem qi7 {H:AHeap} {Q:AV->AHeap->Prop} (hv:varOf (tok L)=none)
 (go:W M ⟨none,qv⟩ (qk 20) true (FIN3 M [.tmp 4] (RT3 Q)) [(5,.int .i64 (-1)),(4,.int .i64 0),(0,.ptr c.r 0),(1,.str (tok L))] [] H):y9 M qv [.ptr c.r 0,.str (tok L)] H Q:=by
 refine qds ?_
 obtain ⟨w0,w4,-,-,-,-,-,-,-,-,-,-⟩:=zk M ⟨none,qv⟩
 simp only [↓qi,qy,reduceIte,Nat.reduceEqDiff,w0]
 refine C3.q (qew (M:=M)) fun w H2 ⟨hh,hw⟩=>?_
 subst hh
 rw [hv] at hw
 simp only at hw
 subst hw
 have c1:¬ (0:Int) <= -1:=by decide
 simp only [↓qi,qy,reduceIte,Nat.reduceEqDiff,w4,c1]
 exact go
theorem stR_set (ho:o<=50) {v:Nat} (hv:varOf (tok L)=some v) (hx:CR M xi [] c (.e x) (Lang.take [61] o (.ok (adv L))) o a σ):CS M c (.s (.set v x)) (.ok L) o a (Lang.take [59] o σ):=by
 intro L' e H nv zs k d h hdr hd
 injection e with e;subst e
 refine qds ?_
 obtain ⟨w0,w4,-,-,-,-,-,-,-,-,-,-⟩:=zk M ⟨none,qv⟩
 simp only [↓qi,qy,reduceIte,Nat.reduceEqDiff,w0]
 refine C3.q (qew (M:=M)) fun w H2 ⟨hh,hw⟩=>?_
 subst hh
 rw [hv] at hw
 simp only at hw
 subst hw
 obtain ⟨v1,v2⟩:=q0n hv
 have hk:=h.sz
 have hg:RFg c H2 nv zs false k o a:=h.toRFg
 have l1:=hg.ld1
 have c1:(0:Int)<=((v:Nat):Int):=by omega
 have wk:=wat1 (k:=k) (by omega)
 have wv:wrapI .u64 ((v:Nat):Int)=((v:Nat):Int):=qg2 (by omega) (by omega)
 obtain ⟨H3,st,h3,p3,_⟩:=hg.adv (L:=L) hdr (ql1 hv)
 rw [v1] at st h3
 simp only [↓qi,qy,reduceIte,Nat.reduceEqDiff,w4,c1,qg,l1,wk,st]
 refine C3.q (qag (M:=M) (s:=[61]) (by decide) (fun _=>ho) h3) fun u H4 ⟨k4,h4,p4,hk4,_⟩=>?_
 simp only [↓qi,qy,reduceIte,Nat.reduceEqDiff]
 refine C3.q (hx H4 nv zs k4 (d+1) h4 (by omega)) fun w H5 ⟨nv5,zs5,k5,h5,p5,hd5,hv5⟩=>?_
 simp only [↓qi,qy,reduceIte,Nat.reduceEqDiff]
 refine C3.q (qag (M:=M) (s:=[59]) (by decide) (fun _=>ho) h5) fun u H6 ⟨k6,h6,p6,hk6,_⟩=>?_
 obtain ⟨i,hi⟩:=hv5.int
 subst hi
 have hk6':=h6.sz
 simp only [↓qi,qy,reduceIte,Nat.reduceEqDiff,wv,bsk1]
 refine C3.q (qc6 (M:=M) h6 (by omega) (kids:=[i]) (kid1 i) rfl) fun w H8 ⟨nv8,hw,h8,p8⟩=>?_
 subst hw
 simp only [↓qi,qy,reduceIte,Nat.reduceEqDiff]
 refine ⟨nv8,_,k6,h8,(((p3.trans p4).trans p5).trans p6).trans p8,by rw [qe,qt];omega,?_⟩
 cases hq:Lang.take [59] o σ with
 | bad L'=>exact ⟨_,rfl⟩
 | ok L' =>
  obtain ⟨L1,rfl,_⟩:=qe7 hq
  obtain ⟨hi,hz5⟩:=hv5
  injection hi with _ hi
  exact VOK.node (by rw [hz5];simp [It.ks,encF]) (by rw [hi];simp [It.ks,endsF,ints]) rfl
theorem q0a (ho:o<=50) (hl:tok L=wStore) (hx:CR M xi [] c (.e x) (Lang.take [40] o (.ok (adv L))) (o+1) a σ) (hy:CR M xi [] c (.e y) (Lang.take [44] (o+1) σ) (o+1) a τ) (hst:τ.isBad=false -> σ.isBad=false) (h5:σ.isBad=false->o+1<=50) :
 CS M c (.s (.store x y)) (.ok L) o a (Lang.take [59] o (Lang.take [41] (o+1) τ)):=by
 intro L' e H nv zs k d h hdr hd
 injection e with e;subst e
 refine qi7 (c:=c) (by rw [hl];rfl) ?_
 obtain ⟨-,-,w20,-,-,-,-,-,-,-,-,-⟩:=zk M ⟨none,qv⟩
 simp only [↓qi,qy,reduceIte,Nat.reduceEqDiff,w20,hl,jn]
 refine C3.q (qag (M:=M) (s:=wStore) (by decide) (fun _=>ho) h) fun u H3 ⟨k3,h3,p3,hk3,hk3'⟩=>?_
 rw [qgh hl (by decide)] at h3 hk3'
 have hk3':=hk3' _ rfl
 simp only [↓qi,qy,reduceIte,Nat.reduceEqDiff]
 refine C3.q (qar (M:=M) (s:=[40]) (o':=o+1) (by decide) (.inl ⟨.inl rfl,rfl⟩) (fun _=>ho) h3) fun u H4 ⟨k4,h4,p4,hk4,_⟩=>?_
 simp only [↓qi,qy,reduceIte,Nat.reduceEqDiff]
 refine C3.q (hx H4 nv zs k4 (d+1) h4 (by omega)) fun w H5 ⟨nv5,zs5,k5,q5,p5,hd5,hv5⟩=>?_
 simp only [↓qi,qy,reduceIte,Nat.reduceEqDiff]
 refine C3.q (qag (M:=M) (s:=[44]) (by decide) h5 q5) fun u H6 ⟨k6,h6,p6,hk6,_⟩=>?_
 simp only [↓qi,qy,reduceIte,Nat.reduceEqDiff]
 refine C3.q (hy H6 nv5 zs5 k6 (d+1) h6 (by omega)) fun w H7 ⟨nv7,zs7,k7,h7,p7,hd7,hv7⟩=>?_
 simp only [↓qi,qy,reduceIte,Nat.reduceEqDiff]
 refine C3.q (qar (M:=M) (s:=[41]) (o':=o) (by decide) (.inr (.inl ⟨.inl rfl,rfl⟩)) (fun q=>h5 (hst q)) h7) fun u H8 ⟨k8,h8,p8,hk8,_⟩=>?_
 simp only [↓qi,qy,reduceIte,Nat.reduceEqDiff]
 refine C3.q (qag (M:=M) (s:=[59]) (by decide) (fun _=>ho) h8) fun u H9 ⟨k9,h9,p9,hk9,_⟩=>?_
 obtain ⟨i,hi⟩:=hv5.int
 obtain ⟨j,hj⟩:=hv7.int
 subst hi;subst hj
 have hk9':=h9.sz
 simp only [↓qi,qy,reduceIte,Nat.reduceEqDiff,bsk2]
 refine C3.q (qc6 (M:=M) h9 (by omega) (kids:=[i,j]) (kid2 i j) rfl) fun w H11 ⟨nv11,hw,h11,p11⟩=>?_
 subst hw
 simp only [↓qi,qy,reduceIte,Nat.reduceEqDiff]
 refine ⟨nv11,_,k9,h11,((((((p3.trans p4).trans p5).trans p6).trans p7).trans p8).trans p9).trans p11,by rw [qe,qt];omega,?_⟩
 cases hq:Lang.take [59] o (Lang.take [41] (o+1) τ) with
 | bad L'=>exact ⟨_,rfl⟩
 | ok L' =>
  obtain ⟨L1,hq1,_⟩:=qe7 hq
  obtain ⟨L2,rfl,_⟩:=qe7 hq1
  obtain ⟨hj,hz7⟩:=hv7
  injection hj with _ hj
  cases σ with
  | bad L3=>exact nomatch hst rfl
  | ok L3 =>
   obtain ⟨hi,hz5⟩:=hv5
   injection hi with _ hi
   have hzl:=congrArg List.length hz5
   rw [qn,qe,qn,It.len] at hzl
   refine VOK.node ?_ ?_ rfl
   ·rw [hz7,hz5,hzl];simp [It.ks,encF]
   ·rw [hi,hj,hzl];simp [It.ks,endsF,ints]
theorem qz9 (ho:o<=50) (hl:tok L=wIf) {cn:Cn} (hc:CR M x7 [] c (.c cn) (.ok (adv L)) o a σ) {l:Ls} (hb:CR M xq [] c (.l l) σ o a τ) (hst:τ.isBad=false -> σ.isBad=false)
 {H:AHeap} {nv:AV} {zs:List (Nd × AV)} {k d:Nat} (h:RF c H nv zs (.ok L) k o a) (hd:zs.length+d<=k) {Q:AV->AHeap->Prop}
 (go:∀ (H4:AHeap) (nv4:AV) (zs4:List (Nd × AV)) (k4:Nat) (i j:Int) (E:Env),RF c H4 nv4 zs4 τ k4 o a->PK c.r nv zs H nv4 zs4 H4->zs4.length+(d+1)<=k4->c.text.drop k4 = τ.left ->
  (τ.isBad=false->i=((zs.length+cn.sz-1:Nat):Int)/\j=((zs.length+cn.sz+l.sz:Nat):Int)/\zs4.map (·.1)=zs.map (·.1)++(cn.enc zs.length++l.encL (zs.length+cn.sz))) ->
  lk E 0=some (.ptr c.r 0)->lk E 9=some (.int .i64 i)->lk E 10=some (.int .i64 j)->lk E 11=some (.str (tok τ.left)) ->
  W M ⟨none,qv⟩ (qk 54) true (SEQ3 (W M ⟨none,qv⟩ (qk 70)) (FIN3 M [.tmp 4] (RT3 Q))) E [] H4) :
 y9 M qv [.ptr c.r 0,.str (tok L)] H Q:=by
 refine qi7 (c:=c) (by rw [hl];rfl) ?_
 obtain ⟨-,-,w20,w42,-,w48,-,w52,-,-,-,-⟩:=zk M ⟨none,qv⟩
 have n1:¬ tok L=[115,116,111,114,101]:=by rw [hl];decide
 simp only [↓qi,qy,reduceIte,Nat.reduceEqDiff,w20,n1,w42,kx hl]
 rw [hl]
 refine C3.q (qag (M:=M) (s:=wIf) (by decide) (fun _=>ho) h) fun u H3 ⟨k3,h3,p3,hk3,hk3'⟩=>?_
 rw [qgh hl (by decide)] at h3 hk3'
 have hk3':=hk3' _ rfl
 simp only [↓qi,qy,reduceIte,Nat.reduceEqDiff,w48]
 refine C3.q (hc H3 nv zs k3 (d+1) h3 (by omega)) fun v H5 ⟨nv5,zs5,k5,h5,p5,hd5,hv5⟩=>?_
 simp only [↓qi,qy,reduceIte,Nat.reduceEqDiff]
 refine C3.q (hb H5 nv5 zs5 k5 (d+1) h5 hd5) fun v H6 ⟨nv6,zs6,k6,h6,p6,hd6,hv6⟩=>?_
 obtain ⟨i,hi⟩:=hv5.int
 obtain ⟨j,hj⟩:=hv6.int
 subst hi;subst hj
 simp only [↓qi,qy,reduceIte,Nat.reduceEqDiff,w52]
 refine C3.q (qa6 (M:=M) h6) fun w H7 ⟨hw,m,hkm,hm,pm,hdm⟩=>?_
 subst hw
 refine go H7 nv6 zs6 m i j _ hm (((p3.trans p5).trans p6).trans pm) (by omega) hdm (fun q=>?_) (by rfl) (by rfl) (by rfl) (by rfl)
 cases τ with
 | bad L'=>cases q
 | ok L' =>
  obtain ⟨hj,hz6⟩:=hv6
  injection hj with _ hj
  cases σ with
  | bad L3=>exact nomatch hst rfl
  | ok L3 =>
   obtain ⟨hi,hz5⟩:=hv5
   injection hi with _ hi
   have hzl:=congrArg List.length hz5
   rw [qn,qe,qn,It.len] at hzl
   have e1:(It.c cn).sz=cn.sz:=rfl
   have e2:(It.l l).sz=l.sz+1:=rfl
   rw [e1] at hzl hi
   rw [e2] at hj
   refine ⟨hi,by rw [hj,hzl];congr 1,?_⟩
   rw [hz6,hz5,hzl,qu];rfl
theorem qy3 {H H4:AHeap} {nv nv4:AV} {zs zs4:List (Nd × AV)} {k4 d:Nat} {i j:Int} {E:Env} {x:It} (h4:RF c H4 nv4 zs4 τ k4 o a) (p4:PK c.r nv zs H nv4 zs4 H4) (hd4:zs4.length+(d+1)<=k4) (e0:lk E 0=some (.ptr c.r 0)) (e9:lk E 9=some (.int .i64 i)) (e10:lk E 10=some (.int .i64 j))
 (hv:VOK x zs (zs4 ++ [(⟨16,0,[i,j]⟩,Op.sliceTo 2 2 H4.next)]) τ (.int .i64 ((zs4.length:Nat):Int))) :
 W M ⟨none,qv⟩ (qk 66) true (SEQ3 (W M ⟨none,qv⟩ (qk 70)) (FIN3 M [.tmp 4] (RT3 (RQ c H nv zs d o a τ (VOK x zs · τ))))) E [] H4:=by
 obtain ⟨-,-,-,-,-,-,-,-,-,-,-,w66⟩:=zk M ⟨none,qv⟩
 have hk4:=h4.sz
 simp only [↓qi,qy,reduceIte,Nat.reduceEqDiff,w66,e0,e9,e10,bsk2]
 refine C3.q (qc6 (M:=M) h4 (by omega) (kids:=[i,j]) (kid2 i j) rfl) fun w H6 ⟨nv6,hw,h6,p6⟩=>?_
 subst hw
 simp only [↓qi,qy,reduceIte,Nat.reduceEqDiff]
 exact ⟨nv6,_,k4,h6,p4.trans p6,by rw [qe,qt];omega,hv⟩
theorem stR_ite (ho:o<=50) (hl:tok L=wIf) {cn:Cn} (hc:CR M x7 [] c (.c cn) (.ok (adv L)) o a σ) {l:Ls} (hb:CR M xq [] c (.l l) σ o a (.ok L2)) (hst:σ.isBad=false) (he:tok L2 ≠ wElse):CS M c (.s (.ite cn l)) (.ok L) o a (.ok L2):=by
 intro L' e H nv zs k d h hdr hd
 injection e with e;subst e
 refine qz9 ho hl hc hb (fun _=>hst) h hd fun H4 nv4 zs4 k4 i j E h4 p4 hd4 hdr4 hv e0 e9 e10 e11=>?_
 obtain ⟨-,-,-,-,-,-,-,-,-,w54,-,-⟩:=zk M ⟨none,qv⟩
 have l5:Op.load1 [.ptr c.r 5] H4=some (.bool false):=h4.ld5
 have he:¬ tok L2=[101,108,115,101]:=he
 simp only [↓qi,qy,reduceIte,Nat.reduceEqDiff,w54,e0,qg,l5,e11,PS.left,he]
 refine qy3 h4 p4 hd4 e0 e9 e10 ?_
 obtain ⟨hi,hj,hz⟩:=hv rfl
 exact VOK.node (by rw [hz];simp [It.ks,encF,It.enc,It.sz]) (by rw [hi,hj];simp [It.ks,endsF,ints,It.sz]) rfl
theorem stR_ite1 (ho:o<=50) (hl:tok L=wIf) {cn:Cn} (hc:CR M x7 [] c (.c cn) (.ok (adv L)) o a σ) {l:Ls} (hb:CR M xq [] c (.l l) σ o a (.bad L2)):CS M c (.s (.ite cn l)) (.ok L) o a (.bad L2):=by
 intro L' e H nv zs k d h hdr hd
 injection e with e;subst e
 refine qz9 ho hl hc hb (fun q=>by cases q) h hd fun H4 nv4 zs4 k4 i j E h4 p4 hd4 hdr4 hv e0 e9 e10 e11=>?_
 obtain ⟨-,-,-,-,-,-,-,-,-,w54,-,-⟩:=zk M ⟨none,qv⟩
 have l5:Op.load1 [.ptr c.r 5] H4=some (.bool true):=h4.ld5
 simp only [↓qi,qy,reduceIte,Nat.reduceEqDiff,w54,e0,qg,l5]
 exact qy3 h4 p4 hd4 e0 e9 e10 ⟨_,rfl⟩
theorem stR_ites (ho:o<=50) (hl:tok L=wIf) {cn:Cn} (hc:CR M x7 [] c (.c cn) (.ok (adv L)) o a σ) {l m:Ls} (hb:CR M xq [] c (.l l) σ o a (.ok L2)) (hst:σ.isBad=false) (he:tok L2=wElse)
 (hm:CR M xq [] c (.l m) (.ok (adv L2)) o a ρ):CS M c (.s (.ites cn l m)) (.ok L) o a ρ:=by
 intro L' e H nv zs k d h hdr hd
 injection e with e;subst e
 refine qz9 ho hl hc hb (fun _=>hst) h hd fun H4 nv4 zs4 k4 i j E h4 p4 hd4 hdr4 hv e0 e9 e10 e11=>?_
 obtain ⟨-,-,-,-,-,-,-,-,-,w54,-,-⟩:=zk M ⟨none,qv⟩
 have l5:Op.load1 [.ptr c.r 5] H4=some (.bool false):=h4.ld5
 have he':tok L2=[101,108,115,101]:=he
 simp only [↓qi,qy,reduceIte,Nat.reduceEqDiff,w54,e0,qg,l5,e11,PS.left,kx he']
 rw [he']
 refine C3.q (qag (M:=M) (s:=wElse) (by decide) (fun _=>ho) h4) fun u H5 ⟨k5,h5,p5,hk5,hk5'⟩=>?_
 rw [qgh he (by decide)] at h5 hk5'
 have hk5':=hk5' _ rfl
 simp only [↓qi,qy,reduceIte,Nat.reduceEqDiff,e0]
 refine C3.q (hm H5 nv4 zs4 k5 (d+1) h5 (by omega)) fun v H8 ⟨nv8,zs8,k8,h8,p8,hd8,hv8⟩=>?_
 obtain ⟨q,hq⟩:=hv8.int
 subst hq
 have hk8:=h8.sz
 simp only [↓qi,qy,reduceIte,Nat.reduceEqDiff,e0,e9,e10,bsk3]
 refine C3.q (qc6 (M:=M) h8 (by omega) (kids:=[i,j,q]) (kid3 i j q) rfl) fun w H12 ⟨nv12,hw,h12,p12⟩=>?_
 subst hw
 simp only [↓qi,qy,reduceIte,Nat.reduceEqDiff]
 refine ⟨nv12,_,k8,h12,((p4.trans p5).trans p8).trans p12,by rw [qe,qt];omega,?_⟩
 cases ρ with
 | bad L'=>exact ⟨_,rfl⟩
 | ok L' =>
  obtain ⟨hq,hz8⟩:=hv8
  injection hq with _ hq
  obtain ⟨hi,hj,hz⟩:=hv rfl
  have hzl:=congrArg List.length hz
  rw [qn,qe,qe,qn,Cn.len,Ls.lenL] at hzl
  have e2:(It.l m).sz=m.sz+1:=rfl
  refine VOK.node ?_ ?_ rfl
  ·rw [hz8,hz,hzl];simp [It.ks,encF,It.enc,It.sz,j1]
  ·rw [hi,hj,hq,hzl,e2];simp [It.ks,endsF,ints,It.sz,j1];omega
theorem stR_loop (ho:o<=50) (hl:tok L=wWhile) {cn:Cn} (hc:CR M x7 [] c (.c cn) (.ok (adv L)) o a σ) {l:Ls} (hb:CR M xq [] c (.l l) σ o a τ) (hst:τ.isBad=false -> σ.isBad=false):CS M c (.s (.loop cn l)) (.ok L) o a τ:=by
 intro L' e H nv zs k d h hdr hd
 injection e with e;subst e
 refine qi7 (c:=c) (by rw [hl];rfl) ?_
 obtain ⟨-,-,w20,w42,w70,-,-,-,-,-,-,-⟩:=zk M ⟨none,qv⟩
 have n1:¬ tok L=[115,116,111,114,101]:=by rw [hl];decide
 have n2:¬ tok L=[105,102]:=by rw [hl];decide
 simp only [↓qi,qy,reduceIte,Nat.reduceEqDiff,w20,n1,w42,n2,w70,kx hl]
 rw [hl]
 refine C3.q (qag (M:=M) (s:=wWhile) (by decide) (fun _=>ho) h) fun u H3 ⟨k3,h3,p3,hk3,hk3'⟩=>?_
 rw [qgh hl (by decide)] at h3 hk3'
 have hk3':=hk3' _ rfl
 simp only [↓qi,qy,reduceIte,Nat.reduceEqDiff]
 refine C3.q (hc H3 nv zs k3 (d+1) h3 (by omega)) fun v H5 ⟨nv5,zs5,k5,h5,p5,hd5,hv5⟩=>?_
 simp only [↓qi,qy,reduceIte,Nat.reduceEqDiff]
 refine C3.q (hb H5 nv5 zs5 k5 (d+1) h5 hd5) fun v H6 ⟨nv6,zs6,k6,h6,p6,hd6,hv6⟩=>?_
 obtain ⟨i,hi⟩:=hv5.int
 obtain ⟨j,hj⟩:=hv6.int
 subst hi;subst hj
 have hk6:=h6.sz
 simp only [↓qi,qy,reduceIte,Nat.reduceEqDiff,bsk2]
 refine C3.q (qc6 (M:=M) h6 (by omega) (kids:=[i,j]) (kid2 i j) rfl) fun w H8 ⟨nv8,hw,h8,p8⟩=>?_
 subst hw
 simp only [↓qi,qy,reduceIte,Nat.reduceEqDiff]
 refine ⟨nv8,_,k6,h8,((p3.trans p5).trans p6).trans p8,by rw [qe,qt];omega,?_⟩
 cases τ with
 | bad L'=>exact ⟨_,rfl⟩
 | ok L' =>
  obtain ⟨hj,hz6⟩:=hv6
  injection hj with _ hj
  cases σ with
  | bad L3=>exact nomatch hst rfl
  | ok L3 =>
   obtain ⟨hi,hz5⟩:=hv5
   injection hi with _ hi
   have hzl:=congrArg List.length hz5
   rw [qn,qe,qn,It.len] at hzl
   refine VOK.node ?_ ?_ rfl
   ·rw [hz6,hz5,hzl];simp [It.ks,encF,It.enc,It.sz]
   ·rw [hi,hj,hzl];simp [It.ks,endsF,ints,It.sz]
theorem stR_atom (ho:o<=50) (hl:tok L=wAtomic) {l:Ls} (hb:CR M xq [] c (.l l) (.ok (adv L)) o true τ):CS M c (.s (.atom l)) (.ok L) o false τ:=by
 intro L' e H nv zs k d h hdr hd
 injection e with e;subst e
 refine qi7 (c:=c) (by rw [hl];rfl) ?_
 obtain ⟨-,-,w20,w42,w70,-,w84,-,-,-,-,-⟩:=zk M ⟨none,qv⟩
 have n1:¬ tok L=[115,116,111,114,101]:=by rw [hl];decide
 have n2:¬ tok L=[105,102]:=by rw [hl];decide
 have n3:¬ tok L=[119,104,105,108,101]:=by rw [hl];decide
 have l4:Op.load1 [.ptr c.r 4] H=some (.bool false):=(show RFg c H nv zs false k o false from h.toRFg).ld4
 simp only [↓qi,qy,reduceIte,Nat.reduceEqDiff,w20,n1,w42,n2,w70,n3,w84,kx hl,qg,l4]
 rw [hl]
 refine C3.q (qag (M:=M) (s:=wAtomic) (by decide) (fun _=>ho) h) fun u H3 ⟨k3,h3,p3,hk3,hk3'⟩=>?_
 rw [qgh hl (by decide)] at h3 hk3'
 have hk3':=hk3' _ rfl
 obtain ⟨H4,st4,g4,p4⟩:=h3.toRFg.atm true
 have h4:RF c H4 nv zs (.ok (adv L)) k3 o true:=⟨g4,h3.ps,h3.bx⟩
 simp only [↓qi,qy,reduceIte,Nat.reduceEqDiff,qg,st4]
 refine C3.q (hb H4 nv zs k3 (d+1) h4 (by omega)) fun v H5 ⟨nv5,zs5,k5,h5,p5,hd5,hv5⟩=>?_
 obtain ⟨j,hj⟩:=hv5.int
 subst hj
 obtain ⟨H6,st6,g6,p6⟩:=h5.toRFg.atm false
 have h6:RF c H6 nv5 zs5 τ k5 o false:=⟨g6,h5.ps,h5.bx⟩
 have hk6:=h6.sz
 simp only [↓qi,qy,reduceIte,Nat.reduceEqDiff,qg,st6,bsk1]
 refine C3.q (qc6 (M:=M) h6 (by omega) (kids:=[j]) (kid1 j) rfl) fun w H8 ⟨nv8,hw,h8,p8⟩=>?_
 subst hw
 simp only [↓qi,qy,reduceIte,Nat.reduceEqDiff]
 refine ⟨nv8,_,k5,h8,(((p3.trans p4).trans p5).trans p6).trans p8,by rw [qe,qt];omega,?_⟩
 cases τ with
 | bad L'=>exact ⟨_,rfl⟩
 | ok L' =>
  obtain ⟨hj,hz5⟩:=hv5
  injection hj with _ hj
  refine VOK.node ?_ ?_ rfl
  ·rw [hz5];simp [It.ks,encF,It.enc,It.sz]
  ·rw [hj];simp [It.ks,endsF,ints,It.sz]
theorem stR_halt (ho:o<=50) (hl:tok L=wHalt):CS M c (.s .halt) (.ok L) o a (Lang.take [59] o (.ok (adv L))):=by
 intro L' e H nv zs k d h hdr hd
 injection e with e;subst e
 refine qi7 (c:=c) (by rw [hl];rfl) ?_
 obtain ⟨-,-,w20,w42,w70,-,w84,-,w100,-,-,-⟩:=zk M ⟨none,qv⟩
 have n1:¬ tok L=[115,116,111,114,101]:=by rw [hl];decide
 have n2:¬ tok L=[105,102]:=by rw [hl];decide
 have n3:¬ tok L=[119,104,105,108,101]:=by rw [hl];decide
 have n4:¬ tok L=[97,116,111,109,105,99]:=by rw [hl];decide
 simp only [↓qi,qy,reduceIte,Nat.reduceEqDiff,w20,n1,w42,n2,w70,n3,w84,n4,w100,kx hl]
 rw [hl]
 refine C3.q (qag (M:=M) (s:=wHalt) (by decide) (fun _=>ho) h) fun u H3 ⟨k3,h3,p3,hk3,hk3'⟩=>?_
 rw [qgh hl (by decide)] at h3 hk3'
 have hk3':=hk3' _ rfl
 simp only [↓qi,qy,reduceIte,Nat.reduceEqDiff]
 refine C3.q (qag (M:=M) (s:=[59]) (by decide) (fun _=>ho) h3) fun u H4 ⟨k4,h4,p4,hk4,_⟩=>?_
 have hk4':=h4.sz
 simp only [↓qi,qy,reduceIte,Nat.reduceEqDiff]
 refine C3.q (qo6 (M:=M) h4 (by omega)) fun w H8 ⟨nv8,hw,h8,p8⟩=>?_
 subst hw
 simp only [↓qi,qy,reduceIte,Nat.reduceEqDiff]
 refine ⟨nv8,_,k4,h8,(p3.trans p4).trans p8,by rw [qe,qt];omega,?_⟩
 cases hq:Lang.take [59] o (.ok (adv L)) with
 | bad L'=>exact ⟨_,rfl⟩
 | ok L'=>exact VOK.node (by simp [It.ks,encF]) (by simp [It.ks,endsF,ints]) rfl
theorem stR_no {x:It} (h1:varOf (tok L)=none) (h2:tok L ≠ wStore) (h3:tok L ≠ wIf) (h4:tok L ≠ wWhile) (h5:a=true\/tok L ≠ wAtomic) (h6:tok L ≠ wHalt):CS M c x (.ok L) o a (.bad L):=by
 intro L' e H nv zs k d h hdr hd
 injection e with e;subst e
 refine qi7 (c:=c) h1 ?_
 obtain ⟨-,-,w20,w42,w70,-,w84,-,w100,-,w112,-⟩:=zk M ⟨none,qv⟩
 have n1:¬ tok L=[115,116,111,114,101]:=h2
 have n2:¬ tok L=[105,102]:=h3
 have n3:¬ tok L=[119,104,105,108,101]:=h4
 have n5:¬ tok L=[104,97,108,116]:=h6
 obtain ⟨Hf,stf,hf,pf⟩:=h.toRFg.failF (o':=o) (a':=a) h.ps hdr
 by_cases n4:tok L=[97,116,111,109,105,99]
 ·have ha:a=true:=h5.elim id fun q=>(q n4).elim
  subst ha
  have l4:Op.load1 [.ptr c.r 4] H=some (.bool true):=(show RFg c H nv zs false k o true from h.toRFg).ld4
  simp only [↓qi,qy,reduceIte,Nat.reduceEqDiff,w20,n1,w42,n2,w70,n3,w84,kx n4,qg,l4,w100,n5,w112,stf]
  exact ⟨nv,zs,k,hf,pf,hd,_,rfl⟩
 ·simp only [↓qi,qy,reduceIte,Nat.reduceEqDiff,w20,n1,w42,n2,w70,n3,w84,n4,w100,n5,w112,qg,stf]
  exact ⟨nv,zs,k,hf,pf,hd,_,rfl⟩
end
def SpR (M:Mac) (c:RFk) (nt:NT) (o:Nat) (a:Bool) (σ:PS) (x:It) (τ:PS):Prop:=match nt with
 | .fac=>CR M xf [] c x σ o a τ
 | .row n=>(n=1->CR M xi [] c x σ o a τ)/\(n=2->CR M xx [] c x σ o a τ)
 | .rowl n y=>(n=1->RL1 M c y σ o a (exOf x) τ)/\(n=2->RL2 M c y σ o a (exOf x) τ)
 | .cnd=>∀ (o':Nat) (σ0:PS),o=o'+1 -> σ = Lang.take [40] o' σ0->(σ0.isBad=false->o'<=50)->CR M x7 [] c x σ0 o' a (Lang.take [41] o τ)
 | .stm=>CS M c x σ o a τ
 | .sts e=>PLR M c e (lsOf x) σ o a τ
 | .blk=>CR M xq [] c x σ o a τ
theorem qve {c:RFk} {nt:NT} {o:Nat} {a:Bool} {σ τ:PS} {x:It} (h:P nt o a σ x τ):(σ.isBad=false->o<=50)->SpR M c nt o a σ x τ:=by
 induction h with
 | @bad nt o a L x =>
  intro ho
  cases nt with
  | fac=>exact qv4
  | row n=>exact ⟨fun _=>CR.any (u:=.e (.num 0)) qwg,fun _=>CR.any (u:=.e (.num 0)) qwh⟩
  | rowl n y=>exact ⟨fun _=>qzr,fun _=>qzs⟩
  | cnd =>
   intro o' σ0 e1 e2 h0
   exact qra (x:=.num 0) (τ:=.bad L) h0 (by rw [<-e2];exact qwg) (.inl rfl)
  | stm=>intro L' e;cases e
  | sts e=>exact lr_bad
  | blk=>exact qw0
 | num h=>exact fun _=>facR_num h
 | var h=>exact fun _=>facR_var h
 | load h hx ih=>exact fun ho=>qyy (ho rfl) h ((ih fun q=>jw (.inl rfl) q).1 rfl) fun q=>jw (.inl rfl) (hx.okIn q)
 | par h hx ih=>exact fun ho=>facR_par (ho rfl) h ((ih fun q=>jw (.inl rfl) q).1 rfl) fun q=>jw (.inl rfl) (hx.okIn q)
 | nofac x h1 h2 h3 h4=>exact fun _=>facR_no h1 h2 h3 h4
 | @row n o a L x y σ τ hx hy ihx ihy =>
  intro ho
  have h2:=ihy fun _=>ho rfl
  refine ⟨fun e=>?_,fun e=>?_⟩
  ·subst e;exact qt0 ((ihx ho).2 rfl) (h2.1 rfl)
  ·subst e;exact qt1 (ihx ho) (h2.2 rfl)
 | stop h=>exact fun ho=>⟨fun e=>by subst e;exact rl1_stop h,fun e=>by subst e;exact rl2_stop h⟩
 | @more n o a L x y z σ τ h hy hz ihy ihz =>
  intro ho
  refine ⟨fun e=>?_,fun e=>?_⟩
  ·subst e;exact rl1_more h ((ihy ho).2 rfl) ((ihz fun _=>ho rfl).1 rfl)
  ·subst e;exact rl2_more h (ihy ho) ((ihz fun _=>ho rfl).2 rfl)
 | @cnd o a L L1 x y σ hx h hy ihx ihy =>
  intro ho o' σ0 e1 e2 h0
  subst e1
  exact condR_ok h0 (by rw [<-e2];exact (ihx ho).1 rfl) h ((ihy fun _=>ho rfl).1 rfl) fun _=>ho rfl
 | @cnd1 o a L L1 x z hx ihx =>
  intro ho o' σ0 e1 e2 h0
  subst e1
  exact qra (τ:=.bad L1) h0 (by rw [<-e2];exact (ihx ho).1 rfl) (.inl rfl)
 | @cnd2 o a L L1 x z hx h ihx =>
  intro ho o' σ0 e1 e2 h0
  subst e1
  exact qra (τ:=.ok L1) h0 (by rw [<-e2];exact (ihx ho).1 rfl) (.inr h)
 | set h hx ih=>exact fun ho=>stR_set (ho rfl) h ((ih fun _=>ho rfl).1 rfl)
 | store h hx hy ihx ihy=>exact fun ho=>q0a (ho rfl) h ((ihx fun q=>jw (.inl rfl) q).1 rfl) ((ihy fun q=>jw (.inl rfl) (hx.okIn (qaa q))).1 rfl) (fun q=>qaa (hy.okIn q)) fun q=>jw (.inl rfl) (hx.okIn q)
 | ite h hc hl he ihc ihl=>exact fun ho=>stR_ite (ho rfl) h (ihc (fun q=>jw (.inl rfl) q) _ _ rfl rfl fun _=>ho rfl) (ihl fun _=>ho rfl) (hl.okIn rfl) he
 | ite1 h hc hl ihc ihl=>exact fun ho=>stR_ite1 (ho rfl) h (ihc (fun q=>jw (.inl rfl) q) _ _ rfl rfl fun _=>ho rfl) (ihl fun _=>ho rfl)
 | ites h hc hl he hm ihc ihl ihm=>exact fun ho=>stR_ites (ho rfl) h (ihc (fun q=>jw (.inl rfl) q) _ _ rfl rfl fun _=>ho rfl) (ihl fun _=>ho rfl) (hl.okIn rfl) he (ihm fun _=>ho rfl)
 | loop h hc hl ihc ihl=>exact fun ho=>stR_loop (ho rfl) h (ihc (fun q=>jw (.inl rfl) q) _ _ rfl rfl fun _=>ho rfl) (ihl fun _=>ho rfl) fun q=>hl.okIn q
 | atom h hl ihl=>exact fun ho=>stR_atom (ho rfl) h (ihl fun _=>ho rfl)
 | halt h=>exact fun ho=>stR_halt (ho rfl) h
 | nostm x h1 h2 h3 h4 h5 h6=>exact fun _=>stR_no h1 h2 h3 h4 h5 h6
 | nil h=>subst h;exact fun _=>lr_nil
 | cons h hs hl ihs ihl=>exact fun ho=>lr_cons h (ihs ho) (ihl fun _=>ho rfl) fun q=>hl.okIn q
 | blk hl ih=>exact fun ho=>blockR (ho rfl) (ih fun q=>jw (.inr rfl) q) fun L' e=>by rw [e] at hl;exact hl.bad_eq
end Go.Am
namespace Go.Am
open Lang Go.Proofs
variable {M:Mac} [MK M]
theorem bdR (s:Tk):Op.build [.str [],.int .i64 0,.nils,.int .i64 0,.bool false,.bool false] [(0,1)] [.str s]=some (.agg [.str s,.int .i64 0,.nils,.int .i64 0,.bool false,.bool false]):=rfl
theorem qn2 {H:AHeap} {text:Tk} (hl:text.length<=100000) {p:Ls} {τ:PS} (hP:P (.sts []) 0 false (.ok (skp false text)) (.l p) τ):y9 M qbt [.str text] H (ParseR text p τ H):=by
 refine qsa ?_
 obtain ⟨w0,w4,w6,w14,w18,w41,w23,w29,w40⟩:=qsb M ⟨none,qbt⟩
 obtain ⟨H1,e1⟩:∃ X,X=H.alloc (OR [.str text,.int .i64 0,.nils,.int .i64 0,.bool false,.bool false] qbu):=⟨_,rfl⟩
 have n1:H1.next=H.next+1:=by rw [e1,jh]
 have f1:Fr Em H H1:=by rw [e1];exact (Fr.refl H).alloc _
 have g1:H1.get H.next=some (OR [.str text,.int .i64 0,.nils,.int .i64 0,.bool false,.bool false] qbu):=by rw [e1,jb]
 simp only [↓qi,qy,reduceIte,Nat.reduceEqDiff,w0,bdR,qkm,<-e1,w4]
 obtain ⟨c,hc⟩:∃ c:RFk,c=⟨H,H.next,text⟩:=⟨_,rfl⟩
 have c1:c.H0=H:=by rw [hc]
 have c2:c.r=H.next:=by rw [hc]
 have c3:c.text=text:=by rw [hc]
 have h0:RF c H1 .nils [] (.ok (skp false text)) 0 0 false:=by
  rw [hc]
  exact ⟨⟨⟨0,false,⟨g1,qf _,(by show H.next<H1.next;omega),⟨Own.nil ..,f1,fun b q=>(q.1 rfl).elim⟩,(fun z hz=>by cases hz),fun q=>q.1 rfl⟩,fun _=>⟨rfl,rfl⟩⟩,jo _,hl⟩,rfl,fun q=>by cases q⟩
 have hPL:PLR M c [] p (.ok (skp false text)) 0 false τ:=qve hP fun _=>by decide
 rw [<-c2]
 refine C3.q (listR (M:=M) (d:=0) hPL h0 (by simp)) fun v H2 ⟨nv,zs,k,h2,p2,hd2,hv⟩=>?_
 obtain ⟨o1,a1,ns,_⟩:=h2.ns
 have f2:Fr Em H H2:=by have:=ns.nw.fr;rw [c1] at this;exact this
 cases τ with
 | ok L =>
  have l5:Op.load1 [.ptr c.r 5] H2=some (.bool false):=h2.ld5
  have l2:=h2.ld2
  simp only [↓qi,qy,reduceIte,Nat.reduceEqDiff,w6,qg,l5,l2]
  refine ⟨f2,nv,rfl,zs,?_,ns.nw.sl,fun z hz=>(ns.kd z hz).1⟩
  rw [hv.2]
  simp [It.enc,Ls.encL]
 | bad L =>
  have l5:Op.load1 [.ptr c.r 5] H2=some (.bool true):=h2.ld5
  have l1:=h2.ld1
  have hb:text.drop k=L:=by have:=h2.bx rfl;rw [c3] at this;exact this
  have hk:=h2.le
  rw [c3] at hk
  have hlc:lcOf text L=lc (text.take k):=by
   unfold lcOf
   rw [<-hb,zy]
   congr 2;omega
  simp only [↓qi,qy,reduceIte,Nat.reduceEqDiff,w6,qg,l5,w14,w18]
  refine LOOP3.intro (fun n E Hx=>∃ i:Nat,E=[(9,.int .i64 (i:Nat)),(8,.int .i64 (lc (text.take i)).2),(7,.int .i64 (lc (text.take i)).1),(6,.ptr c.r 0),(0,.str text)]/\n=k-i/\i<=k/\Hx=H2) ?_ ?_
  ·exact ⟨_,_,⟨0,rfl,rfl,jo _,rfl⟩,by simp only [↓qi,qy,reduceIte,Nat.reduceEqDiff,qa9];exact ⟨rfl,rfl⟩⟩
  rintro n E Hx ⟨i,rfl,rfl,hi,rfl⟩
  have hrg:=qv8 (text.take i)
  rw [jk] at hrg
  rcases j2 i k with hlt|hge
  ·have q1:(i:Int)<(k:Nat):=by omega
   obtain ⟨x,hx⟩:∃ x,text[i]? = some x:=⟨text[i],by simp [show i<text.length by omega]⟩
   have ix:Op.indexStr [.str text,.int .i64 (i:Nat)]=some (.int .u8 x.toNat):=qaq rfl hx
   have wi:=wat1 (k:=i) (by omega)
   have wl:wrapI .i64 ((lc (text.take i)).1+1)=(lc (text.take i)).1+1:=kr (by omega) (by omega)
   have wc:wrapI .i64 ((lc (text.take i)).2+1)=(lc (text.take i)).2+1:=kr (by omega) (by omega)
   have hst:=qu1 hx
   by_cases x10:x=10
   ·subst x10
    have e10:((10:UInt8).toNat:Int)=10:=rfl
    simp only [↓qi,qy,reduceIte,Nat.reduceEqDiff,w23,qg,l1,q1,w29,wc,ix,e10,jn,wl,w40,wi]
    refine ⟨_,_,⟨i+1,rfl,rfl,by omega⟩,?_,by omega⟩
    rw [hst,lcStep,xv rfl]
    simp only [↓qi,qy,reduceIte,Nat.reduceEqDiff]
   ·have n10:¬ (x.toNat:Int)=10:=fun q=>x10 (j9.1 (by show x.toNat=10;omega))
    simp only [↓qi,qy,reduceIte,Nat.reduceEqDiff,w23,qg,l1,q1,w29,wc,ix,n10,w40,wi]
    refine ⟨_,_,⟨i+1,rfl,rfl,by omega⟩,?_,by omega⟩
    rw [hst,lcStep,qx x10]
    simp only [↓qi,qy,reduceIte,Nat.reduceEqDiff]
  ·have q1:¬ (i:Int)<(k:Nat):=by omega
   have:i=k:=by omega
   subst this
   simp only [↓qi,qy,reduceIte,Nat.reduceEqDiff,w23,qg,l1,q1,reduceCtorEq,w41]
   exact ⟨f2,by show _=_;rw [hlc]⟩
theorem qpw {H:AHeap} {text:Tk} (hE:Ers H):y9 M wx [.str text] H fun v' _=>v'=.bool true:=by
 refine qlg ?_
 obtain ⟨w0,w2,w10⟩:=qlh M ⟨none,wx⟩
 simp only [↓qi,qy,reduceIte,Nat.reduceEqDiff,w0]
 by_cases hl:(2000:Int)<(text.length:Nat)
 ·simp only [↓qi,qy,reduceIte,Nat.reduceEqDiff,w2,hl]
 simp only [↓qi,qy,reduceIte,Nat.reduceEqDiff,w2,hl,w10]
 obtain ⟨p,τ,hP⟩:=(Lang.P.ex (skp false text).length).sts [] (skp false text) 0 false (qf _)
 have x4:∀ (a b c d:AV),Op.extract 0 [.tuple [a,b,c,d]]=some a/\Op.extract 1 [.tuple [a,b,c,d]]=some b/\Op.extract 2 [.tuple [a,b,c,d]]=some c/\Op.extract 3 [.tuple [a,b,c,d]]=some d:=fun _ _ _ _=>⟨rfl,rfl,rfl,rfl⟩
 refine C3.q (qwv (M:=M) (by omega) hE hP) fun v H1 ⟨f1,hv⟩=>?_
 have done:∀ {t:List Nd} {H2:AHeap} {v1 v2:AV},Nds H2 v1 t->Nds H2 v2 t->t.length<=3000->(∀ x ∈ t,x.kids.length<=3000)->y9 M qbp [v1,v2] H2 fun v H'=>v=.bool true/\H'=H2:=fun h1 h2 h3 h4 =>
  qyf (M:=M) h1 h2 (by omega) fun x hx=>by have:=h4 x hx;omega
 cases τ with
 | bad L =>
  have hv:v=.tuple [.nils,.int .i64 (lcOf text L).1,.int .i64 (lcOf text L).2,.int .i64 180]:=hv
  subst hv
  simp only [↓qi,qy,reduceIte,Nat.reduceEqDiff,x4]
  refine C3.q (qn2 (M:=M) (by omega) hP) fun v H2 ⟨f2,hv⟩=>?_
  have hv:v=.tuple [.nils,.int .i64 (lcOf text L).1,.int .i64 (lcOf text L).2,.int .i64 180]:=hv
  subst hv
  have nl:Nds H2 .nils []:=⟨[],rfl,⟨rfl,rfl⟩,fun z hz=>by cases hz⟩
  simp only [↓qi,qy,reduceIte,Nat.reduceEqDiff,x4]
  refine C3.q (done nl nl (by simp) fun x hx=>by cases hx) fun w H3 ⟨hw,_⟩=>?_
  subst hw
  simp only [↓qi,qy,reduceIte,Nat.reduceEqDiff,jn]
 | ok L =>
  obtain ⟨nv,hv,hn⟩:=hv
  subst hv
  simp only [↓qi,qy,reduceIte,Nat.reduceEqDiff,x4]
  refine C3.q (qn2 (M:=M) (by omega) hP) fun v H2 ⟨f2,hv⟩=>?_
  obtain ⟨nv2,hv,hn2⟩:=hv
  subst hv
  obtain ⟨q,hq,ho,hs,hd,hz⟩:=hP.whole
  injection hq with hq
  subst hq
  have hlen:(p.encL 0).length=p.sz+1:=Ls.lenL ..
  simp only [↓qi,qy,reduceIte,Nat.reduceEqDiff,x4]
  refine C3.q (done (hn.em f2) hn2 (by omega) fun y hy=>by have:=It.enc_kids (.l p) 0 y hy;have e:(It.l p).sz=p.sz+1:=rfl;omega) fun w H3 ⟨hw,_⟩=>?_
  subst hw
  simp only [↓qi,qy,reduceIte,Nat.reduceEqDiff,jn]
end Go.Am
