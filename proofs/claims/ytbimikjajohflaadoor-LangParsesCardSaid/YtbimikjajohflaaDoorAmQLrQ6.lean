/- LrQ6: PaF PaG PaH PaI PaJ PaK. -/
import Derived.Test.YtbimikjajohflaaDoorAmQLrQ5
import Derived.Test.YtbimikjajohflaaDoorAmQLrQp
set_option linter.unusedVariables false
set_option linter.unusedSimpArgs false
set_option linter.unusedSectionVars false
set_option maxRecDepth 100000
namespace Go.Am
open Lang Go.Proofs
variable {M:Mac} [MK M]
section
variable {c:RBk} {σ τ:PS} {o:Nat} {a:Bool} {L L1:Tk} {x y:Ex}
theorem cond_bad (hT:TKs c.S c.rs) {z:It}:CQ M xh [] c z (.bad L) o a (.bad L):=by
 intro H nv zs k d h hd
 refine qca ?_
 obtain ⟨w0,w4,-,-,-,-⟩:=qcb M ⟨none,xh⟩
 simp only [↓qi,qy,reduceIte,Nat.reduceEqDiff,w0]
 refine C3.q (qv3 (M:=M) (y:=.num 0) hT H nv zs k d h hd) fun v H1 ⟨nv1,zs1,k1,h1,p1,hd1,hv⟩=>?_
 have l5:Op.load1 [.ptr c.r 5] H1=some (.bool true):=h1.ld5
 simp only [↓qi,qy,reduceIte,Nat.reduceEqDiff,w4,qg,l5]
 exact ⟨nv1,zs1,k1,h1,p1,hd1,_,rfl⟩
theorem cond_1 {z:It} (hx:CQ M xe [] c (.e x) (.ok L) o a (.bad L1)):CQ M xh [] c z (.ok L) o a (.bad L1):=by
 intro H nv zs k d h hd
 refine qca ?_
 obtain ⟨w0,w4,-,-,-,-⟩:=qcb M ⟨none,xh⟩
 simp only [↓qi,qy,reduceIte,Nat.reduceEqDiff,w0]
 refine C3.q (hx H nv zs k d h hd) fun v H1 ⟨nv1,zs1,k1,h1,p1,hd1,hv⟩=>?_
 have l5:Op.load1 [.ptr c.r 5] H1=some (.bool true):=h1.ld5
 simp only [↓qi,qy,reduceIte,Nat.reduceEqDiff,w4,qg,l5]
 exact ⟨nv1,zs1,k1,h1,p1,hd1,_,rfl⟩
theorem qod (t:Tk):csgK t=0/\t ≠ [61,61]/\t ≠ [33,61]/\t ≠ [60]\/csgK t=11/\t=[61,61]\/csgK t=12/\t=[33,61]\/csgK t=13/\t=[60]:=by
 unfold csgK
 by_cases h1:t=[61,61]
 ·exact .inr (.inl ⟨xv h1,h1⟩)
 by_cases h2:t=[33,61]
 ·exact .inr (.inr (.inl ⟨by rw [qx h1,xv h2],h2⟩))
 by_cases h3:t=[60]
 ·exact .inr (.inr (.inr ⟨by rw [qx h1,qx h2,xv h3],h3⟩))
 ·exact .inl ⟨by rw [qx h1,qx h2,qx h3],h1,h2,h3⟩
theorem cond_2 (hT:TKs c.S c.rs) {z:It} (hx:CQ M xe [] c (.e x) (.ok L) o a (.ok L1)) (hs:csgK (tok L1)=0):CQ M xh [] c z (.ok L) o a (.bad L1):=by
 intro H nv zs k d h hd
 refine qca ?_
 obtain ⟨w0,w4,w12,w14,-,w26⟩:=qcb M ⟨none,xh⟩
 simp only [↓qi,qy,reduceIte,Nat.reduceEqDiff,w0]
 refine C3.q (hx H nv zs k d h hd) fun v H1 ⟨nv1,zs1,k1,h1,p1,hd1,hv⟩=>?_
 have l5:Op.load1 [.ptr c.r 5] H1=some (.bool false):=h1.ld5
 simp only [↓qi,qy,reduceIte,Nat.reduceEqDiff,w4,qg,l5,w12,w14]
 refine C3.q (qcs (M:=M) h1 hT) fun w H2 ⟨hv1,hh⟩=>?_
 subst hv1;subst hh
 obtain ⟨_,n1,n2,n3⟩:csgK (tok L1)=0/\tok L1 ≠ [61,61]/\tok L1 ≠ [33,61]/\tok L1 ≠ [60]:=by
  rcases qod (tok L1) with q|⟨q,_⟩|⟨q,_⟩|⟨q,_⟩
  ·exact q
  all_goals (rw [hs] at q;cases q)
 have n1:¬ tok L1=[61,61]:=n1
 have n2:¬ tok L1=[33,61]:=n2
 have n3:¬ tok L1=[60]:=n3
 simp only [↓qi,qy,reduceIte,Nat.reduceEqDiff,PS.left,n1,n2,w26,n3]
 refine C3.q (qij (M:=M) (o':=o) (a':=a) h1 (L:=L1) rfl) fun w H3 ⟨hw,q1,q2⟩=>?_
 subst hw
 simp only [↓qi,qy,reduceIte,Nat.reduceEqDiff]
 exact ⟨nv1,zs1,k1,q1,p1.trans q2,hd1,_,rfl⟩
theorem cond_ok (hT:TKs c.S c.rs) (hx:CQ M xe [] c (.e x) (.ok L) o a (.ok L1)) (hs:csgK (tok L1) ≠ 0) (hy:CQ M xe [] c (.e y) (.ok (adv L1)) o a σ):CQ M xh [] c (.c ⟨csgK (tok L1),x,y⟩) (.ok L) o a σ:=by
 intro H nv zs k d h hd
 refine qca ?_
 obtain ⟨w0,w4,w12,w14,w33,w26⟩:=qcb M ⟨none,xh⟩
 simp only [↓qi,qy,reduceIte,Nat.reduceEqDiff,w0]
 refine C3.q (hx H nv zs k d h hd) fun v H1 ⟨nv1,zs1,k1,h1,p1,hd1,hv⟩=>?_
 have l5:Op.load1 [.ptr c.r 5] H1=some (.bool false):=h1.ld5
 simp only [↓qi,qy,reduceIte,Nat.reduceEqDiff,w4,qg,l5,w12,w14]
 refine C3.q (qcs (M:=M) h1 hT) fun w H2 ⟨hv1,hh⟩=>?_
 subst hv1;subst hh
 have hk:=h1.sz hT
 obtain ⟨hi,hz1⟩:=hv
 have tail:∀ {E:Env},lk E 0=some (.ptr c.r 0)->lk E 4=some (.int .i64 (csgK (tok L1):Nat))->lk E 3=some v ->
  W M ⟨none,xh⟩ (zt 33) true (FIN3 M [.tmp 2] (RT3 (PQ c H nv zs d o a σ (VOK (.c ⟨csgK (tok L1),x,y⟩) zs · σ)))) E [] H2:=by
  intro E e0 e4 e3
  obtain ⟨wk,H3,st,h3,p3⟩:=h1.adv hT (qsy hs)
  simp only [↓qi,qy,reduceIte,Nat.reduceEqDiff,w33,e0,qg,h1.ld1,wk,st]
  refine C3.q (hy H3 nv1 zs1 (k1+1) (d+1) h3 (by omega)) fun w H4 ⟨nv4,zs4,k4,h4,p4,hd4,hv4⟩=>?_
  obtain ⟨j,hj⟩:=hv4.int
  have hk4:=h4.sz hT
  rw [hi] at e3
  subst hj
  have f5:Fr Em H4 (H4.alloc (OR [.int .i64 ((zs.length+(It.e x).sz-1:Nat):Int),.int .i64 j] T_int)):=(Fr.refl H4).alloc _
  simp only [↓qi,qy,reduceIte,Nat.reduceEqDiff,e0,e4,e3,bsk2]
  refine C3.q (qa5 (M:=M) (h4.em f5) (by omega) (kids:=[((zs.length+(It.e x).sz-1:Nat):Int),j]) (kid2 _ j) (by simp)) fun w H6 ⟨nv6,kv,hw,h6,p6⟩=>?_
  subst hw
  simp only [↓qi,qy,reduceIte,Nat.reduceEqDiff]
  refine ⟨nv6,_,k4,h6,(((p1.trans p3).trans p4).trans (PK.em f5)).trans p6,by rw [qe,qt];omega,?_⟩
  cases σ with
  | bad L'=>exact ⟨_,rfl⟩
  | ok L' =>
   obtain ⟨hj,hz4⟩:=hv4
   injection hj with _ hj
   have hzl:=congrArg List.length hz4
   have hzl1:=congrArg List.length hz1
   rw [qn,qe,qn,It.len] at hzl hzl1
   have px:=x.pos
   have py:=y.pos
   have hsx:(It.e x).sz=x.sz:=rfl
   have hsy:(It.e y).sz=y.sz:=rfl
   refine ⟨?_,?_⟩
   ·congr 2;simp only [It.sz,Cn.sz];omega
   ·rw [jt,hz4,hz1]
    simp only [It.enc,Cn.enc,qu,x3,j0,hzl1,hsx]
    congr 3
    rw [hj,hzl1]
    simp only [hsx,hsy]
 rcases qod (tok L1) with ⟨q,_⟩|⟨q,t⟩|⟨q,t⟩|⟨q,t⟩
 ·exact (hs q).elim
 ·simp only [↓qi,qy,reduceIte,Nat.reduceEqDiff,PS.left,kx t]
  exact tail rfl (by rw [q];rfl) rfl
 ·have n1:¬ tok L1=[61,61]:=by rw [t];decide
  simp only [↓qi,qy,reduceIte,Nat.reduceEqDiff,PS.left,n1,kx t]
  exact tail rfl (by rw [q];rfl) rfl
 ·have n1:¬ tok L1=[61,61]:=by rw [t];decide
  have n2:¬ tok L1=[33,61]:=by rw [t];decide
  simp only [↓qi,qy,reduceIte,Nat.reduceEqDiff,PS.left,n1,n2,w26,kx t]
  exact tail rfl (by rw [q];rfl) rfl
theorem PK.side {r:Nat} {H1 H H2:AHeap} {nv1 nv:AV} {zs1 zs:List (Nd × AV)} {W:Nat->Prop} (h:PK r nv1 zs1 H1 nv zs H) (f:Fr W H H2) (hw:∀ x,W x->H1.next<=x):PK r nv1 zs1 H1 nv zs H2 :=
 ⟨h.fr.trans f fun x q=>.inr (hw x q),h.on,h.nx⟩
theorem Bs.new {en r T b:Nat} {H0 H H':AHeap} {hd nv:AV} {p o:Int} {a bd:Bool} {zs:List (Nd × AV)} (h:NS en H0 H r T hd nv p o a bd zs) (h1:H.next<=b) (h2:b<H'.next):Bs H' r nv zs b :=
 ⟨h2,by have:=h.hi;omega,fun q=>by have:=Own.lt h.nw.own _ q;omega,fun z hz=>(h.kd z hz).2.imp id fun w=>by have:=w.1;omega⟩
theorem RS.only {H H':AHeap} {nv:AV} {zs:List (Nd × AV)} {k:Nat} {W:Nat->Prop} (h:RS c H nv zs σ k o a) (f:Fr W H H') (hw:∀ b,W b->Bs H c.r nv zs b/\c.H0.next<=b) (hl:c.rs.length=0 \/ ¬ W (slB c.lv)):RS c H' nv zs σ k o a:=by
 obtain ⟨o1,a1,n,q⟩:=h.ns
 exact ⟨⟨o1,a1,n.only f hw,q⟩,Sl.fr h.tk f hl,h.tb.imp id fun w=>⟨qj w.lt f.next,w.nr,w.ns,w.nk⟩,h.ps⟩
def PSL (M:Mac) (c:RBk) (e:Tk) (l:Ls) (σ:PS) (o:Nat) (a:Bool) (τ:PS):Prop:=∃ m,∀ (H1:AHeap) (nv1:AV) (zs1:List (Nd × AV)) (H:AHeap) (nv:AV) (zs:List (Nd × AV)) (k d:Nat) (ov:AV) (ks:List Int) (E:Env) (R:AV->AHeap->Prop),
 RS c H nv zs σ k o a->PK c.r nv1 zs1 H1 nv zs H->zs.length+d<=k->c.H0.next<=H1.next->(c.rs.length=0\/slB c.lv<H1.next)->OwnT encI T_int 1 H ov ks->(∀ b,OnS ov b->Bs H c.r nv zs b/\H1.next<=b)->ks.length<=zs.length+1/\(σ.isBad=false->ks.length<=zs.length) ->
 lk E 5=some ov->lk E 0=some (.ptr c.r 0)->lk E 1=some (.str e) ->
 (∀ (ov':AV) (H':AHeap) (nv':AV) (zs':List (Nd × AV)) (k':Nat) (ks':List Int),RS c H' nv' zs' τ k' o a->PK c.r nv1 zs1 H1 nv' zs' H'->zs'.length+d<=k'->OwnT encI T_int 1 H' ov' ks'->(∀ b,OnS ov' b->Bs H' c.r nv' zs' b/\H1.next<=b)->ks'.length<=zs'.length+1 ->
  (τ.isBad=false->ks'=ks++ints (l.ends zs.length)/\zs'.map (·.1)=zs.map (·.1)++l.enc zs.length)->R ov' H') ->
 LN (W M ⟨none,zb⟩ (zd 7)) (BLK3 0 (SEQ3 (W M ⟨none,zb⟩ (zd 15)) (FIN3 M [.tmp 4] (RT3 R)))) m E [] H
theorem sl_bad {e:Tk} {l:Ls}:PSL M c e l (.bad L) o a (.bad L):=by
 refine ⟨1,fun H1 nv1 zs1 H nv zs k d ov ks E R h p hd h0 hlv ho hb hkl e5 e0 e1 hR=>?_⟩
 obtain ⟨-,-,w15,w7,-⟩:=qab M ⟨none,zb⟩
 have l5:Op.load1 [.ptr c.r 5] H=some (.bool true):=h.ld5
 simp only [↓qi,qy,reduceIte,Nat.reduceEqDiff,w7,e0,qg,l5,reduceCtorEq,w15,e5]
 exact hR ov H nv zs k ks h p hd ho hb hkl.1 fun q=>by cases q
theorem sl_nil (hT:TKs c.S c.rs):PSL M c (tok L) .nil (.ok L) o a (.ok L):=by
 refine ⟨1,fun H1 nv1 zs1 H nv zs k d ov ks E R h p hd h0 hlv ho hb hkl e5 e0 e1 hR=>?_⟩
 obtain ⟨-,-,w15,w7,-⟩:=qab M ⟨none,zb⟩
 have l5:Op.load1 [.ptr c.r 5] H=some (.bool false):=h.ld5
 simp only [↓qi,qy,reduceIte,Nat.reduceEqDiff,w7,e0,qg,l5]
 refine C3.q (qcs (M:=M) h hT) fun v H2 ⟨hv1,hh⟩=>?_
 subst hv1;subst hh
 simp only [↓qi,qy,reduceIte,Nat.reduceEqDiff,e1,PS.left,jn,reduceCtorEq,w15,e5]
 exact hR ov H2 nv zs k ks h p hd ho hb hkl.1 fun q=>by simp [Ls.ends,Ls.enc,ints]
theorem sl_cons (hT:TKs c.S c.rs) {e:Tk} {s:Lang.St} {l:Ls} (hne:tok L ≠ e) (hs:CQ M qm [] c (.s s) (.ok L) o a σ) (hl:PSL M c e l σ o a τ) (hτ:τ.isBad=false -> σ.isBad=false):PSL M c e (.cons s l) (.ok L) o a τ:=by
 obtain ⟨m,hl⟩:=hl
 refine ⟨m+1,fun H1 nv1 zs1 H nv zs k d ov ks E R h p hd h0 hlv ho hb hkl e5 e0 e1 hR=>?_⟩
 obtain ⟨-,-,-,w7,w13⟩:=qab M ⟨none,zb⟩
 have l5:Op.load1 [.ptr c.r 5] H=some (.bool false):=h.ld5
 simp only [↓qi,qy,reduceIte,Nat.reduceEqDiff,w7,e0,qg,l5]
 refine C3.q (qcs (M:=M) h hT) fun v H2 ⟨hv1,hh⟩=>?_
 subst hv1;subst hh
 have hne:¬ tok L=e:=hne
 simp only [↓qi,qy,reduceIte,Nat.reduceEqDiff,e1,PS.left,hne,w13,e5,e0]
 have hk:=h.sz hT
 refine C3.q (hs H2 nv zs k d h hd) fun v H4 ⟨nv4,zs4,k4,h4,p4,hd4,hv4⟩=>?_
 obtain ⟨j,hj⟩:=hv4.int
 subst hj
 have hk4:=h4.sz hT
 have hb4:∀ b,OnS ov b->Bs H4 c.r nv4 zs4 b:=fun b q=>(hb b q).1.step p4
 have ho4:OwnT encI T_int 1 H4 ov ks:=Own.fr ho p4.fr fun x hx w=>w.elim (hb x hx).1.nr (hb x hx).1.ns
 have pn:=p.fr.next
 have p4n:=p4.fr.next
 refine append3 (e:=T_int) (size:=1) (bytes:=8) ho4 (zero:=[.int .i64 0]) (x:=.int .i64 j) rfl rfl rfl (by decide) (by omega) (by omega) fun ov' H6 hov' hf hfr=>?_
 have hlv6:c.rs.length=0 \/ ¬ OnS ov (slB c.lv):=hlv.imp id fun w q=>by have:=(hb _ q).2;omega
 have h6:=h4.only hf (fun b q=>⟨hb4 b q,by have:=(hb b q).2;omega⟩) hlv6
 have p6:PK c.r nv1 zs1 H1 nv4 zs4 H6:=(p.trans p4).side hf fun x hx=>(hb x hx).2
 have hb6:∀ b,OnS ov' b->Bs H6 c.r nv4 zs4 b/\H1.next<=b:=fun b q=>by
  rcases hfr b q with w|w
  ·have:=hb4 b w
   exact ⟨⟨qj this.lt hf.next,this.nr,this.ns,this.nk⟩,(hb b w).2⟩
  ·obtain ⟨o1,a1,n4,_⟩:=h4.ns
   exact ⟨Bs.new n4 w (Own.lt hov' b q),by omega⟩
 have hov6:OwnT encI T_int 1 H6 ov' (ks ++ [j]):=by
  unfold OwnT
  rw [qe,vl]
  exact hov'
 obtain ⟨ys,hys,_⟩:=p4.nx
 have hzl:zs.length<=zs4.length:=by rw [hys,qe];omega
 have hk0:=hkl.2 rfl
 simp only [↓qi,qy,reduceIte,Nat.reduceEqDiff]
 refine hl H1 nv1 zs1 H6 nv4 zs4 k4 d ov' (ks ++ [j]) _ R h6 p6 hd4 h0 hlv hov6 hb6 ⟨by rw [qe,qt];omega,fun q=>?_⟩ ?_ ?_ ?_ fun ov2 H8 nv8 zs8 k8 ks8 q1 q2 q3 q4 q5 q6 q7=>hR ov2 H8 nv8 zs8 k8 ks8 q1 q2 q3 q4 q5 q6 fun q=>?_
 rotate_left
 ·simp only [↓qi,qy,reduceIte,Nat.reduceEqDiff]
 ·simp only [↓qi,qy,reduceIte,Nat.reduceEqDiff,e0]
 ·simp only [↓qi,qy,reduceIte,Nat.reduceEqDiff,e1]
 ·obtain ⟨r1,r2⟩:=q7 q
  have hσ:=hτ q
  cases σ with
  | bad L'=>cases hσ
  | ok L' =>
   obtain ⟨hj,hz4⟩:=hv4
   injection hj with _ hj
   have hzl:=congrArg List.length hz4
   rw [qn,qe,qn,It.len] at hzl
   have hss:(It.s s).sz=s.sz:=rfl
   rw [hss] at hzl hj
   refine ⟨?_,?_⟩
   ·rw [r1,hj,hzl,qu];rfl
   ·rw [r2,hz4,hzl,qu];rfl
 ·cases σ with
  | bad L'=>cases q
  | ok L' =>
   obtain ⟨hj,hz4⟩:=hv4
   have hzl:=congrArg List.length hz4
   rw [qn,qe,qn,It.len] at hzl
   have:=(It.s s).pos
   have:=hkl.2 rfl
   rw [qe,qt];omega
theorem qsn {e:Tk} {l:Ls} (hl:PSL M c e l σ o a τ) {H:AHeap} {nv:AV} {zs:List (Nd × AV)} {k d:Nat} (h:RS c H nv zs σ k o a) (hd:zs.length+d<=k) :
 y9 M zb [.ptr c.r 0,.str e] H fun v H'=>∃ nv' zs' k' ks,RS c H' nv' zs' τ k' o a/\PK c.r nv zs H nv' zs' H'/\zs'.length+d<=k'/\SlT encI 1 H' v ks/\ks.length<=zs'.length+1/\(∀ b,OnS v b->Bs H' c.r nv' zs' b) /\
  (τ.isBad=false->ks=ints (l.ends zs.length)/\zs'.map (·.1)=zs.map (·.1)++l.enc zs.length):=by
 obtain ⟨m,hl⟩:=hl
 refine qhi ?_
 obtain ⟨w0,w4,-,-,-⟩:=qab M ⟨none,zb⟩
 obtain ⟨o1,a1,n,_⟩:=h.ns
 simp only [↓qi,qy,reduceIte,Nat.reduceEqDiff,w0,w4]
 refine LOOP3.few m (hl H nv zs H nv zs k d .nils [] _ _ h PK.refl hd n.nw.fr.next (h.tb.imp id fun q=>q.lt) (Own.nil ..) (fun b q=>(q.1 rfl).elim) ⟨by simp,fun _=>by simp⟩ ?_ ?_ ?_ fun ov' H' nv' zs' k' ks' q1 q2 q3 q4 q5 q6 q7=>⟨nv',zs',k',ks',q1,q2,q3,q4.sl,q6,fun b q=>(q5 b q).1,fun q=>?_⟩)
 ·simp only [↓qi,qy,reduceIte,Nat.reduceEqDiff]
 ·simp only [↓qi,qy,reduceIte,Nat.reduceEqDiff]
 ·simp only [↓qi,qy,reduceIte,Nat.reduceEqDiff]
 ·have:=q7 q
  rw [zo] at this
  exact this
theorem qyh (hT:TKs c.S c.rs) {z:It}:CQ M x6 [] c z (.bad L) o a (.bad L):=by
 intro H nv zs k d h hd
 refine qf2 ?_
 obtain ⟨w0,w4,w8,-⟩:=qf3 M ⟨none,x6⟩
 simp only [↓qi,qy,reduceIte,Nat.reduceEqDiff,w0]
 refine C3.q (qee (M:=M) (s:=[123]) (o':=o+1) (by decide) (.inl ⟨.inr rfl,rfl⟩) (fun q=>by cases q) h hT) fun u H1 ⟨k1,h1,p1,hk1,_⟩=>?_
 have h1:RS c H1 nv zs (.bad L) k1 (o+1) a:=h1
 simp only [↓qi,qy,reduceIte,Nat.reduceEqDiff,w4]
 refine C3.q (qsn (M:=M) (l:=.nil) (d:=d) sl_bad h1 (by omega)) fun v H2 ⟨nv2,zs2,k2,ks,h2,p2,hd2,_⟩=>?_
 simp only [↓qi,qy,reduceIte,Nat.reduceEqDiff]
 refine C3.q (qee (M:=M) (s:=[125]) (o':=o) (by decide) (.inr (.inl ⟨.inr rfl,rfl⟩)) (fun q=>by cases q) h2 hT) fun u H3 ⟨k3,h3,p3,hk3,_⟩=>?_
 have h3:RS c H3 nv2 zs2 (.bad L) k3 o a:=h3
 have l5:Op.load1 [.ptr c.r 5] H3=some (.bool true):=h3.ld5
 simp only [↓qi,qy,reduceIte,Nat.reduceEqDiff,w8,qg,l5]
 exact ⟨nv2,zs2,k3,h3,(p1.trans p2).trans p3,by omega,_,rfl⟩
theorem qw1 (hT:TKs c.S c.rs) (ho:o<=50) {l:Ls} (hl:PSL M c [125] l (Lang.take [123] o (.ok L)) (o+1) a σ) (hσ:σ.isBad=false->(Lang.take [123] o (.ok L)).isBad=false):CQ M x6 [] c (.l l) (.ok L) o a (Lang.take [125] (o+1) σ):=by
 intro H nv zs k d h hd
 refine qf2 ?_
 obtain ⟨w0,w4,w8,w16⟩:=qf3 M ⟨none,x6⟩
 simp only [↓qi,qy,reduceIte,Nat.reduceEqDiff,w0]
 refine C3.q (qee (M:=M) (s:=[123]) (o':=o+1) (by decide) (.inl ⟨.inr rfl,rfl⟩) (fun _=>by omega) h hT) fun u H1 ⟨k1,h1,p1,hk1,hok1⟩=>?_
 simp only [↓qi,qy,reduceIte,Nat.reduceEqDiff,w4]
 obtain ⟨d1,hd1,hd2⟩:∃ d1,zs.length+d1<=k1/\(d1=d+1\/d1=d/\(Lang.take [123] o (.ok L)).isBad=true):=by
  cases hq:Lang.take [123] o (.ok L) with
  | ok L'=>exact ⟨d+1,by have:=hok1 L' hq;omega,.inl rfl⟩
  | bad L'=>exact ⟨d,by omega,.inr ⟨rfl,rfl⟩⟩
 refine C3.q (qsn (M:=M) (d:=d1) hl h1 hd1) fun v H2 ⟨nv2,zs2,k2,ks,h2,p2,hd3,hks,hkl,hbs,hv⟩=>?_
 simp only [↓qi,qy,reduceIte,Nat.reduceEqDiff]
 refine C3.q (qee (M:=M) (s:=[125]) (o':=o) (by decide) (.inr (.inl ⟨.inr rfl,rfl⟩)) (fun _=>by omega) h2 hT) fun u H3 ⟨k3,h3,p3,hk3,_⟩=>?_
 have hk3':=h3.sz hT
 simp only [↓qi,qy,reduceIte,Nat.reduceEqDiff,w8,qg,h3.ld5]
 cases hq:Lang.take [125] (o+1) σ with
 | bad L' =>
  rw [hq] at h3
  have l5:(PS.bad L').isBad=true:=rfl
  simp only [↓qi,qy,reduceIte,Nat.reduceEqDiff,l5]
  exact ⟨nv2,zs2,k3,h3,(p1.trans p2).trans p3,by omega,_,rfl⟩
 | ok L' =>
  obtain ⟨L2,rfl,_⟩:=qe7 hq
  have hok:=hσ rfl
  have hdd:d1=d+1:=hd2.elim id fun w=>by rw [hok] at w;cases w.2
  obtain ⟨rfl,hz2⟩:=hv rfl
  have hks3:SlT encI 1 H3 v (ints (l.ends zs.length)):=by
   by_cases hn:v=.nils
   ·subst hn
    exact ⟨hks.1,hks.2⟩
   ·have:=hbs _ ⟨hn,rfl⟩
    exact Sl.fr hks p3.fr (.inr fun w=>w.elim this.nr this.ns)
  rw [hq] at h3
  have l5:(PS.ok L').isBad=false:=rfl
  simp only [↓qi,qy,reduceIte,Nat.reduceEqDiff,l5,w16]
  refine C3.q (qa5 (M:=M) h3 (by omega) hks3 (by omega)) fun w H6 ⟨nv6,kv,hw,h6,p6⟩=>?_
  subst hw
  simp only [↓qi,qy,reduceIte,Nat.reduceEqDiff]
  have hzl:=congrArg List.length hz2
  rw [qn,qe,qn,Ls.len] at hzl
  refine ⟨nv6,_,k3,h6,((p1.trans p2).trans p3).trans p6,by rw [qe,qt];omega,?_,?_⟩
  ·congr 2<;>simp only [It.sz]<;>omega
  ·rw [jt,hz2]
   simp [It.enc,Ls.encL]
end
end Go.Am
namespace Go.Am
open Lang Go.Proofs
variable {M:Mac} [MK M]
theorem VOK.node {x:It} {zs zs2:List (Nd × AV)} {w:AV} {kids:List Int} {k n:Int} {L:Tk} (h:zs2.map (·.1)=zs.map (·.1)++encF x.ks zs.length) (hk:kids=ints (endsF x.ks zs.length)) (hn:x.kn=(k,n)):VOK x zs (zs2 ++ [(⟨k,n,kids⟩,w)]) (.ok L) (.int .i64 ((zs2.length:Nat):Int)):=by
 have hl:=congrArg List.length h
 rw [qn,qe,qn,qnk] at hl
 have hs:=x.sz_eq
 refine ⟨?_,?_⟩
 ·congr 2;omega
 ·rw [jt,h,x.enc_eq,hk,qu]
  simp only [It.nd,hn,x3,j0]
theorem quk {H:AHeap} {e size bytes b n:Nat} {cells:List AV} (h:Sl H size (.slice b 0 n n) n cells) (hn:0<n) {x:AV} {k:Nat} {new:List AV} (hx:Sl H size x k new) (hk:0<k) (hnew:allOne new=true) (hs:0<size)
 (hf:(n+k)*bytes<=140737488355328) (hf':n+k<=140737488355328) {K:Bool->AV->AHeap->Prop} {m:Bool}
 (hK:∀ v' H',Own H' e size v' (n+k) (cells++new)->Fr Em H H'->(∀ c,OnS v' c->H.next<=c)->K m v' H'):B32 m (Op.append e size bytes [.slice b 0 n n,x] H) K:=by
 have hfit:=qrd hf hf'
 have hlen:new.length=k*size:=hx.1
 have hs':=qfh hs
 have h3:Nat.ble (n+k) n=false:=by cases hq:Nat.ble (n+k) n with|false=>rfl|true=>rw [km] at hq;omega
 have e0:Op.append e size bytes [.slice b 0 n n,x] H=some (grownV H e size (n+k) (cells++new) (0,0)):=by
  simp only [Op.append,hx.lenV,hx.first,qh,hnew,qq,appendV,h3,xl,hfit,w5 (show n<=n+k by omega),hs',kc,h.first,qat]
 rw [e0]
 refine B32.intro rfl (hK _ _ ⟨by rw [qe,h.1,hlen,ke],.inr ⟨H.next,rfl,by rw [jh];omega,?_⟩⟩ ((Fr.refl H).alloc _) fun c q=>by rw [q.2];exact qf _)
 rw [AHeap.get_alloc,xv rfl]
section
variable {c:RBk} {σ τ ρ:PS} {o:Nat} {a:Bool} {L L2:Tk} {x y:Ex}
theorem qhp {s:Tk} (hs:s ≠ []/\s ≠ [40]/\s ≠ [123]/\s ≠ [41]/\s ≠ [125]) (ho5:σ.isBad=false->o<=1000) {H:AHeap} {nv:AV} {zs:List (Nd × AV)} {k:Nat} (h:RS c H nv zs σ k o a) (hT:TKs c.S c.rs) :
 y9 M za [.ptr c.r 0,.str s] H fun _ H'=>∃ k',RS c H' nv zs (Lang.take s o σ) k' o a/\PK c.r nv zs H nv zs H'/\k<=k' :=
 (qee (M:=M) hs.1 (.inr (.inr ⟨hs.2,rfl⟩)) ho5 h hT).mono fun v H' ⟨k',h1,h2,h3,_⟩=>⟨k',h1,h2,h3⟩
theorem stm_bad {z:It}:CQ M qm [] c z (.bad L) o a (.bad L):=by
 intro H nv zs k d h hd
 refine qbx ?_
 have l5:Op.load1 [.ptr c.r 5] H=some (.bool true):=h.ld5
 simp only [↓qi,qy,reduceIte,Nat.reduceEqDiff,zh,qg,l5]
 exact PQ.bad0 h hd 0
theorem qi8 {H:AHeap} {nv:AV} {zs:List (Nd × AV)} {k:Nat} (h:RS c H nv zs (.ok L) k o a) (hT:TKs c.S c.rs) {Q:AV->AHeap->Prop} (hv:varOf (tok L)=none)
 (go:W M ⟨none,qm⟩ (ql 30) true (FIN3 M [.tmp 2] (RT3 Q)) [(5,.bool false),(4,.int .u64 0),(3,.str (tok L)),(2,.int .i64 0),(0,.ptr c.r 0)] [] H):y9 M qm [.ptr c.r 0] H Q:=by
 refine qbx ?_
 obtain ⟨w0,w2,w10,w12,-,-,-,-,-,-,-,-,-⟩:=zh M ⟨none,qm⟩
 have l5:Op.load1 [.ptr c.r 5] H=some (.bool false):=h.ld5
 simp only [↓qi,qy,reduceIte,Nat.reduceEqDiff,w0,w2,qg,l5,w10]
 refine C3.q (qcs (M:=M) h hT) fun v H1 ⟨hv1,hh⟩=>?_
 subst hv1;subst hh
 simp only [↓qi,qy,reduceIte,Nat.reduceEqDiff,w12]
 refine C3.q (qfq (M:=M)) fun v H1 ⟨hh,hv1⟩=>?_
 subst hh
 simp only [PS.left,hv] at hv1
 subst hv1
 simp only [↓qi,qy,reduceIte,Nat.reduceEqDiff,vx,PS.left]
 exact go
theorem stm_set (hT:TKs c.S c.rs) (ho:o<=50) {v:Nat} (hv:varOf (tok L)=some v) (hx:CQ M xe [] c (.e x) (Lang.take [61] o (.ok (adv L))) o a σ):CQ M qm [] c (.s (.set v x)) (.ok L) o a (Lang.take [59] o σ):=by
 intro H nv zs k d h hd
 refine qbx ?_
 obtain ⟨w0,w2,w10,w12,-,-,-,-,-,-,-,-,-⟩:=zh M ⟨none,qm⟩
 have l5:Op.load1 [.ptr c.r 5] H=some (.bool false):=h.ld5
 simp only [↓qi,qy,reduceIte,Nat.reduceEqDiff,w0,w2,qg,l5,w10]
 refine C3.q (qcs (M:=M) h hT) fun w H1 ⟨hv1,hh⟩=>?_
 subst hv1;subst hh
 simp only [↓qi,qy,reduceIte,Nat.reduceEqDiff,w12]
 refine C3.q (qfq (M:=M)) fun w H2 ⟨hh,hv1⟩=>?_
 subst hh
 simp only [PS.left,hv] at hv1
 subst hv1
 have hk:=h.sz hT
 obtain ⟨wk,H3,st,h3,p3⟩:=h.adv hT (ql1 hv)
 simp only [↓qi,qy,reduceIte,Nat.reduceEqDiff,vx,qg,h.ld1,wk,st]
 refine C3.q (qhp (M:=M) (s:=[61]) (by decide) (fun _=>by omega) h3 hT) fun u H4 ⟨k4,h4,p4,hk4⟩=>?_
 simp only [↓qi,qy,reduceIte,Nat.reduceEqDiff]
 refine C3.q (hx H4 nv zs k4 (d+1) h4 (by omega)) fun w H5 ⟨nv5,zs5,k5,h5,p5,hd5,hv5⟩=>?_
 simp only [↓qi,qy,reduceIte,Nat.reduceEqDiff]
 refine C3.q (qhp (M:=M) (s:=[59]) (by decide) (fun _=>by omega) h5 hT) fun u H6 ⟨k6,h6,p6,hk6⟩=>?_
 obtain ⟨i,hi⟩:=hv5.int
 subst hi
 have hk6':=h6.sz hT
 have f7:Fr Em H6 (H6.alloc (OR [.int .i64 i] T_int)):=(Fr.refl H6).alloc _
 simp only [↓qi,qy,reduceIte,Nat.reduceEqDiff,bsk1]
 refine C3.q (qa5 (M:=M) (h6.em f7) (by omega) (kids:=[i]) (kid1 i) (by simp)) fun w H8 ⟨nv8,kv,hw,h8,p8⟩=>?_
 subst hw
 simp only [↓qi,qy,reduceIte,Nat.reduceEqDiff]
 refine ⟨nv8,_,k6,h8,((((p3.trans p4).trans p5).trans p6).trans (PK.em f7)).trans p8,by rw [qe,qt];omega,?_⟩
 cases hq:Lang.take [59] o σ with
 | bad L'=>exact ⟨_,rfl⟩
 | ok L' =>
  obtain ⟨L1,rfl,_⟩:=qe7 hq
  obtain ⟨hi,hz5⟩:=hv5
  injection hi with _ hi
  exact VOK.node (by rw [hz5];simp [It.ks,encF]) (by rw [hi];simp [It.ks,endsF,ints]) rfl
theorem q0d (hT:TKs c.S c.rs) (ho:o<=50) (hl:tok L=wStore) (hx:CQ M xe [] c (.e x) (Lang.take [40] o (.ok (adv L))) (o+1) a σ) (hy:CQ M xe [] c (.e y) (Lang.take [44] (o+1) σ) (o+1) a τ) (hst:τ.isBad=false -> σ.isBad=false) :
 CQ M qm [] c (.s (.store x y)) (.ok L) o a (Lang.take [59] o (Lang.take [41] (o+1) τ)):=by
 intro H nv zs k d h hd
 refine qi8 h hT (by rw [hl];rfl) ?_
 obtain ⟨-,-,-,-,w30,-,-,-,-,-,-,-,-⟩:=zh M ⟨none,qm⟩
 have hk:=h.sz hT
 obtain ⟨wk,H3,st,h3,p3⟩:=h.adv hT (by rw [hl];decide)
 simp only [↓qi,qy,reduceIte,Nat.reduceEqDiff,w30,hl,jn,qg,h.ld1,wk,st]
 refine C3.q (qee (M:=M) (s:=[40]) (o':=o+1) (by decide) (.inl ⟨.inl rfl,rfl⟩) (fun _=>by omega) h3 hT) fun u H4 ⟨k4,h4,p4,hk4,_⟩=>?_
 simp only [↓qi,qy,reduceIte,Nat.reduceEqDiff]
 refine C3.q (hx H4 nv zs k4 (d+1) h4 (by omega)) fun w H5 ⟨nv5,zs5,k5,h5,p5,hd5,hv5⟩=>?_
 simp only [↓qi,qy,reduceIte,Nat.reduceEqDiff]
 refine C3.q (qhp (M:=M) (s:=[44]) (by decide) (fun _=>by omega) h5 hT) fun u H6 ⟨k6,h6,p6,hk6⟩=>?_
 simp only [↓qi,qy,reduceIte,Nat.reduceEqDiff]
 refine C3.q (hy H6 nv5 zs5 k6 (d+1) h6 (by omega)) fun w H7 ⟨nv7,zs7,k7,h7,p7,hd7,hv7⟩=>?_
 simp only [↓qi,qy,reduceIte,Nat.reduceEqDiff]
 refine C3.q (qee (M:=M) (s:=[41]) (o':=o) (by decide) (.inr (.inl ⟨.inl rfl,rfl⟩)) (fun _=>by omega) h7 hT) fun u H8 ⟨k8,h8,p8,hk8,_⟩=>?_
 simp only [↓qi,qy,reduceIte,Nat.reduceEqDiff]
 refine C3.q (qhp (M:=M) (s:=[59]) (by decide) (fun _=>by omega) h8 hT) fun u H9 ⟨k9,h9,p9,hk9⟩=>?_
 obtain ⟨i,hi⟩:=hv5.int
 obtain ⟨j,hj⟩:=hv7.int
 subst hi;subst hj
 have hk9':=h9.sz hT
 have f10:Fr Em H9 (H9.alloc (OR [.int .i64 i,.int .i64 j] T_int)):=(Fr.refl H9).alloc _
 simp only [↓qi,qy,reduceIte,Nat.reduceEqDiff,bsk2]
 refine C3.q (qa5 (M:=M) (h9.em f10) (by omega) (kids:=[i,j]) (kid2 i j) (by simp)) fun w H11 ⟨nv11,kv,hw,h11,p11⟩=>?_
 subst hw
 simp only [↓qi,qy,reduceIte,Nat.reduceEqDiff]
 refine ⟨nv11,_,k9,h11,(((((((p3.trans p4).trans p5).trans p6).trans p7).trans p8).trans p9).trans (PK.em f10)).trans p11,by rw [qe,qt];omega,?_⟩
 cases hq:Lang.take [59] o (Lang.take [41] (o+1) τ) with
 | bad L'=>exact ⟨_,rfl⟩
 | ok L' =>
  obtain ⟨L1,hq1,_⟩:=qe7 hq
  obtain ⟨L2,rfl,_⟩:=qe7 hq1
  obtain ⟨hj,hz7⟩:=hv7
  injection hj with _ hj
  cases σ with
  | bad L3=>exact nomatch hst rfl
  | ok L3 =>
   obtain ⟨hi,hz5⟩:=hv5
   injection hi with _ hi
   have hzl:=congrArg List.length hz5
   rw [qn,qe,qn,It.len] at hzl
   refine VOK.node ?_ ?_ rfl
   ·rw [hz7,hz5,hzl];simp [It.ks,encF]
   ·rw [hi,hj,hzl];simp [It.ks,endsF,ints]
theorem qxx {H:AHeap} (i j:Int):Sl (H.alloc (OR [.int .i64 i,.int .i64 j] T_int)) 1 (.slice H.next 0 2 2) 2 ([i,j].flatMap encI):=kid2 i j
theorem q0c (hT:TKs c.S c.rs) (ho:o<=50) (hl:tok L=wIf) {cn:Cn} (hc:CQ M xh [] c (.c cn) (Lang.take [40] o (.ok (adv L))) (o+1) a σ) {l:Ls} (hb:CQ M x6 [] c (.l l) (Lang.take [41] (o+1) σ) o a τ) (hst:τ.isBad=false->(Lang.take [41] (o+1) σ).isBad=false)
 {H:AHeap} {nv:AV} {zs:List (Nd × AV)} {k d:Nat} (h:RS c H nv zs (.ok L) k o a) (hd:zs.length+d<=k) {Q:AV->AHeap->Prop}
 (go:∀ (H4:AHeap) (nv4:AV) (zs4:List (Nd × AV)) (k4:Nat) (i j:Int) (E:Env),RS c H4 nv4 zs4 τ k4 o a->PK c.r nv zs H nv4 zs4 H4->zs4.length+(d+1)<=k4 ->
  (τ.isBad=false->i=((zs.length+cn.sz-1:Nat):Int)/\j=((zs.length+cn.sz+l.sz:Nat):Int)/\zs4.map (·.1)=zs.map (·.1)++(cn.enc zs.length++l.encL (zs.length+cn.sz))) ->
  lk E 0=some (.ptr c.r 0)->lk E 9=some (.slice H4.next 0 2 2) ->
  W M ⟨none,qm⟩ (ql 61) true (BLK3 0 (SEQ3 (W M ⟨none,qm⟩ (ql 115)) (FIN3 M [.tmp 2] (RT3 Q)))) E [] (H4.alloc (OR [.int .i64 i,.int .i64 j] T_int))) :
 y9 M qm [.ptr c.r 0] H Q:=by
 refine qi8 h hT (by rw [hl];rfl) ?_
 obtain ⟨-,-,-,-,w30,-,w57,-,-,-,-,-,-⟩:=zh M ⟨none,qm⟩
 have hk:=h.sz hT
 have n1:¬ tok L=[115,116,111,114,101]:=by rw [hl];decide
 obtain ⟨wk,H3,st,h3,p3⟩:=h.adv hT (by rw [hl];decide)
 have mk:Op.mkFunc xh 1 [.ptr c.r 0]=some (.fn (.func xh) [.ptr c.r 0] []):=rfl
 simp only [↓qi,qy,reduceIte,Nat.reduceEqDiff,w30,n1,kx hl,w57,qg,h.ld1,wk,st,mk]
 refine C3.q (qh8 (M:=M) (f:=xh) hT (fun _=>ho) hc (fun _=>rfl) H3 nv zs (k+1) (d+1) h3 (by omega)) fun v H5 ⟨nv5,zs5,k5,h5,p5,hd5,hv5⟩=>?_
 refine C3.q (hb H5 nv5 zs5 k5 (d+1) h5 hd5) fun v H6 ⟨nv6,zs6,k6,h6,p6,hd6,hv6⟩=>?_
 obtain ⟨i,hi⟩:=hv5.int
 obtain ⟨j,hj⟩:=hv6.int
 subst hi;subst hj
 simp only [↓qi,qy,reduceIte,Nat.reduceEqDiff,bsk2]
 refine go H6 nv6 zs6 k6 i j _ h6 ((p3.trans p5).trans p6) hd6 (fun q=>?_) (by rfl) (by rfl)
 cases τ with
 | bad L'=>cases q
 | ok L' =>
  obtain ⟨hj,hz6⟩:=hv6
  injection hj with _ hj
  have hσ:=hst rfl
  cases hq:Lang.take [41] (o+1) σ with
  | bad L3=>rw [hq] at hσ;cases hσ
  | ok L3 =>
   rw [hq] at hv5
   obtain ⟨hi,hz5⟩:=hv5
   injection hi with _ hi
   have hzl:=congrArg List.length hz5
   rw [qn,qe,qn,It.len] at hzl
   have e1:(It.c cn).sz=cn.sz:=rfl
   have e2:(It.l l).sz=l.sz+1:=rfl
   rw [e1] at hzl hi
   rw [e2] at hj
   refine ⟨hi,by rw [hj,hzl];congr 1,?_⟩
   rw [hz6,hz5,hzl,qu];rfl
theorem if_end {H H4:AHeap} {nv nv4:AV} {zs zs4:List (Nd × AV)} {k4 d:Nat} {i j:Int} {E:Env} {x:It} (hT:TKs c.S c.rs) (h4:RS c H4 nv4 zs4 τ k4 o a) (p4:PK c.r nv zs H nv4 zs4 H4) (hd4:zs4.length+(d+1)<=k4) (e0:lk E 0=some (.ptr c.r 0)) (e9:lk E 9=some (.slice H4.next 0 2 2))
 (hv:∀ w,VOK x zs (zs4 ++ [(⟨16,0,[i,j]⟩,w)]) τ (.int .i64 ((zs4.length:Nat):Int))) :
 W M ⟨none,qm⟩ (ql 69) true (BLK3 0 (SEQ3 (W M ⟨none,qm⟩ (ql 115)) (FIN3 M [.tmp 2] (RT3 (PQ c H nv zs d o a τ (VOK x zs · τ)))))) E [] (H4.alloc (OR [.int .i64 i,.int .i64 j] T_int)):=by
 obtain ⟨-,-,-,-,-,-,-,-,-,-,-,w69,-⟩:=zh M ⟨none,qm⟩
 have hk4:=h4.sz hT
 have f5:Fr Em H4 (H4.alloc (OR [.int .i64 i,.int .i64 j] T_int)):=(Fr.refl H4).alloc _
 simp only [↓qi,qy,reduceIte,Nat.reduceEqDiff,w69,e0,e9]
 refine C3.q (qa5 (M:=M) (h4.em f5) (by omega) (kids:=[i,j]) (kid2 i j) (by simp)) fun w H6 ⟨nv6,kv,hw,h6,p6⟩=>?_
 subst hw
 simp only [↓qi,qy,reduceIte,Nat.reduceEqDiff]
 exact ⟨nv6,_,k4,h6,(p4.trans (PK.em f5)).trans p6,by rw [qe,qt];omega,hv kv⟩
theorem stm_ite (hT:TKs c.S c.rs) (ho:o<=50) (hl:tok L=wIf) {cn:Cn} (hc:CQ M xh [] c (.c cn) (Lang.take [40] o (.ok (adv L))) (o+1) a σ) {l:Ls} (hb:CQ M x6 [] c (.l l) (Lang.take [41] (o+1) σ) o a (.ok L2)) (hst:(Lang.take [41] (o+1) σ).isBad=false) (he:tok L2 ≠ wElse) :
 CQ M qm [] c (.s (.ite cn l)) (.ok L) o a (.ok L2):=by
 intro H nv zs k d h hd
 refine q0c hT ho hl hc hb (fun _=>hst) h hd fun H4 nv4 zs4 k4 i j E h4 p4 hd4 hv e0 e9=>?_
 obtain ⟨-,-,-,-,-,-,-,-,w61,-,-,-,-⟩:=zh M ⟨none,qm⟩
 have f5:Fr Em H4 (H4.alloc (OR [.int .i64 i,.int .i64 j] T_int)):=(Fr.refl H4).alloc _
 have l5:Op.load1 [.ptr c.r 5] (H4.alloc (OR [.int .i64 i,.int .i64 j] T_int))=some (.bool false):=(h4.em f5).ld5
 simp only [↓qi,qy,reduceIte,Nat.reduceEqDiff,w61,e0,qg,l5]
 refine C3.q (qcs (M:=M) (h4.em f5) hT) fun v H5 ⟨hv1,hh⟩=>?_
 subst hv1;subst hh
 have he:¬ tok L2=[101,108,115,101]:=he
 simp only [↓qi,qy,reduceIte,Nat.reduceEqDiff,PS.left,he]
 refine if_end hT h4 p4 hd4 e0 e9 fun w=>?_
 obtain ⟨hi,hj,hz⟩:=hv rfl
 exact VOK.node (by rw [hz];simp [It.ks,encF,It.enc,It.sz]) (by rw [hi,hj];simp [It.ks,endsF,ints,It.sz]) rfl
theorem stm_ite1 (hT:TKs c.S c.rs) (ho:o<=50) (hl:tok L=wIf) {cn:Cn} (hc:CQ M xh [] c (.c cn) (Lang.take [40] o (.ok (adv L))) (o+1) a σ) {l:Ls} (hb:CQ M x6 [] c (.l l) (Lang.take [41] (o+1) σ) o a (.bad L2)) :
 CQ M qm [] c (.s (.ite cn l)) (.ok L) o a (.bad L2):=by
 intro H nv zs k d h hd
 refine q0c hT ho hl hc hb (fun q=>by cases q) h hd fun H4 nv4 zs4 k4 i j E h4 p4 hd4 hv e0 e9=>?_
 obtain ⟨-,-,-,-,-,-,-,-,w61,-,-,-,-⟩:=zh M ⟨none,qm⟩
 have f5:Fr Em H4 (H4.alloc (OR [.int .i64 i,.int .i64 j] T_int)):=(Fr.refl H4).alloc _
 have l5:Op.load1 [.ptr c.r 5] (H4.alloc (OR [.int .i64 i,.int .i64 j] T_int))=some (.bool true):=(h4.em f5).ld5
 simp only [↓qi,qy,reduceIte,Nat.reduceEqDiff,w61,e0,qg,l5]
 exact if_end hT h4 p4 hd4 e0 e9 fun w=>⟨_,rfl⟩
theorem stm_ites (hT:TKs c.S c.rs) (ho:o<=50) (hl:tok L=wIf) {cn:Cn} (hc:CQ M xh [] c (.c cn) (Lang.take [40] o (.ok (adv L))) (o+1) a σ) {l m:Ls} (hb:CQ M x6 [] c (.l l) (Lang.take [41] (o+1) σ) o a (.ok L2)) (hst:(Lang.take [41] (o+1) σ).isBad=false) (he:tok L2=wElse)
 (hm:CQ M x6 [] c (.l m) (.ok (adv L2)) o a ρ):CQ M qm [] c (.s (.ites cn l m)) (.ok L) o a ρ:=by
 intro H nv zs k d h hd
 refine q0c hT ho hl hc hb (fun _=>hst) h hd fun H4 nv4 zs4 k4 i j E h4 p4 hd4 hv e0 e9=>?_
 obtain ⟨-,-,-,-,-,-,-,-,w61,-,-,w69,-⟩:=zh M ⟨none,qm⟩
 obtain ⟨H5,e5⟩:∃ X,X=H4.alloc (OR [.int .i64 i,.int .i64 j] T_int):=⟨_,rfl⟩
 rw [<-e5]
 have f5:Fr Em H4 H5:=by rw [e5];exact (Fr.refl H4).alloc _
 have n5:H5.next=H4.next+1:=by rw [e5,jh]
 have hsl5:Sl H5 1 (.slice H4.next 0 2 2) 2 ([i,j].flatMap encI):=by rw [e5];exact qxx i j
 have h5:=h4.em f5
 have l5:Op.load1 [.ptr c.r 5] H5=some (.bool false):=h5.ld5
 simp only [↓qi,qy,reduceIte,Nat.reduceEqDiff,w61,e0,qg,l5]
 refine C3.q (qcs (M:=M) h5 hT) fun v H6 ⟨hv1,hh⟩=>?_
 subst hv1;subst hh
 obtain ⟨wk,H7,st,h7,p7⟩:=h5.adv hT (by rw [he];decide)
 have hbs:Bs H6 c.r nv4 zs4 H4.next:=by
  obtain ⟨o1,a1,n4,_⟩:=h4.ns
  exact Bs.new n4 (qf _) (by omega)
 have hk4:=h4.sz hT
 have he':tok L2=[101,108,115,101]:=he
 simp only [↓qi,qy,reduceIte,Nat.reduceEqDiff,PS.left,kx he',qg,h5.ld1,wk,st,e9,e0]
 refine C3.q (hm H7 nv4 zs4 (k4+1) (d+1) h7 (by omega)) fun v H8 ⟨nv8,zs8,k8,h8,p8,hd8,hv8⟩=>?_
 obtain ⟨q,hq⟩:=hv8.int
 subst hq
 have p78:=p7.trans p8
 have hbs8:=hbs.step p78
 have hsl8:Sl H8 1 (.slice H4.next 0 2 2) 2 ([i,j].flatMap encI):=Sl.fr hsl5 p78.fr (.inr fun w=>w.elim hbs.nr hbs.ns)
 have f9:Fr Em H8 (H8.alloc (OR [.int .i64 q] T_int)):=(Fr.refl H8).alloc _
 have hk8:=h8.sz hT
 simp only [↓qi,qy,reduceIte,Nat.reduceEqDiff,bsk1]
 refine quk (e:=T_int) (bytes:=8) (Sl.em hsl8 f9) (by decide) (kid1 q) (by simp) rfl (by decide) (by simp) (by simp) fun v' H10 hv' hf10 _=>?_
 have f810:=f9.trans hf10 fun _ q=>q.elim
 simp only [↓qi,qy,reduceIte,Nat.reduceEqDiff,w69,e0]
 refine C3.q (qa5 (M:=M) (h8.em f810) (by omega) (kids:=[i,j,q]) (kv:=v') (Own.sl hv') (by simp)) fun w H12 ⟨nv12,kv,hw,h12,p12⟩=>?_
 subst hw
 simp only [↓qi,qy,reduceIte,Nat.reduceEqDiff]
 refine ⟨nv12,_,k8,h12,(((p4.trans (PK.em f5)).trans p78).trans (PK.em f810)).trans p12,by rw [qe,qt];omega,?_⟩
 cases ρ with
 | bad L'=>exact ⟨_,rfl⟩
 | ok L' =>
  obtain ⟨hq,hz8⟩:=hv8
  injection hq with _ hq
  obtain ⟨hi,hj,hz⟩:=hv rfl
  have hzl:=congrArg List.length hz
  rw [qn,qe,qe,qn,Cn.len,Ls.lenL] at hzl
  have e2:(It.l m).sz=m.sz+1:=rfl
  refine VOK.node ?_ ?_ rfl
  ·rw [hz8,hz,hzl];simp [It.ks,encF,It.enc,It.sz,j1]
  ·rw [hi,hj,hq,hzl,e2];simp [It.ks,endsF,ints,It.sz,j1];omega
theorem stm_loop (hT:TKs c.S c.rs) (ho:o<=50) (hl:tok L=wWhile) {cn:Cn} (hc:CQ M xh [] c (.c cn) (Lang.take [40] o (.ok (adv L))) (o+1) a σ) {l:Ls} (hb:CQ M x6 [] c (.l l) (Lang.take [41] (o+1) σ) o a τ) (hst:τ.isBad=false->(Lang.take [41] (o+1) σ).isBad=false) :
 CQ M qm [] c (.s (.loop cn l)) (.ok L) o a τ:=by
 intro H nv zs k d h hd
 refine qi8 h hT (by rw [hl];rfl) ?_
 obtain ⟨-,-,-,-,w30,-,-,w72,-,-,-,-,-⟩:=zh M ⟨none,qm⟩
 have hk:=h.sz hT
 have n1:¬ tok L=[115,116,111,114,101]:=by rw [hl];decide
 have n2:¬ tok L=[105,102]:=by rw [hl];decide
 obtain ⟨wk,H3,st,h3,p3⟩:=h.adv hT (by rw [hl];decide)
 have mk:Op.mkFunc xh 1 [.ptr c.r 0]=some (.fn (.func xh) [.ptr c.r 0] []):=rfl
 simp only [↓qi,qy,reduceIte,Nat.reduceEqDiff,w30,n1,n2,w72,kx hl,qg,h.ld1,wk,st,mk]
 refine C3.q (qh8 (M:=M) (f:=xh) hT (fun _=>ho) hc (fun _=>rfl) H3 nv zs (k+1) (d+1) h3 (by omega)) fun v H5 ⟨nv5,zs5,k5,h5,p5,hd5,hv5⟩=>?_
 simp only [↓qi,qy,reduceIte,Nat.reduceEqDiff]
 refine C3.q (hb H5 nv5 zs5 k5 (d+1) h5 hd5) fun v H6 ⟨nv6,zs6,k6,h6,p6,hd6,hv6⟩=>?_
 obtain ⟨i,hi⟩:=hv5.int
 obtain ⟨j,hj⟩:=hv6.int
 subst hi;subst hj
 have hk6:=h6.sz hT
 have f7:Fr Em H6 (H6.alloc (OR [.int .i64 i,.int .i64 j] T_int)):=(Fr.refl H6).alloc _
 simp only [↓qi,qy,reduceIte,Nat.reduceEqDiff,bsk2]
 refine C3.q (qa5 (M:=M) (h6.em f7) (by omega) (kids:=[i,j]) (kid2 i j) (by simp)) fun w H8 ⟨nv8,kv,hw,h8,p8⟩=>?_
 subst hw
 simp only [↓qi,qy,reduceIte,Nat.reduceEqDiff]
 refine ⟨nv8,_,k6,h8,((((p3.trans p5).trans p6).trans (PK.em f7)).trans p8),by rw [qe,qt];omega,?_⟩
 cases τ with
 | bad L'=>exact ⟨_,rfl⟩
 | ok L' =>
  obtain ⟨hj,hz6⟩:=hv6
  injection hj with _ hj
  have hσ:=hst rfl
  cases hq:Lang.take [41] (o+1) σ with
  | bad L3=>rw [hq] at hσ;cases hσ
  | ok L3 =>
   rw [hq] at hv5
   obtain ⟨hi,hz5⟩:=hv5
   injection hi with _ hi
   have hzl:=congrArg List.length hz5
   rw [qn,qe,qn,It.len] at hzl
   refine VOK.node ?_ ?_ rfl
   ·rw [hz6,hz5,hzl];simp [It.ks,encF,It.enc,It.sz]
   ·rw [hi,hj,hzl];simp [It.ks,endsF,ints,It.sz]
theorem stm_atom (hT:TKs c.S c.rs) (ho:o<=50) (hl:tok L=wAtomic) {l:Ls} (hb:CQ M x6 [] c (.l l) (.ok (adv L)) o true τ) :
 CQ M qm [] c (.s (.atom l)) (.ok L) o false τ:=by
 intro H nv zs k d h hd
 refine qi8 h hT (by rw [hl];rfl) ?_
 obtain ⟨-,-,-,-,w30,-,-,w72,-,w85,-,-,w93⟩:=zh M ⟨none,qm⟩
 have hk:=h.sz hT
 have n1:¬ tok L=[115,116,111,114,101]:=by rw [hl];decide
 have n2:¬ tok L=[105,102]:=by rw [hl];decide
 have n3:¬ tok L=[119,104,105,108,101]:=by rw [hl];decide
 obtain ⟨wk,H3,st,h3,p3⟩:=h.adv hT (by rw [hl];decide)
 obtain ⟨H4,st4,h4,p4⟩:=h3.atm true
 simp only [↓qi,qy,reduceIte,Nat.reduceEqDiff,w30,n1,n2,w72,n3,kx hl,w85,qg,h.ld4,w93,h.ld1,wk,st,st4]
 refine C3.q (hb H4 nv zs (k+1) (d+1) h4 (by omega)) fun v H5 ⟨nv5,zs5,k5,h5,p5,hd5,hv5⟩=>?_
 obtain ⟨j,hj⟩:=hv5.int
 subst hj
 obtain ⟨H6,st6,h6,p6⟩:∃ H6,Op.store 1 [.ptr c.r 4,.bool false] H5=some (.undef,H6)/\RS c H6 nv5 zs5 τ k5 o false/\PK c.r nv5 zs5 H5 nv5 zs5 H6:=by
  cases τ with
  | ok L'=>exact h5.atm false
  | bad L'=>obtain ⟨H6,q1,q2,q3⟩:=h5.atmB false;exact ⟨H6,q1,q2.bad,q3⟩
 have hk6:=h6.sz hT
 have f7:Fr Em H6 (H6.alloc (OR [.int .i64 j] T_int)):=(Fr.refl H6).alloc _
 simp only [↓qi,qy,reduceIte,Nat.reduceEqDiff,qg,st6,bsk1]
 refine C3.q (qa5 (M:=M) (h6.em f7) (by omega) (kids:=[j]) (kid1 j) (by simp)) fun w H8 ⟨nv8,kv,hw,h8,p8⟩=>?_
 subst hw
 simp only [↓qi,qy,reduceIte,Nat.reduceEqDiff]
 refine ⟨nv8,_,k5,h8,(((((p3.trans p4).trans p5).trans p6).trans (PK.em f7)).trans p8),by rw [qe,qt];omega,?_⟩
 cases τ with
 | bad L'=>exact ⟨_,rfl⟩
 | ok L' =>
  obtain ⟨hj,hz5⟩:=hv5
  injection hj with _ hj
  refine VOK.node ?_ ?_ rfl
  ·rw [hz5];simp [It.ks,encF,It.enc,It.sz]
  ·rw [hj];simp [It.ks,endsF,ints,It.sz]
theorem stm_halt (hT:TKs c.S c.rs) (ho:o<=50) (hl:tok L=wHalt):CQ M qm [] c (.s .halt) (.ok L) o a (Lang.take [59] o (.ok (adv L))):=by
 intro H nv zs k d h hd
 refine qi8 h hT (by rw [hl];rfl) ?_
 obtain ⟨-,-,-,-,w30,-,-,w72,-,-,w104,-,-⟩:=zh M ⟨none,qm⟩
 have hk:=h.sz hT
 have n1:¬ tok L=[115,116,111,114,101]:=by rw [hl];decide
 have n2:¬ tok L=[105,102]:=by rw [hl];decide
 have n3:¬ tok L=[119,104,105,108,101]:=by rw [hl];decide
 have n4:¬ tok L=[97,116,111,109,105,99]:=by rw [hl];decide
 obtain ⟨wk,H3,st,h3,p3⟩:=h.adv hT (by rw [hl];decide)
 simp only [↓qi,qy,reduceIte,Nat.reduceEqDiff,w30,n1,n2,w72,n3,n4,w104,kx hl,qg,h.ld1,wk,st]
 refine C3.q (qhp (M:=M) (s:=[59]) (by decide) (fun _=>by omega) h3 hT) fun u H4 ⟨k4,h4,p4,hk4⟩=>?_
 have hk4':=h4.sz hT
 simp only [↓qi,qy,reduceIte,Nat.reduceEqDiff]
 refine C3.q (qa5 (M:=M) h4 (by omega) (kids:=[]) ⟨rfl,rfl⟩ (by simp)) fun w H8 ⟨nv8,kv,hw,h8,p8⟩=>?_
 subst hw
 simp only [↓qi,qy,reduceIte,Nat.reduceEqDiff]
 refine ⟨nv8,_,k4,h8,(p3.trans p4).trans p8,by rw [qe,qt];omega,?_⟩
 cases hq:Lang.take [59] o (.ok (adv L)) with
 | bad L'=>exact ⟨_,rfl⟩
 | ok L'=>exact VOK.node (by simp [It.ks,encF]) (by simp [It.ks,endsF,ints]) rfl
theorem stm_no (hT:TKs c.S c.rs) {x:It} (h1:varOf (tok L)=none) (h2:tok L ≠ wStore) (h3:tok L ≠ wIf) (h4:tok L ≠ wWhile) (h5:a=true\/tok L ≠ wAtomic) (h6:tok L ≠ wHalt):CQ M qm [] c x (.ok L) o a (.bad L):=by
 intro H nv zs k d h hd
 refine qi8 h hT h1 ?_
 obtain ⟨-,-,-,-,w30,w115,-,w72,-,w85,w104,-,-⟩:=zh M ⟨none,qm⟩
 have n1:¬ tok L=[115,116,111,114,101]:=h2
 have n2:¬ tok L=[105,102]:=h3
 have n3:¬ tok L=[119,104,105,108,101]:=h4
 have n5:¬ tok L=[104,97,108,116]:=h6
 have bad:y9 M z7 [.ptr c.r 0] H (PQ c H nv zs d o a (.bad L) (VOK x zs · (.bad L))) :=
  (qij (M:=M) h (L:=L) rfl).mono fun v H' ⟨hv,q1,q2⟩=>⟨nv,zs,k,q1,q2,hd,0,hv⟩
 by_cases n4:tok L=[97,116,111,109,105,99]
 ·have ha:a=true:=h5.elim id fun q=>(q n4).elim
  subst ha
  simp only [↓qi,qy,reduceIte,Nat.reduceEqDiff,w30,n1,n2,w72,n3,kx n4,w85,qg,h.ld4]
  refine C3.q bad fun v H1 hq=>?_
  simp only [↓qi,qy,reduceIte,Nat.reduceEqDiff];exact hq
 ·simp only [↓qi,qy,reduceIte,Nat.reduceEqDiff,w30,n1,n2,w72,n3,n4,w104,n5,w115]
  refine C3.q bad fun v H1 hq=>?_
  simp only [↓qi,qy,reduceIte,Nat.reduceEqDiff];exact hq
end
end Go.Am
namespace Go.Am
open Lang Go.Proofs
variable {M:Mac} [MK M]
def fnRow (n:Nat):Nat:=if n=1 then xe else jr
def fnPart (n:Nat):Nat:=if n=1 then jr else xc
def Sp (M:Mac) (c:RBk) (nt:NT) (o:Nat) (a:Bool) (σ:PS) (x:It) (τ:PS):Prop:=match nt with
 | .fac=>CQ M xc [] c x σ o a τ
 | .row n=>n=1\/n=2->CQ M (fnRow n) [] c x σ o a τ
 | .rowl n y=>n=1\/n=2->RL M (fnPart n) c n y σ o a (exOf x) τ
 | .cnd=>CQ M xh [] c x σ o a τ
 | .stm=>CQ M qm [] c x σ o a τ
 | .sts e=>PSL M c e (lsOf x) σ o a τ
 | .blk=>CQ M x6 [] c x σ o a τ
theorem qz6 {c:RBk} {n o:Nat} {a:Bool} {σ τ:PS} {x:It} (h:Sp M c (Lang.part n) o a σ x τ) (hn:n=1\/n=2):CQ M (fnPart n) [] c x σ o a τ:=by
 rcases hn with rfl|rfl
 ·exact h (.inr rfl)
 ·exact h
theorem qxr {c:RBk} (hT:TKs c.S c.rs) (hE:Ers c.H0) {nt:NT} {o:Nat} {a:Bool} {σ τ:PS} {x:It} (h:P nt o a σ x τ):(σ.isBad=false->o<=50)->Sp M c nt o a σ x τ:=by
 induction h with
 | @bad nt o a L x =>
  intro ho
  cases nt with
  | fac=>exact qyz
  | row n =>
   intro hn
   rcases hn with rfl|rfl
   ·exact CQ.any (u:=.e (.num 0)) (qv3 hT)
   ·exact CQ.any (u:=.e (.num 0)) (qwm hT)
  | rowl n y=>exact fun _=>qzt
  | cnd=>exact cond_bad hT
  | stm=>exact stm_bad
  | sts e=>exact sl_bad
  | blk=>exact qyh hT
 | num h=>exact fun _=>fac_num hT hE h
 | var h=>exact fun _=>fac_var hT h
 | load h hx ih=>exact fun ho=>fac_load hT (ho rfl) h (ih (fun q=>jw (.inl rfl) q) (.inl rfl))
 | par h hx ih=>exact fun ho=>fac_par hT (ho rfl) h (ih (fun q=>jw (.inl rfl) q) (.inl rfl))
 | nofac x h1 h2 h3 h4=>exact fun _=>fac_no hT hE h1 h2 h3 h4
 | @row n o a L x y σ τ hx hy ihx ihy =>
  intro ho hn
  have h1:=qz6 (ihx ho) hn
  have h2:=ihy (fun _=>ho rfl) hn
  rcases hn with rfl|rfl
  ·exact qqo (qn0 (n:=1) hT (by decide) h1 h2)
  ·exact qt7 (qn0 (n:=2) hT (by decide) h1 h2)
 | stop h=>exact fun ho hn=>rl_stop hT h
 | @more n o a L x y z σ τ h hy hz ihy ihz =>
  intro ho hn
  exact rl_more hT (by omega) h (qz6 (ihy ho) hn) (ihz (fun _=>ho rfl) hn)
 | cnd hx h hy ihx ihy=>exact fun ho=>cond_ok hT (ihx ho (.inl rfl)) h (ihy (fun _=>ho rfl) (.inl rfl))
 | cnd1 z hx ihx=>exact fun ho=>cond_1 (ihx ho (.inl rfl))
 | cnd2 z hx h ihx=>exact fun ho=>cond_2 hT (ihx ho (.inl rfl)) h
 | set h hx ih=>exact fun ho=>stm_set hT (ho rfl) h (ih (fun _=>ho rfl) (.inl rfl))
 | store h hx hy ihx ihy=>exact fun ho=>q0d hT (ho rfl) h (ihx (fun q=>jw (.inl rfl) q) (.inl rfl)) (ihy (fun q=>jw (.inl rfl) (hx.okIn (qaa q))) (.inl rfl)) fun q=>qaa (hy.okIn q)
 | ite h hc hl he ihc ihl=>exact fun ho=>stm_ite hT (ho rfl) h (ihc fun q=>jw (.inl rfl) q) (ihl fun _=>ho rfl) (hl.okIn rfl) he
 | ite1 h hc hl ihc ihl=>exact fun ho=>stm_ite1 hT (ho rfl) h (ihc fun q=>jw (.inl rfl) q) (ihl fun _=>ho rfl)
 | ites h hc hl he hm ihc ihl ihm=>exact fun ho=>stm_ites hT (ho rfl) h (ihc fun q=>jw (.inl rfl) q) (ihl fun _=>ho rfl) (hl.okIn rfl) he (ihm fun _=>ho rfl)
 | loop h hc hl ihc ihl=>exact fun ho=>stm_loop hT (ho rfl) h (ihc fun q=>jw (.inl rfl) q) (ihl fun _=>ho rfl) fun q=>hl.okIn q
 | atom h hl ihl=>exact fun ho=>stm_atom hT (ho rfl) h (ihl fun _=>ho rfl)
 | halt h=>exact fun ho=>stm_halt hT (ho rfl) h
 | nostm x h1 h2 h3 h4 h5 h6=>exact fun _=>stm_no hT h1 h2 h3 h4 h5 h6
 | nil h=>subst h;exact fun _=>sl_nil hT
 | cons h hs hl ihs ihl=>exact fun ho=>sl_cons hT h (ihs ho) (ihl fun _=>ho rfl) fun q=>hl.okIn q
 | blk hl ih=>exact fun ho=>qw1 hT (ho rfl) (ih fun q=>jw (.inr rfl) q) fun q=>hl.okIn q
end Go.Am
namespace Go.Am
open Lang Go.Proofs
variable {M:Mac} [MK M]
theorem qll {s t:Tk} {H:AHeap}:y9 M vp [.str s,.str t] H fun v H'=>v=.bool (decide (s.take t.length=t))/\H'=H:=by
 refine qkg ?_
 simp only [↓qi,qy,reduceIte,Nat.reduceEqDiff,qkh]
 refine C3.q (R:=fun v H'=>v=.bool (decide (s.take t.length=t))/\H'=H) ?_ fun v H' ⟨hv,hh⟩=>?_
 ·refine qeg ?_
  by_cases h:t.length<=s.length
  ·have h1:((t.length:Nat):Int)<=(s.length:Nat):=by omega
   simp only [↓qi,qy,reduceIte,Nat.reduceEqDiff,qbe,h1,qu5 h]
  ·have h1:¬ ((t.length:Nat):Int)<=(s.length:Nat):=by omega
   have h2:¬ s.take t.length=t:=fun q=>by have:=congrArg List.length q;rw [jk] at this;omega
   simp only [↓qi,qy,reduceIte,Nat.reduceEqDiff,qbe,h1,h2]
 ·subst hv;subst hh
  simp only [↓qi,qy,reduceIte,Nat.reduceEqDiff]
theorem o_max3 (a b c:Nat):Op.minmax true [.int .i64 (a:Int),.int .i64 (b:Int),.int .i64 (c:Int)]=some (.int .i64 ((max a (max b c):Nat):Int)):=by
 have mx:∀ x y:Int,(cond true (cond (ltI x y) y x) (cond (ltI y x) y x):Int)=if x<y then y else x:=fun x y=>by
  rw [qq,qio]
  by_cases h:x<y
  ·rw [qc3 h,xv h];rfl
  ·rw [qbg h,qx h];rfl
 show some (AV.int .i64 (cond true (cond (ltI (cond true (cond (ltI (a:Int) (b:Int)) (b:Int) (a:Int)) (cond (ltI (b:Int) (a:Int)) (b:Int) (a:Int))) (c:Int)) (c:Int) (cond true (cond (ltI (a:Int) (b:Int)) (b:Int) (a:Int)) (cond (ltI (b:Int) (a:Int)) (b:Int) (a:Int)))) _))=_
 rw [mx,mx]
 congr 2
 split<;>split<;>omega
theorem qt5 {p:Nat} {s:Tk} {a b:UInt8} {H:AHeap} (hp:H.get p=some (OR [.str s] qcq)) (hl:s.length<=100000000):y9 M qaj [.int .u8 a.toNat,.int .u8 b.toNat,.ptr p 0] H fun v H'=>v=.int .i64 (span a b s:Nat)/\H'=H:=by
 refine qrk ?_
 obtain ⟨w0,w4,w15,w7,w13⟩:=qrl M ⟨none,qaj⟩
 have ld:Op.load1 [.ptr p 0] H=some (.str s):=by rw [vy (kh hp)];rfl
 simp only [↓qi,qy,reduceIte,Nat.reduceEqDiff,w0,w4]
 refine LOOP3.intro (fun n E Hx=>∃ i:Nat,E=[(6,.int .i64 (i:Nat)),(2,.ptr p 0),(1,.int .u8 b.toNat),(0,.int .u8 a.toNat)]/\n=s.length-i/\i<=s.length/\Hx=H/\span a b s=i+span a b (s.drop i)) ?_ ?_
 ·exact ⟨_,_,⟨0,rfl,rfl,by omega,rfl,by simp⟩,by simp only [↓qi,qy,reduceIte,Nat.reduceEqDiff]⟩
 rintro n E Hx ⟨i,rfl,rfl,hi,rfl,hsp⟩
 rcases j2 i s.length with hlt|hge
 ·have q1:(i:Int)<(s.length:Nat):=by omega
  obtain ⟨x,hx⟩:∃ x,s[i]? = some x:=⟨s[i],by simp [hlt]⟩
  have ix:Op.indexStr [.str s,.int .i64 (i:Nat)]=some (.int .u8 x.toNat):=qaq rfl hx
  have hd:s.drop i=x::s.drop (i+1):=by rw [ym hlt];congr 1;simpa [hlt] using hx
  have wi:wrapI .i64 ((i:Int)+1)=((i+1:Nat):Int):=by rw [kr (by omega) (by omega)];omega
  by_cases h1:a.toNat<=x.toNat
  ·have c1:(a.toNat:Int)<=x.toNat:=by omega
   by_cases h2:x.toNat<=b.toNat
   ·have c2:(x.toNat:Int)<=b.toNat:=by omega
    simp only [↓qi,qy,reduceIte,Nat.reduceEqDiff,w7,ld,q1,ix,c1,c2,w13,wi]
    refine ⟨_,_,⟨i+1,rfl,rfl,by omega,?_⟩,by simp only [↓qi,qy,reduceIte,Nat.reduceEqDiff],by omega⟩
    rw [hsp,hd,qlw ⟨qw.2 h1,qw.2 h2⟩];omega
   ·have c2:¬ (x.toNat:Int)<=b.toNat:=by omega
    simp only [↓qi,qy,reduceIte,Nat.reduceEqDiff,w7,ld,q1,ix,c1,c2,reduceCtorEq,w15]
    rw [hsp,hd,qa8 fun q=>h2 (u8lt q.2)];rfl
  ·have c1:¬ (a.toNat:Int)<=x.toNat:=by omega
   simp only [↓qi,qy,reduceIte,Nat.reduceEqDiff,w7,ld,q1,ix,c1,reduceCtorEq,w15]
   rw [hsp,hd,qa8 fun q=>h1 (u8lt q.1)];rfl
 ·have q1:¬ (i:Int)<(s.length:Nat):=by omega
  simp only [↓qi,qy,reduceIte,Nat.reduceEqDiff,w7,ld,q1,reduceCtorEq,w15]
  rw [hsp,zx hge];rfl
theorem bs4S (a b c d:Tk):Op.buildSlice qcq 4 [.str []] [(0,1),(1,1),(2,1),(3,1)] [.str a,.str b,.str c,.str d]=some (OR [.str a,.str b,.str c,.str d] qcq,Op.sliceTo 4 4):=rfl
theorem qz2 {s:Tk} {H:AHeap} (hl:s.length<=100000000):y9 M qdb [.str s] H fun v H'=>v=.int .i64 (tkn s:Nat)/\Fr Em H H':=by
 refine quz ?_
 obtain ⟨w0,w4,w27,w9,w15,w26⟩:=qu0 M ⟨none,qdb⟩
 obtain ⟨H1,e1⟩:∃ X,X=H.alloc (OR [.str s] qcq):=⟨_,rfl⟩
 have f1:Fr Em H H1:=by rw [e1];exact (Fr.refl H).alloc _
 have n1:H1.next=H.next+1:=by rw [e1,jh]
 have g1:H1.get H.next=some (OR [.str s] qcq):=by rw [e1,jb]
 have cs:AV.cells (.str s)=[.str s]:=rfl
 have mk:Op.mkFunc qaj 0 [.ptr H.next 0]=some (.fn (.func qaj) [] [.ptr H.next 0]):=rfl
 obtain ⟨H2,e2⟩:∃ X,X=H1.alloc (OR [.str [61,61],.str [33,61],.str [60,60],.str [62,62]] qcq):=⟨_,rfl⟩
 have f2:Fr Em H1 H2:=by rw [e2];exact (Fr.refl H1).alloc _
 have ln:Op.lenSl [Op.sliceTo 4 4 H1.next]=some (.int .i64 4):=rfl
 simp only [↓qi,qy,reduceIte,Nat.reduceEqDiff,w0,cs,<-e1,mk,w4,bs4S,ln,<-e2]
 have g2:H2.get H.next=some (OR [.str s] qcq):=by rw [f2.keep _ (by omega) id];exact g1
 have ld:Op.load1 [.ptr H.next 0] H2=some (.str s):=by rw [vy (kh g2)];rfl
 have c2:H2.cellsAt H1.next=some [.str [61,61],.str [33,61],.str [60,60],.str [62,62]]:=kh (by rw [e2];exact jb ..)
 refine LOOP3.few 5 ?_
 have i0:Op.indexSl 1 [Op.sliceTo 4 4 H1.next,.int .i64 0]=some (.ptr H1.next 0):=rfl
 have i1:Op.indexSl 1 [Op.sliceTo 4 4 H1.next,.int .i64 1]=some (.ptr H1.next 1):=rfl
 have i2:Op.indexSl 1 [Op.sliceTo 4 4 H1.next,.int .i64 2]=some (.ptr H1.next 2):=rfl
 have i3:Op.indexSl 1 [Op.sliceTo 4 4 H1.next,.int .i64 3]=some (.ptr H1.next 3):=rfl
 have l0:Op.load1 [.ptr H1.next 0] H2=some (.str [61,61]):=by rw [vy c2];rfl
 have l1:Op.load1 [.ptr H1.next 1] H2=some (.str [33,61]):=by rw [vy c2];rfl
 have l2:Op.load1 [.ptr H1.next 2] H2=some (.str [60,60]):=by rw [vy c2];rfl
 have l3:Op.load1 [.ptr H1.next 3] H2=some (.str [62,62]):=by rw [vy c2];rfl
 have b1:wrapI .i64 (0+1)=1:=by decide +kernel
 have b2:wrapI .i64 (1+1)=2:=by decide +kernel
 have b3:wrapI .i64 (2+1)=3:=by decide +kernel
 have b4:wrapI .i64 (3+1)=4:=by decide +kernel
 have f02:=f1.trans f2 fun _ q=>q.elim
 have yes:two s->tkn s=2:=fun q=>by unfold tkn;rw [xv q]
 simp only [↓qi,qy,reduceIte,Nat.reduceEqDiff,w9,Int.reduceLT,w15,i0,l0,ld]
 refine C3.q (qll (M:=M)) fun v Hx ⟨hv,hh⟩=>?_
 subst hv;subst hh
 refine IF3.dec (fun p1=>?_) (fun p1=>?_)
 ·simp only [↓qi,qy,reduceIte,Nat.reduceEqDiff]
  exact ⟨by rw [yes (.inl p1)];rfl,f02⟩
 simp only [↓qi,qy,reduceIte,Nat.reduceEqDiff,w26,b1,w9,Int.reduceLT,w15,i1,l1,ld]
 refine C3.q (qll (M:=M)) fun v Hx ⟨hv,hh⟩=>?_
 subst hv;subst hh
 refine IF3.dec (fun p2=>?_) (fun p2=>?_)
 ·simp only [↓qi,qy,reduceIte,Nat.reduceEqDiff]
  exact ⟨by rw [yes (.inr (.inl p2))];rfl,f02⟩
 simp only [↓qi,qy,reduceIte,Nat.reduceEqDiff,w26,b2,w9,Int.reduceLT,w15,i2,l2,ld]
 refine C3.q (qll (M:=M)) fun v Hx ⟨hv,hh⟩=>?_
 subst hv;subst hh
 refine IF3.dec (fun p3=>?_) (fun p3=>?_)
 ·simp only [↓qi,qy,reduceIte,Nat.reduceEqDiff]
  exact ⟨by rw [yes (.inr (.inr (.inl p3)))];rfl,f02⟩
 simp only [↓qi,qy,reduceIte,Nat.reduceEqDiff,w26,b3,w9,Int.reduceLT,w15,i3,l3,ld]
 refine C3.q (qll (M:=M)) fun v Hx ⟨hv,hh⟩=>?_
 subst hv;subst hh
 refine IF3.dec (fun p4=>?_) (fun p4=>?_)
 ·simp only [↓qi,qy,reduceIte,Nat.reduceEqDiff]
  exact ⟨by rw [yes (.inr (.inr (.inr p4)))];rfl,f02⟩
 have no:tkn s=max 1 (max (span 97 122 s) (span 48 57 s)):=by
  unfold tkn;rw [qx]
  rintro (q|q|q|q)
  ·exact p1 q
  ·exact p2 q
  ·exact p3 q
  ·exact p4 q
 simp only [↓qi,qy,reduceIte,Nat.reduceEqDiff,w26,b4,w9,Int.reduceLT,reduceCtorEq,w27]
 refine C3.q (qt5 (M:=M) (a:=97) (b:=122) g2 hl) fun v Hx ⟨hv,hh⟩=>?_
 subst hv;subst hh
 simp only [↓qi,qy,reduceIte,Nat.reduceEqDiff]
 refine C3.q (qt5 (M:=M) (a:=48) (b:=57) g2 hl) fun v Hx ⟨hv,hh⟩=>?_
 subst hv;subst hh
 have mx:=o_max3 1 (span 97 122 s) (span 48 57 s)
 simp only [↓qi,qy,reduceIte,Nat.reduceEqDiff,show Op.minmax true [.int .i64 1,.int .i64 (span 97 122 s:Nat),.int .i64 (span 48 57 s:Nat)]=_ from mx]
 exact ⟨by rw [no],f02⟩
end Go.Am
namespace Go.Am
open Lang Go.Proofs
variable {M:Mac} [MK M]
def ItQ (R:Nat->(Nat->Prop)->AHeap->Prop) (S:(Nat->Prop)->AHeap->Prop) (W0 O:Nat->Prop) (H:AHeap) (n:Nat) (v:AV) (H':AHeap):Prop:=∃ W':Nat->Prop,Fr (fun b=>W0 b\/O b) H H'/\(∀ b,W' b->b<H'.next/\(W0 b\/H.next<=b))/\(R n W' H'\/S W' H')
structure TkI (text:Tk) (R:Nat->(Nat->Prop)->AHeap->Prop) (W0:Nat->Prop) (H1 Hx:AHeap) (p i:Nat) (line frm:Int) (V:Nat->Prop):Prop where
 le:p<=text.length
 ln:line=(lc (text.take p)).1
 cl:(p:Int)-frm+1=(lc (text.take p)).2
 hR:R i V Hx
 hV:∀ b,V b->b<Hx.next/\(W0 b\/H1.next<=b)
 fr:Fr W0 H1 Hx
theorem bdT (s:Tk) (l c:Int):Op.build [.str [],.int .i64 0,.int .i64 0] [(0,1),(1,1),(2,1)] [.str s,.int .i64 l,.int .i64 c]=some (.agg [.str s,.int .i64 l,.int .i64 c]):=rfl
theorem bdTe (l c:Int):Op.build [.str [],.int .i64 0,.int .i64 0] [(1,1),(2,1)] [.int .i64 l,.int .i64 c]=some (.agg [.str [],.int .i64 l,.int .i64 c]):=rfl
theorem q0h {H0:AHeap} {b1:Nat} {text:Tk} (h1:H0.get b1=some (OR [.str text] qcq)) (hb:b1<H0.next) (hl:text.length<=90000000) :
 ITERO M kz [] [.ptr b1 0] (fun b=>b=b1) (fun _=>False) H0 ((places text).map fun L=>[.agg (encT (recOf text L))]):=by
 intro Y R S W0 H1 hnx hN hR0 hW0 loc locS step
 obtain ⟨-,k1,k2⟩:=hN b1 (.inl rfl)
 suffices h:y9 M kz [.fn (.yield Y) [] [],.ptr b1 0] H1 (ItQ R S W0 (fun _=>False) H1 ((places text).map fun L=>[AV.agg (encT (recOf text L))]).length) by
  obtain ⟨v,H',hc,W',q1,q2,q3⟩:=h.elim
  exact ⟨v,H',W',hc,q1,q2,q3⟩
 refine qos ?_
 obtain ⟨w0,w2,w78,w7,w13,w69,w55,w50,w47,w46,w25,w71,w68,w67,w59,w54,w31,w77,w65,w41,w38⟩:=qot M ⟨none,kz⟩
 have hb1:b1<H1.next:=by omega
 have ld:∀ {Hx:AHeap},Fr W0 H1 Hx->Op.load1 [.ptr b1 0] Hx=some (.str text):=fun f=>by rw [vy (kh (by rw [f.keep _ hb1 k2,k1];exact h1))];rfl
 rw [qn]
 simp only [↓qi,qy,reduceIte,Nat.reduceEqDiff,w0,w2]
 refine LOOP3.intro (fun n E Hx=>∃ (p i:Nat) (line frm:Int) (V:Nat->Prop),E=[(5,.int .i64 (p:Nat)),(4,.int .i64 frm),(3,.int .i64 line),(1,.ptr b1 0),(0,.fn (.yield Y) [] [])]/\n=text.length-p/\TkI text R W0 H1 Hx p i line frm V/\(places text)[i]? = some (skp false (text.drop p))) ?_ ?_
 ·exact ⟨_,_,⟨0,0,1,0,W0,rfl,rfl,⟨jo _,rfl,rfl,hR0,fun b hb=>⟨hW0 b hb,.inl hb⟩,Fr.refl _⟩,by rw [List.drop_zero];exact qpb text⟩,by simp only [↓qi,qy,reduceIte,Nat.reduceEqDiff]⟩
 rintro n E Hx ⟨p,i,line,frm,V,rfl,rfl,hI,hpl⟩
 have hld:=ld hI.fr
 have hle:=hI.le
 have hrg:=qv8 (text.take p)
 rw [jk,Nat.min_eq_left hle,<-hI.ln,<-hI.cl] at hrg
 -- a round
 have round:∀ {x:List AV} {Hy:AHeap},Fr Em Hx Hy->((places text).map fun L=>[AV.agg (encT (recOf text L))])[i]? = some x -> ∃ bb H'' W',ROUND M Y x Hy (.ret (.bool bb)) H''/\Fr W0 H1 H''/\(∀ b,W' b->b<H''.next/\(W0 b\/H1.next<=b))/\(bb=true->R (i+1) W' H'')/\(bb=false->S W' H''):=by
  intro x Hy fy hx
  have hRy:=loc i V Hx Hy hI.hR (fun b q=>fy.keep b (hI.hV b q).1 id) fy.next
  have hVy:∀ b,V b->b<Hy.next/\(W0 b\/H1.next<=b):=fun b q=>⟨qj (hI.hV b q).1 fy.next,(hI.hV b q).2⟩
  have fxy:Fr W0 H1 Hy:=hI.fr.em fy
  obtain ⟨bb,H2,W2,hr,hf,hW2,ht,hs⟩:=step i x hx V Hy hRy hVy (fxy.mono fun _ _ q=>.inl q)
  refine ⟨bb,H2,W2,hr,fxy.trans hf fun b q=>(hVy b q).2,fun b q=>⟨(hW2 b q).1,(hW2 b q).2.elim (fun w=>(hVy b w).2) fun w=>.inr (xw fxy.next w)⟩,ht,hs⟩
 rcases j2 p text.length with hlt|hge
 ·have q1:(p:Int)<(text.length:Nat):=by omega
  obtain ⟨c,hc⟩:∃ c,text[p]? = some c:=⟨text[p],by simp [hlt]⟩
  have ix:Op.indexStr [.str text,.int .i64 (p:Nat)]=some (.int .u8 c.toNat):=qaq rfl hc
  have hd:text.drop p=c::text.drop (p+1):=by rw [ym hlt];congr 1;simpa [hlt] using hc
  have wp:wrapI .i64 ((p:Int)+1)=((p+1:Nat):Int):=by rw [kr (by omega) (by omega)];omega
  have hlc:=qu1 hc
  -- behind a byte that is no new line
  have go:c ≠ 10->skp false (text.drop p)=skp false (text.drop (p+1))->TkI text R W0 H1 Hx (p+1) i line frm V/\(places text)[i]? = some (skp false (text.drop (p+1))):=fun h10 hs=>by
   refine ⟨⟨by omega,?_,?_,hI.hR,hI.hV,hI.fr⟩,by rw [<-hs];exact hpl⟩
   ·rw [hlc,lcStep,qx h10];exact hI.ln
   ·rw [hlc,lcStep,qx h10];have:=hI.cl;show ((p+1:Nat):Int)-frm+1=(lc (text.take p)).2+1;omega
  by_cases c10:c=10
  ·subst c10
   have e10:((10:UInt8).toNat:Int)=10:=rfl
   have wl:wrapI .i64 (line+1)=line+1:=kr (by omega) (by omega)
   simp only [↓qi,qy,reduceIte,Nat.reduceEqDiff,w7,hld,q1,w13,ix,w25,e10,jn,reduceCtorEq,w47,wl,wp,w50]
   refine ⟨_,_,⟨p+1,i,line+1,((p+1:Nat):Int),V,rfl,rfl,⟨by omega,?_,?_,hI.hR,hI.hV,hI.fr⟩,by rw [hd,qhm (.inr (.inr rfl))] at hpl;exact hpl⟩,by simp only [↓qi,qy,reduceIte,Nat.reduceEqDiff],by omega⟩
   ·rw [hlc,lcStep,xv rfl,<-hI.ln]
   ·rw [hlc,lcStep,xv rfl];show ((p+1:Nat):Int)-((p+1:Nat):Int)+1=1;omega
  have n10:¬ (c.toNat:Int)=10:=fun q=>c10 (j9.1 (by show c.toNat=10;omega))
  by_cases c32:c=32
  ·subst c32
   have e32:((32:UInt8).toNat:Int)=32:=rfl
   obtain ⟨g1,g2⟩:=go (by decide) (by rw [hd,qhm (.inl rfl)])
   simp only [↓qi,qy,reduceIte,Nat.reduceEqDiff,w7,hld,q1,w13,ix,w25,n10,w31,e32,Int.reduceEq,jn,w38,reduceCtorEq,w50,wp]
   exact ⟨_,_,⟨p+1,i,line,frm,V,rfl,rfl,g1,g2⟩,by simp only [↓qi,qy,reduceIte,Nat.reduceEqDiff],by omega⟩
  have n32:¬ (c.toNat:Int)=32:=fun q=>c32 (j9.1 (by show c.toNat=32;omega))
  by_cases c9:c=9
  ·subst c9
   have e9:((9:UInt8).toNat:Int)=9:=rfl
   obtain ⟨g1,g2⟩:=go (by decide) (by rw [hd,qhm (.inr (.inl rfl))])
   simp only [↓qi,qy,reduceIte,Nat.reduceEqDiff,w7,hld,q1,w13,ix,w25,n10,w31,n32,e9,Int.reduceEq,jn,w38,reduceCtorEq,w50,wp]
   exact ⟨_,_,⟨p+1,i,line,frm,V,rfl,rfl,g1,g2⟩,by simp only [↓qi,qy,reduceIte,Nat.reduceEqDiff],by omega⟩
  have n9:¬ (c.toNat:Int)=9:=fun q=>c9 (j9.1 (by show c.toNat=9;omega))
  by_cases c35:c=35
  ·subst c35
   have e35:((35:UInt8).toNat:Int)=35:=rfl
   rw [hd,qsh] at hpl
   simp only [↓qi,qy,reduceIte,Nat.reduceEqDiff,w7,hld,q1,w13,ix,w25,n10,w31,n32,n9,w38,w41,e35,Int.reduceEq,jn,reduceCtorEq,w55]
   -- a note
   refine LOOP3.intro (fun n E Hy=>∃ (m:Nat),E=[(5,.int .i64 (m:Nat)),(4,.int .i64 frm),(3,.int .i64 line),(1,.ptr b1 0),(0,.fn (.yield Y) [] [])]/\n=text.length-m/\p<=m/\Hy=Hx/\TkI text R W0 H1 Hx m i line frm V/\(m=p\/p<m/\(places text)[i]? = some (skp true (text.drop m)))) ?_ ?_
   ·exact ⟨_,_,⟨p,rfl,rfl,qf _,rfl,hI,.inl rfl⟩,by simp only [↓qi,qy,reduceIte,Nat.reduceEqDiff]⟩
   rintro n E Hy ⟨m,rfl,rfl,hpm,rfl,hJ,hm⟩
   have hjl:=hJ.le
   rcases j2 m text.length with hltm|hgem
   ·have q2:(m:Int)<(text.length:Nat):=by omega
    obtain ⟨y,hy⟩:∃ y,text[m]? = some y:=⟨text[m],by simp [hltm]⟩
    have iy:Op.indexStr [.str text,.int .i64 (m:Nat)]=some (.int .u8 y.toNat):=qaq rfl hy
    have hdm:text.drop m=y::text.drop (m+1):=by rw [ym hltm];congr 1;simpa [hltm] using hy
    have wm:wrapI .i64 ((m:Int)+1)=((m+1:Nat):Int):=by rw [kr (by omega) (by omega)];omega
    by_cases y10:y=10
    ·subst y10
     have e10:((10:UInt8).toNat:Int)=10:=rfl
     have hmp:p<m:=by
      rcases hm with rfl|hm
      ·rw [hc] at hy;injection hy with hy;exact absurd hy (by decide)
      ·exact hm.1
     have hpm2:(places text)[i]? = some (skp false (text.drop m)):=by
      rcases hm with rfl|hm
      ·omega
      ·rw [hm.2,hdm,skp_nl]
     simp only [↓qi,qy,reduceIte,Nat.reduceEqDiff,w59,hld,q2,iy,e10,jn,reduceCtorEq,w67]
     exact ⟨_,_,⟨m,i,line,frm,V,rfl,rfl,hJ,hpm2⟩,by simp only [↓qi,qy,reduceIte,Nat.reduceEqDiff],by omega⟩
    ·have ny:¬ (y.toNat:Int)=10:=fun q=>y10 (j9.1 (by show y.toNat=10;omega))
     have hlcm:=qu1 hy
     simp only [↓qi,qy,reduceIte,Nat.reduceEqDiff,w59,hld,q2,iy,ny,w65,wm]
     refine ⟨_,_,⟨m+1,rfl,rfl,by omega,⟨by omega,?_,?_,hJ.hR,hJ.hV,hJ.fr⟩,.inr ⟨by omega,?_⟩⟩,by simp only [↓qi,qy,reduceIte,Nat.reduceEqDiff],by omega⟩
     ·rw [hlcm,lcStep,qx y10];exact hJ.ln
     ·rw [hlcm,lcStep,qx y10];have:=hJ.cl;show ((m+1:Nat):Int)-frm+1=(lc (text.take m)).2+1;omega
     ·rcases hm with rfl|hm
      ·exact hpl
      ·rw [hm.2,hdm,skp_in y10]
   ·have q2:¬ (m:Int)<(text.length:Nat):=by omega
    have hmp:p<m:=by omega
    have hpm2:(places text)[i]? = some (skp false (text.drop m)):=by
     rcases hm with rfl|hm
     ·omega
     ·rw [hm.2,zx hgem];rfl
    simp only [↓qi,qy,reduceIte,Nat.reduceEqDiff,w59,hld,q2,reduceCtorEq,w67]
    exact ⟨_,_,⟨m,i,line,frm,V,rfl,rfl,hJ,hpm2⟩,by simp only [↓qi,qy,reduceIte,Nat.reduceEqDiff],by omega⟩
  have n35:¬ (c.toNat:Int)=35:=fun q=>c35 (j9.1 (by show c.toNat=35;omega))
  -- a token
  obtain ⟨L,hL⟩:∃ L,L=text.drop p:=⟨_,rfl⟩
  have hsk:skp false (text.drop p)=L:=by rw [hL,hd];exact qz4 (by rintro (q|q|q|q);exact c35 q;exact c32 q;exact c9 q;exact c10 q)
  rw [hsk] at hpl
  have hLl:L.length=text.length-p:=by rw [hL,zy]
  have hLn:L ≠ []:=fun q=>by rw [q] at hLl;simp at hLl;omega
  have t1:=qso L
  have t2:=qm7 hLn
  have sF:Op.sliceStr [some 0,none] [.str text,.int .i64 (p:Nat)]=some (.str L):=by rw [hL];exact qu4 hle
  have s2:Op.sliceStr [some 0,some 1] [.str text,.int .i64 (p:Nat),.int .i64 ((p+tkn L:Nat):Int)]=some (.str (tok L)):=by
   rw [qo7 (by omega) (by omega),qc2,show p+tkn L-p=tkn L by omega,<-hL];rfl
  have wt:wrapI .i64 ((p:Int)+((tkn L:Nat):Int))=((p+tkn L:Nat):Int):=by rw [kr (by omega) (by omega)];omega
  have wc1:wrapI .i64 ((p:Int)-frm)=(p:Int)-frm:=kr (by omega) (by omega)
  have wc2:wrapI .i64 ((p:Int)-frm+1)=(p:Int)-frm+1:=kr (by omega) (by omega)
  simp only [↓qi,qy,reduceIte,Nat.reduceEqDiff,w7,hld,q1,w13,ix,w25,n10,w31,n32,n9,w38,w41,n35,w46,reduceCtorEq,w69,sF]
  refine C3.q (qz2 (M:=M) (by omega)) fun v Hy ⟨hv,fy⟩=>?_
  subst hv
  have hldy:=ld (hI.fr.em fy)
  have hrec:((places text).map fun L=>[AV.agg (encT (recOf text L))])[i]? = some [.agg [.str (tok L),.int .i64 line,.int .i64 ((p:Int)-frm+1)]]:=by
   rw [x5,hpl]
   have e:text.length-L.length=p:=by omega
   simp only [wg,recOf,lcOf,e,encT,<-hI.ln,<-hI.cl]
  have hv3:∀ (x:AV) (K:Bool->AFn->List AV->Prop),V3 true [.fn (.yield Y) [] [],x] K=K true (.yield Y) [x]:=fun x K=>qq2 Y [] [x] K
  have hlt2:=lc_tok (text:=text) (p:=p) (n:=tkn L) (by rw [<-hL];exact tok_no10 (by rw [hL,hd]) c10) (by omega)
  obtain ⟨bb,H2,W2,hr,hf,hW2,ht,hs⟩:=round fy hrec
  simp only [↓qi,qy,reduceIte,Nat.reduceEqDiff,w71,hldy,wt,s2,wc1,wc2,bdT,hv3]
  refine C3.yret hr ?_
  cases bb with
  | true =>
   simp only [↓qi,qy,reduceIte,Nat.reduceEqDiff,w77,wt]
   refine ⟨_,_,⟨p+tkn L,i+1,line,frm,W2,rfl,rfl,⟨by omega,?_,?_,ht rfl,hW2,hf⟩,?_⟩,by simp only [↓qi,qy,reduceIte,Nat.reduceEqDiff],by omega⟩
   ·rw [hlt2];exact hI.ln
   ·rw [hlt2];have:=hI.cl;show ((p+tkn L:Nat):Int)-frm+1=(lc (text.take p)).2+(tkn L:Nat);omega
   ·rw [qpc text i L hpl hLn,Lang.adv,hL,qc1]
  | false =>
   simp only [↓qi,qy,reduceIte,Nat.reduceEqDiff]
   exact ⟨W2,hf.mono fun _ _ q=>.inl q,hW2,.inr (hs rfl)⟩
 ·have q1:¬ (p:Int)<(text.length:Nat):=by omega
  have hp:p=text.length:=by omega
  rw [zx hge] at hpl
  have hend:=qxl text i hpl
  have wc1:wrapI .i64 (((text.length:Nat):Int)-frm)=((text.length:Nat):Int)-frm:=kr (by omega) (by omega)
  have wc2:wrapI .i64 (((text.length:Nat):Int)-frm+1)=((text.length:Nat):Int)-frm+1:=kr (by omega) (by omega)
  have hrec:((places text).map fun L=>[AV.agg (encT (recOf text L))])[i]? = some [.agg [.str [],.int .i64 line,.int .i64 (((text.length:Nat):Int)-frm+1)]]:=by
   rw [x5,hpl]
   have h1:=hI.ln
   have h2:=hI.cl
   rw [hp] at h1 h2
   have e:text.length-([]:Tk).length=text.length:=rfl
   simp only [skp,wg,recOf,lcOf,e,encT,<-h1,<-h2,qc0]
  have hv3:∀ (x:AV) (K:Bool->AFn->List AV->Prop),V3 true [.fn (.yield Y) [] [],x] K=K true (.yield Y) [x]:=fun x K=>qq2 Y [] [x] K
  obtain ⟨bb,H2,W2,hr,hf,hW2,ht,hs⟩:=round (Fr.refl _) hrec
  simp only [↓qi,qy,reduceIte,Nat.reduceEqDiff,w7,hld,q1,reduceCtorEq,w78,wc1,wc2,bdTe,hv3]
  refine C3.yret hr ?_
  simp only [↓qi,qy,reduceIte,Nat.reduceEqDiff]
  refine ⟨W2,hf.mono fun _ _ q=>.inl q,hW2,?_⟩
  cases bb with
  | true=>left;rw [<-hend];exact ht rfl
  | false=>exact .inr (hs rfl)
end Go.Am
namespace Go.Am
open Lang Go.Proofs
variable {M:Mac} [MK M]
theorem qvt {H:AHeap} {s:Tk}:y9 M qcp [.str s] H fun v H'=>v=.fn (.func kz) [] [.ptr H.next 0]/\H'=H.alloc (OR [.str s] qcq):=by
 refine qrn ?_
 have cs:AV.cells (.str s)=[.str s]:=rfl
 have mk:Op.mkFunc kz 0 [.ptr H.next 0]=some (.fn (.func kz) [] [.ptr H.next 0]):=rfl
 simp only [↓qi,qy,reduceIte,Nat.reduceEqDiff,qro,cs,mk]
 rfl
theorem tks_of {text:Tk} (h:text.length<900000):TKs (places text) ((places text).map (recOf text)):=by
 refine ⟨fun i L hi=>⟨(lcOf text L).1,(lcOf text L).2,by rw [x5,hi];rfl⟩,qpc text,by have:=qqp text;omega,fun L hL=>?_⟩
 have:=qxm text L hL
 unfold tok
 rw [jk];omega
structure PaI (H:AHeap) (text:Tk) (i:Nat) (V:Nat->Prop) (Hx:AHeap):Prop where
 vr:V H.next
 vq:V (H.next+1)
 lt:H.next+1<Hx.next
 g2:Hx.get (H.next+1)=some (OR [.ptr H.next 0] ya)
 ls:∃ lv,Hx.get H.next=some (OR [lv,.int .i64 0,.nils,.int .i64 0,.bool false,.bool false] vw)/\OwnT encT wh 3 Hx lv (((places text).map (recOf text)).take i) /\ ∀ b,OnS lv b->V b/\H.next+2<=b
theorem PaI.loc {H:AHeap} {text:Tk} {i:Nat} {V:Nat->Prop} {H1 H2:AHeap} (h:PaI H text i V H1) (hs:∀ b,V b->H2.get b=H1.get b) (hn:H1.next<=H2.next):PaI H text i V H2:=by
 obtain ⟨lv,l1,l2,l3⟩:=h.ls
 refine ⟨h.vr,h.vq,qj h.lt hn,by rw [hs _ h.vq];exact h.g2,lv,by rw [hs _ h.vr];exact l1,?_,l3⟩
 exact Own.fr l2 (⟨hn,fun b _ hw=>hs b (Classical.not_not.1 hw)⟩:Fr (fun b=>¬ V b) H1 H2) fun x hx w=>w (l3 x hx).1
theorem pcellsR:Op.build [.nils,.int .i64 0,.nils,.int .i64 0,.bool false,.bool false] [] []=some (.agg [.nils,.int .i64 0,.nils,.int .i64 0,.bool false,.bool false]):=rfl
def ParseR (text:Tk) (p:Ls) (τ:PS) (H:AHeap) (v:AV) (H':AHeap):Prop:=Fr Em H H'/\match τ with
 | .bad L=>v=.tuple [.nils,.int .i64 (lcOf text L).1,.int .i64 (lcOf text L).2,.int .i64 180]
 | .ok _=>∃ nv,v=.tuple [nv,.int .i64 0,.int .i64 0,.int .i64 0]/\Nds H' nv (p.encL 0)
theorem qwv {H:AHeap} {text:Tk} (hl:text.length<900000) (hE:Ers H) {p:Ls} {τ:PS} (hP:P (.sts []) 0 false (.ok (skp false text)) (.l p) τ):y9 M qa3 [.str text] H (ParseR text p τ H):=by
 refine qtb ?_
 obtain ⟨w0,-,-,w4,w9,w11,w19⟩:=qm2 M ⟨none,qa3⟩
 obtain ⟨H1,e1⟩:∃ X,X=H.alloc (OR [.nils,.int .i64 0,.nils,.int .i64 0,.bool false,.bool false] vw):=⟨_,rfl⟩
 have n1:H1.next=H.next+1:=by rw [e1,jh]
 have st:Op.store 1 [.ptr H1.next 0,.ptr H.next 0] (H1.alloc (OR [.nilp] ya))=some (.undef,H1.alloc (OR [.ptr H.next 0] ya)):=qt6 H1 [.nilp] _ 1 (.ptr H.next 0) rfl rfl rfl
 obtain ⟨H2,e2⟩:∃ X,X=H1.alloc (OR [.ptr H.next 0] ya):=⟨_,rfl⟩
 rw [<-e2] at st
 have f1:Fr Em H H1:=by rw [e1];exact (Fr.refl H).alloc _
 have f2:Fr Em H1 H2:=by rw [e2];exact (Fr.refl H1).alloc _
 have f02:=f1.trans f2 fun _ q=>q.elim
 have n2:H2.next=H.next+2:=by rw [e2,jh,n1]
 have g2:H2.get (H.next+1)=some (OR [.ptr H.next 0] ya):=by rw [e2,<-n1,jb]
 have g1:H2.get H.next=some (OR [.nils,.int .i64 0,.nils,.int .i64 0,.bool false,.bool false] vw):=by rw [f2.keep _ (by omega) id,e1,jb]
 simp only [↓qi,qy,reduceIte,Nat.reduceEqDiff,w0,pcellsR,qkm,<-e1,st,w4]
 refine C3.q (qvt (M:=M)) fun v H3 ⟨hv,hh⟩=>?_
 subst hv
 have f3:Fr Em H2 H3:=by rw [hh];exact (Fr.refl H2).alloc _
 have n3:H3.next=H2.next+1:=by rw [hh,jh]
 have g3:H3.get H2.next=some (OR [.str text] qcq):=by rw [hh,jb]
 have f03:=f02.trans f3 fun _ q=>q.elim
 rw [n1]
 refine RNG3.iter (fn:=qcf) (lp:=qbv) (pa:=qkt 0) (pb:=qku 0) qri qjk.1 qjk.2 (by decide) ⟨rfl,qpa qbv.assign⟩ ⟨rfl,qpa qbv.body⟩
  (q0h (M:=M) g3 (by omega) (by omega)) (fun i V Hx=>PaI H text i V Hx) (fun _ _ _=>False) (fun b=>b=H.next\/b=H.next+1) (qf _) ?_ ?_ ?_ ?_ ?_ ?_ ?_ ?_
 ·rintro b (rfl|h)
  ·exact ⟨by omega,rfl,fun q=>by omega⟩
  ·exact h.elim
 ·exact fun b hb=>by omega
 ·exact ⟨.inl rfl,.inr rfl,by omega,by rw [f3.keep _ (by omega) id];exact g2,.nils,by rw [f3.keep _ (by omega) id];exact g1,Own.nil ..,fun b q=>(q.1 rfl).elim⟩
 ·exact fun i V Ha Hb h hs hn=>h.loc hs hn
 ·exact fun e V Ha Hb h _ _=>h
 ·-- a token more
  intro L2 i lr lb x hx hL2 V H4 hPI hV hf4 hnL hL4 hgL
  rw [x5,ze] at hx
  obtain ⟨L,hLi,rfl⟩:=hx
  refine ⟨_,rfl,?_⟩
  obtain ⟨-,wa,wb,-⟩:=qm2 M ⟨some L2,qa3⟩
  obtain ⟨tk,hrec⟩:∃ tk,tk=recOf text L:=⟨_,rfl⟩
  rw [<-hrec]
  have st4:Op.store 3 [.ptr H4.next 0,.agg (encT tk)] (H4.alloc (OR [.str [],.int .i64 0,.int .i64 0] wh))=some (.undef,H4.alloc (OR (encT tk) wh)):=qt6 H4 _ _ 3 (.agg (encT tk)) rfl rfl rfl
  obtain ⟨H5,e5⟩:∃ X,X=H4.alloc (OR (encT tk) wh):=⟨_,rfl⟩
  rw [<-e5] at st4
  have f5:Fr Em H4 H5:=by rw [e5];exact (Fr.refl H4).alloc _
  have n5:H5.next=H4.next+1:=by rw [e5,jh]
  have g5:H5.get H4.next=some (OR (encT tk) wh):=by rw [e5,jb]
  simp only [↓qi,qy,reduceIte,Nat.reduceEqDiff,wa,st4,qwp]
  refine ⟨by rw [f5.keep L2 hL4 id];exact hgL,?_⟩
  have hs6:Fr (On L2) H5 (H5.set L2 lb):=(Fr.refl H5).set (W:=On L2) (.inl rfl) _
  have fx:Fr (On L2) H4 (H5.set L2 lb):=((f5.mono fun _ _ q=>q.elim).trans hs6 fun x q=>.inl q)
  have hP6:=hPI.loc (H2:=H5.set L2 lb) (fun b hb=>fx.keep b (hV b hb).1 (fun (q:b=L2)=>hnL (q ▸ hb))) fx.next
  have g6:(H5.set L2 lb).get H4.next=some (OR (encT tk) wh):=by rw [ql5 (by omega),g5]
  have gL6:(H5.set L2 lb).get L2=some lb:=yk ..
  have n6:(H5.set L2 lb).next=H4.next+1:=n5
  generalize H5.set L2 lb=H6 at *
  obtain ⟨lv,l1,l2,l3⟩:=hP6.ls
  have lq:∀ {Hy:AHeap},Hy.get (H.next+1)=some (OR [.ptr H.next 0] ya)->Op.load1 [.ptr (H.next+1) 0] Hy=some (.ptr H.next 0):=fun q=>by rw [vy (kh q)];rfl
  have lr0:Op.load1 [.ptr H.next 0] H6=some lv:=by rw [vy (kh l1)];rfl
  have ldx:Op.loadN 3 [.ptr H4.next 0] H6=some (.agg (encT tk)):=by rw [qv9 (kh g6) (by rw [qnm];decide)];rfl
  have hil:i<(places text).length:=(xb.1 hLi).1
  have hpl:=qqp text
  have htl:(((places text).map (recOf text)).take i).length<=900000:=by rw [jk];omega
  simp only [↓qi,qy,reduceIte,Nat.reduceEqDiff,wb,lq hP6.g2,qg,lr0,ldx]
  refine append3 (e:=wh) (size:=3) (bytes:=32) l2 (zero:=[.str [],.int .i64 0,.int .i64 0]) (x:=.agg (encT tk)) rfl rfl rfl (by decide) (by omega) (by omega) fun lv' H7 hlv' hf hfr=>?_
  have q7:H7.get (H.next+1)=some (OR [.ptr H.next 0] ya):=by rw [hf.keep _ (by have:=hP6.lt;omega) fun q=>by have:=(l3 _ q).2;omega];exact hP6.g2
  have r7:H7.get H.next=some (OR [lv,.int .i64 0,.nils,.int .i64 0,.bool false,.bool false] vw):=by rw [hf.keep _ (by have:=hP6.lt;omega) fun q=>by have:=(l3 _ q).2;omega];exact l1
  have o1:oneCell lv'=true:=by have:=Sl.one (Own.sl hlv');exact this
  have oc:lv'.cells=[lv']:=by cases lv'<;>first|rfl|cases o1
  have st8:=qc7 r7 (o:=0) (n:=1) (v:=lv') (by rw [oc];rfl) (by simp) (by rw [oc];exact (by rw [qex,List.all_cons,o1];rfl))
  rw [oc] at st8
  obtain ⟨H8,e8⟩:∃ X,X=H7.set H.next (OR [lv',.int .i64 0,.nils,.int .i64 0,.bool false,.bool false] vw):=⟨_,rfl⟩
  have st8:Op.store 1 [.ptr H.next 0,lv'] H7=some (.undef,H8):=by rw [e8];exact st8
  have f8:Fr (On H.next) H7 H8:=by rw [e8];exact (Fr.refl H7).set (W:=On H.next) (.inl rfl) _
  simp only [↓qi,qy,reduceIte,Nat.reduceEqDiff,lq q7,qki,qg,st8]
  have hlo:H.next+2<=H4.next:=by have:=hf4.next;omega
  have hgL8:H8.get L2=some lb:=by
   rw [f8.keep L2 (qj (by omega) hf.next) (fun (q:L2=H.next)=>by omega),hf.keep L2 (by omega) fun q=>hnL (l3 _ q).1];exact gL6
  have lo':∀ b,OnS lv' b->H.next+2<=b:=fun b q=>(hfr b q).elim (fun q=>(l3 b q).2) fun q=>by omega
  refine ⟨rfl,hgL8,fun b=>V b\/OnS lv' b,?_,?_,.inl ⟨rfl,⟨.inl hPI.vr,.inl hPI.vq,?_,?_,lv',?_,?_,fun b q=>⟨.inr q,lo' b q⟩⟩⟩⟩
  ·rintro b (q|q)
   ·exact ⟨qj (hV b q).1 (by have:=hf.next;have:=f8.next;omega),.inl q⟩
   ·refine ⟨qj (Own.lt hlv' b q) f8.next,?_⟩
    rcases hfr b q with w|w
    ·exact .inl (l3 b w).1
    ·exact .inr (by omega)
  ·have a1:Fr (fun b=>V b\/b=L2) H4 H6:=fx.mono fun x _ q=>.inr q
   exact (a1.trans hf fun x hx=>.inl (.inl (l3 x hx).1)).trans f8 fun x hx=>.inl (.inl (by rw [show x=H.next from hx];exact hPI.vr))
  ·have:=hP6.lt;have:=hf.next;have:=f8.next;omega
  ·rw [f8.keep _ (by have:=hP6.lt;have:=hf.next;omega) (fun (q:H.next+1=H.next)=>by omega)];exact q7
  ·rw [e8,yk]
  ·have hx2:((places text).map (recOf text)).take (i+1)=((places text).map (recOf text)).take i ++ [tk]:=by
    rw [List.take_add_one,x5,hLi,hrec];rfl
   rw [hx2]
   have ow:OwnT encT wh 3 H7 lv' (((places text).map (recOf text)).take i ++ [tk]):=by
    unfold OwnT
    rw [qe,vl]
    have w:=hlv'
    rw [qkm] at w
    simpa using w
   exact Own.fr ow f8 fun x hx (q:x=H.next)=>by have:=lo' x hx;omega
 ·-- behind all of them
  intro d V Hd hd1 hd2 hgd hfd hVd hPI
  obtain ⟨lv,l1,l2,l3⟩:=hPI.ls
  rw [qn] at l2
  have hrs:((places text).map (recOf text)).take (places text).length=(places text).map (recOf text):=ji (by rw [qn];exact qf _)
  rw [hrs] at l2
  have f0d:Fr Em H Hd:=⟨xw f03.next hfd.next,fun b hb _=>by rw [hfd.keep b (by omega) (fun q=>q.elim (fun q=>by rcases q with q|q<;>omega) id),f03.keep b hb id]⟩
  have hT:=tks_of hl
  obtain ⟨c,hc⟩:∃ c:RBk,c=⟨H,H.next,lv,places text,(places text).map (recOf text)⟩:=⟨_,rfl⟩
  have c1:c.H0=H:=by rw [hc]
  have c2:c.r=H.next:=by rw [hc]
  have c3:c.S=places text:=by rw [hc]
  have c4:c.rs=(places text).map (recOf text):=by rw [hc]
  have c5:c.lv=lv:=by rw [hc]
  have hT':TKs c.S c.rs:=by rw [c3,c4];exact hT
  have hlt:=hPI.lt
  have h0:RS c Hd .nils [] (.ok (skp false text)) 0 0 false:=by
   rw [hc]
   refine ⟨⟨0,false,⟨l1,qf _,(by show H.next<Hd.next;omega),⟨Own.nil ..,f0d,fun b q=>(q.1 rfl).elim⟩,(fun z hz=>by cases hz),fun q=>q.1 rfl⟩,fun _=>⟨rfl,rfl⟩⟩,OwnT.sl l2,?_,qpb text⟩
   rcases Nat.eq_zero_or_pos ((places text).map (recOf text)).length with q|q
   ·exact .inl q
   ·refine .inr ⟨(Sl.at (by decide) (OwnT.sl l2) q).1,fun w=>?_,fun w=>w.1 rfl,fun z hz=>by cases hz⟩
    have hn:lv ≠ .nils:=fun e=>by
     have:=(OwnT.sl l2).2
     rw [e] at this
     have:((places text).map (recOf text)).length=0:=this
     omega
    have:=(l3 _ ⟨hn,rfl⟩).2
    have w:slB lv=H.next:=w
    omega
  have hSL:PSL M c [] p (.ok (skp false text)) 0 false τ:=qxr hT' (by rw [c1];exact hE) hP (fun _=>by decide)
  have bq:Bs Hd c.r .nils [] (H.next+1):=⟨by omega,by rw [c2];omega,fun q=>q.1 rfl,fun z hz=>by cases hz⟩
  have bd:Bs Hd c.r .nils [] d:=⟨hd2,by rw [c2];omega,fun q=>q.1 rfl,fun z hz=>by cases hz⟩
  have lq:∀ {Hy:AHeap},Hy.get (H.next+1)=some (OR [.ptr H.next 0] ya)->Op.load1 [.ptr (H.next+1) 0] Hy=some (.ptr H.next 0):=fun q=>by rw [vy (kh q)];rfl
  simp only [↓qi,qy,reduceIte,Nat.reduceEqDiff,w9,lq hPI.g2]
  rw [<-c2]
  refine C3.q (qsn (M:=M) (d:=0) hSL h0 (by simp)) fun v H9 ⟨nv,zs,k,ks,h9,p9,hd9,hks,hkl,hbs,hv⟩=>?_
  have q9:H9.get (H.next+1)=some (OR [.ptr H.next 0] ya):=by rw [bq.keep p9];exact hPI.g2
  have gd9:H9.get d=some (.deferred (some [])):=by rw [bd.keep p9];exact hgd
  have lq9:=lq q9
  rw [<-c2] at lq9
  have hk9:=h9.sz hT'
  obtain ⟨o1,a1,ns9,_⟩:=h9.ns
  have f9:Fr Em H H9:=by have:=ns9.nw.fr;rw [c1] at this;exact this
  have f10:∀ {Hx:AHeap},Fr Em H Hx->Fr Em H (Hx.set d (.deferred none)):=fun f=>f.set (.inr (by omega)) _
  cases τ with
  | bad L =>
   have l5:Op.load1 [.ptr c.r 5] H9=some (.bool true):=h9.ld5
   have l0:Op.load1 [.ptr c.r 0] H9=some c.lv:=ns9.ld 0
   have l1':=h9.ld1
   have hrk:c.rs[k]? = some (recOf text L):=by
    have:=h9.ps
    rw [c3] at this
    rw [c4,x5,this];rfl
   have ix:=h9.tk.idx hrk rfl .i64 (z:=(k:Int))
   have x1:Op.load1 [.ptr (slB c.lv) (slO 3 c.lv k+1)] H9=some (.int .i64 (lcOf text L).1):=h9.tk.load1 qnm hrk (j:=1) (by decide)
   have x2:Op.load1 [.ptr (slB c.lv) (slO 3 c.lv k+2)] H9=some (.int .i64 (lcOf text L).2):=h9.tk.load1 qnm hrk (j:=2) (by decide)
   rw [<-c2] at *
   simp only [↓qi,qy,reduceIte,Nat.reduceEqDiff,w11,lq9,qg,l5,l0,l1',ix,x1,x2,qx5]
   exact ⟨gd9,f10 f9,rfl⟩
  | ok L =>
   have l5:Op.load1 [.ptr c.r 5] H9=some (.bool false):=h9.ld5
   obtain ⟨hks2,hz⟩:=hv rfl
   rw [<-c2] at *
   simp only [↓qi,qy,reduceIte,Nat.reduceEqDiff,w11,lq9,qg,l5,w19]
   refine C3.q (qa5 (M:=M) h9 (by omega) hks (by omega)) fun w Ha ⟨nv',kv,hw,ha,pa⟩=>?_
   have qa:Ha.get (c.r+1)=some (OR [.ptr c.r 0] ya):=by rw [(bq.step p9).keep pa];exact q9
   have gda:Ha.get d=some (.deferred (some [])):=by rw [(bd.step p9).keep pa];exact gd9
   have lqa:Op.load1 [.ptr (c.r+1) 0] Ha=some (.ptr c.r 0):=by rw [vy (kh qa)];rfl
   have l2a:=ha.ld2
   simp only [↓qi,qy,reduceIte,Nat.reduceEqDiff,lqa,qg,l2a,qwr]
   obtain ⟨o2,a2,nsa,_⟩:=ha.ns
   have fa:Fr Em H Ha:=by have:=nsa.nw.fr;rw [c1] at this;exact this
   refine ⟨gda,f10 fa,nv',rfl,?_⟩
   have nsb:=nsa.only (H':=Ha.set d (.deferred none)) ((Fr.refl Ha).set (W:=On d) (.inl rfl) _) fun b (q:b=d)=>by subst q;exact ⟨(bd.step p9).step pa,by rw [c1];omega⟩
   refine ⟨_,?_,nsb.nw.sl,fun z hz=>(nsb.kd z hz).1⟩
   rw [jt,hz,hks2]
   simp [Ls.encL]
 ·exact fun e d V Hd _ _ _ _ _ _ h=>h.elim
end Go.Am
