/- LqJ8: RnE RnF RnG RnH RnI RnJ. -/
import Derived.Test.YtbimikjajohflaaDoorAmJLqJ7
import Derived.Test.YtbimikjajohflaaDoorAmJLqJ0
import Derived.Test.YtbimikjajohflaaDoorAmJLqJ6
import Derived.Test.YtbimikjajohflaaDoorAmJLqJ5
set_option linter.unusedVariables false
set_option linter.unusedSimpArgs false
set_option linter.unusedSectionVars false
set_option maxRecDepth 100000
namespace Go.Am
open Lang Go.Proofs
variable {M:Mac} [MK M]
theorem qoq {H0:AHeap} {tv:AV} {ts:List Nd} (hn:Nds H0 tv ts) (ht:ts.length<=2000) (l:Ls) (hsp:∀ s ∈ sts l,DSR M H0 tv ts s):LR M H0 tv ts l:=by
 intro H r bb wv a s hs ho hsm h
 refine qsq ?_
 obtain ⟨hnd,-⟩:=Seg.nd (x:=.l l) hs
 have hse:Seg ts bb (l.enc bb):=hs.left
 have hsz:(It.l l).sz=l.sz+1:=rfl
 rw [hsz,show bb+(l.sz+1)-1=bb+l.sz by omega] at hnd
 have hnd':(It.l l).nd bb=⟨20,0,ints (l.ends bb)⟩:=by simp [It.nd,It.kn,It.ks,Ls.its_ends]
 rw [hnd'] at hnd
 obtain ⟨ka,ha,e2,e3,e4,h1,l1,k1⟩:=qz5 hn h hnd
 have hlen:=qwp l
 have hlt:=Seg.lt (x:=.l l) hs
 rw [hsz] at hlt
 obtain ⟨w0,w2,-,w6,-,-,w21,w11,-,-,-,w17,-,-,w20,-,-,-,-,-,-,-,-,-,-,-,-,-,-,-⟩:=qfs M ⟨none,yd⟩
 have t20:=x8 (show (20:Int)=20 from rfl)
 simp only [↓qe,qt,reduceIte,Nat.reduceEqDiff,w0,w2,w6,e2,e3,e4,l1.ld,t20]
 rw [q4f]
 generalize H.alloc (OR [.int .i64 20,.int .u64 0,ka] qj)=H1 at *
 obtain ⟨p,hpe⟩:∃ p,p=H.next:=⟨_,rfl⟩
 rw [<-hpe] at e4 l1 ⊢
 refine LOOP3.intro (fun k E' H'=>∃ j sj wj,E'=[(9,.int .i64 (j:Nat)),(8,.ptr p 0),(0,tv),(2,.ptr r 0),(3,.bool a)]/\k=(sts l).length-j/\j<=(sts l).length/\SSt H0 H' r wj sj/\Fr (MW r wv) H1 H'/\(∀ b,OnS wj b->OnS wv b\/H1.next<=b)/\runs a ((sts l).drop j) sj=runs a (sts l) s) ?_ ?_
 ·exact ⟨_,_,⟨0,s,wv,rfl,rfl,by omega,h1,Fr.toM (Fr.refl _),fun b hb=>.inl hb,rfl⟩,by simp only [↓qe,qt,reduceIte,Nat.reduceEqDiff]⟩
 rintro k E' Hc ⟨j,sj,wj,rfl,rfl,hj,hw,hk,hon,hrun⟩
 have lc:=l1.mv hk
 have hal:=(ha.em hw.fr).len
 rw [que] at hal
 have fin:∀ s',sj=s'->RQ H0 H r wv s' Hc:=fun s' e=>by subst e;exact RQ.up ⟨wj,hw,hk,hon⟩ (Fr.toM k1)
 rcases j8 j (sts l).length with hlt|hge
 ·have q1:(j:Int)<((sts l).length:Nat):=by omega
  obtain ⟨x,hsj⟩:∃ x,(sts l)[j]? = some x:=⟨(sts l)[j],by simp [hlt]⟩
  have hm:=xo hsj
  obtain ⟨c,hkc,hsc⟩:=q5v hse hsj
  obtain ⟨i1,i2⟩:=kid_m ha hw.fr hkc (z:=(j:Int)) rfl
  rw [qnb hsj,runs] at hrun
  simp only [↓qe,qt,reduceIte,Nat.reduceEqDiff,w11,lc.ld,hal,q1]
  refine C3.q (q5t (M:=M) hw) fun v H2 ⟨hv,hh⟩=>?_
  subst hv;subst hh
  by_cases hon':sj.on
  ·rw [qw hon'] at hrun
   simp only [↓qe,qt,reduceIte,Nat.reduceEqDiff,ke hon',w17,lc.ld,i1 .i64,i2]
   refine C3.q (hsp x hm H2 r c wj a sj hsc (q2v l ho x hm) (qn4 l hsm x hm) hon' hw) fun v H3 hq=>?_
   obtain ⟨wj',h3,f3,o3⟩:=hq
   have wj1:wrapI .i64 ((j:Int)+1)=((j+1:Nat):Int):=by rw [zz (by omega) (by omega)];omega
   simp only [↓qe,qt,reduceIte,Nat.reduceEqDiff,w20,wj1]
   refine ⟨_,_,⟨j+1,x.run a sj,wj',rfl,rfl,by omega,h3,?_,fun b hb=>?_,hrun⟩,by simp only [↓qe,qt,reduceIte,Nat.reduceEqDiff],by omega⟩
   ·refine hk.trans f3 fun y hy=>?_
    rcases hy with q|q
    ·exact .inl (.inl q)
    ·exact (hon y q).imp (fun q=>.inr q) id
   ·rcases o3 b hb with q|q
    ·exact hon b q
    ·exact .inr (zr hk.next q)
  ·rw [qk hon'] at hrun
   simp only [↓qe,qt,reduceIte,Nat.reduceEqDiff,js hon',w21]
   exact fin _ hrun
 ·have q1:¬ (j:Int)<((sts l).length:Nat):=by omega
  rw [j6 hge,runs] at hrun
  simp only [↓qe,qt,reduceIte,Nat.reduceEqDiff,w11,w21,lc.ld,hal,q1]
  exact fin _ hrun
theorem rite_do {H0:AHeap} {tv:AV} {ts:List Nd} (hn:Nds H0 tv ts) (c:Cn) (l:Ls) (hl':LR M H0 tv ts l):DSR M H0 tv ts (.ite c l):=by
 intro H r bb wv a s hs ho hsm hon h
 obtain ⟨hnd,hks⟩:=Seg.nd (x:=.s (.ite c l)) hs
 have hsc:Seg ts bb (c.enc bb):=hks.cons.1
 have hsl:Seg ts (bb+c.sz) (l.encL (bb+c.sz)):=hks.cons.2.cons.1
 have hnd':(It.s (.ite c l)).nd bb=⟨16,0,[((bb+c.sz-1:Nat):Int),((bb+c.sz+l.sz:Nat):Int)]⟩:=by simp [It.nd,It.kn,It.ks,endsF,ints,It.sz]
 rw [hnd'] at hnd
 refine qoo hn h hon hnd (show (16:Int) ≠ 20 by decide) (show (16:Int) ≠ 17 by decide) (fun q=>by simp only [St.run,qw q]) fun hl ka p H2 ha h2 l2 f2=>?_
 simp only [St.run,qk hl]
 rw [qf2 hl] at h2 ⊢
 obtain ⟨i1,i2⟩:=kid_m ha h2.fr (i:=0) rfl (z:=0) rfl
 have t16:=x8 (show (16:Int)=16 from rfl)
 obtain ⟨-,-,-,-,-,-,-,-,-,-,-,-,w70,-,-,-,-,w95,-,-,w100,-,-,-,w106,-,-,w112,-,-⟩:=qfs M ⟨none,yd⟩
 simp only [↓qe,qt,reduceIte,Nat.reduceEqDiff,w70,w95,l2.ld,Int.reduceEq,t16,i1 .i64,i2]
 refine C3.q (qz6 hn c hsc ho.1 hsm.1 h2) fun v H3 ⟨hv,f3⟩=>?_
 have hv:v=.int .i64 (soI (c.so s.w s.v)):=hv
 subst hv
 have h3:=h2.em f3
 have l3:=l2.em f3
 have f23:=FrM.trans f2 (Fr.toM f3)
 cases hq:c.so s.w s.v with
 | none =>
  obtain ⟨H4,st,h4,f4⟩:=h3.seterr 111
  have st:Op.store 1 [.ptr r 12,.int .i64 111] H3=some (.undef,H4):=st
  simp only [↓qe,qt,reduceIte,Nat.reduceEqDiff,soI,w100,w106,w112,Int.reduceEq,Int.reduceLT,qo,st]
  exact RQ.at h4 (FrM.trans f23 f4)
 | some q =>
  cases q with
  | true =>
   obtain ⟨j1,j2⟩:=kid_m ha h3.fr (i:=1) rfl (z:=1) rfl
   simp only [↓qe,qt,reduceIte,Nat.reduceEqDiff,soI,w100,w106,Int.reduceEq,Int.reduceLT,l3.ld,j1 .i64,j2]
   refine C3.q (hl' H3 r _ wv a { s with left:=s.left-1 } hsl ho.2 hsm.2 h3) fun v H4 hq=>?_
   simp only [↓qe,qt,reduceIte,Nat.reduceEqDiff,w112,Int.reduceEq]
   exact RQ.up hq f23
  | false =>
   have hal:=(ha.em h3.fr).len
   have t1:¬ (([((bb+c.sz-1:Nat):Int),((bb+c.sz+l.sz:Nat):Int)].length:Nat):Int)=3:=by simp
   simp only [↓qe,qt,reduceIte,Nat.reduceEqDiff,soI,w100,w106,w112,Int.reduceEq,Int.reduceLT,l3.ld,hal,t1]
   exact RQ.at h3 f23
theorem rites_do {H0:AHeap} {tv:AV} {ts:List Nd} (hn:Nds H0 tv ts) (c:Cn) (l m:Ls) (hl':LR M H0 tv ts l) (hm':LR M H0 tv ts m):DSR M H0 tv ts (.ites c l m):=by
 intro H r bb wv a s hs ho hsm hon h
 obtain ⟨hnd,hks⟩:=Seg.nd (x:=.s (.ites c l m)) hs
 have hsc:Seg ts bb (c.enc bb):=hks.cons.1
 have hsl:Seg ts (bb+c.sz) (l.encL (bb+c.sz)):=hks.cons.2.cons.1
 have hse:Seg ts (bb+c.sz+(l.sz+1)) (m.encL (bb+c.sz+(l.sz+1))):=hks.cons.2.cons.2.cons.1
 have hnd':(It.s (.ites c l m)).nd bb=⟨16,0,[((bb+c.sz-1:Nat):Int),((bb+c.sz+l.sz:Nat):Int),((bb+c.sz+(l.sz+1)+m.sz:Nat):Int)]⟩:=by
  simp only [It.nd,It.kn,It.ks,endsF,ints,It.sz,xp,z8,Nd.mk.injEq,qu,jo,qbw]
  refine ⟨rfl,?_⟩
  constructor<;>omega
 rw [hnd'] at hnd
 refine qoo hn h hon hnd (show (16:Int) ≠ 20 by decide) (show (16:Int) ≠ 17 by decide) (fun q=>by simp only [St.run,qw q]) fun hl ka p H2 ha h2 l2 f2=>?_
 simp only [St.run,qk hl]
 rw [qf2 hl] at h2 ⊢
 obtain ⟨i1,i2⟩:=kid_m ha h2.fr (i:=0) rfl (z:=0) rfl
 have t16:=x8 (show (16:Int)=16 from rfl)
 obtain ⟨-,-,-,-,-,-,-,-,-,-,-,-,w70,-,-,-,-,w95,-,-,w100,-,-,-,w106,-,-,w112,-,-⟩:=qfs M ⟨none,yd⟩
 simp only [↓qe,qt,reduceIte,Nat.reduceEqDiff,w70,w95,l2.ld,Int.reduceEq,t16,i1 .i64,i2]
 refine C3.q (qz6 hn c hsc ho.1 hsm.1 h2) fun v H3 ⟨hv,f3⟩=>?_
 have hv:v=.int .i64 (soI (c.so s.w s.v)):=hv
 subst hv
 have h3:=h2.em f3
 have l3:=l2.em f3
 have f23:=FrM.trans f2 (Fr.toM f3)
 cases hq:c.so s.w s.v with
 | none =>
  obtain ⟨H4,st,h4,f4⟩:=h3.seterr 111
  have st:Op.store 1 [.ptr r 12,.int .i64 111] H3=some (.undef,H4):=st
  simp only [↓qe,qt,reduceIte,Nat.reduceEqDiff,soI,w100,w106,w112,Int.reduceEq,Int.reduceLT,qo,st]
  exact RQ.at h4 (FrM.trans f23 f4)
 | some q =>
  cases q with
  | true =>
   obtain ⟨j1,j2⟩:=kid_m ha h3.fr (i:=1) rfl (z:=1) rfl
   simp only [↓qe,qt,reduceIte,Nat.reduceEqDiff,soI,w100,w106,Int.reduceEq,Int.reduceLT,l3.ld,j1 .i64,j2]
   refine C3.q (hl' H3 r _ wv a { s with left:=s.left-1 } hsl ho.2.1 hsm.2.1 h3) fun v H4 hq=>?_
   simp only [↓qe,qt,reduceIte,Nat.reduceEqDiff,w112,Int.reduceEq]
   exact RQ.up hq f23
  | false =>
   have hal:=(ha.em h3.fr).len
   have t1:=x8 (show ((([((bb+c.sz-1:Nat):Int),((bb+c.sz+l.sz:Nat):Int),((bb+c.sz+(l.sz+1)+m.sz:Nat):Int)].length:Nat):Int))=3 from rfl)
   obtain ⟨j1,j2⟩:=kid_m ha h3.fr (i:=2) rfl (z:=2) rfl
   simp only [↓qe,qt,reduceIte,Nat.reduceEqDiff,soI,w100,w106,w112,Int.reduceEq,Int.reduceLT,l3.ld,hal,t1,j1 .i64,j2]
   refine C3.q (hm' H3 r _ wv a { s with left:=s.left-1 } hse ho.2.2 hsm.2.2 h3) fun v H4 hq=>?_
   simp only [↓qe,qt,reduceIte,Nat.reduceEqDiff]
   exact RQ.up hq f23
theorem rloop_do {H0:AHeap} {tv:AV} {ts:List Nd} (hn:Nds H0 tv ts) (c:Cn) (l:Ls) (hl':LR M H0 tv ts l):DSR M H0 tv ts (.loop c l):=by
 intro H r bb wv a s hs ho hsm hon h
 refine qsq ?_
 obtain ⟨hnd,hks⟩:=Seg.nd (x:=.s (.loop c l)) hs
 have hsc:Seg ts bb (c.enc bb):=hks.cons.1
 have hsl:Seg ts (bb+c.sz) (l.encL (bb+c.sz)):=hks.cons.2.cons.1
 have hnd':(It.s (.loop c l)).nd bb=⟨17,0,[((bb+c.sz-1:Nat):Int),((bb+c.sz+l.sz:Nat):Int)]⟩:=by simp [It.nd,It.kn,It.ks,endsF,ints,It.sz]
 rw [hnd'] at hnd
 obtain ⟨ka,ha,e2,e3,e4,h1,l1,k1⟩:=qz5 hn h hnd
 simp only [It.sz] at e2 e3
 simp only at e4 h1 l1 k1
 generalize H.alloc (OR [.int .i64 17,.int .u64 0,ka] qj)=H1 at *
 obtain ⟨p,hpe⟩:∃ p,p=H.next:=⟨_,rfl⟩
 rw [<-hpe] at e4 l1
 obtain ⟨w0,w2,w23,-,-,w27,-,-,-,w60,w30,-,-,w36,-,-,-,-,w39,-,-,-,-,w45,-,-,w47,-,w53,w59⟩:=qfs M ⟨none,yd⟩
 have t17:=x8 (show (17:Int)=17 from rfl)
 simp only [St.run]
 simp only [↓qe,qt,reduceIte,Nat.reduceEqDiff,w0,w2,w23,w27,e2,e3,<-hpe,e4,l1.ld,Int.reduceEq,t17]
 refine LOOP3.intro (fun k E' H'=>∃ sj wj,E'=[(8,.ptr p 0),(0,tv),(2,.ptr r 0),(3,.bool a)]/\SSt H0 H' r wj sj/\Fr (MW r wv) H1 H'/\(∀ b,OnS wj b->OnS wv b\/H1.next<=b)/\sj.left+1<=k/\loopF c.so (l.run a) k sj=loopF c.so (l.run a) (s.left+1) s) ?_ ?_
 ·exact ⟨s.left+1,_,⟨s,wv,rfl,h1,Fr.toM (Fr.refl _),fun b hb=>.inl hb,qf _,rfl⟩,by simp only [↓qe,qt,reduceIte,Nat.reduceEqDiff]⟩
 rintro k E' Hc ⟨sj,wj,rfl,hw,hf,hon',hk,hrun⟩
 obtain ⟨k,rfl⟩:∃ k',k=k'+1:=⟨k-1,by omega⟩
 have lc:=l1.mv hf
 have fin:∀ s' Hx,SSt H0 Hx r wj s'->Fr (MW r wj) Hc Hx->s'=loopF c.so (l.run a) (s.left+1) s->RQ H0 H r wv (loopF c.so (l.run a) (s.left+1) s) Hx:=by
  intro s' Hx hx fx e
  subst e
  refine RQ.up ⟨wj,hx,hf.trans fx fun y hy=>?_,hon'⟩ (Fr.toM k1)
  rcases hy with q|q
  ·exact .inl (.inl q)
  ·exact (hon' y q).imp (fun q=>.inr q) id
 rw [loopF] at hrun
 simp only [↓qe,qt,reduceIte,Nat.reduceEqDiff,w30]
 refine C3.q (q5t (M:=M) hw) fun v H2 ⟨hv,hh⟩=>?_
 subst hv;subst hh
 by_cases hsj:sj.on
 rotate_left
 ·rw [qk hsj] at hrun
  simp only [↓qe,qt,reduceIte,Nat.reduceEqDiff,js hsj,w60]
  exact fin sj H2 hw (Fr.toM (Fr.refl _)) hrun
 rw [qw hsj] at hrun
 simp only [↓qe,qt,reduceIte,Nat.reduceEqDiff,ke hsj,w36]
 refine C3.q (q2p (M:=M) hw) fun v H3 ⟨h3,f3⟩=>?_
 by_cases hl:sj.left=0
 ·rw [qw hl] at hrun
  have t1:¬ ((sj.pay.err:Nat):Int)=0:=by rw [qmh hl];simp
  simp only [↓qe,qt,reduceIte,Nat.reduceEqDiff,w39,qo,h3.l12,t1]
  exact fin _ H3 h3 f3 hrun
 rw [qk hl] at hrun
 have t1:=x8 (show ((sj.pay.err:Nat):Int)=0 by rw [qf2 hl];have:=hsj.2;simp only;omega)
 have l12:=h3.l12
 rw [qf2 hl] at h3 hrun l12 t1
 have lf3:Lc H3 r wj p [.int .i64 17,.int .u64 0,ka] qj:=by
  have:Lc H2 r wj p [.int .i64 17,.int .u64 0,ka] qj:=⟨lc.get,lc.lt,lc.nr,fun q=>(hon' p q).elim lc.ns fun q=>by have:=l1.lt;omega⟩
  exact this.mv f3
 obtain ⟨i1,i2⟩:=kid_m ha h3.fr (i:=0) rfl (z:=0) rfl
 simp only [↓qe,qt,reduceIte,Nat.reduceEqDiff,w39,w45,qo,l12,t1,lf3.ld,i1 .i64,i2]
 refine C3.q (qz6 hn c hsc ho.1 hsm.1 h3) fun v H4 ⟨hv,f4⟩=>?_
 have hv:v=.int .i64 (soI (c.so sj.w sj.v)):=hv
 subst hv
 have h4:=h3.em f4
 have lf4:=lf3.em f4
 have f34:=FrM.trans f3 (Fr.toM f4)
 cases hq:c.so sj.w sj.v with
 | none =>
  obtain ⟨H5,st,h5,f5⟩:=h4.seterr 111
  have st:Op.store 1 [.ptr r 12,.int .i64 111] H4=some (.undef,H5):=st
  rw [hq] at hrun
  simp only [↓qe,qt,reduceIte,Nat.reduceEqDiff,soI,w47,w53,Int.reduceEq,Int.reduceLT,qo,st]
  exact fin _ H5 h5 (FrM.trans f34 f5) hrun
 | some q =>
  rw [hq] at hrun
  cases q with
  | true =>
   obtain ⟨j1,j2⟩:=kid_m ha h4.fr (i:=1) rfl (z:=1) rfl
   simp only [↓qe,qt,reduceIte,Nat.reduceEqDiff,soI,w47,w53,w59,Int.reduceEq,Int.reduceLT,lf4.ld,j1 .i64,j2]
   refine C3.q (hl' H4 r _ wj a { sj with left:=sj.left-1 } hsl ho.2 hsm.2 h4) fun v H5 hq5=>?_
   obtain ⟨wj',h5,f5,o5⟩:=hq5
   have hle:=(l.les a { sj with left:=sj.left-1 }).left
   simp only at hle
   simp only [↓qe,qt,reduceIte,Nat.reduceEqDiff]
   refine ⟨k,_,⟨_,wj',rfl,h5,?_,fun b hb=>?_,by omega,hrun⟩,by simp only [↓qe,qt,reduceIte,Nat.reduceEqDiff],by omega⟩
   ·refine hf.trans (FrM.trans f34 f5) fun y hy=>?_
    rcases hy with q|q
    ·exact .inl (.inl q)
    ·exact (hon' y q).imp (fun q=>.inr q) id
   ·rcases o5 b hb with q|q
    ·exact hon' b q
    ·exact .inr (by have:=hf.next;have:=f34.next;omega)
  | false =>
   simp only [↓qe,qt,reduceIte,Nat.reduceEqDiff,soI,w47,w53,Int.reduceEq,Int.reduceLT]
   exact fin _ H4 h4 f34 hrun
end Go.Am
namespace Go.Am
open Lang Go.Proofs
variable {M:Mac} [MK M]
theorem ratom_do {H0:AHeap} {tv:AV} {ts:List Nd} (hn:Nds H0 tv ts) (l:Ls) (hl':LR M H0 tv ts l):DSR M H0 tv ts (.atom l):=by
 intro H r bb wv a s hs ho hsm hon h
 obtain ⟨hnd,hks⟩:=Seg.nd (x:=.s (.atom l)) hs
 have hsl:Seg ts bb (l.encL bb):=hks.cons.1
 have hnd':(It.s (.atom l)).nd bb=⟨18,0,[((bb+l.sz:Nat):Int)]⟩:=by simp [It.nd,It.kn,It.ks,endsF,ints,It.sz]
 rw [hnd'] at hnd
 refine qoo hn h hon hnd (show (18:Int) ≠ 20 by decide) (show (18:Int) ≠ 17 by decide) (fun q=>by simp only [St.run,qw q]) fun hl ka p H2 ha h2 l2 f2=>?_
 simp only [St.run,qk hl]
 rw [qf2 hl] at h2 ⊢
 have t18:=x8 (show (18:Int)=18 from rfl)
 have hfl:=h.fl
 have hwl:=h.wl
 have hv8:=h.v8
 obtain ⟨-,-,-,-,-,-,-,-,-,-,-,-,w70,-,-,-,-,w95,-,-,-,w120,-,-,-,w124,-,-,-,-⟩:=qfs M ⟨none,yd⟩
 have e1:Op.sliceTo 0 0 H2.next=Op.sliceTo 0 0 H2.next:=rfl
 have hf1:Fr Em H2 (H2.alloc (.row [] jp (0,0) true)):=(Fr.refl H2).alloc _
 have hx1:=h2.em hf1
 simp only [↓qe,qt,reduceIte,Nat.reduceEqDiff,w70,w95,w120,l2.ld,Int.reduceEq,t18,bsU,qo,hx1.l0]
 refine qym (e:=jp) (n:=0) (cells:=[]) ⟨rfl,.inl ⟨rfl,.inr ⟨H2.next,rfl,by rw [xi];omega⟩⟩⟩ hx1.nw.sl (flatU s.w) (by omega) (by show (0+s.w.length)*8<=_;omega) (by show 0+s.w.length<=_;omega) fun w' H3 hw' hf hfr=>?_
 rw [zb,zg] at hw'
 have hw':OwnT encU jp 1 H3 w' s.w:=hw'
 have f3:Fr Em H2 H3:=hf1.trans hf fun x hx=>.inr (by rw [hx.2];exact qf _)
 have fresh3:∀ b,OnS w' b->H2.next<=b:=fun b hb=>(hfr b hb).elim (fun q=>by rw [q.2];exact qf _) fun q=>zr hf1.next q
 have h3:=h2.em f3
 have l3:=l2.em f3
 have ldv:∀ {Hx:AHeap} {wx:AV} {s':MS},SSt H0 Hx r wx s'->Op.loadN 8 [.ptr r 1] Hx=some (.agg (regsA s'.v)):=by
  intro Hx wx s' hx
  rw [qbm (xg hx.row) (by simp [cellsS,regsA,hx.v8])]
  obtain ⟨v0,v1,v2,v3,v4,v5,v6,v7,e⟩:=qa3 (tv:=wx) (wv:=wx) (a:=true) hx.v8
  unfold cellsS regsA;simp only [e];rfl
 have e4:Op.store 8 [AV.ptr H3.next 0,AV.agg (regsA s.v)] (H3.alloc (OR [.int .u64 0,.int .u64 0,.int .u64 0,.int .u64 0,.int .u64 0,.int .u64 0,.int .u64 0,.int .u64 0] T__21))=some (.undef,H3.alloc (OR (regsA s.v) T__21)) :=
  qf3 H3 _ T__21 8 (.agg (regsA s.v)) rfl (by simp [AV.cells,regsA,hv8]) (by rw [qc0];simp [AV.cells,regsA,oneCell])
 obtain ⟨H4,eH4⟩:∃ X,X=H3.alloc (OR (regsA s.v) T__21):=⟨_,rfl⟩
 have f4:Fr Em H3 H4:=by rw [eH4];exact (Fr.refl H3).alloc _
 have h4:=h3.em f4
 have l4:=l3.em f4
 have c4:Lc H4 r wv H3.next (regsA s.v) T__21:=by rw [eH4];exact h3.new _ _
 rw [<-eH4] at e4
 have hw4:=Own.em hw' f4
 have ldv3:Op.loadN 8 [.ptr r 1] H3=some (.agg (regsA s.v)):=ldv (s':={ s with left:=s.left-1 }) h3
 obtain ⟨i1,i2⟩:=kid_m ha h4.fr (i:=0) rfl (z:=0) rfl
 simp only [↓qe,qt,reduceIte,Nat.reduceEqDiff,ldv3,e4,w124,l4.ld,i1 .i64,i2,qo]
 refine C3.q (hl' H4 r _ wv true { s with left:=s.left-1 } hsl ho.1 hsm h4) fun v H5 hq=>?_
 obtain ⟨w5,h5,f5,o5⟩:=hq
 have hsum:=l.sm true { s with left:=s.left-1 }
 unfold Sm at hsum
 simp only at hsum
 generalize l.run true { s with left:=s.left-1 } = fn at *
 have fH5:Fr (MW r wv) H H5:=FrM.trans (FrM.trans f2 (Fr.toM (f3.trans f4 fun _ q=>q.elim))) f5
 have n23:=f3.next
 have n34:=f4.next
 have n02:=f2.next
 by_cases he:fn.err=0
 ·have t0:=x8 (show ((fn.err:Nat):Int)=0 by omega)
  have wb:wrapI .i64 (((fn.blk:Nat):Int)+1)=((fn.blk+1:Nat):Int):=by rw [zz (by omega) (by omega)];omega
  have st:=jz h5.row (o:=10) (n:=1) (v:=.int .i64 ((fn.blk+1:Nat):Int)) rfl (by simp [cellsS,regsA,h5.v8]) rfl
  obtain ⟨h6,f6⟩:=h5.put (s':={ fn with blk:=fn.blk+1 }) (c:=(cellsS w5 fn).take 10++(AV.int .i64 ((fn.blk+1:Nat):Int)).cells++(cellsS w5 fn).drop (10+1)) (by
   obtain ⟨v0,v1,v2,v3,v4,v5,v6,v7,e⟩:=qa3 (tv:=wv) (wv:=wv) (a:=true) h5.v8
   unfold cellsS regsA;simp only [e];rfl) rfl h5.v8 h5.vr (by simp only;omega)
  simp only [↓qe,qt,reduceIte,Nat.reduceEqDiff,qo,h5.l12,t0,h5.l10,wb,st]
  simp only [qw he]
  refine ⟨w5,h6,fH5.trans f6 fun y hy=>?_,fun b hb=>(o5 b hb).imp id fun q=>by omega⟩
  rcases hy with q|q
  ·exact .inl (.inl q)
  ·exact (o5 y q).imp (fun q=>.inr q) fun q=>by omega
 ·have t0:¬ ((fn.err:Nat):Int)=0:=by omega
  have oc:oneCell w'=true:=Sl.one (Own.sl hw')
  have ocells:w'.cells=[w']:=qjk oc
  have lt4:=c4.lt
  have c5:Lc H5 r wv H3.next (regsA s.v) T__21:=c4.mv f5
  have hdis:∀ x,OnS w' x -> ¬ MW r wv x:=fun x hx q=>by
   have:=fresh3 x hx
   rcases q with q|q
   ·have:=h2.hi;omega
   ·have:=Own.lt h2.nw.own x q;omega
  have o5':OwnT encU jp 1 H5 w' s.w:=Own.fr hw4 f5 hdis
  have st6:=jz h5.row (o:=0) (n:=1) (v:=w') (by rw [ocells];rfl) (by simp [cellsS]) (by rw [ocells,qc0];simp [oc])
  have ce6:(cellsS w5 fn).take 0++w'.cells++(cellsS w5 fn).drop (0+1)=cellsS w' fn:=by rw [ocells];rfl
  rw [ce6] at st6
  obtain ⟨H6,e6⟩:∃ X,X=H5.set r (OR (cellsS w' fn) qz):=⟨_,rfl⟩
  have f6:Fr (fun x=>x=r) H5 H6:=by rw [e6];exact (Fr.refl H5).set (W:=fun x=>x=r) (.inl rfl) _
  have r6:H6.get r=some (OR (cellsS w' fn) qz):=by rw [e6];exact zf ..
  rw [<-e6] at st6
  have c6:Lc H6 r wv H3.next (regsA s.v) T__21:=c5.only f6 c5.nr
  have lv6:Op.loadN 8 [.ptr H3.next 0] H6=some (.agg (regsA s.v)):=by
   rw [qbm (xg c6.get) (by simp [regsA,hv8]),xl,qx (by simp [regsA,hv8])]
  have st7:=jz r6 (o:=1) (n:=8) (v:=.agg (regsA s.v)) (by simp [AV.cells,regsA,hv8]) (by simp [cellsS,regsA,h5.v8]) (by rw [qc0];simp [AV.cells,regsA,oneCell])
  have ce7:(cellsS w' fn).take 1++(AV.agg (regsA s.v)).cells++(cellsS w' fn).drop (1+8)=cellsS w' { fn with w:=s.w,v:=s.v }:=by
   obtain ⟨v0,v1,v2,v3,v4,v5,v6,v7,e⟩:=qa3 (tv:=wv) (wv:=wv) (a:=true) h5.v8
   unfold cellsS;simp only [regsA,e];simp [AV.cells]
  rw [ce7] at st7
  obtain ⟨H7,e7⟩:∃ X,X=H6.set r (OR (cellsS w' { fn with w:=s.w,v:=s.v }) qz):=⟨_,rfl⟩
  have f7:Fr (fun x=>x=r) H6 H7:=by rw [e7];exact (Fr.refl H6).set (W:=fun x=>x=r) (.inl rfl) _
  have r7:H7.get r=some (OR (cellsS w' { fn with w:=s.w,v:=s.v }) qz):=by rw [e7];exact zf ..
  rw [<-e7] at st7
  simp only [↓qe,qt,reduceIte,Nat.reduceEqDiff,qo,h5.l12,t0,st6,lv6,st7]
  simp only [qk he]
  have hr:∀ x,OnS w' x->x ≠ r:=fun x hx q=>hdis x hx (.inl q)
  have o7:OwnT encU jp 1 H7 w' s.w:=Own.fr (Own.fr o5' f6 hr) f7 hr
  have fH7:Fr (MW r wv) H H7:=(fH5.trans f6 fun x hx=>.inl (.inl hx)).trans f7 fun x hx=>.inl (.inl hx)
  have hlo:=h.lo
  have h0n:=h.fr.next
  refine ⟨w',⟨r7,hlo,qh h.hi fH7.next,⟨o7,h.nw.fr.trans fH7 fun x hx=>.inr ?_,fun b hb=>by have:=fresh3 b hb;omega⟩,fun q=>hr r q rfl,hv8,hwl,h.wr,h.vr,by have:=h5.fl;simp only;omega⟩,fH7,fun b hb=>.inr (by have:=fresh3 b hb;omega)⟩
  rcases hx with q|q
  ·rw [q];exact hlo
  ·exact h.nw.fresh x q
def LsR (M:Mac) (H0:AHeap) (tv:AV) (ts:List Nd) (l:Ls):Prop:=∀ s ∈ sts l,DSR M H0 tv ts s
mutual
theorem St_rdo {H0:AHeap} {tv:AV} {ts:List Nd} (hn:Nds H0 tv ts) (ht:ts.length<=2000):∀ x:Lang.St,DSR M H0 tv ts x
 | .set w x=>rset_do hn w x
 | .store x y=>xac hn x y
 | .ite c l=>rite_do hn c l (qoq hn ht l (quw hn ht l))
 | .ites c l m=>rites_do hn c l m (qoq hn ht l (quw hn ht l)) (qoq hn ht m (quw hn ht m))
 | .loop c l=>rloop_do hn c l (qoq hn ht l (quw hn ht l))
 | .atom l=>ratom_do hn l (qoq hn ht l (quw hn ht l))
 | .halt=>rhalt_do hn
theorem quw {H0:AHeap} {tv:AV} {ts:List Nd} (hn:Nds H0 tv ts) (ht:ts.length<=2000):∀ l:Ls,LsR M H0 tv ts l
 | .nil=>by intro s h;cases h
 | .cons x l=>by
  intro s h
  rcases x4.1 h with q|q
  ·rw [q];exact St_rdo hn ht x
  ·exact quw hn ht l s q
end
end Go.Am
namespace Go.Am
open Lang Go.Proofs
variable {M:Mac} [MK M]
theorem q2a {H:AHeap} {tv:AV} {t:List Nd} (h:NdI H tv t):yq M yh [tv] H fun v H'=>Fr Em H H' /\ ∃ s e,v=.tuple [.str s,.int .i64 e]/\(e=0 ↔ OkP t):=by
 have hsm:∀ {p:Ls},t=p.encL 0->p.small:=fun q=>Ls.small_of _ 0 fun y hy=>h.hi y (by rw [q];unfold Ls.encL;exact List.mem_append_left _ hy)
 by_cases hok:OkP t
 ·have hok':=hok
  obtain ⟨p,rfl,ho,hz,hp⟩:=hok'
  refine (qx3 h.nd h.kids ((qup h.lo).2 ⟨p,rfl,ho,hz⟩) ho (hsm rfl) hz).mono fun v H' ⟨hv,hf⟩=>⟨hf,_,_,hv,?_⟩
  exact ⟨fun _=>hok,fun _=>hp⟩
 ·cases hm:mayB t with
  | false =>
   refine (q98 h.nd h.kids hm).mono fun v H' ⟨hv,hf⟩=>⟨hf,[],2,hv,?_⟩
   exact ⟨fun q=>absurd q (by decide),fun q=>(hok q).elim⟩
  | true =>
   obtain ⟨p,rfl,ho,hz⟩:=(qup h.lo).1 hm
   refine (qx3 h.nd h.kids hm ho (hsm rfl) hz).mono fun v H' ⟨hv,hf⟩=>⟨hf,_,_,hv,?_⟩
   exact ⟨fun q=>(hok ⟨p,rfl,ho,hz,q⟩).elim,fun q=>(hok q).elim⟩
theorem qpz {H:AHeap} {tv wv:AV} {t:List Nd} {ws:List Int} {fuel:Int} (h:NdI H tv t) (hw:SlT encU 1 H wv ws):yq M qf9 [tv,wv,.int .i64 fuel] H fun v H'=>Fr Em H H' /\ ∃ q,v=.bool q/\(q=true ↔ MayR t ws.length fuel):=by
 refine q39 ?_
 simp only [↓qe,qt,reduceIte,Nat.reduceEqDiff,qhv]
 refine C3.q (q2a (M:=M) h) fun v H1 ⟨hf,s,e,hv,he⟩=>?_
 subst hv
 have hl:=hw.len
 by_cases h0:e=0
 ·by_cases h1:ws.length<=4096
  ·have t1:((ws.length:Nat):Int)<=4096:=by omega
   by_cases h2:0<=fuel
   ·by_cases h3:fuel<=1048576
    ·simp only [↓qe,qt,reduceIte,Nat.reduceEqDiff,qhv,x20,x21,x8 h0,hl,t1,h2,h3]
     exact ⟨hf,true,rfl,⟨fun _=>⟨h1,h2,h3,he.1 h0⟩,fun _=>rfl⟩⟩
    ·simp only [↓qe,qt,reduceIte,Nat.reduceEqDiff,qhv,x20,x21,x8 h0,hl,t1,h2,h3]
     exact ⟨hf,false,rfl,⟨fun q=>(by cases q),fun q=>(h3 q.2.2.1).elim⟩⟩
   ·simp only [↓qe,qt,reduceIte,Nat.reduceEqDiff,qhv,x20,x21,x8 h0,hl,t1,h2]
    exact ⟨hf,false,rfl,⟨fun q=>(by cases q),fun q=>(h2 q.2.1).elim⟩⟩
  ·have t1:¬ ((ws.length:Nat):Int)<=4096:=by omega
   simp only [↓qe,qt,reduceIte,Nat.reduceEqDiff,qhv,x20,x21,x8 h0,hl,t1]
   exact ⟨hf,false,rfl,⟨fun q=>(by cases q),fun q=>(h1 q.1).elim⟩⟩
 ·simp only [↓qe,qt,reduceIte,Nat.reduceEqDiff,qhv,x20,x21,h0]
  exact ⟨hf,false,rfl,⟨fun q=>(by cases q),fun q=>(h0 (he.2 q.2.2.2)).elim⟩⟩
abbrev noSC:List AV:=[.nils,.int .u64 0,.int .u64 0,.int .u64 0,.int .u64 0,.int .u64 0,.int .u64 0,.int .u64 0,.int .u64 0,.int .i64 0,.int .i64 0,.bool false,.int .i64 0]
structure RowS (H H':AHeap) (q r:Nat) (v:List Int):Prop where
 fr:Fr Em H H'
 gq:H'.get q=some (OR (regsA v) T__21)
 gr:H'.get r=some (OR noSC qz)
 lq:H.next<=q/\q<r
 lr:r<H'.next
theorem RowS.em {H H1 H2:AHeap} {q r:Nat} {v:List Int} (h:RowS H H1 q r v) (f:Fr Em H1 H2):RowS H H2 q r v:=by
 obtain ⟨h1,h2,h3,h4,h5⟩:=h
 exact ⟨h1.em f,by rw [f.keep q (by omega) id];exact h2,by rw [f.keep r (by omega) id];exact h3,h4,qh h5 f.next⟩
theorem q2q {H:AHeap} {tv wv:AV} {t:List Nd} {ws v:List Int} {n fuel:Int} {Q:AV->AHeap->Prop} (h:NdI H tv t) (hw:SlT encU 1 H wv ws) (hk:∀ H' q r b,RowS H H' q r v->(b=true ↔ MayR t ws.length fuel) ->
 W M ⟨none,qbf⟩ (qe7 4) true (FIN3 M [.cellN 13 10,.tmp 11] (RT3 Q)) [(12,.bool b),(11,.int .i64 0),(10,.ptr r 0),(8,.ptr q 0),(0,tv),(1,.int .i64 n),(2,wv),(3,.agg (regsA v)),(4,.int .i64 fuel)] [] H') :
 yq M qbf [tv,.int .i64 n,wv,.agg (regsA v),.int .i64 fuel] H Q:=by
 refine q4b ?_
 obtain ⟨w0,-,-⟩:=qpx M ⟨none,qbf⟩
 obtain ⟨H1,e1⟩:∃ X,X=H.alloc (OR (regsA v) T__21):=⟨_,rfl⟩
 obtain ⟨H2,e2⟩:∃ X,X=H1.alloc (OR noSC qz):=⟨_,rfl⟩
 have n1:H1.next=H.next+1:=by rw [e1,xi]
 have n2:H2.next=H1.next+1:=by rw [e2,xi]
 have f2:Fr Em H H2:=by rw [e2,e1];exact ((Fr.refl H).alloc _).alloc _
 simp only [↓qe,qt,reduceIte,Nat.reduceEqDiff,w0,qe4,<-e1,<-e2]
 refine C3.q (qpz (M:=M) (h.em f2) (hw.em f2)) fun v1 H3 ⟨f3,b,hv1,hb⟩=>?_
 subst hv1
 refine hk H3 _ _ b (RowS.em ⟨f2,?_,?_,⟨qf _,by omega⟩,by omega⟩ f3) hb
 ·rw [e2,wq (by omega),e1,xc]
 ·rw [e2,xc]
abbrev noSt:AV:=.agg noSC
theorem rRun_no {H:AHeap} {tv wv:AV} {t:List Nd} {ws v:List Int} {n fuel:Int} (h:NdI H tv t) (hw:SlT encU 1 H wv ws) (hno:¬ StepOk t n ws.length fuel) :
 yq M qbf [tv,.int .i64 n,wv,.agg (regsA v),.int .i64 fuel] H fun v' H'=>v'=.tuple [noSt,.int .i64 2]/\Fr Em H H':=by
 refine q2q h hw fun H2 q r b hr2 hb=>?_
 obtain ⟨-,w4,-⟩:=qpx M ⟨none,qbf⟩
 have bd:Op.build noSC [] []=some noSt:=rfl
 have st:=jz hr2.gr (o:=0) (n:=13) (v:=noSt) rfl (by simp) rfl
 have ee:noSC.take 0++noSt.cells++noSC.drop (0+13)=noSC:=rfl
 rw [ee] at st
 have ld:Op.loadN 13 [.ptr r 0] (H2.set r (OR noSC qz))=some noSt:=qbm (xg (zf ..)) (by simp)
 have hlq:=hr2.lq
 have fE:Fr Em H (H2.set r (OR noSC qz)):=hr2.fr.set (.inr (by omega)) _
 cases b with
 | false=>simp only [↓qe,qt,reduceIte,Nat.reduceEqDiff,w4,bd,st,ld];exact fE
 | true =>
  by_cases h1:n<0
  ·simp only [↓qe,qt,reduceIte,Nat.reduceEqDiff,w4,h1,bd,st,ld];exact fE
  have hln:=h.nd.len
  by_cases h2:((t.length:Nat):Int)<=n
  ·simp only [↓qe,qt,reduceIte,Nat.reduceEqDiff,w4,h1,hln,h2,bd,st,ld];exact fE
  obtain ⟨i,rfl⟩:∃ i:Nat,n=(i:Int):=⟨n.toNat,by omega⟩
  obtain ⟨x,hx⟩:∃ x,t[i]? = some x:=⟨t[i]'(by omega),by simp⟩
  obtain ⟨ka,_,_,q1,_,q2,_⟩:=(h.em hr2.fr).nd.get hx
  by_cases h3:x.k<14
  ·simp only [↓qe,qt,reduceIte,Nat.reduceEqDiff,w4,h1,hln,h2,q1,q2,h3,bd,st,ld];exact fE
  ·exact (hno ⟨hb.1 rfl,by omega,by omega,fun y hy=>by rw [yl,hx] at hy;injection hy with hy;subst hy;omega⟩).elim
theorem It_rdo {H0 H:AHeap} {tv wv:AV} {t:List Nd} (hn:Nds H0 tv t) (ht:t.length<=2000) (hlt:lt64 t) (x:It) (hx:x.isRun) {c r:Nat} {s:MS} (hs:Seg t c (x.enc c)) (ho:x.ok) (hon:s.on) (h:SSt H0 H r wv s) :
 yq M yd [tv,.int .i64 ((c+x.sz-1:Nat):Int),.ptr r 0,.bool false] H fun _ H'=>RQ H0 H r wv (x.run s) H':=by
 have hl:lt64 (x.enc c):=fun y hy=>hlt y (q4i hs y hy)
 cases x with
 | s x=>exact St_rdo hn ht x H r c wv false s hs ho (St.small_of x c hl) hon h
 | l x=>exact qoq hn ht x (quw hn ht x) H r c wv false s hs ho (Ls.small_of x c fun y hy=>hl y (List.mem_append_left _ hy)) h
 | e x=>exact hx.elim
 | c x=>exact hx.elim
structure EndS (H:AHeap) (r:MS) (v':AV) (H':AHeap):Prop where
 ex:∃ w',v'=.tuple [.agg (cellsS w' r),.int .i64 0]/\New encU jp 1 H H' w' r.w
 v8:r.v.length=8
theorem qry {w':AV} {r:MS} (h:oneCell w'=true):allOne (cellsS w' r)=true:=by
 rw [qc0,cellsS,List.all_cons,h,regsA]
 simp
 exact ⟨fun x _=>rfl,rfl,rfl,rfl,rfl⟩
theorem rRun_yes {H:AHeap} {tv wv:AV} {t:List Nd} {ws v:List Int} {n:Int} {F c:Nat} (h:NdI H tv t) (hw:SlT encU 1 H wv ws) (hv:v.length=8) (hwr:∀ x ∈ ws,u64 x) (hvr:∀ x ∈ v,u64 x) (hmay:MayR t ws.length F) (x:It) (hx:x.isRun) (hs:Seg t c (x.enc c)) (ho:x.ok) (hn:n=((c+x.sz-1:Nat):Int)) :
 yq M qbf [tv,.int .i64 n,wv,.agg (regsA v),.int .i64 (F:Nat)] H (EndS H (x.run ⟨ws,v,F,0,false,0⟩)):=by
 subst hn
 have hwl:ws.length<=4096:=hmay.1
 have hF:F<=1048576:=by have:=hmay.2.2.1;omega
 have ht:t.length<=2000:=by obtain ⟨p,rfl,_,hz,_⟩:=hmay.2.2.2;rw [Ls.lenL];omega
 refine q2q h hw fun H2 q r b hr2 hb=>?_
 have hb:=hb.2 hmay
 subst hb
 obtain ⟨-,w4,w12⟩:=qpx M ⟨none,qbf⟩
 have hslt:=Seg.lt hs
 have hpos:=x.pos
 have h1:¬ ((c+x.sz-1:Nat):Int)<0:=by omega
 have hln:=h.nd.len
 have h2:¬ ((t.length:Nat):Int)<=((c+x.sz-1:Nat):Int):=by omega
 obtain ⟨hnd,-⟩:=Seg.nd hs
 obtain ⟨ka,_,_,q1,_,q2,_⟩:=(h.em hr2.fr).nd.get hnd
 have h3:¬ (x.nd c).k<14:=by
  cases x with
  | s x=>cases x<;>(simp only [It.nd,It.kn];omega)
  | l x=>simp only [It.nd,It.kn];omega
  | e x=>exact hx.elim
  | c x=>exact hx.elim
 have ldq:∀ {Hx:AHeap},Hx.get q=some (OR (regsA v) T__21)->Op.loadN 8 [.ptr q 0] Hx=some (.agg (regsA v)):=by
  intro Hx hg
  rw [qbm (xg hg) (by simp [regsA,hv]),xl,qx (by simp [regsA,hv])]
 have hw2:=hw.em hr2.fr
 have hf1:Fr Em H2 (H2.alloc (.row [] jp (0,0) true)):=(Fr.refl H2).alloc _
 simp only [↓qe,qt,reduceIte,Nat.reduceEqDiff,w4,w12,h1,hln,h2,q1,q2,h3,ldq hr2.gq,bsU]
 refine qym (e:=jp) (n:=0) (cells:=[]) ⟨rfl,.inl ⟨rfl,.inr ⟨H2.next,rfl,by rw [xi];omega⟩⟩⟩ (hw2.em hf1) (flatU ws) (by omega) (by omega) (by omega) fun w' H3 hw' hf hfr=>?_
 rw [zb,zg] at hw'
 have hw':OwnT encU jp 1 H3 w' ws:=hw'
 have f3:Fr Em H2 H3:=hf1.trans hf fun x hx=>.inr (by rw [hx.2];exact qf _)
 have fresh3:∀ b,OnS w' b->H2.next<=b:=fun b hb=>(hfr b hb).elim (fun q=>by rw [q.2];exact qf _) fun q=>zr hf1.next q
 have hr3:=hr2.em f3
 obtain ⟨s0,hs0⟩:∃ s0:MS,s0=⟨ws,v,F,0,false,0⟩:=⟨_,rfl⟩
 have eb1:Op.build [.nils,.int .u64 0,.int .u64 0,.int .u64 0,.int .u64 0,.int .u64 0,.int .u64 0,.int .u64 0,.int .u64 0,.int .i64 0,.int .i64 0,.bool false,.int .i64 0] [(0,1),(1,8),(9,1)] [w',.agg (regsA v),.int .i64 (F:Nat)]=some (.agg (cellsS w' s0)):=by
  have oc:w'.cells=[w']:=qjk (Own.sl hw').one
  subst hs0
  match v,hv with
  | [a,b,c,d,e,f,g,i],_=>simp only [qnj,qh4,qkh,oc];rfl
 have hcl:(cellsS w' s0).length=13:=by subst hs0;simp [cellsS,regsA,hv]
 have st4:Op.store 13 [.ptr H3.next 0,.agg (cellsS w' s0)] (H3.alloc (OR [.nils,.int .u64 0,.int .u64 0,.int .u64 0,.int .u64 0,.int .u64 0,.int .u64 0,.int .u64 0,.int .u64 0,.int .i64 0,.int .i64 0,.bool false,.int .i64 0] qz))=some (.undef,H3.alloc (OR (cellsS w' s0) qz)) :=
  qf3 H3 _ qz 13 (.agg (cellsS w' s0)) rfl hcl (qry (Own.sl hw').one)
 obtain ⟨H4,e4⟩:∃ X,X=H3.alloc (OR (cellsS w' s0) qz):=⟨_,rfl⟩
 have f4:Fr Em H3 H4:=by rw [e4];exact (Fr.refl H3).alloc _
 have n4:H4.next=H3.next+1:=by rw [e4,xi]
 have g4:H4.get H3.next=some (OR (cellsS w' s0) qz):=by rw [e4,xc]
 rw [<-e4] at st4
 have n02:=hr2.fr.next
 have n23:=f3.next
 have hlr:=hr2.lr
 have hlq:=hr2.lq
 have h4:SSt H H4 H3.next w' s0:=by
  subst hs0
  exact ⟨g4,by omega,by omega,⟨Own.em hw' f4,(hr3.fr.trans f4 fun _ q=>q.elim),fun b hb=>by have:=fresh3 b hb;omega⟩,fun q=>by have:=Own.lt hw' _ q;omega,hv,hwl,hwr,hvr,by simp only;omega⟩
 simp only [↓qe,qt,reduceIte,Nat.reduceEqDiff,ldq hr3.gq,eb1,st4]
 refine C3.q (It_rdo (M:=M) h.nd ht h.hi x hx hs ho (s:=s0) (by subst hs0;exact ⟨rfl,rfl⟩) h4) fun v5 H5 hq=>?_
 obtain ⟨w5,h5,f5,o5⟩:=hq
 rw [hs0] at h5
 obtain ⟨fn,hfn⟩:∃ fn,fn=x.run ⟨ws,v,F,0,false,0⟩:=⟨_,rfl⟩
 rw [<-hfn] at h5 ⊢
 have hold:∀ b,b<H2.next -> ¬ OnS w5 b:=fun b hb q=>(o5 b q).elim (fun q=>by have:=fresh3 b q;omega) fun q=>by omega
 have gr5:H5.get r=some (OR noSC qz):=by
  rw [f5.keep r (by omega) (fun q=>q.elim (fun q=>by omega) fun q=>by have:=fresh3 r q;omega),f4.keep r (by omega) id];exact hr3.gr
 have hcl5:(cellsS w5 fn).length=13:=by simp [cellsS,regsA,h5.v8]
 have ld5:Op.loadN 13 [.ptr H3.next 0] H5=some (.agg (cellsS w5 fn)):=by
  rw [qbm (xg h5.row) (by omega),xl,qx (by omega)]
 have st6:=jz gr5 (o:=0) (n:=13) (v:=.agg (cellsS w5 fn)) hcl5 (by simp) (by rw [qe4];exact qry h5.nw.sl.one)
 have ce6:noSC.take 0++(AV.agg (cellsS w5 fn)).cells++noSC.drop (0+13)=cellsS w5 fn:=by rw [qe4];simp
 rw [ce6] at st6
 have ld6:Op.loadN 13 [.ptr r 0] (H5.set r (OR (cellsS w5 fn) qz))=some (.agg (cellsS w5 fn)):=by
  rw [qbm (xg (zf ..)) (by omega),xl,qx (by omega)]
 simp only [↓qe,qt,reduceIte,Nat.reduceEqDiff,ld5,st6,ld6]
 have f6:Fr (fun x=>x=r) H5 (H5.set r (OR (cellsS w5 fn) qz)):=(Fr.refl H5).set (W:=fun x=>x=r) (.inl rfl) _
 exact ⟨⟨w5,rfl,⟨Own.fr h5.nw.own f6 (fun x hx q=>hold r hlr (by subst q;exact hx)),h5.nw.fr.trans f6 fun x hx=>.inr (by omega),h5.nw.fresh⟩⟩,h5.v8⟩
end Go.Am
namespace Go.Am
open Lang Go.Proofs
variable {M:Mac} [MK M]
theorem q46 {w':AV} {r:MS} (h:r.v.length=8):(cellsS w' r)[0]? = some w'/\(cellsS w' r)[9]? = some (.int .i64 (r.left:Nat))/\(cellsS w' r)[10]? = some (.int .i64 (r.blk:Nat))/\(cellsS w' r)[12]? = some (.int .i64 (r.err:Nat))/\((cellsS w' r).drop 1).take 8=regsA r.v/\(cellsS w' r).length=13:=by
 obtain ⟨v0,v1,v2,v3,v4,v5,v6,v7,e⟩:=qa3 (tv:=w') (wv:=w') (a:=true) h
 unfold cellsS;rw [e];exact ⟨rfl,rfl,rfl,rfl,rfl,rfl⟩
theorem endC_9 {w':AV} {r:MS} (h:r.v.length=8):(endC w' r)[9]? = some (.int .i64 0):=by
 obtain ⟨v0,v1,v2,v3,v4,v5,v6,v7,e⟩:=qa3 (tv:=w') (wv:=w') (a:=true) h
 unfold endC;rw [e];rfl
theorem q7j {H:AHeap} {w1 w2:AV} {r:MS} (hv:r.v.length=8) (h1:SlT encU 1 H w1 r.w) (h2:SlT encU 1 H w2 r.w) (hl:r.w.length<=5000) :
 yq M qgj [.agg (endC w1 r),.agg (cellsS w2 r)] H fun v H'=>v=.bool true/\Fr Em H H':=by
 refine q2m ?_
 obtain ⟨H1,e1⟩:∃ X,X=H.alloc (OR (endC w1 r) vy):=⟨_,rfl⟩
 obtain ⟨H2,e2⟩:∃ X,X=H1.alloc (OR (cellsS w2 r) qz):=⟨_,rfl⟩
 have n1:H1.next=H.next+1:=by rw [e1,xi]
 have n2:H2.next=H1.next+1:=by rw [e2,xi]
 have f2:Fr Em H H2:=by rw [e2,e1];exact ((Fr.refl H).alloc _).alloc _
 have g1:H2.get H.next=some (OR (endC w1 r) vy):=by rw [e2,wq (by omega),e1,xc]
 have g2:H2.get H1.next=some (OR (cellsS w2 r) qz):=by rw [e2,xc]
 have la:=endC_l (w':=w1) hv
 have lb:=q46 (w':=w2) hv
 have lda:∀ o,Op.load1 [.ptr H.next o] H2=(endC w1 r)[o]?:=fun o=>yj (xg g1) o
 have ldb:∀ o,Op.load1 [.ptr H1.next o] H2=(cellsS w2 r)[o]?:=fun o=>yj (xg g2) o
 have lav:Op.loadN 8 [.ptr H.next 1] H2=some (.agg (regsA r.v)):=by rw [qbm (xg g1) (by omega),la.2.2.2.2.1]
 have lbv:Op.loadN 8 [.ptr H1.next 1] H2=some (.agg (regsA r.v)):=by rw [qbm (xg g2) (by omega),lb.2.2.2.2.1]
 simp only [↓qe,qt,reduceIte,Nat.reduceEqDiff,qtp,qe4,<-e1,<-e2,lda,ldb,la.1,lb.1]
 refine C3.q (q6j (M:=M) (h1.em f2) (h2.em f2) (by omega)) fun vw H6 ⟨hv6,hh⟩=>?_
 subst hv6;subst hh
 simp only [↓qe,qt,reduceIte,Nat.reduceEqDiff,qtp,lda,ldb,la.2.1,la.2.2.1,la.2.2.2.1,endC_9 hv,lb.2.1,lb.2.2.1,lb.2.2.2.1,lav,lbv,regs_eq hv,eq_self]
 exact f2
end Go.Am
namespace Go.Am
open Lang Go.Proofs
variable {M:Mac} [MK M]
def zeroS:MS:=⟨[],[0,0,0,0,0,0,0,0],0,0,false,0⟩
end Go.Am
namespace Go.Am
open Lang Go.Proofs
variable {M:Mac} [MK M]
theorem xam {t:List Nd} {n:Int} {nw:Nat} {fuel:Int} (h:StepOk t n nw fuel) (hi:lt64 t):∃ (x:It) (c:Nat),x.isRun/\Seg t c (x.enc c)/\x.ok/\n=((c+x.sz-1:Nat):Int):=by
 obtain ⟨hm,h0,h1,h2⟩:=h
 obtain ⟨p,rfl,ho,hz,_⟩:=hm.2.2.2
 obtain ⟨x,c,x1,x2,x3⟩:=Ls.sub ho (n:=n.toNat) (by omega)
 obtain ⟨hnd,_⟩:=Seg.nd x2
 have hk:=h2 (x.nd c) (by rw [x3];exact hnd)
 cases x with
 | e x=>cases x with
  | bin o a b=>have:o<=10:=x1.2.1;simp only [It.nd,It.kn] at hk;omega
  | _=>simp only [It.nd,It.kn] at hk;omega
 | c x=>have h11:x.k<=13:=x1.2.1;simp only [It.nd,It.kn] at hk;omega
 | s x=>exact ⟨.s x,c,trivial,x2,x1,by omega⟩
 | l x=>exact ⟨.l x,c,trivial,x2,x1,by omega⟩
theorem q6m {tv wv:AV} {t:List Nd} {ws v:List Int} {n fuel:Int} {H1:AHeap} (h:NdI H1 tv t) (hw:SlT encU 1 H1 wv ws) (hwr:∀ x ∈ ws,u64 x) (hv:v.length=8) (hvr:∀ x ∈ v,u64 x) :
 ∃ (r:MS) (e:Int),r.v.length=8/\r.w.length<=4096 /\
  (∀ {H2:AHeap},Fr Em H1 H2->yq M qbe [tv,.int .i64 n,wv,.agg (regsA v),.int .i64 fuel] H2 fun v' H3=>∃ wa,v'=.tuple [.agg (endC wa r),.int .i64 e]/\New encU jp 1 H2 H3 wa r.w) /\
  (∀ {H4:AHeap},Fr Em H1 H4->yq M qbf [tv,.int .i64 n,wv,.agg (regsA v),.int .i64 fuel] H4 fun v' H5=>∃ wb,v'=.tuple [.agg (cellsS wb r),.int .i64 e]/\New encU jp 1 H4 H5 wb r.w):=by
 by_cases hok:StepOk t n ws.length fuel
 ·obtain ⟨F,rfl⟩:∃ F:Nat,fuel=(F:Int):=⟨fuel.toNat,by have:=hok.1.2.1;omega⟩
  obtain ⟨x,c,hx,hs,ho,hn⟩:=xam hok h.hi
  obtain ⟨v0,H0,_,hq⟩:=(q44 (M:=M) h hw hv hwr hvr hok.1 x hx hs ho hn).elim
  refine ⟨x.run ⟨ws,v,F,0,false,0⟩,0,hq.v8,hq.wl,fun f=>?_,fun f=>?_⟩
  ·exact (q44 (M:=M) (h.em f) (hw.em f) hv hwr hvr hok.1 x hx hs ho hn).mono fun v' H3 hq=>hq.ex
  ·exact (rRun_yes (M:=M) (h.em f) (hw.em f) hv hwr hvr hok.1 x hx hs ho hn).mono fun v' H3 hq=>hq.ex
 ·refine ⟨zeroS,2,rfl,(by decide),fun f=>?_,fun f=>?_⟩
  ·refine (Step_no (M:=M) (h.em f) (hw.em f) hok).mono fun v' H3 ⟨hv',f3⟩=>⟨.nils,hv',⟨Own.nil _ _ _,f3,fun b hb=>(hb.1 rfl).elim⟩⟩
  ·refine (rRun_no (M:=M) (h.em f) (hw.em f) hok).mono fun v' H3 ⟨hv',f3⟩=>⟨.nils,hv',⟨Own.nil _ _ _,f3,fun b hb=>(hb.1 rfl).elim⟩⟩
theorem qyi {H:AHeap} {tv wv:AV} {t:List Nd} {ws v:List Int} {n fuel:Int} (h:NdI H tv t) (ht:t.length<=140737488355328) (hw:SlT encU 1 H wv ws) (hwr:∀ x ∈ ws,u64 x) (hv:v.length=8) (hvr:∀ x ∈ v,u64 x) :
 yq M qcr [tv,.int .i64 n,wv,.agg (regsA v),.int .i64 fuel] H fun v' _=>v'=.bool true:=by
 refine qr5 ?_
 obtain ⟨w0,w2,w10,w14,w22,w26,w34,w38,w40,w48⟩:=qr6 M ⟨none,qcr⟩
 obtain ⟨H1,e1⟩:∃ X,X=H.alloc (OR (regsA v) T__21):=⟨_,rfl⟩
 have f1:Fr Em H H1:=by rw [e1];exact (Fr.refl H).alloc _
 have n1:H1.next=H.next+1:=by rw [e1,xi]
 have g1:H1.get H.next=some (OR (regsA v) T__21):=by rw [e1,xc]
 have ldv:∀ {Hx:AHeap},Fr Em H1 Hx->Op.loadN 8 [.ptr H.next 0] Hx=some (.agg (regsA v)):=by
  intro Hx fx
  rw [qbm (xg (by rw [fx.keep _ (by omega) id];exact g1)) (by simp [regsA,hv]),xl,qx (by simp [regsA,hv])]
 have hT:=h.em f1
 have hw1:=hw.em f1
 simp only [↓qe,qt,reduceIte,Nat.reduceEqDiff,w0,qe4,<-e1,w2]
 refine C3.q (q57 (M:=M) hT.nd ht hw1) fun vg H1' ⟨hg,hh⟩=>?_
 subst hh
 rcases hg with ⟨rfl,-,hgl⟩|rfl
 rotate_left
 ·simp only [↓qe,qt,reduceIte,Nat.reduceEqDiff,Int.reduceLT]
 obtain ⟨r,e,hr8,hrl,hA,hB⟩:=q6m (M:=M) (n:=n) (fuel:=fuel) hT hw1 hwr hv hvr
 simp only [↓qe,qt,reduceIte,Nat.reduceEqDiff,w10,Int.reduceLT,ldv (Fr.refl H1')]
 refine C3.q (hA (Fr.refl _)) fun va H3 hva=>?_
 obtain ⟨wa,hva,ha⟩:∃ wa,va=.tuple [.agg (endC wa r),.int .i64 e]/\New encU jp 1 H1' H3 wa r.w:=hva
 subst hva
 have f3:=ha.fr
 have l2:=endC_l (w':=wa) hr8
 obtain ⟨H4,e4⟩:∃ X,X=H3.alloc (OR (endC wa r) vy):=⟨_,rfl⟩
 have f4:Fr Em H3 H4:=by rw [e4];exact (Fr.refl H3).alloc _
 have n4:H4.next=H3.next+1:=by rw [e4,xi]
 have g4:H4.get H3.next=some (OR (endC wa r) vy):=by rw [e4,xc]
 have st4:Op.store 13 [.ptr H3.next 0,.agg (endC wa r)] (H3.alloc (OR [.nils,.int .u64 0,.int .u64 0,.int .u64 0,.int .u64 0,.int .u64 0,.int .u64 0,.int .u64 0,.int .u64 0,.int .i64 0,.int .i64 0,.int .i64 0,.int .i64 0] vy))=some (.undef,H4):=by
  rw [e4];exact qf3 H3 _ vy 13 (.agg (endC wa r)) rfl l2.2.2.2.2.2 (q49 ha.sl.one)
 have f14:Fr Em H1' H4:=f3.trans f4 fun _ q=>q.elim
 simp only [↓qe,qt,reduceIte,Nat.reduceEqDiff,x20,x21,<-e4,st4,ldv f14]
 refine C3.q (hB f14) fun vb H5 hvb=>?_
 obtain ⟨wb,hvb,hb⟩:∃ wb,vb=.tuple [.agg (cellsS wb r),.int .i64 e]/\New encU jp 1 H4 H5 wb r.w:=hvb
 subst hvb
 have f5:=hb.fr
 have l5:=q46 (w':=wb) hr8
 obtain ⟨H6,e6⟩:∃ X,X=H5.alloc (OR (cellsS wb r) qz):=⟨_,rfl⟩
 have f6:Fr Em H5 H6:=by rw [e6];exact (Fr.refl H5).alloc _
 have n6:H6.next=H5.next+1:=by rw [e6,xi]
 have g6:H6.get H5.next=some (OR (cellsS wb r) qz):=by rw [e6,xc]
 have st6:Op.store 13 [.ptr H5.next 0,.agg (cellsS wb r)] (H5.alloc (OR [.nils,.int .u64 0,.int .u64 0,.int .u64 0,.int .u64 0,.int .u64 0,.int .u64 0,.int .u64 0,.int .u64 0,.int .i64 0,.int .i64 0,.bool false,.int .i64 0] qz))=some (.undef,H6):=by
  rw [e6];exact qf3 H5 _ qz 13 (.agg (cellsS wb r)) rfl l5.2.2.2.2.2 (qry hb.sl.one)
 have f46:Fr Em H4 H6:=f5.trans f6 fun _ q=>q.elim
 have n45:=f5.next
 have f16:Fr Em H1' H6:=f14.trans f46 fun _ q=>q.elim
 have g46:H6.get H3.next=some (OR (endC wa r) vy):=by rw [f46.keep _ (by omega) id];exact g4
 have lA:Op.loadN 13 [.ptr H3.next 0] H6=some (.agg (endC wa r)):=by rw [qbm (xg g46) (by omega),xl,qx (by omega)]
 have lB:Op.loadN 13 [.ptr H5.next 0] H6=some (.agg (cellsS wb r)):=by rw [qbm (xg g6) (by omega),xl,qx (by omega)]
 simp only [↓qe,qt,reduceIte,Nat.reduceEqDiff,x20,x21,<-e6,st6,w14,eq_self,lA,lB]
 refine C3.q (q7j (M:=M) hr8 (ha.em f4 |>.em f46).sl (hb.em f6).sl (by omega)) fun vs H7 ⟨hvs,f7⟩=>?_
 subst hvs
 have f17:Fr Em H1' H7:=f16.trans f7 fun _ q=>q.elim
 obtain ⟨x,c,hx⟩:∃ (x:Ex) (c:Nat),ValOk t n ws.length->Seg t c (x.enc c)/\x.ok/\x.small/\n=((c+x.sz-1:Nat):Int):=by
  by_cases q:ValOk t n ws.length
  ·obtain ⟨x,c,a1,a2,a3,a4,_⟩:=valok_ex q h.hi
   exact ⟨x,c,fun _=>⟨a1,a2,a3,a4⟩⟩
  ·exact ⟨.num 0,0,fun w=>(q w).elim⟩
 simp only [↓qe,qt,reduceIte,Nat.reduceEqDiff,w22,ldv f17]
 refine C3.q (q6i (M:=M) (hT.em f17) (hw1.em f17) hv hwr hvr hx) fun v8 H8 ⟨f8,h8⟩=>?_
 have f18:Fr Em H1' H8:=f17.trans f8 fun _ q=>q.elim
 have hln:=h.nd.len
 have may0:∀ {vx:AV} {a b:Int},vx=.tuple [.int .u64 a,.int .i64 b]->Op.extract 0 [vx]=some (.int .u64 a)/\Op.extract 1 [vx]=some (.int .i64 b):=fun q=>by subst q;exact ⟨rfl,rfl⟩
 rcases h8 with ⟨hno,rfl⟩|⟨hyes,rfl⟩
 ·simp only [↓qe,qt,reduceIte,Nat.reduceEqDiff,x20,x21]
  refine C3.q (qpz (M:=M) (hT.em f18) (hw1.em f18)) fun v9 H9 ⟨f9,b,hv9,hb9⟩=>?_
  subst hv9
  have f19:Fr Em H1' H9:=f18.trans f9 fun _ q=>q.elim
  have t2:=x8 (show (2:Int)=2 from rfl)
  have t0:=x8 (show (0:Int)=0 from rfl)
  cases b with
  | false=>simp only [↓qe,qt,reduceIte,Nat.reduceEqDiff,w26,t2,t0]
  | true =>
   by_cases h1:n<0
   ·simp only [↓qe,qt,reduceIte,Nat.reduceEqDiff,w26,h1,t2,t0]
   by_cases h2:((t.length:Nat):Int)<=n
   ·simp only [↓qe,qt,reduceIte,Nat.reduceEqDiff,w26,h1,hln,h2,t2,t0]
   obtain ⟨i,rfl⟩:∃ i:Nat,n=(i:Int):=⟨n.toNat,by omega⟩
   obtain ⟨y,hy⟩:∃ y,t[i]? = some y:=⟨t[i]'(by omega),by simp⟩
   obtain ⟨ka,_,_,q1,_,q2,_⟩:=(hT.em f19).nd.get hy
   by_cases h3:10<y.k
   ·simp only [↓qe,qt,reduceIte,Nat.reduceEqDiff,w26,h1,hln,h2,q1,q2,h3,t2,t0]
   ·exact (hno ⟨hb9.1 rfl,by omega,by omega,fun z hz=>by rw [yl,hy] at hz;injection hz with hz;subst hz;omega⟩).elim
 ·obtain ⟨hs,ho,hsm,hn⟩:=hx hyes
  obtain ⟨hmay,p0,p1,p2⟩:=hyes
  have hwl:ws.length<=4096:=hmay.1
  subst hn
  obtain ⟨hnd,-⟩:=Seg.nd (x:=.e x) hs
  have hnd:t[c+x.sz-1]? = some ((It.e x).nd c):=hnd
  have h3:¬ 10<((It.e x).nd c).k:=by have:=p2 _ (by rw [yl];exact hnd);omega
  have h1:¬ ((c+x.sz-1:Nat):Int)<0:=by omega
  have h2:¬ ((t.length:Nat):Int)<=((c+x.sz-1:Nat):Int):=by omega
  -- the document's
  obtain ⟨ya,gb,hvr'⟩:∃ a b,valR (x.val ws v)=.tuple [.int .u64 a,.int .i64 b]:=by
   cases x.val ws v with
   | none=>exact ⟨0,111,rfl⟩
   | some y=>exact ⟨y,0,rfl⟩
  obtain ⟨xe0,xe1⟩:=may0 hvr'
  simp only [↓qe,qt,reduceIte,Nat.reduceEqDiff,xe0,xe1]
  refine C3.q (qpz (M:=M) (hT.em f18) (hw1.em f18)) fun v9 H9 ⟨f9,b,hv9,hb9⟩=>?_
  subst hv9
  have hb9:=hb9.2 hmay
  subst hb9
  have f19:Fr Em H1' H9:=f18.trans f9 fun _ q=>q.elim
  have hT9:=hT.em f19
  obtain ⟨ka,_,_,q1,_,q2,_⟩:=hT9.nd.get hnd
  have hw9:=hw1.em f19
  obtain ⟨s0,hs0⟩:∃ s0:MS,s0=⟨ws,v,0,0,false,0⟩:=⟨_,rfl⟩
  have eb1:Op.build [.nils,.int .u64 0,.int .u64 0,.int .u64 0,.int .u64 0,.int .u64 0,.int .u64 0,.int .u64 0,.int .u64 0,.int .i64 0,.int .i64 0,.bool false,.int .i64 0] [(0,1),(1,8)] [wv,.agg (regsA v)]=some (.agg (cellsS wv s0)):=by
   have oc:wv.cells=[wv]:=qjk hw9.one
   subst hs0
   match v,hv with
   | [a,b,c,d,e,f,g,i],_=>simp only [qnj,qh4,qkh,oc];rfl
  obtain ⟨Ha,ea⟩:∃ X,X=H9.alloc (OR (cellsS wv s0) qz):=⟨_,rfl⟩
  have fa:Fr Em H9 Ha:=by rw [ea];exact (Fr.refl H9).alloc _
  have na:Ha.next=H9.next+1:=by rw [ea,xi]
  have ga:Ha.get H9.next=some (OR (cellsS wv s0) qz):=by rw [ea,xc]
  have f1a:Fr Em H1' Ha:=f19.trans fa fun _ q=>q.elim
  have hR:RSt H1' Ha H9.next wv s0:=by
   subst hs0
   exact ⟨ga,by omega,f1a,hw1.em f1a,hv,hwl,hwr,hvr⟩
  simp only [↓qe,qt,reduceIte,Nat.reduceEqDiff,w26,h1,hln,h2,q1,q2,h3,w34,ldv f19,eb1,qe4,<-ea]
  refine C3.q (qh8 (M:=M) hT.nd x hs ho hsm hR) fun vu Hb ⟨hvu,fb⟩=>?_
  subst hvu
  have f1b:Fr Em H1' Hb:=f1a.trans fb fun _ q=>q.elim
  have vo:∃ (u:Int) (is:Bool),valO (x.val s0.w s0.v)=.tuple [.int .u64 u,.bool is]/\(is=false->ya=0/\gb=111)/\(is=true->ya=u/\gb=0):=by
   subst hs0
   cases hq:x.val ws v with
   | none =>
    rw [hq] at hvr'
    simp only [valR,AV.tuple.injEq,qu,AV.int.injEq,qbw,jo] at hvr'
    exact ⟨0,false,rfl,fun _=>⟨hvr'.1.symm,hvr'.2.symm⟩,fun q=>by cases q⟩
   | some y =>
    rw [hq] at hvr'
    simp only [valR,AV.tuple.injEq,qu,AV.int.injEq,qbw,jo] at hvr'
    exact ⟨y,true,rfl,fun q=>(by cases q),fun _=>⟨hvr'.1.symm,hvr'.2.symm⟩⟩
  obtain ⟨u,is,hvo,c1,c2⟩:=vo
  have xo0:Op.extract 0 [valO (x.val s0.w s0.v)]=some (.int .u64 u):=by rw [hvo];rfl
  have xo1:Op.extract 1 [valO (x.val s0.w s0.v)]=some (.bool is):=by rw [hvo];rfl
  simp only [↓qe,qt,reduceIte,Nat.reduceEqDiff,xo0,xo1,w38]
  refine C3.q (q2a (M:=M) (hT.em f1b)) fun vp Hc ⟨fc,s,e',hvp,he'⟩=>?_
  subst hvp
  have t0:=x8 (show (0:Int)=0 from rfl)
  have he0:e'=0:=he'.2 hmay.2.2.2
  subst he0
  cases is with
  | false =>
   obtain ⟨rfl,rfl⟩:=c1 rfl
   have t1:=x8 (show (111:Int)=111 from rfl)
   simp only [↓qe,qt,reduceIte,Nat.reduceEqDiff,x20,x21,w40,t0,t1]
  | true =>
   obtain ⟨rfl,rfl⟩:=c2 rfl
   simp only [↓qe,qt,reduceIte,Nat.reduceEqDiff,x20,x21,w40,w48,t0,eq_self]
end Go.Am
