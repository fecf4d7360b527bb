/- LqJ5: MnD MnE MnF MnG MnH MnI MnV. -/
import Derived.Test.YtbimikjajohflaaDoorAmJLqJ4
import Derived.Test.YtbimikjajohflaaDoorAmJLqJ0
import Derived.Test.YtbimikjajohflaaDoorAmJCodeJ
set_option linter.unusedVariables false
set_option linter.unusedSimpArgs false
set_option linter.unusedSectionVars false
set_option maxRecDepth 100000
namespace Go.Am
open Lang Go.Proofs
variable {M:Mac} [MK M]
theorem q0b {l:List Int} (h:∀ x ∈ l,u64 x) {y:Int} (hy:u64 y) (w:Nat):∀ x ∈ l.set w y,u64 x:=fun x hx=>(List.mem_or_eq_of_mem_set hx).elim (h x) fun q=>by rw [q];exact hy
theorem set_do {H0:AHeap} {tv:AV} {ts:List Nd} (hn:Nds H0 tv ts) (w:Nat) (x:Ex):SD M H0 tv ts (.set w x):=by
 intro H r bb wv a s hs ho hsm hat hon h
 obtain ⟨hnd,hks⟩:=Seg.nd (x:=.s (.set w x)) hs
 have hsx:Seg ts bb (x.enc bb):=hks.cons.1
 have hnd':(It.s (.set w x)).nd bb=⟨14,w,[((bb+x.sz-1:Nat):Int)]⟩:=by simp [It.nd,It.kn,It.ks,endsF,ints,It.sz]
 rw [hnd'] at hnd
 obtain ⟨ho7,hox⟩:=ho
 refine qr0 hn h hnd (show (14:Int) ≠ 20 by decide) (show (14:Int) ≠ 17 by decide) (fun q=>by simp only [St.run,qw q]) fun hl ka p H2 ha h2 l2 f2=>?_
 simp only [St.run,qk hl]
 rw [qf2 hl] at h2 ⊢
 obtain ⟨i1,i2⟩:=kid_m ha h2.fr (i:=0) rfl (z:=0) rfl
 have t14:=x8 (show (14:Int)=14 from rfl)
 simp only [↓qe,qt,reduceIte,Nat.reduceEqDiff,za,qo,l2.ld,Int.reduceEq,t14,i1 .i64,i2]
 refine P3.e (qlz hn x hsx hox hsm h2) (fun v H3 ⟨y,hu,hv,f3⟩=>?_) fun k H3 ⟨hk,hu,f3⟩=>?_
 ·subst hv
  have h3:=h2.em f3
  have l3:=l2.em f3
  have hu:x.val s.w s.v=some y:=hu
  have ry:=Lang.Ex.rng h.wr h.vr hsm hu
  have h8:=h.v8
  have ei:Op.indexArr 8 1 [.ptr r 2,.int .u64 (w:Int)]=some (.ptr r (2+w)):=by have:=qls (len:=8) (size:=1) (b:=r) (o:=2) (k:=.u64) (j:=(w:Int)) (i:=w) rfl (by omega);rwa [wk] at this
  have st:=jz h3.row (o:=2+w) (n:=1) (v:=.int .u64 y) rfl (by simp [cellsR,regsA,h8];omega) rfl
  obtain ⟨h4,f4⟩:=h3.put' (s':={ s with left:=s.left-1,v:=s.v.set w y }) (a':=a) (c:=(cellsR tv wv a { s with left:=s.left-1 }).take (2+w)++(AV.int .u64 y).cells++(cellsR tv wv a { s with left:=s.left-1 }).drop (2+w+1)) (by
   obtain ⟨v0,v1,v2,v3,v4,v5,v6,v7,e⟩:=qa3 (tv:=tv) (wv:=wv) (a:=a) h8
   unfold cellsR regsA;simp only [e]
   rcases (show w=0\/w=1\/w=2\/w=3\/w=4\/w=5\/w=6\/w=7 by omega) with rfl|rfl|rfl|rfl|rfl|rfl|rfl|rfl<;>rfl) rfl (by simpa using h8) (q0b h.vr ry w) (by have:=h.fl;simp only;omega)
  simp only [↓qe,qt,reduceIte,Nat.reduceEqDiff,za,l3.ld,ei,st,qcx]
  simp only [hu]
  exact ⟨hon.2,h4,FrM.trans (FrM.trans f2 (Fr.toM f3)) f4⟩
 ·subst hk
  have hu:x.val s.w s.v=none:=hu
  simp only [↓qe,qt,reduceIte,Nat.reduceEqDiff,za,qa2,vm]
  simp only [hu]
  exact DX.at (h2.em f3) (FrM.trans f2 (Fr.toM f3)) (by decide) rfl
theorem halt_do {H0:AHeap} {tv:AV} {ts:List Nd} (hn:Nds H0 tv ts):SD M H0 tv ts .halt:=by
 intro H r bb wv a s hs ho hsm hat hon h
 obtain ⟨hnd,hks⟩:=Seg.nd (x:=.s .halt) hs
 have hnd':(It.s .halt).nd bb=⟨19,0,[]⟩:=by simp [It.nd,It.kn,It.ks,endsF,ints,It.sz]
 rw [hnd'] at hnd
 refine qr0 hn h hnd (by decide) (by decide) (fun q=>by simp only [St.run,qw q]) fun hl ka p H2 ha h2 l2 f2=>?_
 simp only [St.run,qk hl]
 rw [qf2 hl] at h2 ⊢
 have t19:=x8 (show (19:Int)=19 from rfl)
 have l14:=h2.l14
 cases a with
 | true =>
  have e1:Op.build [(.int .i64 0)] [(0,1)] [.int .i64 111]=some (.agg [.int .i64 ((111:Nat):Int)]):=rfl
  have e2:Op.mkIface kg [.agg [.int .i64 ((111:Nat):Int)]]=some (stopV 111):=rfl
  simp only [↓qe,qt,reduceIte,Nat.reduceEqDiff,za,qo,l2.ld,Int.reduceEq,t19,l14,e1,e2,qke,qa2,vm]
  exact DX.at h2 f2 (by decide) rfl
 | false =>
  have st:=jz h2.row (o:=15) (n:=1) (v:=.bool true) rfl (by simp [cellsR,regsA,h.v8]) rfl
  obtain ⟨h4,f4⟩:=h2.put' (s':={ s with left:=s.left-1,hlt:=true }) (a':=false) (c:=(cellsR tv wv false { s with left:=s.left-1 }).take 15++(AV.bool true).cells++(cellsR tv wv false { s with left:=s.left-1 }).drop (15+1)) (by
   obtain ⟨v0,v1,v2,v3,v4,v5,v6,v7,e⟩:=qa3 (tv:=tv) (wv:=wv) (a:=false) h.v8
   unfold cellsR regsA;simp only [e];rfl) rfl h.v8 h.vr (by have:=h.fl;simp only;omega)
  simp only [↓qe,qt,reduceIte,Nat.reduceEqDiff,za,qo,l2.ld,Int.reduceEq,t19,l14,st,qcx]
  simp only [qk (show ¬ (false=true) by decide)]
  exact ⟨hon.2,h4,FrM.trans f2 f4⟩
theorem WSt.setw {H0 H:AHeap} {r i:Nat} {tv wv:AV} {a:Bool} {s:MS} (h:WSt H0 H r tv wv a s) (hi:i<s.w.length) {y:Int} (hy:u64 y) :
 ∃ H',Op.store 1 [.ptr (slB wv) (slO 1 wv i),.int .u64 y] H=some (.undef,H')/\WSt H0 H' r tv wv a { s with w:=s.w.set i y }/\Fr (MW r wv) H H':=by
 obtain ⟨x,hx⟩:∃ x,s.w[i]? = some x:=⟨s.w[i],by simp⟩
 obtain ⟨H',h1,h2,h3⟩:=h.nw.own.set1 qoi hx (j:=0) (by decide) (u:=.int .u64 y) rfl (y:=y) rfl
 have f:Fr (MW r wv) H H':=h3.mono fun _ _ q=>.inr q
 have hg:=h3.keep r h.hi h.off
 exact ⟨H',h1,⟨by rw [hg];exact h.row,h.lo,qh h.hi h3.next,⟨h2,h.nw.fr.trans h3 fun x hx=>.inr (h.nw.fresh x hx),h.nw.fresh⟩,h.off,h.v8,by simp only [zw];exact h.wl,q0b h.wr hy i,h.vr,h.fl⟩,f⟩
theorem store_do {H0:AHeap} {tv:AV} {ts:List Nd} (hn:Nds H0 tv ts) (x y:Ex):SD M H0 tv ts (.store x y):=by
 intro H r bb wv a s hs ho hsm hat hon h
 obtain ⟨hnd,hks⟩:=Seg.nd (x:=.s (.store x y)) hs
 have hsx:Seg ts bb (x.enc bb):=hks.cons.1
 have hsy:Seg ts (bb+x.sz) (y.enc (bb+x.sz)):=hks.cons.2.cons.1
 have hnd':(It.s (.store x y)).nd bb=⟨15,0,[((bb+x.sz-1:Nat):Int),((bb+x.sz+y.sz-1:Nat):Int)]⟩:=by simp [It.nd,It.kn,It.ks,endsF,ints,It.sz]
 rw [hnd'] at hnd
 obtain ⟨hox,hoy⟩:=ho
 refine qr0 hn h hnd (show (15:Int) ≠ 20 by decide) (show (15:Int) ≠ 17 by decide) (fun q=>by simp only [St.run,qw q]) fun hl ka p H2 ha h2 l2 f2=>?_
 simp only [St.run,qk hl]
 rw [qf2 hl] at h2 ⊢
 obtain ⟨i1,i2⟩:=kid_m ha h2.fr (i:=0) rfl (z:=0) rfl
 have t15:=x8 (show (15:Int)=15 from rfl)
 simp only [↓qe,qt,reduceIte,Nat.reduceEqDiff,za,qo,l2.ld,Int.reduceEq,t15,i1 .i64,i2]
 refine P3.e (qlz hn x hsx hox hsm.1 h2) (fun v H3 ⟨u,hu,hv,f3⟩=>?_) fun k H3 ⟨hk,hu,f3⟩=>?_
 ·subst hv
  have h3:=h2.em f3
  have l3:=l2.em f3
  have hu:x.val s.w s.v=some u:=hu
  have ru:=Lang.Ex.rng h.wr h.vr hsm.1 hu
  obtain ⟨j1,j2⟩:=kid_m ha h3.fr (i:=1) rfl (z:=1) rfl
  simp only [↓qe,qt,reduceIte,Nat.reduceEqDiff,za,l3.ld,j1 .i64,j2]
  refine P3.e (qlz hn y hsy hoy hsm.2 h3) (fun v H4 ⟨z,hz,hv,f4⟩=>?_) fun k H4 ⟨hk,hz,f4⟩=>?_
  ·subst hv
   have h4:=h3.em f4
   have hz:y.val s.w s.v=some z:=hz
   have rz:=Lang.Ex.rng h.wr h.vr hsm.2 hz
   have f24:=FrM.trans (FrM.trans f2 (Fr.toM f3)) (Fr.toM f4)
   simp only [↓qe,qt,reduceIte,Nat.reduceEqDiff,za,qo,h4.l1]
   refine P3.e (xax h4 ru) (fun v H5 ⟨hlt,hv,hh⟩=>?_) fun k H5 ⟨hge,hk,hh⟩=>?_
   ·subst hv;subst hh
    have hlt:u.toNat<s.w.length:=hlt
    obtain ⟨w0,hw0⟩:∃ w0,s.w[u.toNat]? = some w0:=⟨s.w[u.toNat],by simp⟩
    have q1:=h4.nw.sl.idx hw0 rfl .i64
    obtain ⟨H6,st,h6,f6⟩:=h4.setw (i:=u.toNat) hlt rz
    simp only [↓qe,qt,reduceIte,Nat.reduceEqDiff,za,h4.l1,q1,st,qcx]
    simp only [hu,hz,qw hlt]
    exact ⟨hon.2,h6,FrM.trans f24 f6⟩
   ·subst hk;subst hh
    have hge:s.w.length<=u.toNat:=hge
    simp only [↓qe,qt,reduceIte,Nat.reduceEqDiff,za,qa2,vm]
    simp only [hu,hz,qk (Nat.not_lt.2 hge)]
    exact DX.at h4 f24 (by decide) rfl
  ·subst hk
   have hz:y.val s.w s.v=none:=hz
   simp only [↓qe,qt,reduceIte,Nat.reduceEqDiff,za,qa2,vm]
   simp only [hu,hz]
   exact DX.at (h3.em f4) (FrM.trans (FrM.trans f2 (Fr.toM f3)) (Fr.toM f4)) (by decide) rfl
 ·subst hk
  have hu:x.val s.w s.v=none:=hu
  simp only [↓qe,qt,reduceIte,Nat.reduceEqDiff,za,qa2,vm]
  simp only [hu]
  exact DX.at (h2.em f3) (FrM.trans f2 (Fr.toM f3)) (by decide) rfl
end Go.Am
namespace Go.Am
open Lang Go.Proofs
variable {M:Mac} [MK M]
theorem ite_do {H0:AHeap} {tv:AV} {ts:List Nd} (hn:Nds H0 tv ts) (c:Cn) (l:Ls) (hl':LD M H0 tv ts l):SD M H0 tv ts (.ite c l):=by
 intro H r bb wv a s hs ho hsm hat hon h
 obtain ⟨hnd,hks⟩:=Seg.nd (x:=.s (.ite c l)) hs
 have hsc:Seg ts bb (c.enc bb):=hks.cons.1
 have hsl:Seg ts (bb+c.sz) (l.encL (bb+c.sz)):=hks.cons.2.cons.1
 have hnd':(It.s (.ite c l)).nd bb=⟨16,0,[((bb+c.sz-1:Nat):Int),((bb+c.sz+l.sz:Nat):Int)]⟩:=by simp [It.nd,It.kn,It.ks,endsF,ints,It.sz]
 rw [hnd'] at hnd
 refine qr0 hn h hnd (show (16:Int) ≠ 20 by decide) (show (16:Int) ≠ 17 by decide) (fun q=>by simp only [St.run,qw q]) fun hl ka p H2 ha h2 l2 f2=>?_
 simp only [St.run,qk hl]
 rw [qf2 hl] at h2 ⊢
 obtain ⟨i1,i2⟩:=kid_m ha h2.fr (i:=0) rfl (z:=0) rfl
 have t16:=x8 (show (16:Int)=16 from rfl)
 simp only [↓qe,qt,reduceIte,Nat.reduceEqDiff,za,qo,l2.ld,Int.reduceEq,t16,i1 .i64,i2]
 refine P3.e (q4m hn c hsc ho.1 hsm.1 h2) (fun v H3 ⟨q,hq,hv,f3⟩=>?_) fun k H3 ⟨hk,hq,f3⟩=>?_
 ·subst hv
  have h3:=h2.em f3
  have l3:=l2.em f3
  have hq:c.so s.w s.v=some q:=hq
  have f23:=FrM.trans f2 (Fr.toM f3)
  cases q with
  | true =>
   obtain ⟨j1,j2⟩:=kid_m ha h3.fr (i:=1) rfl (z:=1) rfl
   simp only [↓qe,qt,reduceIte,Nat.reduceEqDiff,za,l3.ld,j1 .i64,j2]
   simp only [hq]
   refine P3.e (hl' H3 r _ wv a { s with left:=s.left-1 } hsl ho.2 hsm.2 hat hon.2 h3) (fun v H4 ⟨g1,g2,g3⟩=>?_) fun k H4 hx=>?_
   ·simp only [↓qe,qt,reduceIte,Nat.reduceEqDiff,za,qcx]
    exact ⟨g1,g2,FrM.trans f23 g3⟩
   ·simp only [↓qe,qt,reduceIte,Nat.reduceEqDiff,za,qa2,vm]
    exact DX.up hx f23
  | false =>
   have hal:=(ha.em h3.fr).len
   have t1:¬ (([((bb+c.sz-1:Nat):Int),((bb+c.sz+l.sz:Nat):Int)].length:Nat):Int)=3:=by simp
   simp only [↓qe,qt,reduceIte,Nat.reduceEqDiff,za,l3.ld,hal,t1,qcx]
   simp only [hq]
   exact ⟨hon.2,h3,f23⟩
 ·subst hk
  have hq:c.so s.w s.v=none:=hq
  simp only [↓qe,qt,reduceIte,Nat.reduceEqDiff,za,qa2,vm]
  simp only [hq]
  exact DX.at (h2.em f3) (FrM.trans f2 (Fr.toM f3)) (by decide) rfl
theorem ites_do {H0:AHeap} {tv:AV} {ts:List Nd} (hn:Nds H0 tv ts) (c:Cn) (l m:Ls) (hl':LD M H0 tv ts l) (hm':LD M H0 tv ts m):SD M H0 tv ts (.ites c l m):=by
 intro H r bb wv a s hs ho hsm hat hon h
 obtain ⟨hnd,hks⟩:=Seg.nd (x:=.s (.ites c l m)) hs
 have hsc:Seg ts bb (c.enc bb):=hks.cons.1
 have hsl:Seg ts (bb+c.sz) (l.encL (bb+c.sz)):=hks.cons.2.cons.1
 have hse:Seg ts (bb+c.sz+(l.sz+1)) (m.encL (bb+c.sz+(l.sz+1))):=hks.cons.2.cons.2.cons.1
 have hnd':(It.s (.ites c l m)).nd bb=⟨16,0,[((bb+c.sz-1:Nat):Int),((bb+c.sz+l.sz:Nat):Int),((bb+c.sz+(l.sz+1)+m.sz:Nat):Int)]⟩:=by
  simp only [It.nd,It.kn,It.ks,endsF,ints,It.sz,xp,z8,Nd.mk.injEq,qu,jo,qbw]
  refine ⟨rfl,?_⟩
  constructor<;>omega
 rw [hnd'] at hnd
 have hat1:a=true->l.atm=false:=fun q=>by have:=hat q;simp only [St.atm,Bool.or_eq_false_iff] at this;exact this.1
 have hat2:a=true->m.atm=false:=fun q=>by have:=hat q;simp only [St.atm,Bool.or_eq_false_iff] at this;exact this.2
 refine qr0 hn h hnd (show (16:Int) ≠ 20 by decide) (show (16:Int) ≠ 17 by decide) (fun q=>by simp only [St.run,qw q]) fun hl ka p H2 ha h2 l2 f2=>?_
 simp only [St.run,qk hl]
 rw [qf2 hl] at h2 ⊢
 obtain ⟨i1,i2⟩:=kid_m ha h2.fr (i:=0) rfl (z:=0) rfl
 have t16:=x8 (show (16:Int)=16 from rfl)
 simp only [↓qe,qt,reduceIte,Nat.reduceEqDiff,za,qo,l2.ld,Int.reduceEq,t16,i1 .i64,i2]
 refine P3.e (q4m hn c hsc ho.1 hsm.1 h2) (fun v H3 ⟨q,hq,hv,f3⟩=>?_) fun k H3 ⟨hk,hq,f3⟩=>?_
 ·subst hv
  have h3:=h2.em f3
  have l3:=l2.em f3
  have hq:c.so s.w s.v=some q:=hq
  have f23:=FrM.trans f2 (Fr.toM f3)
  cases q with
  | true =>
   obtain ⟨j1,j2⟩:=kid_m ha h3.fr (i:=1) rfl (z:=1) rfl
   simp only [↓qe,qt,reduceIte,Nat.reduceEqDiff,za,l3.ld,j1 .i64,j2]
   simp only [hq]
   refine P3.e (hl' H3 r _ wv a { s with left:=s.left-1 } hsl ho.2.1 hsm.2.1 hat1 hon.2 h3) (fun v H4 ⟨g1,g2,g3⟩=>?_) fun k H4 hx=>?_
   ·simp only [↓qe,qt,reduceIte,Nat.reduceEqDiff,za,qcx]
    exact ⟨g1,g2,FrM.trans f23 g3⟩
   ·simp only [↓qe,qt,reduceIte,Nat.reduceEqDiff,za,qa2,vm]
    exact DX.up hx f23
  | false =>
   have hal:=(ha.em h3.fr).len
   have t1:=x8 (show ((([((bb+c.sz-1:Nat):Int),((bb+c.sz+l.sz:Nat):Int),((bb+c.sz+(l.sz+1)+m.sz:Nat):Int)].length:Nat):Int))=3 from rfl)
   obtain ⟨j1,j2⟩:=kid_m ha h3.fr (i:=2) rfl (z:=2) rfl
   simp only [↓qe,qt,reduceIte,Nat.reduceEqDiff,za,l3.ld,hal,t1,j1 .i64,j2]
   simp only [hq]
   refine P3.e (hm' H3 r _ wv a { s with left:=s.left-1 } hse ho.2.2 hsm.2.2 hat2 hon.2 h3) (fun v H4 ⟨g1,g2,g3⟩=>?_) fun k H4 hx=>?_
   ·simp only [↓qe,qt,reduceIte,Nat.reduceEqDiff,za,qcx]
    exact ⟨g1,g2,FrM.trans f23 g3⟩
   ·simp only [↓qe,qt,reduceIte,Nat.reduceEqDiff,za,qa2,vm]
    exact DX.up hx f23
 ·subst hk
  have hq:c.so s.w s.v=none:=hq
  simp only [↓qe,qt,reduceIte,Nat.reduceEqDiff,za,qa2,vm]
  simp only [hq]
  exact DX.at (h2.em f3) (FrM.trans f2 (Fr.toM f3)) (by decide) rfl
theorem loop_do {H0:AHeap} {tv:AV} {ts:List Nd} (hn:Nds H0 tv ts) (c:Cn) (l:Ls) (hl':LD M H0 tv ts l):SD M H0 tv ts (.loop c l):=by
 intro H r bb wv a s hs ho hsm hat hon h
 refine qma ?_
 obtain ⟨hnd,hks⟩:=Seg.nd (x:=.s (.loop c l)) hs
 have hsc:Seg ts bb (c.enc bb):=hks.cons.1
 have hsl:Seg ts (bb+c.sz) (l.encL (bb+c.sz)):=hks.cons.2.cons.1
 have hnd':(It.s (.loop c l)).nd bb=⟨17,0,[((bb+c.sz-1:Nat):Int),((bb+c.sz+l.sz:Nat):Int)]⟩:=by simp [It.nd,It.kn,It.ks,endsF,ints,It.sz]
 rw [hnd'] at hnd
 obtain ⟨ka,ha,e2,e3,e4,h1,l1,k1⟩:=qze hn h hnd
 simp only [It.sz] at e2 e3
 simp only at e4 h1 l1 k1
 generalize H.alloc (OR [.int .i64 17,.int .u64 0,ka] qj)=H1 at *
 obtain ⟨p,hpe⟩:∃ p,p=H.next:=⟨_,rfl⟩
 rw [<-hpe] at e4 l1
 obtain ⟨w0,w2,w8,-,w43,-,-,w64,-,w69,-,-,w75,-,-,w78,-,-,-,w84,-⟩:=za M ⟨none,j7⟩
 have t17:=x8 (show (17:Int)=17 from rfl)
 simp only [St.run]
 simp only [↓qe,qt,reduceIte,Nat.reduceEqDiff,w0,w2,w8,w43,w64,qo,h.l0,e2,e3,<-hpe,e4,l1.ld,Int.reduceEq,t17]
 refine LOOP3.intro (fun k E' H'=>∃ sj,E'=[(4,.ptr p 0),(0,.ptr r 0)]/\WSt H0 H' r tv wv a sj/\sj.err=0/\Fr (MW r wv) H1 H'/\sj.left+1<=k/\loopF c.so (l.run a) k sj=loopF c.so (l.run a) (s.left+1) s) ?_ ?_
 ·exact ⟨s.left+1,_,⟨s,rfl,h1,hon.2,Fr.toM (Fr.refl _),qf _,rfl⟩,by simp only [↓qe,qt,reduceIte,Nat.reduceEqDiff]⟩
 rintro k E' Hc ⟨sj,rfl,hw,he,hf,hk,hrun⟩
 obtain ⟨k,rfl⟩:∃ k',k=k'+1:=⟨k-1,by omega⟩
 have lc:=l1.mv hf
 have hfH:=FrM.trans (Fr.toM (r:=r) (wv:=wv) k1) hf
 have l15:=hw.l15
 rw [loopF] at hrun
 cases hh:sj.hlt with
 | true =>
  have hoff:¬ sj.on:=fun q=>by rw [q.1] at hh;cases hh
  rw [qk hoff] at hrun
  rw [hh] at l15
  simp only [↓qe,qt,reduceIte,Nat.reduceEqDiff,w69,qo,l15,Int.reduceEq,qcx]
  rw [<-hrun]
  exact ⟨he,hw,hfH⟩
 | false =>
  rw [qw ⟨hh,he⟩] at hrun
  rw [hh] at l15
  simp only [↓qe,qt,reduceIte,Nat.reduceEqDiff,w69,w75,qo,l15]
  refine P3.e (q5o hw) (fun v H2 ⟨hl,h2,f2⟩=>?_) fun k H2 ⟨hl,hk',hh2⟩=>?_
  ·rw [qk hl] at hrun
   rw [qf2 hl] at h2 hrun
   have l2:=lc.mv f2
   obtain ⟨i1,i2⟩:=kid_m ha h2.fr (i:=0) rfl (z:=0) rfl
   simp only [↓qe,qt,reduceIte,Nat.reduceEqDiff,w78,l2.ld,i1 .i64,i2]
   refine P3.e (q4m hn c hsc ho.1 hsm.1 h2) (fun v H3 ⟨q,hq,hv,f3⟩=>?_) fun k H3 ⟨hk,hq,f3⟩=>?_
   ·subst hv
    have h3:=h2.em f3
    have l3:=l2.em f3
    have hq:c.so sj.w sj.v=some q:=hq
    simp only [hq] at hrun
    have f13:=FrM.trans (FrM.trans hf f2) (Fr.toM f3)
    cases q with
    | true =>
     obtain ⟨j1,j2⟩:=kid_m ha h3.fr (i:=1) rfl (z:=1) rfl
     simp only [↓qe,qt,reduceIte,Nat.reduceEqDiff,w84,l3.ld,j1 .i64,j2]
     refine P3.e (hl' H3 r _ wv a { sj with left:=sj.left-1 } hsl ho.2 hsm.2 hat he h3) (fun v H4 ⟨g1,g2,g3⟩=>?_) fun k4 H4 hx=>?_
     ·have hle:=(l.les a { sj with left:=sj.left-1 }).left
      simp only at hle
      simp only [↓qe,qt,reduceIte,Nat.reduceEqDiff]
      exact ⟨k,_,⟨_,rfl,g2,g1,FrM.trans f13 g3,by omega,hrun⟩,by simp only [↓qe,qt,reduceIte,Nat.reduceEqDiff],by omega⟩
     ·have hoff:¬ (l.run a { sj with left:=sj.left-1 }).on:=fun q=>hx.2.1 (by rw [<-hx.1];exact q.2)
      rw [q9n k hoff] at hrun
      simp only [↓qe,qt,reduceIte,Nat.reduceEqDiff,qa2,vm]
      rw [<-hrun]
      exact DX.up hx (FrM.trans (Fr.toM k1) f13)
    | false =>
     simp only [↓qe,qt,reduceIte,Nat.reduceEqDiff,qcx]
     rw [<-hrun]
     exact ⟨he,h3,FrM.trans (Fr.toM k1) f13⟩
   ·subst hk
    have hq:c.so sj.w sj.v=none:=hq
    simp only [hq] at hrun
    simp only [↓qe,qt,reduceIte,Nat.reduceEqDiff,qa2,vm]
    rw [<-hrun]
    exact DX.at (h2.em f3) (FrM.trans (Fr.toM k1) (FrM.trans (FrM.trans hf f2) (Fr.toM f3))) (by decide) rfl
  ·subst hk';subst hh2
   rw [qw hl,qmh hl] at hrun
   simp only [↓qe,qt,reduceIte,Nat.reduceEqDiff,qa2,vm]
   rw [<-hrun]
   exact DX.at hw hfH (by decide) rfl
end Go.Am
namespace Go.Am
open Lang Go.Proofs
variable {M:Mac} [MK M]
theorem bsU (e:Nat) (zero:List AV):Op.buildSlice e 0 zero [] []=some (.row [] e (0,0) true,Op.sliceTo 0 0):=rfl
theorem nilsU (H:AHeap):Op.eq .slice false [.nils,.nils] H=some (.bool true):=rfl
theorem nilsU' {H:AHeap} {size:Nat} {v:AV} {n:Nat} {cells:List AV} (h:Sl H size v n cells) (hv:v ≠ .nils) (H':AHeap):Op.eq .slice false [v,.nils] H'=some (.bool false):=by
 obtain ⟨_,h⟩:=h
 cases v<;>first|exact (hv rfl).elim|rfl|exact h.elim
theorem flatU (l:List Int):allOne (l.flatMap encU)=true:=by rw [qc0,List.all_flatMap];simp;intro x _;rfl
theorem qu7 {H:AHeap} {a:AV} {ws:List Int} (ha:SlT encU 1 H a ws) (hl:ws.length<=5000):yq M vv [a] H fun v H'=>New encU jp 1 H H' v ws:=by
 refine qnz ?_
 by_cases hn:a=.nils
 ·subst hn
  have:ws=[]:=by obtain ⟨_,h⟩:=ha;exact qck.1 h
  subst this
  simp only [↓qe,qt,reduceIte,Nat.reduceEqDiff,qe9,nilsU]
  exact New.nil H
 ·simp only [↓qe,qt,reduceIte,Nat.reduceEqDiff,qe9,nilsU' ha hn,bsU]
  have hf1:Fr Em H (H.alloc (.row [] jp (0,0) true)):=(Fr.refl H).alloc _
  refine qym (e:=jp) (n:=0) (cells:=[]) ⟨rfl,.inl ⟨rfl,.inr ⟨H.next,rfl,by rw [xi];omega⟩⟩⟩ (ha.em hf1) (flatU ws) (by omega) (by omega) (by omega) fun v' H2 hv' hf hfr=>?_
  simp only [↓qe,qt,reduceIte,Nat.reduceEqDiff,qe9]
  rw [zb,zg] at hv'
  exact ⟨hv',hf1.trans hf fun x hx=>.inr (by rw [hx.2];exact qf _),fun b hb=>(hfr b hb).elim (fun q=>by rw [q.2];exact qf _) fun q=>zr hf1.next q⟩
theorem WSt.only {H0 H H':AHeap} {r e:Nat} {tv wv:AV} {a:Bool} {s:MS} (h:WSt H0 H r tv wv a s) (f:Fr (fun x=>x=e) H H') (h1:e ≠ r) (h2:¬ OnS wv e) (h3:H0.next<=e):WSt H0 H' r tv wv a s :=
 { h with row:=by rw [f.keep r h.hi (fun q=>h1 q.symm)];exact h.row,hi:=qh h.hi f.next,nw:=⟨Own.fr h.nw.own f (fun x hx q=>h2 (by subst q;exact hx)),h.nw.fr.trans f fun x hx=>.inr (by rw [hx];exact h3),h.nw.fresh⟩ }
theorem Lc.only {H H':AHeap} {r p e k:Nat} {wv:AV} {row:List AV} (h:Lc H r wv p row e) (f:Fr (fun x=>x=k) H H') (hk:p ≠ k):Lc H' r wv p row e:=⟨by rw [f.keep p h.lt hk];exact h.get,qh h.lt f.next,h.nr,h.ns⟩
theorem q28 {H0 H:AHeap} {tv wv:AV} {ts:List Nd} {l:Ls} (hl:LD M H0 tv ts l) {r bb p q:Nat} {a:Bool} {s:MS} (hs:Seg ts bb (l.encL bb)) (ho:l.ok) (hsm:l.small) (hat:a=true->l.atm=false) (he:s.err=0) (h:WSt H0 H r tv wv a s)
 (hp:Op.load1 [.ptr p 0] H=some (.ptr r 0)) (hq:Op.load1 [.ptr q 0] H=some (.int .i64 ((bb+l.sz:Nat):Int))):kx M vf [.ptr p 0,.ptr q 0] H (DQ H0 H r tv wv a (l.run a s)):=by
 refine qqw ?_
 simp only [↓qe,qt,reduceIte,Nat.reduceEqDiff,qqx,hp,hq]
 refine P3.e (hl H r bb wv a s hs ho hsm hat he h) (fun v H2 h2=>?_) fun k H2 hx=>?_
 ·simp only [↓qe,qt,reduceIte,Nat.reduceEqDiff,qcx];exact h2
 ·simp only [↓qe,qt,reduceIte,Nat.reduceEqDiff,qa2,vm];exact hx
def atomE (s f:MS):MS:=if f.err=0 then { f with blk:=f.blk+1 } else { f with w:=s.w,v:=s.v }
def AtP (H0 H:AHeap) (r:Nat) (tv wv:AV) (f:MS) (c:Nat) (H':AHeap):Prop:=c=0/\DR H0 H r tv wv true f .undef H'\/c ≠ 0/\DX H0 H r tv wv f c H'
theorem block_do {H0 H:AHeap} {tv wv:AV} {ts:List Nd} {l:Ls} (hl:LD M H0 tv ts l) {r bb:Nat} {s:MS} (hs:Seg ts bb (l.encL bb)) (ho:l.ok) (hsm:l.small) (hat:l.atm=false) (he:s.err=0) (h:WSt H0 H r tv wv false s) (hsum:s.left+s.blk+1<=1048576) :
 kx M qb5 [.ptr r 0,.int .i64 ((bb+l.sz:Nat):Int)] H (DQ H0 H r tv wv false (atomE s (l.run true s))):=by
 refine qtx ?_
 have hni:(l.run true s).left+(l.run true s).blk<=s.left+s.blk:=l.sm true s
 generalize hfin:l.run true s=fin at *
 obtain ⟨w0,w4,w8,w10,w18⟩:=qty M ⟨none,qb5⟩
 -- the boxes
 have f1:Fr Em H (H.alloc (OR [.ptr r 0] kq)):=(Fr.refl H).alloc _
 have h1:=h.em f1
 have c1:=Lc.new h [.ptr r 0] kq
 obtain ⟨H1,e1⟩:∃ X,X=H.alloc (OR [.ptr r 0] kq):=⟨_,rfl⟩
 rw [<-e1] at f1 h1 c1
 have f2:Fr Em H1 (H1.alloc (OR [.int .i64 ((bb+l.sz:Nat):Int)] T_int)):=(Fr.refl H1).alloc _
 have h2:=h1.em f2
 have c2:=Lc.new h1 [.int .i64 ((bb+l.sz:Nat):Int)] T_int
 have c1:=c1.em f2
 obtain ⟨H2,e2⟩:∃ X,X=H1.alloc (OR [.int .i64 ((bb+l.sz:Nat):Int)] T_int):=⟨_,rfl⟩
 rw [<-e2] at f2 h2 c1 c2
 have hv8:=h.v8
 have ldv:∀ {Hx:AHeap} {wv':AV} {a':Bool} {s':MS},WSt H0 Hx r tv wv' a' s'->s'.v.length=8->Op.loadN 8 [.ptr r 2] Hx=some (.agg (regsA s'.v)):=by
  intro Hx wv' a' s' hx h8
  rw [qbm (xg hx.row) (by simp [cellsR,regsA,h8])]
  obtain ⟨v0,v1,v2,v3,v4,v5,v6,v7,e⟩:=qa3 (tv:=tv) (wv:=wv) (a:=a') h8
  unfold cellsR regsA;simp only [e];rfl
 simp only [↓qe,qt,reduceIte,Nat.reduceEqDiff,w0,AV.cells,<-e1,<-e2,c1.ld,qo,h2.l1,ldv h2 hv8]
 have hwl:=h.wl
 refine P3.q (qu7 (M:=M) h2.nw.sl (by omega)) (fun w' H3 hw'=>?_) fun c H' q=>q.elim
 have hw':New encU jp 1 H2 H3 w' s.w:=hw'
 have f3:=hw'.fr
 have h3:=h2.em f3
 have c1:=c1.em f3
 have c2:=c2.em f3
 have e4:Op.store 8 [AV.ptr H3.next 0,AV.agg (regsA s.v)] (H3.alloc (OR [.int .u64 0,.int .u64 0,.int .u64 0,.int .u64 0,.int .u64 0,.int .u64 0,.int .u64 0,.int .u64 0] T__21))=some (.undef,H3.alloc (OR (regsA s.v) T__21)) :=
  qf3 H3 _ T__21 8 (.agg (regsA s.v)) rfl (by simp [AV.cells,regsA,hv8]) (by rw [qc0];simp [AV.cells,regsA,oneCell])
 have f5:Fr Em H3 (H3.alloc (OR (regsA s.v) T__21)):=(Fr.refl H3).alloc _
 have h5:=h3.em f5
 have c5:=Lc.new h3 (regsA s.v) T__21
 have d1:=c1.em f5
 have d2:=c2.em f5
 have hw5:=hw'.em f5
 obtain ⟨p5,hp5⟩:∃ p,p=H3.next:=⟨_,rfl⟩
 have n12:=f1.next
 have n23:=f2.next
 have n34:=f3.next
 have n45:=f5.next
 have lt1:=c1.lt
 have lt2:=c2.lt
 have lt5:=c5.lt
 obtain ⟨H5,e5⟩:∃ X,X=H3.alloc (OR (regsA s.v) T__21):=⟨_,rfl⟩
 rw [<-e5] at f5 h5 c5 d1 d2 hw5 e4 lt5 n45
 rw [<-hp5] at c5 e4 lt5
 -- the mark
 have st6:=jz h5.row (o:=14) (n:=1) (v:=.bool true) rfl (by simp [cellsR,regsA,hv8]) rfl
 obtain ⟨h6,f6⟩:=h5.put' (s':=s) (a':=true) (c:=(cellsR tv wv false s).take 14++(AV.bool true).cells++(cellsR tv wv false s).drop (14+1)) (by
  obtain ⟨v0,v1,v2,v3,v4,v5,v6,v7,e⟩:=qa3 (tv:=tv) (wv:=wv) (a:=false) hv8
  unfold cellsR regsA;simp only [e];rfl) rfl hv8 h.vr h.fl
 obtain ⟨H6,e6⟩:∃ X,X=H5.set r (OR ((cellsR tv wv false s).take 14++(AV.bool true).cells++(cellsR tv wv false s).drop (14+1)) ye):=⟨_,rfl⟩
 rw [<-e6] at h6 f6 st6
 have g1:=d1.mv f6
 have g2:=d2.mv f6
 have g5:=c5.mv f6
 have n56:=f6.next
 have mf:Op.mkFunc vf 0 [.ptr H.next 0,.ptr H1.next 0]=some (.fn (.func vf) [] [.ptr H.next 0,.ptr H1.next 0]):=rfl
 simp only [↓qe,qt,reduceIte,Nat.reduceEqDiff,c1.ld,ldv h3 hv8,<-hp5,e4,w4,d1.ld,qo,st6,g1.ld,mf]
 -- the list,up to where it stops
 have f7:Fr Em H6 (H6.alloc (OR [.int .i64 0] jj)):=(Fr.refl H6).alloc _
 have h7:=h6.em f7
 have c7:=Lc.new h6 [.int .i64 0] jj
 have b1:=g1.em f7
 have b2:=g2.em f7
 have b5:=g5.em f7
 have hblk:=q28 (M:=M) hl hs ho hsm (a:=true) (fun _=>hat) he h7 (b1.ld 0) (b2.ld 0)
 rw [hfin] at hblk
 have htry:=q0i (M:=M) (g:=vf) (first:=[]) (cap:=[.ptr H.next 0,.ptr H1.next 0]) (rv:=.ptr r 0) (H:=H6) (P:=AtP H0 (H6.alloc (OR [.int .i64 0] jj)) r tv wv fin) (by
  obtain ⟨e,Hx,q1,q2⟩:=hblk
  refine ⟨e,Hx,q1,?_⟩
  cases e with
  | ret v=>exact .inl ⟨⟨v,rfl⟩,(c7.mv q2.2.2).get,(c7.mv q2.2.2).lt,.inl ⟨rfl,q2⟩⟩
  | panic c =>
   obtain ⟨k,rfl,q2⟩:=q2
   have q2':=q2
   obtain ⟨_,_,wv',a',_,q3,_⟩:=q2'
   exact .inr ⟨k,rfl,(c7.mv q3).get,(c7.mv q3).lt,.inr ⟨q2.2.1,q2⟩⟩)
 refine P3.q htry (fun v H9 hv=>?_) fun c H' q=>q.elim
 obtain ⟨c,H8,hv,hat8,f9⟩:∃ c H1',v=.int .i64 ((c:Nat):Int)/\AtP H0 (H6.alloc (OR [.int .i64 0] jj)) r tv wv fin c H1'/\Fr (fun x=>x=H6.next) H1' H9:=hv
 subst hv
 obtain ⟨wv2,a2,h8,f8,hon8,hc⟩:∃ wv2 a2,WSt H0 H8 r tv wv2 a2 fin/\Fr (MW r wv) (H6.alloc (OR [.int .i64 0] jj)) H8/\(∀ b,OnS wv2 b->OnS wv b\/(H6.alloc (OR [.int .i64 0] jj)).next<=b)/\(c=0/\fin.err=0/\wv2=wv\/c ≠ 0/\fin.err=c):=by
  rcases hat8 with ⟨q1,q2,q3,q4⟩|⟨q1,q2,_,wv',a',q3,q4,q5⟩
  ·exact ⟨wv,true,q3,q4,fun b hb=>.inl hb,.inl ⟨q1,q2,rfl⟩⟩
  ·exact ⟨wv',a',q3,q4,q5,.inr ⟨q1,q2⟩⟩
 have n67:(H6.alloc (OR [.int .i64 0] jj)).next=H6.next+1:=xi ..
 have n06:=h6.fr.next
 have n02:=h2.fr.next
 have h6hi:=h6.hi
 have h9:WSt H0 H9 r tv wv2 a2 fin:=h8.only f9 (by omega) (fun q=>(hon8 _ q).elim (fun q=>by have:=Own.lt h6.nw.own _ q;omega) fun q=>by omega) (by omega)
 have lt61:=g1.lt
 have k1:=(b1.mv f8).only f9 (show H.next ≠ H6.next by omega)
 have k5:=(b5.mv f8).only f9 (show p5 ≠ H6.next by omega)
 have hdis:∀ x,OnS w' x -> ¬ MW r wv x:=fun x hx q=>by have:=hw'.fresh x hx;have:=MW.lt h2 q;omega
 have hlt5:=Own.lt hw5.own
 have o6:OwnT encU jp 1 H6 w' s.w:=Own.fr hw5.own f6 hdis
 have o8:OwnT encU jp 1 H8 w' s.w:=Own.fr (Own.em o6 f7) f8 hdis
 have o9:OwnT encU jp 1 H9 w' s.w:=Own.fr o8 f9 fun x hx q=>by have:=hlt5 x hx;omega
 have fH9:Fr (MW r wv) H H9:=by
  have q1:Fr (MW r wv) H H8:=FrM.trans (FrM.trans (Fr.toM ((((f1.trans f2 fun _ q=>q.elim).trans f3 fun _ q=>q.elim)).trans f5 fun _ q=>q.elim)) f6) (FrM.trans (Fr.toM f7) f8)
  exact q1.trans f9 fun x hx=>.inr (by omega)
 -- the mark goes
 have st10:=jz h9.row (o:=14) (n:=1) (v:=.bool false) rfl (by simp [cellsR,regsA,h9.v8]) rfl
 obtain ⟨h10,f10⟩:=h9.put' (s':=fin) (a':=false) (c:=(cellsR tv wv2 a2 fin).take 14++(AV.bool false).cells++(cellsR tv wv2 a2 fin).drop (14+1)) (by
  obtain ⟨v0,v1,v2,v3,v4,v5,v6,v7,e⟩:=qa3 (tv:=tv) (wv:=wv2) (a:=a2) h9.v8
  unfold cellsR regsA;simp only [e];rfl) rfl h9.v8 h9.vr h9.fl
 have f10':Fr (fun x=>x=r) H9 (H9.set r (OR ((cellsR tv wv2 a2 fin).take 14++(AV.bool false).cells++(cellsR tv wv2 a2 fin).drop (14+1)) ye)):=(Fr.refl H9).set (W:=fun x=>x=r) (.inl rfl) _
 obtain ⟨H10,e10⟩:∃ X,X=H9.set r (OR ((cellsR tv wv2 a2 fin).take 14++(AV.bool false).cells++(cellsR tv wv2 a2 fin).drop (14+1)) ye):=⟨_,rfl⟩
 rw [<-e10] at h10 f10 f10' st10
 have m1:=k1.only f10' (fun q=>k1.nr q)
 have m5:=k5.only f10' (fun q=>k5.nr q)
 have fH10:Fr (MW r wv) H H10:=fH9.trans f10' fun x hx=>.inl (.inl hx)
 rcases hc with ⟨rfl,he0,rfl⟩|⟨hc0,hce⟩
 ·have hb:fin.blk<4611686018427387904:=by omega
  have wb:wrapI .i64 (((fin.blk:Nat):Int)+1)=((fin.blk+1:Nat):Int):=by rw [zz (by omega) (by omega)];omega
  have st11:=jz h10.row (o:=12) (n:=1) (v:=.int .i64 ((fin.blk+1:Nat):Int)) rfl (by simp [cellsR,regsA,h10.v8]) rfl
  obtain ⟨h11,f11⟩:=h10.put' (s':={ fin with blk:=fin.blk+1 }) (a':=false) (c:=(cellsR tv wv2 false fin).take 12++(AV.int .i64 ((fin.blk+1:Nat):Int)).cells++(cellsR tv wv2 false fin).drop (12+1)) (by
   obtain ⟨v0,v1,v2,v3,v4,v5,v6,v7,e⟩:=qa3 (tv:=tv) (wv:=wv2) (a:=false) h10.v8
   unfold cellsR regsA;simp only [e];rfl) rfl h10.v8 h10.vr (by simp only;omega)
  have t0:=x8 (show ((0:Nat):Int)=0 from rfl)
  simp only [↓qe,qt,reduceIte,Nat.reduceEqDiff,w8,w10,w18,k1.ld,m1.ld,qo,st10,t0,h10.l12,wb,st11,qcx]
  unfold atomE
  rw [qw he0]
  exact ⟨he0,h11,FrM.trans fH10 f11⟩
 ·have t0:¬ ((c:Nat):Int)=0:=by omega
  have oc:oneCell w'=true:=Sl.one (Own.sl o9)
  have ocells:w'.cells=[w']:=by
   have:=oc;revert this;cases w'<;>intro q<;>first|rfl|cases q
  have e8:=hv8
  have st11:=jz h10.row (o:=1) (n:=1) (v:=w') (by rw [ocells];rfl) (by simp [cellsR,regsA,h10.v8]) (by rw [ocells,qc0];simp [oc])
  have ce1:(cellsR tv wv2 false fin).take 1++w'.cells++(cellsR tv wv2 false fin).drop (1+1)=cellsR tv w' false fin:=by rw [ocells];rfl
  rw [ce1] at st11
  have f11:Fr (fun x=>x=r) H10 (H10.set r (OR (cellsR tv w' false fin) ye)):=(Fr.refl H10).set (W:=fun x=>x=r) (.inl rfl) _
  have r11:=zf H10 r (OR (cellsR tv w' false fin) ye)
  obtain ⟨H11,e11⟩:∃ X,X=H10.set r (OR (cellsR tv w' false fin) ye):=⟨_,rfl⟩
  rw [<-e11] at f11 r11 st11
  have x1:=m1.only f11 (fun q=>m1.nr q)
  have x5:=m5.only f11 (fun q=>m5.nr q)
  have st12:=jz r11 (o:=2) (n:=8) (v:=.agg (regsA s.v)) (by simp [AV.cells,regsA,hv8]) (by simp [cellsR,regsA,h10.v8]) (by rw [qc0];simp [AV.cells,regsA,oneCell])
  have ce2:(cellsR tv w' false fin).take 2++(AV.agg (regsA s.v)).cells++(cellsR tv w' false fin).drop (2+8)=cellsR tv w' false { fin with w:=s.w,v:=s.v }:=by
   obtain ⟨v0,v1,v2,v3,v4,v5,v6,v7,e⟩:=qa3 (tv:=tv) (wv:=wv2) (a:=false) h10.v8
   unfold cellsR;simp only [regsA,e];simp [AV.cells]
  rw [ce2] at st12
  have f12:Fr (fun x=>x=r) H11 (H11.set r (OR (cellsR tv w' false { fin with w:=s.w,v:=s.v }) ye)):=(Fr.refl H11).set (W:=fun x=>x=r) (.inl rfl) _
  have r12:=zf H11 r (OR (cellsR tv w' false { fin with w:=s.w,v:=s.v }) ye)
  obtain ⟨H12,e12⟩:∃ X,X=H11.set r (OR (cellsR tv w' false { fin with w:=s.w,v:=s.v }) ye):=⟨_,rfl⟩
  rw [<-e12] at f12 r12 st12
  have b1:Op.build [(.int .i64 0)] [(0,1)] [.int .i64 ((c:Nat):Int)]=some (.agg [.int .i64 ((c:Nat):Int)]):=rfl
  have b2:Op.mkIface kg [.agg [.int .i64 ((c:Nat):Int)]]=some (stopV c):=rfl
  have lv5:∀ {Hx:AHeap},Lc Hx r wv p5 (regsA s.v) T__21->Op.loadN 8 [.ptr p5 0] Hx=some (.agg (regsA s.v)):=by
   intro Hx hx
   rw [qbm (xg hx.get) (by simp [regsA,hv8])]
   rw [xl,qx (by simp [regsA,hv8])]
  simp only [↓qe,qt,reduceIte,Nat.reduceEqDiff,w8,w10,k1.ld,m1.ld,x1.ld,qo,st10,t0,lv5 m5,lv5 x5,st11,st12,b1,b2,qke,qa2,vm]
  unfold atomE
  have hne:¬ fin.err=0:=by omega
  rw [qk hne]
  have hr:∀ x,OnS w' x->x ≠ r:=fun x hx q=>by have:=hw'.fresh x hx;have:=h2.hi;omega
  have o12:OwnT encU jp 1 H12 w' s.w:=Own.fr (Own.fr (Own.fr o9 f10' hr) f11 hr) f12 hr
  have fH12:Fr (MW r wv) H H12:=(fH10.trans f11 fun x hx=>.inl (.inl hx)).trans f12 fun x hx=>.inl (.inl hx)
  have hlo:=h.lo
  have hi12:r<H12.next:=qh h.hi fH12.next
  refine ⟨hce,hc0,w',false,⟨r12,hlo,hi12,⟨o12,h.nw.fr.trans fH12 fun x hx=>.inr ?_,fun b hb=>by have:=hw'.fresh b hb;omega⟩,fun q=>hr r q rfl,hv8,hwl,h.wr,h.vr,by have:=h10.fl;simp only;omega⟩,fH12,fun b hb=>.inr (by have:=hw'.fresh b hb;omega)⟩
  rcases hx with q|q
  ·rw [q];exact hlo
  ·exact h.nw.fresh x q
theorem atom_do {H0:AHeap} {tv:AV} {ts:List Nd} (hn:Nds H0 tv ts) (l:Ls) (hl':LD M H0 tv ts l):SD M H0 tv ts (.atom l):=by
 intro H r bb wv a s hs ho hsm hat hon h
 obtain ⟨hnd,hks⟩:=Seg.nd (x:=.s (.atom l)) hs
 have hsl:Seg ts bb (l.encL bb):=hks.cons.1
 have hnd':(It.s (.atom l)).nd bb=⟨18,0,[((bb+l.sz:Nat):Int)]⟩:=by simp [It.nd,It.kn,It.ks,endsF,ints,It.sz]
 rw [hnd'] at hnd
 have ha:a=false:=by cases a with
  | false=>rfl
  | true=>have:=hat rfl;simp [St.atm] at this
 subst ha
 refine qr0 hn h hnd (show (18:Int) ≠ 20 by decide) (show (18:Int) ≠ 17 by decide) (fun q=>by simp only [St.run,qw q]) fun hl ka p H2 ha h2 l2 f2=>?_
 simp only [St.run,qk hl]
 rw [qf2 hl] at h2 ⊢
 obtain ⟨i1,i2⟩:=kid_m ha h2.fr (i:=0) rfl (z:=0) rfl
 have t18:=x8 (show (18:Int)=18 from rfl)
 simp only [↓qe,qt,reduceIte,Nat.reduceEqDiff,za,qo,l2.ld,Int.reduceEq,t18,i1 .i64,i2]
 have hfl:=h.fl
 refine P3.e (block_do (s:={ s with left:=s.left-1 }) hl' hsl ho.1 hsm ho.2 hon.2 h2 (by simp only;omega)) (fun v H3 ⟨q1,q2,q3⟩=>?_) fun k H3 hx=>?_
 ·simp only [↓qe,qt,reduceIte,Nat.reduceEqDiff,za,qcx]
  exact ⟨q1,q2,FrM.trans f2 q3⟩
 ·simp only [↓qe,qt,reduceIte,Nat.reduceEqDiff,za,qa2,vm]
  exact DX.up hx f2
def LsD (M:Mac) (H0:AHeap) (tv:AV) (ts:List Nd) (l:Ls):Prop:=∀ s ∈ sts l,SD M H0 tv ts s
mutual
theorem St_do {H0:AHeap} {tv:AV} {ts:List Nd} (hn:Nds H0 tv ts) (ht:ts.length<=2000):∀ x:Lang.St,SD M H0 tv ts x
 | .set w x=>set_do hn w x
 | .store x y=>store_do hn x y
 | .ite c l=>ite_do hn c l (qr7 hn ht l (Ls_do hn ht l))
 | .ites c l m=>ites_do hn c l m (qr7 hn ht l (Ls_do hn ht l)) (qr7 hn ht m (Ls_do hn ht m))
 | .loop c l=>loop_do hn c l (qr7 hn ht l (Ls_do hn ht l))
 | .atom l=>atom_do hn l (qr7 hn ht l (Ls_do hn ht l))
 | .halt=>halt_do hn
theorem Ls_do {H0:AHeap} {tv:AV} {ts:List Nd} (hn:Nds H0 tv ts) (ht:ts.length<=2000):∀ l:Ls,LsD M H0 tv ts l
 | .nil=>by intro s h;cases h
 | .cons x l=>by
  intro s h
  rcases x4.1 h with q|q
  ·rw [q];exact St_do hn ht x
  ·exact Ls_do hn ht l s q
end
end Go.Am
namespace Go.Am
open Lang Go.Proofs
variable {M:Mac} [MK M]
def OkP (t:List Nd):Prop:=∃ p:Ls,t=p.encL 0/\p.ok/\p.sz+1<=2000/\(printR p).2=0
def MayR (t:List Nd) (n:Nat) (fuel:Int):Prop:=n<=4096/\0<=fuel/\fuel<=1048576/\OkP t
structure NdI (H:AHeap) (tv:AV) (t:List Nd):Prop where
 nd:Nds H tv t
 kids:∀ x ∈ t,x.kids.length*8<=140737488355328
 lo:∀ x ∈ t,0<=x.n
 hi:∀ x ∈ t,x.n<18446744073709551616
 pow:PowT H
 pl:z9<H.next
theorem NdI.em {H H':AHeap} {tv:AV} {t:List Nd} (h:NdI H tv t) (f:Fr Em H H'):NdI H' tv t:=⟨h.nd.em f,h.kids,h.lo,h.hi,(f.cells h.pl id).trans h.pow,qh h.pl f.next⟩
theorem Print_ok {H:AHeap} {tv:AV} {t:List Nd} (h:NdI H tv t):yq M qcp [tv] H fun v H'=>Fr Em H H' /\ ∃ s e,v=.tuple [.str s,.int .i64 e]/\(e=0 ↔ OkP t):=by
 have hsm:∀ {p:Ls},t=p.encL 0->p.small:=fun q=>Ls.small_of _ 0 fun y hy=>h.hi y (by rw [q];unfold Ls.encL;exact List.mem_append_left _ hy)
 by_cases hok:OkP t
 ·have hok':=hok
  obtain ⟨p,rfl,ho,hz,hp⟩:=hok'
  refine (q0p h.nd h.kids ((qup h.lo).2 ⟨p,rfl,ho,hz⟩) ho (hsm rfl) hz h.pow h.pl).mono fun v H' ⟨hv,hf⟩=>⟨hf,_,_,hv,?_⟩
  exact ⟨fun _=>hok,fun _=>hp⟩
 ·cases hm:mayB t with
  | false =>
   refine (Print_no h.nd h.kids hm).mono fun v H' ⟨hv,hf⟩=>⟨hf,[],2,hv,?_⟩
   exact ⟨fun q=>absurd q (by decide),fun q=>(hok q).elim⟩
  | true =>
   obtain ⟨p,rfl,ho,hz⟩:=(qup h.lo).1 hm
   refine (q0p h.nd h.kids hm ho (hsm rfl) hz h.pow h.pl).mono fun v H' ⟨hv,hf⟩=>⟨hf,_,_,hv,?_⟩
   exact ⟨fun q=>(hok ⟨p,rfl,ho,hz,q⟩).elim,fun q=>(hok q).elim⟩
theorem x20 (a b:AV):Op.extract 0 [.tuple [a,b]]=some a:=rfl
theorem x21 (a b:AV):Op.extract 1 [.tuple [a,b]]=some b:=rfl
theorem qnq {H:AHeap} {tv wv:AV} {t:List Nd} {ws:List Int} {fuel:Int} (h:NdI H tv t) (hw:SlT encU 1 H wv ws):yq M qgi [tv,wv,.int .i64 fuel] H fun v H'=>Fr Em H H' /\ ∃ q,v=.bool q/\(q=true ↔ MayR t ws.length fuel):=by
 refine q7c ?_
 obtain ⟨w0,w2,w10⟩:=q7d M ⟨none,qgi⟩
 by_cases h1:ws.length<=4096
 ·have t1:¬ (4096:Int)<(ws.length:Nat):=by omega
  by_cases h2:0<=fuel
  ·have t2:¬ fuel<0:=by omega
   by_cases h3:fuel<=1048576
   ·have t3:¬ (1048576:Int)<fuel:=by omega
    simp only [↓qe,qt,reduceIte,Nat.reduceEqDiff,w0,w2,w10,hw.len,t1,t2,t3]
    refine C3.q (Print_ok (M:=M) h) fun v H1 ⟨hf,s,e,hv,he⟩=>?_
    subst hv
    simp only [↓qe,qt,reduceIte,Nat.reduceEqDiff,x20,x21]
    exact ⟨hf,decide (e=0),rfl,by simp only [kj,he];exact ⟨fun q=>⟨h1,h2,h3,q⟩,fun q=>q.2.2.2⟩⟩
   ·have t3:(1048576:Int)<fuel:=by omega
    simp only [↓qe,qt,reduceIte,Nat.reduceEqDiff,w0,w2,hw.len,t1,t2,t3]
    exact ⟨Fr.refl _,false,rfl,⟨fun q=>(by cases q),fun q=>(h3 q.2.2.1).elim⟩⟩
  ·have t2:fuel<0:=by omega
   simp only [↓qe,qt,reduceIte,Nat.reduceEqDiff,w0,w2,hw.len,t1,t2]
   exact ⟨Fr.refl _,false,rfl,⟨fun q=>(by cases q),fun q=>(h2 q.2.1).elim⟩⟩
 ·have t1:(4096:Int)<(ws.length:Nat):=by omega
  simp only [↓qe,qt,reduceIte,Nat.reduceEqDiff,w0,w2,hw.len,t1]
  exact ⟨Fr.refl _,false,rfl,⟨fun q=>(by cases q),fun q=>(h1 q.1).elim⟩⟩
def endC (w':AV) (r:MS):List AV:=w'::(regsA r.v ++ [.int .i64 0,.int .i64 (r.left:Nat),.int .i64 (r.blk:Nat),.int .i64 (r.err:Nat)])
abbrev noE:AV:=.agg [.nils,.int .u64 0,.int .u64 0,.int .u64 0,.int .u64 0,.int .u64 0,.int .u64 0,.int .u64 0,.int .u64 0,.int .i64 0,.int .i64 0,.int .i64 0,.int .i64 0]
def Lang.It.run:It->MS->MS
 | .s x,m=>x.run false m
 | .l y,m=>y.run false m
 | _,m=>m
def StepOk (t:List Nd) (n:Int) (nw:Nat) (fuel:Int):Prop:=MayR t nw fuel/\0<=n/\n<(t.length:Nat) /\ ∀ x,t[n.toNat]? = some x->14<=x.k
abbrev noC:List AV:=[.nils,.int .u64 0,.int .u64 0,.int .u64 0,.int .u64 0,.int .u64 0,.int .u64 0,.int .u64 0,.int .u64 0,.int .i64 0,.int .i64 0,.int .i64 0,.int .i64 0]
structure Row3 (H H':AHeap) (p q r:Nat) (n:Int) (v:List Int):Prop where
 fr:Fr Em H H'
 gp:H'.get p=some (OR [.int .i64 n] T_int)
 gq:H'.get q=some (OR (regsA v) T__21)
 gr:H'.get r=some (OR noC vy)
 lp:H.next<=p/\p<q
 lq:q<r
 lr:r<H'.next
theorem Row3.em {H H1 H2:AHeap} {p q r:Nat} {n:Int} {v:List Int} (h:Row3 H H1 p q r n v) (f:Fr Em H1 H2):Row3 H H2 p q r n v:=by
 obtain ⟨h1,h2,h3,h4,h5,h6,h7⟩:=h
 exact ⟨h1.em f,by rw [f.keep p (by omega) id];exact h2,by rw [f.keep q (by omega) id];exact h3,by rw [f.keep r (by omega) id];exact h4,h5,h6,qh h7 f.next⟩
theorem q2u {H:AHeap} {tv wv:AV} {v:List Int} {n fuel:Int} {Q:AV->AHeap->Prop} (hk:∀ H' p q r,Row3 H H' p q r n v ->
 W M ⟨none,qbe⟩ (qe6 2) true (FIN3 M [.cellN 13 10,.tmp 11] (RT3 Q)) [(11,.int .i64 0),(10,.ptr r 0),(8,.ptr q 0),(6,.ptr p 0),(0,tv),(1,.int .i64 n),(2,wv),(3,.agg (regsA v)),(4,.int .i64 fuel)] [] H') :
 yq M qbe [tv,.int .i64 n,wv,.agg (regsA v),.int .i64 fuel] H Q:=by
 refine q3n ?_
 obtain ⟨w0,-,-⟩:=qpt M ⟨none,qbe⟩
 obtain ⟨H1,e1⟩:∃ X,X=H.alloc (OR [.int .i64 n] T_int):=⟨_,rfl⟩
 obtain ⟨H2,e2⟩:∃ X,X=H1.alloc (OR (regsA v) T__21):=⟨_,rfl⟩
 obtain ⟨H3,e3⟩:∃ X,X=H2.alloc (OR noC vy):=⟨_,rfl⟩
 simp only [↓qe,qt,reduceIte,Nat.reduceEqDiff,w0,AV.cells,<-e1,<-e2,<-e3]
 have n1:H1.next=H.next+1:=by rw [e1,xi]
 have n2:H2.next=H1.next+1:=by rw [e2,xi]
 have n3:H3.next=H2.next+1:=by rw [e3,xi]
 refine hk H3 _ _ _ ⟨?_,?_,?_,?_,⟨qf _,by omega⟩,by omega,by omega⟩
 ·rw [e3,e2,e1];exact (((Fr.refl H).alloc _).alloc _).alloc _
 ·rw [e3,wq (by omega),e2,wq (by omega),e1,xc]
 ·rw [e3,wq (by omega),e2,xc]
 ·rw [e3,xc]
theorem Step_no {H:AHeap} {tv wv:AV} {t:List Nd} {ws v:List Int} {n fuel:Int} (h:NdI H tv t) (hw:SlT encU 1 H wv ws) (hno:¬ StepOk t n ws.length fuel) :
 yq M qbe [tv,.int .i64 n,wv,.agg (regsA v),.int .i64 fuel] H fun v' H'=>v'=.tuple [noE,.int .i64 2]/\Fr Em H H':=by
 refine q2u fun H1 p q r hr=>?_
 obtain ⟨-,w2,-⟩:=qpt M ⟨none,qbe⟩
 simp only [↓qe,qt,reduceIte,Nat.reduceEqDiff,w2]
 refine C3.q (qnq (M:=M) (h.em hr.fr) (hw.em hr.fr)) fun v1 H2 ⟨f2,b,hv1,hb⟩=>?_
 subst hv1
 have hr2:=hr.em f2
 have lp:Op.load1 [.ptr p 0] H2=some (.int .i64 n):=yj (xg hr2.gp) 0
 have bd:Op.build noC [] []=some noE:=rfl
 have st:=jz hr2.gr (o:=0) (n:=13) (v:=noE) rfl (by simp) rfl
 have ee:noC.take 0++noE.cells++noC.drop (0+13)=noC:=rfl
 rw [ee] at st
 have ld:Op.loadN 13 [.ptr r 0] (H2.set r (OR noC vy))=some noE:=qbm (xg (zf ..)) (by simp)
 have hlt:=hr2.lp
 have hlq:=hr2.lq
 have fE:Fr Em H (H2.set r (OR noC vy)):=hr2.fr.set (.inr (by omega)) _
 cases b with
 | false=>simp only [↓qe,qt,reduceIte,Nat.reduceEqDiff,bd,st,ld];exact fE
 | true =>
  by_cases h1:n<0
  ·simp only [↓qe,qt,reduceIte,Nat.reduceEqDiff,lp,h1,bd,st,ld];exact fE
  have hln:=(h.em hr.fr).nd.len
  by_cases h2:((t.length:Nat):Int)<=n
  ·simp only [↓qe,qt,reduceIte,Nat.reduceEqDiff,lp,h1,hln,h2,bd,st,ld];exact fE
  obtain ⟨i,rfl⟩:∃ i:Nat,n=(i:Int):=⟨n.toNat,by omega⟩
  obtain ⟨x,hx⟩:∃ x,t[i]? = some x:=⟨t[i]'(by omega),by simp⟩
  obtain ⟨ka,_,_,q1,_,q2,_⟩:=(h.em hr2.fr).nd.get hx
  by_cases h3:x.k<14
  ·simp only [↓qe,qt,reduceIte,Nat.reduceEqDiff,lp,h1,hln,h2,q1,q2,h3,bd,st,ld];exact fE
  ·exact (hno ⟨hb.1 rfl,by omega,by omega,fun y hy=>by rw [yl,hx] at hy;injection hy with hy;subst hy;omega⟩).elim
end Go.Am
namespace Go.Am
open Lang Go.Proofs
variable {M:Mac} [MK M]
def Lang.It.isRun:It->Prop
 | .s _=>True
 | .l _=>True
 | _=>False
theorem q4i {t:List Nd} {c:Nat} {l:List Nd} (h:Seg t c l):∀ y ∈ l,y ∈ t:=fun y hy=>by
 obtain ⟨i,hi⟩:=List.getElem?_of_mem hy
 exact xo (h i y hi)
theorem It_do {H0 H:AHeap} {tv wv:AV} {t:List Nd} (hn:Nds H0 tv t) (ht:t.length<=2000) (hlt:lt64 t) (x:It) (hx:x.isRun) {c r:Nat} {s:MS} (hs:Seg t c (x.enc c)) (ho:x.ok) (hon:s.on) (h:WSt H0 H r tv wv false s) :
 kx M j7 [.ptr r 0,.int .i64 ((c+x.sz-1:Nat):Int)] H (DQ H0 H r tv wv false (x.run s)):=by
 have hl:lt64 (x.enc c):=fun y hy=>hlt y (q4i hs y hy)
 cases x with
 | s x=>exact St_do hn ht x H r c wv false s hs ho (St.small_of x c hl) (fun q=>by cases q) hon h
 | l x=>exact qr7 hn ht x (Ls_do hn ht x) H r c wv false s hs ho (Ls.small_of x c fun y hy=>hl y (List.mem_append_left _ hy)) (fun q=>by cases q) hon.2 h
 | e x=>exact hx.elim
 | c x=>exact hx.elim
theorem q72 {H0 H:AHeap} {tv wv:AV} {t:List Nd} (hn:Nds H0 tv t) (ht:t.length<=2000) (hlt:lt64 t) (x:It) (hx:x.isRun) {c r p q:Nat} {s:MS} (hs:Seg t c (x.enc c)) (ho:x.ok) (hon:s.on) (h:WSt H0 H r tv wv false s)
 (hp:Op.load1 [.ptr p 0] H=some (.ptr r 0)) (hq:Op.load1 [.ptr q 0] H=some (.int .i64 ((c+x.sz-1:Nat):Int))):kx M qcl [.ptr p 0,.ptr q 0] H (DQ H0 H r tv wv false (x.run s)):=by
 refine qy8 ?_
 simp only [↓qe,qt,reduceIte,Nat.reduceEqDiff,qy9,hp,hq]
 refine P3.e (It_do hn ht hlt x hx hs ho hon h) (fun v H2 h2=>?_) fun k H2 hx=>?_
 ·simp only [↓qe,qt,reduceIte,Nat.reduceEqDiff,qcx];exact h2
 ·simp only [↓qe,qt,reduceIte,Nat.reduceEqDiff,qa2,vm];exact hx
structure EndQ (H:AHeap) (r:MS) (v':AV) (H':AHeap):Prop where
 ex:∃ w',v'=.tuple [.agg (endC w' r),.int .i64 0]/\New encU jp 1 H H' w' r.w
 v8:r.v.length=8
 wr:∀ x ∈ r.w,u64 x
 vr:∀ x ∈ r.v,u64 x
 wl:r.w.length<=4096
 fl:r.left+r.blk<=1048576
theorem qjk {v:AV} (h:oneCell v=true):v.cells=[v]:=by cases v<;>first|rfl|cases h
theorem q49 {w':AV} {r:MS} (h:oneCell w'=true):allOne (endC w' r)=true:=by
 rw [qc0,endC,List.all_cons,h,regsA]
 simp
 exact ⟨fun x _=>rfl,rfl,rfl,rfl,rfl⟩
theorem q44 {H:AHeap} {tv wv:AV} {t:List Nd} {ws v:List Int} {n:Int} {F c:Nat} (h:NdI H tv t) (hw:SlT encU 1 H wv ws) (hv:v.length=8) (hwr:∀ x ∈ ws,u64 x) (hvr:∀ x ∈ v,u64 x) (hmay:MayR t ws.length F) (x:It) (hx:x.isRun) (hs:Seg t c (x.enc c)) (ho:x.ok) (hn:n=((c+x.sz-1:Nat):Int)) :
 yq M qbe [tv,.int .i64 n,wv,.agg (regsA v),.int .i64 (F:Nat)] H (EndQ H (x.run ⟨ws,v,F,0,false,0⟩)):=by
 subst hn
 have hwl:ws.length<=4096:=hmay.1
 have hF:F<=1048576:=by have:=hmay.2.2.1;omega
 have ht:t.length<=2000:=by obtain ⟨p,rfl,_,hz,_⟩:=hmay.2.2.2;rw [Ls.lenL];omega
 refine q2u fun H1 p q r hr=>?_
 obtain ⟨-,w2,w10⟩:=qpt M ⟨none,qbe⟩
 simp only [↓qe,qt,reduceIte,Nat.reduceEqDiff,w2]
 refine C3.q (qnq (M:=M) (h.em hr.fr) (hw.em hr.fr)) fun v1 H2 ⟨f2,b,hv1,hb⟩=>?_
 subst hv1
 have hb:=hb.2 hmay
 subst hb
 have hr2:=hr.em f2
 have lp:Op.load1 [.ptr p 0] H2=some (.int .i64 ((c+x.sz-1:Nat):Int)):=yj (xg hr2.gp) 0
 have hslt:=Seg.lt hs
 have hpos:=x.pos
 have h1:¬ ((c+x.sz-1:Nat):Int)<0:=by omega
 have hln:=(h.em hr.fr).nd.len
 have h2:¬ ((t.length:Nat):Int)<=((c+x.sz-1:Nat):Int):=by omega
 obtain ⟨hnd,-⟩:=Seg.nd hs
 obtain ⟨ka,_,_,q1,_,q2,_⟩:=(h.em hr2.fr).nd.get hnd
 have h3:¬ (x.nd c).k<14:=by
  cases x with
  | s x=>cases x<;>(simp only [It.nd,It.kn];omega)
  | l x=>simp only [It.nd,It.kn];omega
  | e x=>exact hx.elim
  | c x=>exact hx.elim
 have ldq:∀ {Hx:AHeap},Hx.get q=some (OR (regsA v) T__21)->Op.loadN 8 [.ptr q 0] Hx=some (.agg (regsA v)):=by
  intro Hx hg
  rw [qbm (xg hg) (by simp [regsA,hv]),xl,qx (by simp [regsA,hv])]
 simp only [↓qe,qt,reduceIte,Nat.reduceEqDiff,w10,lp,h1,hln,h2,q1,q2,h3,ldq hr2.gq]
 refine C3.q (qu7 (M:=M) ((hw.em hr.fr).em f2) (by omega)) fun w' H3 hw'=>?_
 have f3:=hw'.fr
 have hr3:=hr2.em f3
 have oc:w'.cells=[w']:=qjk hw'.sl.one
 have ot:tv.cells=[tv]:=by obtain ⟨zs,_,q,_⟩:=h.nd.ex;exact qjk q.one
 obtain ⟨s0,hs0⟩:∃ s0:MS,s0=⟨ws,v,F,0,false,0⟩:=⟨_,rfl⟩
 have eb1:Op.build noC [(0,1),(1,8),(10,1)] [w',.agg (regsA v),.int .i64 (F:Nat)]=some (.agg (w'::(regsA v ++ [.int .i64 0,.int .i64 (F:Nat),.int .i64 0,.int .i64 0]))):=by
  match v,hv with
  | [a,b,c,d,e,f,g,i],_=>simp only [qnj,qh4,qkh,oc];rfl
 have eb2:Op.build [.nils,.nils,.int .u64 0,.int .u64 0,.int .u64 0,.int .u64 0,.int .u64 0,.int .u64 0,.int .u64 0,.int .u64 0,.int .i64 0,.int .i64 0,.int .i64 0,.int .i64 0,.bool false,.bool false] [(0,1),(1,13)] [tv,.agg (w'::(regsA v ++ [.int .i64 0,.int .i64 (F:Nat),.int .i64 0,.int .i64 0]))]=some (.agg (cellsR tv w' false s0)):=by
  subst hs0
  match v,hv with
  | [a,b,c,d,e,f,g,i],_=>simp only [qnj,qh4,qkh,ot];rfl
 -- the run
 have lpq:=hr3.lp
 have lqr:=hr3.lq
 have n23:=f3.next
 have l2r:=hr2.lr
 obtain ⟨H4,e4⟩:∃ X,X=H3.alloc (OR (cellsR tv w' false s0) ye):=⟨_,rfl⟩
 have f4:Fr Em H3 H4:=by rw [e4];exact (Fr.refl H3).alloc _
 have n4:H4.next=H3.next+1:=by rw [e4,xi]
 have g4:H4.get H3.next=some (OR (cellsR tv w' false s0) ye):=by rw [e4,xc]
 have hst:H4.alloc (OR [AV.nilp] kq)=H4.alloc (OR [AV.nilp] kq):=rfl
 have st5:=qf3 H4 [.nilp] kq 1 (.ptr H3.next 0) rfl rfl rfl
 obtain ⟨H5,e5⟩:∃ X,X=H4.alloc (OR [.ptr H3.next 0] kq):=⟨_,rfl⟩
 have st5:Op.store 1 [AV.ptr H4.next 0,AV.ptr H3.next 0] (H4.alloc (OR [AV.nilp] kq))=some (.undef,H5):=by rw [st5,e5];rfl
 have f5:Fr Em H4 H5:=by rw [e5];exact (Fr.refl H4).alloc _
 have n5:H5.next=H4.next+1:=by rw [e5,xi]
 have g5:H5.get H4.next=some (OR [.ptr H3.next 0] kq):=by rw [e5,xc]
 have f25:Fr Em H2 H5:=(f3.trans f4 fun _ q=>q.elim).trans f5 fun _ q=>q.elim
 have f05:Fr Em H H5:=hr2.fr.trans f25 fun _ q=>q.elim
 have n02:=hr2.fr.next
 have h5:WSt H H5 H3.next tv w' false s0:=by
  subst hs0
  exact ⟨by rw [f5.keep _ (by omega) id];exact g4,by omega,by omega,⟨Own.em (Own.em hw'.own f4) f5,f05,fun b hb=>by have:=hw'.fresh b hb;omega⟩,fun q=>by have:=Own.lt hw'.own _ q;omega,hv,hwl,hwr,hvr,by simp only;omega⟩
 have hr5:=hr2.em f25
 have lr5:∀ {Hx:AHeap} {b e:Nat} {row:List AV} (o:Nat),Hx.get b=some (OR row e)->Op.load1 [.ptr b o] Hx=row[o]?:=fun o hg=>yj (xg hg) o
 have mf:Op.mkFunc qcl 0 [.ptr H4.next 0,.ptr p 0]=some (.fn (.func qcl) [] [.ptr H4.next 0,.ptr p 0]):=rfl
 have eb1':Op.build [.nils,.int .u64 0,.int .u64 0,.int .u64 0,.int .u64 0,.int .u64 0,.int .u64 0,.int .u64 0,.int .u64 0,.int .i64 0,.int .i64 0,.int .i64 0,.int .i64 0] [(0,1),(1,8),(10,1)] [w',.agg (regsA v),.int .i64 (F:Nat)]=_:=eb1
 simp only [↓qe,qt,reduceIte,Nat.reduceEqDiff,ldq hr3.gq,eb1',eb2,qe4,<-e4,st5,lr5 _ g5,lr5 _ hr5.gp,mf]
 -- the statement,up to where it stops
 have f6:Fr Em H5 (H5.alloc (OR [.int .i64 0] jj)):=(Fr.refl H5).alloc _
 have h6:=h5.em f6
 have c6:=Lc.new h5 [.int .i64 0] jj
 have n6:(H5.alloc (OR [.int .i64 0] jj)).next=H5.next+1:=xi ..
 have hr6:=hr5.em f6
 have g6:(H5.alloc (OR [.int .i64 0] jj)).get H4.next=some (OR [.ptr H3.next 0] kq):=by rw [wq (by omega)];exact g5
 have hstep:=q72 (M:=M) h.nd ht h.hi x hx (p:=H4.next) (q:=p) hs ho (by subst hs0;exact ⟨rfl,rfl⟩) h6 (lr5 0 g6) (lr5 0 hr6.gp)
 rw [hs0] at hstep
 generalize hfin:x.run ⟨ws,v,F,0,false,0⟩=fin at *
 have htry:=q0i (M:=M) (g:=qcl) (first:=[]) (cap:=[.ptr H4.next 0,.ptr p 0]) (rv:=.ptr H3.next 0) (H:=H5) (P:=fun k Hx=>k=fin.err /\ ∃ w2 a2,WSt H Hx H3.next tv w2 a2 fin/\Fr (MW H3.next w') (H5.alloc (OR [.int .i64 0] jj)) Hx /\ ∀ b,OnS w2 b->OnS w' b\/(H5.alloc (OR [.int .i64 0] jj)).next<=b) (by
  obtain ⟨e,Hx,q1,q2⟩:=hstep
  refine ⟨e,Hx,q1,?_⟩
  cases e with
  | ret v=>exact .inl ⟨⟨v,rfl⟩,(c6.mv q2.2.2).get,(c6.mv q2.2.2).lt,q2.1.symm,w',false,q2.2.1,q2.2.2,fun b hb=>.inl hb⟩
  | panic c =>
   obtain ⟨k,rfl,q2⟩:=q2
   obtain ⟨q1,_,wv',a',q4,q3,q5⟩:=q2
   exact .inr ⟨k,rfl,(c6.mv q3).get,(c6.mv q3).lt,q1.symm,wv',a',q4,q3,q5⟩)
 refine C3.q htry fun v2 H8 ⟨k,H7,hv2,⟨hk,w2,a2,h7,f7,hon7⟩,f8⟩=>?_
 subst hv2;subst hk
 have hold:∀ b,b<H2.next -> ¬ OnS w2 b:=fun b hb q=>(hon7 b q).elim (fun q=>by have:=hw'.fresh b q;omega) fun q=>by omega
 have h8:WSt H H8 H3.next tv w2 a2 fin:=h7.only f8 (by omega) (fun q=>(hon7 _ q).elim (fun q=>by have:=Own.lt h5.nw.own _ q;omega) fun q=>by omega) (by omega)
 have n67:=f7.next
 have n78:=f8.next
 have keep:∀ b row e,b<H2.next\/b=H4.next->(H5.alloc (OR [.int .i64 0] jj)).get b=some (OR row e)->H8.get b=some (OR row e):=fun b row e hb hg=>by
  have q1:¬ MW H3.next w' b:=fun q=>by
   rcases q with q|q
   ·omega
   ·have:=hw'.fresh b q;have:=Own.lt hw'.own b q;omega
  rw [f8.keep b (by omega) (by omega),f7.keep b (by omega) q1];exact hg
 have g8:=keep _ _ _ (.inr rfl) g6
 have gr8:=keep _ _ _ (.inl hr2.lr) hr6.gr
 -- the error goes in,the end comes out
 have st9:=jz h8.row (o:=13) (n:=1) (v:=.int .i64 (fin.err:Nat)) rfl (by simp [cellsR,regsA,h8.v8]) rfl
 have ce:(cellsR tv w2 a2 fin).take 13++(AV.int .i64 (fin.err:Nat)).cells++(cellsR tv w2 a2 fin).drop (13+1)=tv::(endC w2 fin ++ [.bool a2,.bool fin.hlt]):=by
  obtain ⟨v0,v1,v2,v3,v4,v5,v6,v7,e⟩:=qa3 (tv:=tv) (wv:=w2) (a:=a2) h8.v8
  unfold cellsR endC regsA;simp only [e];rfl
 rw [ce] at st9
 obtain ⟨H9,e9⟩:∃ X,X=H8.set H3.next (OR (tv::(endC w2 fin ++ [.bool a2,.bool fin.hlt])) ye):=⟨_,rfl⟩
 have f9:Fr (fun x=>x=H3.next) H8 H9:=by rw [e9];exact (Fr.refl H8).set (W:=fun x=>x=H3.next) (.inl rfl) _
 have g9:H9.get H3.next=some (OR (tv::(endC w2 fin ++ [.bool a2,.bool fin.hlt])) ye):=by rw [e9];exact zf ..
 rw [<-e9] at st9
 have g9p:H9.get H4.next=some (OR [.ptr H3.next 0] kq):=by rw [f9.keep _ (by omega) (by omega)];exact g8
 have gr9:H9.get r=some (OR noC vy):=by rw [f9.keep _ (by omega) (by omega)];exact gr8
 have hel:(endC w2 fin).length=13:=by simp [endC,regsA,h8.v8]
 have ld9:Op.loadN 13 [.ptr H3.next 1] H9=some (.agg (endC w2 fin)):=by
  rw [qbm (xg g9) (by simp [hel]),zk,xl,List.take_left' hel]
 have o2:=h8.nw.sl.one
 have st10:=jz gr9 (o:=0) (n:=13) (v:=.agg (endC w2 fin)) hel (by simp) (by
  rw [qe4];exact q49 o2)
 have ce2:noC.take 0++(AV.agg (endC w2 fin)).cells++noC.drop (0+13)=endC w2 fin:=by rw [qe4];simp
 rw [ce2] at st10
 have ld10:Op.loadN 13 [.ptr r 0] (H9.set r (OR (endC w2 fin) vy))=some (.agg (endC w2 fin)):=by
  rw [qbm (xg (zf ..)) (by omega),xl,qx (by omega)]
 simp only [↓qe,qt,reduceIte,Nat.reduceEqDiff,lr5 _ g8,lr5 _ g9p,qo,st9,ld9,st10,ld10]
 have f10:Fr (fun x=>x=r) H9 (H9.set r (OR (endC w2 fin) vy)):=(Fr.refl H9).set (W:=fun x=>x=r) (.inl rfl) _
 refine ⟨⟨w2,rfl,⟨Own.fr (Own.fr h8.nw.own f9 fun x hx q=>h8.off (by subst q;exact hx)) f10 fun x hx q=>hold r hr2.lr (by subst q;exact hx),?_,h8.nw.fresh⟩⟩,h8.v8,h8.wr,h8.vr,h8.wl,h8.fl⟩
 exact (h8.nw.fr.trans f9 fun x hx=>.inr (by omega)).trans f10 fun x hx=>.inr (by omega)
theorem StepOk.of {t:List Nd} {n:Nat} {fuel:Int} (h:StepOk t (((t.length:Nat):Int)-1) n fuel):MayR t n fuel:=h.1
end Go.Am
namespace Go.Am
open Lang Go.Proofs
variable {M:Mac} [MK M]
theorem q57 {H:AHeap} {tv wv:AV} {t:List Nd} {ws:List Int} {fuel:Int} (hn:Nds H tv t) (hl:t.length<=140737488355328) (hw:SlT encU 1 H wv ws) :
 yq M qd3 [tv,wv,.int .i64 fuel] H fun v H'=>(v=.int .i64 0 /\ ¬ (2000<fuel/\fuel<=1048576)/\ws.length<=5000\/v=.int .i64 1)/\H'=H:=by
 refine qy2 ?_
 obtain ⟨w0,w4,w19,w9,w27,w15,w18⟩:=qy3 M ⟨none,qd3⟩
 simp only [↓qe,qt,reduceIte,Nat.reduceEqDiff,w0,w4]
 refine LOOP3.intro (fun k E' H'=>∃ j n,H'=H/\E'=[(8,.int .i64 (j:Nat)),(7,.int .i64 n),(0,tv),(1,wv),(2,.int .i64 fuel)]/\k=t.length-j/\j<=t.length) ?_ ?_
 ·exact ⟨_,_,⟨0,0,rfl,rfl,rfl,by omega⟩,by simp only [↓qe,qt,reduceIte,Nat.reduceEqDiff]⟩
 rintro k E' H' ⟨j,n,rfl,rfl,rfl,hj⟩
 rcases j8 j t.length with hlt|hge
 ·have q1:(j:Int)<(t.length:Nat):=by omega
  obtain ⟨x,hx⟩:∃ x,t[j]? = some x:=⟨t[j],by simp [hlt]⟩
  obtain ⟨a,ha,_,a1,_,a3,a4,a5⟩:=hn.get hx
  have wj:wrapI .i64 ((j:Int)+1)=((j+1:Nat):Int):=by rw [zz (by omega) (by omega)];omega
  simp only [↓qe,qt,reduceIte,Nat.reduceEqDiff,w9,w15,w18,hn.len,q1,a1,a5,ha.len,wj]
  exact ⟨_,_,⟨j+1,_,rfl,rfl,by omega⟩,by simp only [↓qe,qt,reduceIte,Nat.reduceEqDiff];rfl,by omega⟩
 ·have q1:¬ (j:Int)<(t.length:Nat):=by omega
  by_cases h1:(1000:Int)<n
  ·simp only [↓qe,qt,reduceIte,Nat.reduceEqDiff,w9,w19,hn.len,q1,h1];exact .inr trivial
  by_cases h2:(5000:Int)<(ws.length:Nat)
  ·simp only [↓qe,qt,reduceIte,Nat.reduceEqDiff,w9,w19,hn.len,q1,h1,hw.len,h2];exact .inr trivial
  by_cases h3:(2000:Int)<fuel
  ·by_cases h4:fuel<=1048576
   ·simp only [↓qe,qt,reduceIte,Nat.reduceEqDiff,w9,w19,hn.len,q1,h1,hw.len,h2,h3,h4];exact .inr trivial
   ·simp only [↓qe,qt,reduceIte,Nat.reduceEqDiff,w9,w19,w27,hn.len,q1,h1,hw.len,h2,h3,h4];exact .inl (by omega)
  ·simp only [↓qe,qt,reduceIte,Nat.reduceEqDiff,w9,w19,w27,hn.len,q1,h1,hw.len,h2,h3];exact .inl (by omega)
theorem q6j {H:AHeap} {a b:AV} {ws:List Int} (ha:SlT encU 1 H a ws) (hb:SlT encU 1 H b ws) (hl:ws.length<=1000000):yq M qd6 [a,b] H fun v H'=>v=.bool true/\H'=H:=by
 refine qz0 ?_
 obtain ⟨w0,w2,w10,w31,w15,w21,w30⟩:=qz1 M ⟨none,qd6⟩
 simp only [↓qe,qt,reduceIte,Nat.reduceEqDiff,w0,w2,w10,ha.len,hb.len]
 refine LOOP3.intro (fun k E' H'=>∃ j,H'=H/\E'=[(5,.int .i64 (j:Nat)),(0,a),(1,b)]/\k=ws.length-j/\j<=ws.length) ?_ ?_
 ·exact ⟨_,_,⟨0,rfl,rfl,rfl,by omega⟩,by simp only [↓qe,qt,reduceIte,Nat.reduceEqDiff]⟩
 rintro k E' H' ⟨j,rfl,rfl,rfl,hj⟩
 rcases j8 j ws.length with hlt|hge
 ·have q1:(j:Int)<(ws.length:Nat):=by omega
  obtain ⟨x,hx⟩:∃ x,ws[j]? = some x:=⟨ws[j],by simp [hlt]⟩
  have a1:=ha.idx hx rfl .i64
  have a2:=ha.load0 qoi hx (by decide)
  have b1:=hb.idx hx rfl .i64
  have b2:=hb.load0 qoi hx (by decide)
  have wj:wrapI .i64 ((j:Int)+1)=((j+1:Nat):Int):=by rw [zz (by omega) (by omega)];omega
  simp only [↓qe,qt,reduceIte,Nat.reduceEqDiff,w15,w21,w30,ha.len,q1,a1,a2,b1,b2,wj]
  exact ⟨_,_,⟨j+1,rfl,rfl,by omega⟩,by simp only [↓qe,qt,reduceIte,Nat.reduceEqDiff],by omega⟩
 ·have q1:¬ (j:Int)<(ws.length:Nat):=by omega
  simp only [↓qe,qt,reduceIte,Nat.reduceEqDiff,w15,w31,ha.len,q1]
theorem regs_eq {v:List Int} (hv:v.length=8) (H:AHeap):Op.eq (.agg (.part 0 none .int (.part 1 none .int (.part 2 none .int (.part 3 none .int (.part 4 none .int (.part 5 none .int (.part 6 none .int (.part 7 none .int .nil))))))))) false [.agg (regsA v),.agg (regsA v)] H=some (.bool true):=by
 match v,hv with
 | [a,b,c,d,e,f,g,i],_=>exact eqTy_agg' _ _ _ H true (by simp [eqTree,regsA,partAt,qba,qkg,show eqK .u64 .u64=true from rfl])
theorem endC_l {w':AV} {r:MS} (h:r.v.length=8):(endC w' r)[0]? = some w'/\(endC w' r)[10]? = some (.int .i64 (r.left:Nat))/\(endC w' r)[11]? = some (.int .i64 (r.blk:Nat))/\(endC w' r)[12]? = some (.int .i64 (r.err:Nat))/\((endC w' r).drop 1).take 8=regsA r.v/\(endC w' r).length=13:=by
 obtain ⟨v0,v1,v2,v3,v4,v5,v6,v7,e⟩:=qa3 (tv:=w') (wv:=w') (a:=true) h
 unfold endC;rw [e];exact ⟨rfl,rfl,rfl,rfl,rfl,rfl⟩
end Go.Am
namespace Go.Am
open Lang Go.Proofs
variable {M:Mac} [MK M]
theorem q4t {H0 H:AHeap} {tv wv:AV} {t:List Nd} (hn:Nds H0 tv t) (x:Ex) {c r p q z:Nat} {s:MS} (hs:Seg t c (x.enc c)) (ho:x.ok) (hsm:x.small) (h:VSt H0 H r tv wv false s)
 (hp:Op.load1 [.ptr p 0] H=some (.ptr r 0)) (hq:Op.load1 [.ptr q 0] H=some (.int .i64 ((c+x.sz-1:Nat):Int))) (hz:H.get z=some (OR [.int .u64 0] jp)) (lz:z<H.next) :
 kx M qbk [.ptr p 0,.ptr q 0,.ptr z 0] H (EQ (fun _ H'=>∃ y,x.val s.w s.v=some y/\H'.get z=some (OR [.int .u64 y] jp)/\Fr (fun b=>b=z) H H')
  (fun k H'=>k=111/\x.val s.w s.v=none/\Fr Em H H')):=by
 refine qwz ?_
 simp only [↓qe,qt,reduceIte,Nat.reduceEqDiff,qw0,hp,hq]
 refine P3.e (qkc hn x hs ho hsm h) (fun v H2 ⟨y,hy,hv,f2⟩=>?_) fun k H2 ⟨hk,hy,f2⟩=>?_
 ·subst hv
  have hz2:H2.get z=some (OR [.int .u64 0] jp):=by rw [f2.keep z lz id];exact hz
  have st:Op.store 1 [.ptr z 0,.int .u64 y] H2=some (.undef,H2.set z (OR [.int .u64 y] jp)):=jz hz2 (o:=0) (n:=1) (v:=.int .u64 y) rfl (by simp) rfl
  simp only [↓qe,qt,reduceIte,Nat.reduceEqDiff,st,qcx]
  exact ⟨y,hy,zf ..,Fr.set (W:=fun b=>b=z) (f2.mono fun _ _ q=>q.elim) (.inl rfl) _⟩
 ·subst hk
  simp only [↓qe,qt,reduceIte,Nat.reduceEqDiff,qa2,vm]
  exact ⟨hy,f2⟩
def ValOk (t:List Nd) (n:Int) (nw:Nat):Prop:=MayR t nw 0/\0<=n/\n<(t.length:Nat) /\ ∀ x,t[n.toNat]? = some x->x.k<=10
def valR (o:Option Int):AV:=match o with
 | some y=>.tuple [.int .u64 y,.int .i64 0]
 | none=>.tuple [.int .u64 0,.int .i64 111]
theorem valok_ex {t:List Nd} {n:Int} {nw:Nat} (h:ValOk t n nw) (hi:lt64 t):∃ (x:Ex) (c:Nat),Seg t c (x.enc c)/\x.ok/\x.small/\n=((c+x.sz-1:Nat):Int)/\t.length<=2000:=by
 obtain ⟨hm,h0,h1,h2⟩:=h
 obtain ⟨p,rfl,ho,hz,_⟩:=hm.2.2.2
 obtain ⟨x,c,x1,x2,x3⟩:=Ls.sub ho (n:=n.toNat) (by omega)
 obtain ⟨hnd,_⟩:=Seg.nd x2
 have hk:=h2 (x.nd c) (by rw [x3];exact hnd)
 have ht:(p.encL 0).length<=2000:=by rw [Ls.lenL];omega
 cases x with
 | e x=>exact ⟨x,c,x2,x1,Ex.small_of x c fun y hy=>hi y (q4i x2 y hy),by have hq:n.toNat=c+x.sz-1:=x3;omega,ht⟩
 | c x=>have h11:11<=x.k:=x1.1;simp only [It.nd,It.kn] at hk;omega
 | s x=>cases x<;>(simp only [It.nd,It.kn] at hk;omega)
 | l x=>simp only [It.nd,It.kn] at hk;omega
theorem q6i {H:AHeap} {tv wv:AV} {t:List Nd} {ws v:List Int} {n:Int} (h:NdI H tv t) (hw:SlT encU 1 H wv ws) (hv:v.length=8) (hwr:∀ x ∈ ws,u64 x) (hvr:∀ x ∈ v,u64 x)
 {x:Ex} {c:Nat} (hx:ValOk t n ws.length->Seg t c (x.enc c)/\x.ok/\x.small/\n=((c+x.sz-1:Nat):Int)) :
 yq M qe1 [tv,.int .i64 n,wv,.agg (regsA v)] H fun v' H'=>Fr Em H H'/\(¬ ValOk t n ws.length/\v'=.tuple [.int .u64 0,.int .i64 2]\/ValOk t n ws.length/\v'=valR (x.val ws v)):=by
 refine q1g ?_
 obtain ⟨w0,w2,w10,w14,w24⟩:=q1h M ⟨none,qe1⟩
 obtain ⟨H1,e1⟩:∃ X,X=H.alloc (OR [.int .i64 n] T_int):=⟨_,rfl⟩
 obtain ⟨H2,e2⟩:∃ X,X=H1.alloc (OR (regsA v) T__21):=⟨_,rfl⟩
 have n1:H1.next=H.next+1:=by rw [e1,xi]
 have n2:H2.next=H1.next+1:=by rw [e2,xi]
 have f02:Fr Em H H2:=by rw [e2,e1];exact ((Fr.refl H).alloc _).alloc _
 have gp:H2.get H.next=some (OR [.int .i64 n] T_int):=by rw [e2,wq (by omega),e1,xc]
 have gq:H2.get H1.next=some (OR (regsA v) T__21):=by rw [e2,xc]
 simp only [↓qe,qt,reduceIte,Nat.reduceEqDiff,w0,AV.cells,<-e1,<-e2,w2]
 refine C3.q (qnq (M:=M) (h.em f02) (hw.em f02)) fun v1 H3 ⟨f23,b,hv1,hb⟩=>?_
 subst hv1
 have f03:Fr Em H H3:=f02.trans f23 fun _ q=>q.elim
 have n3:=f23.next
 have gp3:H3.get H.next=some (OR [.int .i64 n] T_int):=by rw [f23.keep _ (by omega) id];exact gp
 have gq3:H3.get H1.next=some (OR (regsA v) T__21):=by rw [f23.keep _ (by omega) id];exact gq
 have lp:Op.load1 [.ptr H.next 0] H3=some (.int .i64 n):=yj (xg gp3) 0
 have hln:=h.nd.len
 cases b with
 | false=>simp only [↓qe,qt,reduceIte,Nat.reduceEqDiff];exact ⟨f03,.inl (fun q=>by have:=hb.2 q.1;cases this)⟩
 | true =>
  have hmay:=hb.1 rfl
  by_cases h1:n<0
  ·simp only [↓qe,qt,reduceIte,Nat.reduceEqDiff,lp,h1];exact ⟨f03,.inl (fun q=>by have:=q.2.1;omega)⟩
  by_cases h2:((t.length:Nat):Int)<=n
  ·simp only [↓qe,qt,reduceIte,Nat.reduceEqDiff,lp,h1,hln,h2];exact ⟨f03,.inl (fun q=>by have:=q.2.2.1;omega)⟩
  obtain ⟨i,rfl⟩:∃ i:Nat,n=(i:Int):=⟨n.toNat,by omega⟩
  obtain ⟨y,hy⟩:∃ y,t[i]? = some y:=⟨t[i]'(by omega),by simp⟩
  obtain ⟨ka,_,_,q1,_,q2,_⟩:=(h.em f03).nd.get hy
  by_cases h3:10<y.k
  ·simp only [↓qe,qt,reduceIte,Nat.reduceEqDiff,lp,h1,hln,h2,q1,q2,h3];exact ⟨f03,.inl (fun q=>by have:=q.2.2.2 y (by rw [yl];exact hy);omega)⟩
  have hok:ValOk t (i:Int) ws.length:=⟨hmay,by omega,by omega,fun z hz=>by rw [yl,hy] at hz;injection hz with hz;subst hz;omega⟩
  obtain ⟨hs,ho,hsm,hi⟩:=hx hok
  have hwl:ws.length<=4096:=hmay.1
  obtain ⟨s0,hs0⟩:∃ s0:MS,s0=⟨ws,v,0,0,false,0⟩:=⟨_,rfl⟩
  have hw3:=hw.em f03
  have oc:wv.cells=[wv]:=qjk hw.one
  have ot:tv.cells=[tv]:=by obtain ⟨zs,_,q,_⟩:=h.nd.ex;exact qjk q.one
  have ldq:Op.loadN 8 [.ptr H1.next 0] H3=some (.agg (regsA v)):=by
   rw [qbm (xg gq3) (by simp [regsA,hv]),xl,qx (by simp [regsA,hv])]
  have eb1:Op.build [.nils,.int .u64 0,.int .u64 0,.int .u64 0,.int .u64 0,.int .u64 0,.int .u64 0,.int .u64 0,.int .u64 0,.int .i64 0,.int .i64 0,.int .i64 0,.int .i64 0] [(0,1),(1,8)] [wv,.agg (regsA v)]=some (.agg (wv::(regsA v ++ [.int .i64 0,.int .i64 0,.int .i64 0,.int .i64 0]))):=by
   match v,hv with
   | [a,b,c,d,e,f,g,i],_=>simp only [qnj,qh4,qkh,oc];rfl
  have eb2:Op.build [.nils,.nils,.int .u64 0,.int .u64 0,.int .u64 0,.int .u64 0,.int .u64 0,.int .u64 0,.int .u64 0,.int .u64 0,.int .i64 0,.int .i64 0,.int .i64 0,.int .i64 0,.bool false,.bool false] [(0,1),(1,13)] [tv,.agg (wv::(regsA v ++ [.int .i64 0,.int .i64 0,.int .i64 0,.int .i64 0]))]=some (.agg (cellsR tv wv false s0)):=by
   subst hs0
   match v,hv with
   | [a,b,c,d,e,f,g,i],_=>simp only [qnj,qh4,qkh,ot];rfl
  obtain ⟨H4,e4⟩:∃ X,X=H3.alloc (OR (cellsR tv wv false s0) ye):=⟨_,rfl⟩
  have f4:Fr Em H3 H4:=by rw [e4];exact (Fr.refl H3).alloc _
  have n4:H4.next=H3.next+1:=by rw [e4,xi]
  have g4:H4.get H3.next=some (OR (cellsR tv wv false s0) ye):=by rw [e4,xc]
  obtain ⟨H5,e5⟩:∃ X,X=H4.alloc (OR [.ptr H3.next 0] kq):=⟨_,rfl⟩
  have st5:Op.store 1 [AV.ptr H4.next 0,AV.ptr H3.next 0] (H4.alloc (OR [AV.nilp] kq))=some (.undef,H5):=by rw [qf3 H4 [.nilp] kq 1 (.ptr H3.next 0) rfl rfl rfl,e5];rfl
  have f5:Fr Em H4 H5:=by rw [e5];exact (Fr.refl H4).alloc _
  have n5:H5.next=H4.next+1:=by rw [e5,xi]
  have g5:H5.get H4.next=some (OR [.ptr H3.next 0] kq):=by rw [e5,xc]
  obtain ⟨H6,e6⟩:∃ X,X=H5.alloc (OR [.int .u64 0] jp):=⟨_,rfl⟩
  have st6:Op.store 1 [AV.ptr H5.next 0,.int .u64 0] (H5.alloc (OR [.int .u64 0] jp))=some (.undef,H6):=by rw [qf3 H5 [.int .u64 0] jp 1 (.int .u64 0) rfl rfl rfl,e6];rfl
  have f6:Fr Em H5 H6:=by rw [e6];exact (Fr.refl H5).alloc _
  have n6:H6.next=H5.next+1:=by rw [e6,xi]
  have g6:H6.get H5.next=some (OR [.int .u64 0] jp):=by rw [e6,xc]
  have f36:Fr Em H3 H6:=(f4.trans f5 fun _ q=>q.elim).trans f6 fun _ q=>q.elim
  have f06:Fr Em H H6:=f03.trans f36 fun _ q=>q.elim
  have h6:VSt H H6 H3.next tv wv false s0:=by
   subst hs0
   exact ⟨by rw [f6.keep _ (by omega) id,f5.keep _ (by omega) id];exact g4,by omega,f06,hw.em f06,hv,hwl,hwr,hvr⟩
  have lr:∀ {Hx:AHeap} {b e:Nat} {row:List AV} (o:Nat),Hx.get b=some (OR row e)->Op.load1 [.ptr b o] Hx=row[o]?:=fun o hg=>yj (xg hg) o
  have g65:H6.get H4.next=some (OR [.ptr H3.next 0] kq):=by rw [f6.keep _ (by omega) id];exact g5
  have gp6:H6.get H.next=some (OR [.int .i64 (i:Int)] T_int):=by rw [f36.keep _ (by omega) id];exact gp3
  have mf:Op.mkFunc qbk 0 [.ptr H4.next 0,.ptr H.next 0,.ptr H5.next 0]=some (.fn (.func qbk) [] [.ptr H4.next 0,.ptr H.next 0,.ptr H5.next 0]):=rfl
  simp only [↓qe,qt,reduceIte,Nat.reduceEqDiff,lp,h1,hln,h2,q1,q2,h3,w10,ldq,eb1,eb2,qe4,<-e4,st5,st6,w14,lr _ g65,mf]
  have f7:Fr Em H6 (H6.alloc (OR [.int .i64 0] jj)):=(Fr.refl H6).alloc _
  have n7:(H6.alloc (OR [.int .i64 0] jj)).next=H6.next+1:=xi ..
  have g7:(H6.alloc (OR [.int .i64 0] jj)).get H6.next=some (OR [.int .i64 0] jj):=xc ..
  have k7:∀ {b:Nat},b<H6.next->(H6.alloc (OR [.int .i64 0] jj)).get b=H6.get b:=fun hb=>wq hb _
  have hv1:=q4t (M:=M) h.nd x (p:=H4.next) (q:=H.next) (z:=H5.next) hs ho hsm (h6.em f7) (lr 0 (by rw [k7 (b:=H4.next) (by omega)];exact g65)) (by rw [<-hi];exact lr 0 (by rw [k7 (b:=H.next) (by omega)];exact gp6)) (by rw [k7 (b:=H5.next) (by omega)];exact g6) (by omega)
  rw [hs0] at hv1
  have htry:=q0i (M:=M) (g:=qbk) (first:=[]) (cap:=[.ptr H4.next 0,.ptr H.next 0,.ptr H5.next 0]) (rv:=.ptr H3.next 0) (H:=H6) (P:=fun k Hx=>Fr (fun b=>b=H5.next) (H6.alloc (OR [.int .i64 0] jj)) Hx/\(k=111/\x.val ws v=none\/k=0 /\ ∃ y,x.val ws v=some y/\Hx.get H5.next=some (OR [.int .u64 y] jp))) (by
   obtain ⟨e,Hx,q1,q2⟩:=hv1
   refine ⟨e,Hx,q1,?_⟩
   cases e with
   | ret v =>
    obtain ⟨y,a1,a2,a3⟩:=q2
    have:=a3.next
    exact .inl ⟨⟨v,rfl⟩,by rw [a3.keep _ (by omega) (by omega)];exact g7,by omega,a3,.inr ⟨rfl,y,a1,a2⟩⟩
   | panic c =>
    obtain ⟨k,rfl,a1,a2,a3⟩:=q2
    have:=a3.next
    exact .inr ⟨k,rfl,by rw [a3.keep _ (by omega) id];exact g7,by omega,a3.mono fun _ _ q=>q.elim,.inl ⟨a1,a2⟩⟩)
  refine C3.q htry fun v2 H8 ⟨k,H7,hv2,⟨f78,hk⟩,f8⟩=>?_
  subst hv2
  have n78:=f78.next
  have f68:Fr Em H H8:=((f06.trans f7 fun _ q=>q.elim).trans f78 fun x q=>.inr (by omega)).trans f8 fun x q=>.inr (by omega)
  rcases hk with ⟨rfl,hn⟩|⟨rfl,y',hy',gy⟩
  ·simp only [↓qe,qt,reduceIte,Nat.reduceEqDiff,Int.reduceEq,Int.reduceNe]
   exact ⟨f68,.inr ⟨hok,by rw [hn];rfl⟩⟩
  ·have gy8:H8.get H5.next=some (OR [.int .u64 y'] jp):=by rw [f8.keep _ (by omega) (by omega)];exact gy
   simp only [↓qe,qt,reduceIte,Nat.reduceEqDiff,Int.reduceEq,Int.reduceNe,w24,lr _ gy8]
   exact ⟨f68,.inr ⟨hok,by rw [hy'];rfl⟩⟩
end Go.Am
