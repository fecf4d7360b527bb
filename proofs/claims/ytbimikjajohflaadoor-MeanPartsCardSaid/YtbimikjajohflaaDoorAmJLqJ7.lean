/- LqJ7: RnA RnB RnC RnD. -/
import Derived.Test.YtbimikjajohflaaDoorAmJCodeJ
import Derived.Test.YtbimikjajohflaaDoorAmJLqJ5
set_option linter.unusedVariables false
set_option linter.unusedSimpArgs false
set_option linter.unusedSectionVars false
set_option maxRecDepth 100000
namespace Go.Am
open Lang Go.Proofs
variable {M:Mac} [MK M]
def cellsS (wv:AV) (s:MS):List AV:=wv::(regsA s.v ++ [.int .i64 (s.left:Nat),.int .i64 (s.blk:Nat),.bool s.hlt,.int .i64 (s.err:Nat)])
structure SSt (H0 H:AHeap) (r:Nat) (wv:AV) (s:MS):Prop where
 row:H.get r=some (OR (cellsS wv s) qz)
 lo:H0.next<=r
 hi:r<H.next
 nw:New encU jp 1 H0 H wv s.w
 off:¬ OnS wv r
 v8:s.v.length=8
 wl:s.w.length<=4096
 wr:∀ x ∈ s.w,u64 x
 vr:∀ x ∈ s.v,u64 x
 fl:s.left+s.blk<=1048576
section
variable {H0 H H':AHeap} {r:Nat} {wv:AV} {s:MS}
theorem SSt.em (h:SSt H0 H r wv s) (f:Fr Em H H'):SSt H0 H' r wv s :=
 { h with row:=by rw [f.keep r h.hi id];exact h.row,hi:=qh h.hi f.next,nw:=h.nw.em f }
theorem SSt.fr (h:SSt H0 H r wv s):Fr Em H0 H:=h.nw.fr
theorem SSt.ld (h:SSt H0 H r wv s) (o:Nat):Op.load1 [.ptr r o] H=(cellsS wv s)[o]?:=yj (xg h.row) o
theorem SSt.l0 (h:SSt H0 H r wv s):Op.load1 [.ptr r 0] H=some wv:=by rw [h.ld];rfl
theorem qh2 {s:MS} {v0 v1 v2 v3 v4 v5 v6 v7:Int} (h:s.v=[v0,v1,v2,v3,v4,v5,v6,v7]) (wv:AV):cellsS wv s=[wv,.int .u64 v0,.int .u64 v1,.int .u64 v2,.int .u64 v3,.int .u64 v4,.int .u64 v5,.int .u64 v6,.int .u64 v7,.int .i64 (s.left:Nat),.int .i64 (s.blk:Nat),.bool s.hlt,.int .i64 (s.err:Nat)]:=by
 unfold cellsS regsA;rw [h];rfl
theorem SSt.l9 (h:SSt H0 H r wv s):Op.load1 [.ptr r 9] H=some (.int .i64 (s.left:Nat)):=by
 obtain ⟨v0,v1,v2,v3,v4,v5,v6,v7,e⟩:=qa3 (tv:=wv) (wv:=wv) (a:=true) h.v8;rw [h.ld,qh2 e];rfl
theorem SSt.l10 (h:SSt H0 H r wv s):Op.load1 [.ptr r 10] H=some (.int .i64 (s.blk:Nat)):=by
 obtain ⟨v0,v1,v2,v3,v4,v5,v6,v7,e⟩:=qa3 (tv:=wv) (wv:=wv) (a:=true) h.v8;rw [h.ld,qh2 e];rfl
theorem SSt.l11 (h:SSt H0 H r wv s):Op.load1 [.ptr r 11] H=some (.bool s.hlt):=by
 obtain ⟨v0,v1,v2,v3,v4,v5,v6,v7,e⟩:=qa3 (tv:=wv) (wv:=wv) (a:=true) h.v8;rw [h.ld,qh2 e];rfl
theorem SSt.l12 (h:SSt H0 H r wv s):Op.load1 [.ptr r 12] H=some (.int .i64 (s.err:Nat)):=by
 obtain ⟨v0,v1,v2,v3,v4,v5,v6,v7,e⟩:=qa3 (tv:=wv) (wv:=wv) (a:=true) h.v8;rw [h.ld,qh2 e];rfl
end
structure RSt (H0 H:AHeap) (r:Nat) (wv:AV) (s:MS):Prop where
 row:H.get r=some (OR (cellsS wv s) qz)
 hi:r<H.next
 fr:Fr Em H0 H
 sl:SlT encU 1 H wv s.w
 v8:s.v.length=8
 wl:s.w.length<=4096
 wr:∀ x ∈ s.w,u64 x
 vr:∀ x ∈ s.v,u64 x
section
variable {H0 H H':AHeap} {r:Nat} {wv:AV} {s:MS}
theorem RSt.em (h:RSt H0 H r wv s) (f:Fr Em H H'):RSt H0 H' r wv s :=
 { h with row:=by rw [f.keep r h.hi id];exact h.row,hi:=qh h.hi f.next,sl:=h.sl.em f,fr:=h.fr.trans f fun _ q=>q.elim }
theorem RSt.ld (h:RSt H0 H r wv s) (o:Nat):Op.load1 [.ptr r o] H=(cellsS wv s)[o]?:=yj (xg h.row) o
theorem RSt.l0 (h:RSt H0 H r wv s):Op.load1 [.ptr r 0] H=some wv:=by rw [h.ld];rfl
theorem RSt.lv (h:RSt H0 H r wv s) {w:Nat} {x:Int} (hx:s.v[w]? = some x):Op.load1 [.ptr r (1+w)] H=some (.int .u64 x):=by
 rw [h.ld];unfold cellsS regsA
 have hw:=(xd.1 hx).1
 rw [qex,xz,xm (by simpa using hw),xf,hx];rfl
theorem SSt.toR (h:SSt H0 H r wv s):RSt H0 H r wv s:=⟨h.row,h.hi,h.nw.fr,h.nw.sl,h.v8,h.wl,h.wr,h.vr⟩
theorem SSt.put {s':MS} {c:List AV} (h:SSt H0 H r wv s) (hc:c=cellsS wv s') (e1:s'.w=s.w) (e2:s'.v.length=8) (e3:∀ x ∈ s'.v,u64 x) (e4:s'.left+s'.blk<=1048576) :
 SSt H0 (H.set r (OR c qz)) r wv s'/\Fr (MW r wv) H (H.set r (OR c qz)):=by
 subst hc
 have f:Fr (fun x=>x=r) H (H.set r (OR (cellsS wv s') qz)):=(Fr.refl H).set (W:=fun x=>x=r) (.inl rfl) _
 refine ⟨⟨zf ..,h.lo,h.hi,⟨?_,h.nw.fr.trans f (fun x hx=>by subst hx;exact .inr h.lo),h.nw.fresh⟩,h.off,e2,by rw [e1];exact h.wl,by rw [e1];exact h.wr,e3,e4⟩,f.mono fun x _ hx=>.inl hx⟩
 rw [e1];exact Own.fr h.nw.own f fun x hx q=>h.off (by subst q;exact hx)
end
theorem q2p {H0 H:AHeap} {r:Nat} {wv:AV} {s:MS} (h:SSt H0 H r wv s):yq M qbg [.ptr r 0] H fun _ H'=>SSt H0 H' r wv s.pay/\Fr (MW r wv) H H':=by
 refine qss ?_
 have hf:=h.fl
 by_cases h0:s.left=0
 ·have t1:=x8 (show ((s.left:Nat):Int)=0 by omega)
  have st:=jz h.row (o:=12) (n:=1) (v:=.int .i64 190) rfl (by simp [cellsS,regsA,h.v8]) rfl
  obtain ⟨h2,hf2⟩:=h.put (s':=s.pay) (c:=(cellsS wv s).take 12++(AV.int .i64 190).cells++(cellsS wv s).drop (12+1)) (by
   obtain ⟨v0,v1,v2,v3,v4,v5,v6,v7,e⟩:=qa3 (tv:=wv) (wv:=wv) (a:=true) h.v8
   rw [qh2 e,qmh h0,qh2 (s:={ s with err:=190 }) e];rfl) (by rw [qmh h0]) (by rw [qmh h0];exact h.v8) (by rw [qmh h0];exact h.vr) (by rw [qmh h0];exact h.fl)
  simp only [↓qe,qt,reduceIte,Nat.reduceEqDiff,qlv,qo,h.l9,t1,st]
  exact ⟨h2,hf2⟩
 ·have t1:¬ ((s.left:Nat):Int)=0:=by omega
  have w1:wrapI .i64 (((s.left:Nat):Int)-1)=((s.left-1:Nat):Int):=by rw [zz (by omega) (by omega)];omega
  have st:=jz h.row (o:=9) (n:=1) (v:=.int .i64 ((s.left-1:Nat):Int)) rfl (by simp [cellsS,regsA,h.v8]) rfl
  obtain ⟨h2,hf2⟩:=h.put (s':=s.pay) (c:=(cellsS wv s).take 9++(AV.int .i64 ((s.left-1:Nat):Int)).cells++(cellsS wv s).drop (9+1)) (by
   obtain ⟨v0,v1,v2,v3,v4,v5,v6,v7,e⟩:=qa3 (tv:=wv) (wv:=wv) (a:=true) h.v8
   rw [qh2 e,qf2 h0,qh2 (s:={ s with left:=s.left-1 }) e];rfl) (by rw [qf2 h0]) (by rw [qf2 h0];exact h.v8) (by rw [qf2 h0];exact h.vr) (by rw [qf2 h0];simp only;omega)
  simp only [↓qe,qt,reduceIte,Nat.reduceEqDiff,qlv,qo,h.l9,t1,w1,st]
  exact ⟨h2,hf2⟩
theorem q5t {H0 H:AHeap} {r:Nat} {wv:AV} {s:MS} (h:SSt H0 H r wv s):yq M qb6 [.ptr r 0] H fun v H'=>v=.bool (decide s.on)/\H'=H:=by
 refine qt3 ?_
 have l11:=h.l11
 cases hh:s.hlt with
 | true =>
  rw [hh] at l11
  have e:decide s.on=false:=js fun q=>by have:=q.1;rw [hh] at this;cases this
  simp only [↓qe,qt,reduceIte,Nat.reduceEqDiff,qmy,qo,l11,e]
 | false =>
  rw [hh] at l11
  have e:decide s.on=decide (((s.err:Nat):Int)=0):=by
   by_cases q:s.err=0
   ·rw [ke (show s.on from ⟨hh,q⟩),ke (by omega)]
   ·rw [js (show ¬ s.on from fun w=>q w.2),js (by omega)]
  simp only [↓qe,qt,reduceIte,Nat.reduceEqDiff,qmy,qo,l11,h.l12,e]
theorem SSt.new {H0 H:AHeap} {r:Nat} {wv:AV} {s:MS} (h:SSt H0 H r wv s) (row:List AV) (e:Nat):Lc (H.alloc (OR row e)) r wv H.next row e :=
 ⟨xc ..,by rw [xi];omega,fun q=>by have:=h.hi;omega,fun q=>by have:=Own.lt h.nw.own _ q;omega⟩
theorem qz5 {H0 H:AHeap} {r i:Nat} {tv wv:AV} {ts:List Nd} {s:MS} {x:Nd} (hn:Nds H0 tv ts) (h:SSt H0 H r wv s) (hx:ts[i]? = some x):∃ ka,SlT encI 1 H0 ka x.kids /\
 (∀ k,Op.indexSl 3 [tv,.int k (i:Int)]=some (.ptr (slB tv) (slO 3 tv i)))/\Op.loadN 3 [.ptr (slB tv) (slO 3 tv i)] H=some (nodeV x ka) /\
 Op.store 3 [.ptr H.next 0,nodeV x ka] (H.alloc (OR [.int .i64 0,.int .u64 0,.nils] qj))=some (.undef,H.alloc (OR [.int .i64 x.k,.int .u64 x.n,ka] qj)) /\
 SSt H0 (H.alloc (OR [.int .i64 x.k,.int .u64 x.n,ka] qj)) r wv s/\Lc (H.alloc (OR [.int .i64 x.k,.int .u64 x.n,ka] qj)) r wv H.next [.int .i64 x.k,.int .u64 x.n,ka] qj/\Fr Em H (H.alloc (OR [.int .i64 x.k,.int .u64 x.n,ka] qj)):=by
 obtain ⟨ka,h1,h2,h3,h4,_⟩:=hn.getF hx h.fr
 have f:Fr Em H (H.alloc (OR [.int .i64 x.k,.int .u64 x.n,ka] qj)):=(Fr.refl H).alloc _
 exact ⟨ka,h1,h3,h4,qf7 H x h2 qj,h.em f,h.new _ _,f⟩
theorem qz7 {H0 H:AHeap} {r i:Nat} {tv wv:AV} {ts:List Nd} {s:MS} {x:Nd} (hn:Nds H0 tv ts) (h:RSt H0 H r wv s) (hx:ts[i]? = some x):∃ ka,SlT encI 1 H0 ka x.kids /\
 (∀ k,Op.indexSl 3 [tv,.int k (i:Int)]=some (.ptr (slB tv) (slO 3 tv i)))/\Op.loadN 3 [.ptr (slB tv) (slO 3 tv i)] H=some (nodeV x ka) /\
 Op.store 3 [.ptr H.next 0,nodeV x ka] (H.alloc (OR [.int .i64 0,.int .u64 0,.nils] qj))=some (.undef,H.alloc (OR [.int .i64 x.k,.int .u64 x.n,ka] qj)) /\
 RSt H0 (H.alloc (OR [.int .i64 x.k,.int .u64 x.n,ka] qj)) r wv s/\Lv (H.alloc (OR [.int .i64 x.k,.int .u64 x.n,ka] qj)) H.next [.int .i64 x.k,.int .u64 x.n,ka] qj/\Fr Em H (H.alloc (OR [.int .i64 x.k,.int .u64 x.n,ka] qj)):=by
 obtain ⟨ka,h1,h2,h3,h4,_⟩:=hn.getF hx h.fr
 have f:Fr Em H (H.alloc (OR [.int .i64 x.k,.int .u64 x.n,ka] qj)):=(Fr.refl H).alloc _
 exact ⟨ka,h1,h3,h4,qf7 H x h2 qj,h.em f,Lv.new _ _ _,f⟩
end Go.Am
namespace Go.Am
open Lang Go.Proofs
variable {M:Mac} [MK M]
def valO (o:Option Int):AV:=match o with
 | some y=>.tuple [.int .u64 y,.bool true]
 | none=>.tuple [.int .u64 0,.bool false]
theorem shl_one (x:Int) (i:Nat):wrapI .u64 (wrapI .u64 (x*2 ^ i)*2)=wrapI .u64 (x*2 ^ (i+1)):=by
 rw [qic,qic,qic,Int.pow_succ,<-Int.mul_assoc];omega
theorem shr_one {x:Int} (hx:u64 x) (i:Nat):wrapI .u64 ((wrapI .u64 (x / 2 ^ i)).tdiv 2)=wrapI .u64 (x / 2 ^ (i+1)):=by
 obtain ⟨h0,h1⟩:=hx
 have hp:∀ n:Nat,(0:Int)<2 ^ n:=fun n=>Int.pow_pos (by decide)
 have hd:∀ n:Nat,u64 (x / 2 ^ n):=fun n=>⟨Int.ediv_nonneg h0 (Int.le_of_lt (hp n)),Int.lt_of_le_of_lt (Int.ediv_le_self _ h0) h1⟩
 rw [qa5 (hd i).1 (hd i).2,qc6 (hd i).1,Int.ediv_ediv_of_nonneg (Int.le_of_lt (hp i)),<-Int.pow_succ]
theorem qh8 {H0:AHeap} {r:Nat} {tv wv:AV} {ts:List Nd} {s:MS} (hn:Nds H0 tv ts):∀ (x:Ex) {H:AHeap} {bb:Nat},Seg ts bb (x.enc bb)->x.ok->x.small->RSt H0 H r wv s ->
 yq M yw [tv,.int .i64 ((bb+x.sz-1:Nat):Int),.ptr r 0] H fun v H'=>v=valO (x.val s.w s.v)/\Fr Em H H'
 | .num n,H,bb,hs,ho,hsm,h=>by
  refine qi8 ?_
  obtain ⟨hnd,-⟩:=Seg.nd (x:=.e (.num n)) hs
  obtain ⟨ka,-,e2,e3,e4,h1,l1,k1⟩:=qz7 hn h hnd
  simp only [It.nd,It.kn,It.ks,endsF,It.sz,Ex.sz,ints,z8] at e2 e3 e4 h1 l1 k1
  generalize H.alloc (OR [.int .i64 1,.int .u64 (n:Nat),ka] qj)=H1 at *
  have t1:=x8 (show (1:Int)=1 from rfl)
  simp only [↓qe,qt,reduceIte,Nat.reduceEqDiff,qeb,Ex.sz,e2,e3,e4,l1.ld,t1]
  exact ⟨rfl,k1⟩
 | .var w,H,bb,hs,ho,hsm,h=>by
  refine qi8 ?_
  obtain ⟨hnd,-⟩:=Seg.nd (x:=.e (.var w)) hs
  have ho:w<=7:=ho
  obtain ⟨ka,-,e2,e3,e4,h1,l1,k1⟩:=qz7 hn h hnd
  simp only [It.nd,It.kn,It.ks,endsF,It.sz,Ex.sz,ints,z8] at e2 e3 e4 h1 l1 k1
  generalize H.alloc (OR [.int .i64 2,.int .u64 (w:Nat),ka] qj)=H1 at *
  have h8:=h.v8
  obtain ⟨y,hy⟩:∃ y,s.v[w]? = some y:=⟨s.v[w],by simp⟩
  have ei:Op.indexArr 8 1 [.ptr r 1,.int .u64 (w:Int)]=some (.ptr r (1+w)):=by have:=qls (len:=8) (size:=1) (b:=r) (o:=1) (k:=.u64) (j:=(w:Int)) (i:=w) rfl (by omega);rwa [wk] at this
  simp only [↓qe,qt,reduceIte,Nat.reduceEqDiff,qeb,Ex.sz,qo,e2,e3,e4,l1.ld,Int.reduceEq,ei,h1.lv hy]
  exact ⟨by simp only [Ex.val,hy,valO],k1⟩
 | .load x,H,bb,hs,ho,hsm,h=>by
  refine qi8 ?_
  obtain ⟨hnd,hks⟩:=Seg.nd (x:=.e (.load x)) hs
  have hsx:Seg ts bb (x.enc bb):=hks.cons.1
  obtain ⟨ka,ha,e2,e3,e4,h1,l1,k1⟩:=qz7 hn h hnd
  have hnd':(It.e (.load x)).nd bb=⟨3,0,[((bb+x.sz-1:Nat):Int)]⟩:=by simp [It.nd,It.kn,It.ks,endsF,ints,It.sz]
  rw [hnd'] at ha e3 e4 h1 l1 k1
  simp only [It.sz] at e2 e3
  simp only at e4 h1 l1 k1
  generalize H.alloc (OR [.int .i64 3,.int .u64 0,ka] qj)=H1 at *
  obtain ⟨i2,i3⟩:=kid_m ha h1.fr (i:=0) rfl (z:=0) rfl
  simp only [↓qe,qt,reduceIte,Nat.reduceEqDiff,qeb,qo,e2,e3,e4,l1.ld,Int.reduceEq,i2 .i64,i3]
  refine C3.q (qh8 hn x hsx ho hsm h1) fun v H2 ⟨hv,f2⟩=>?_
  subst hv
  have l2:=l1.em f2
  have h2:=h1.em f2
  have f12:Fr Em H H2:=k1.trans f2 fun _ q=>q.elim
  have t3:=x8 (show (3:Int)=3 from rfl)
  cases hu:x.val s.w s.v with
  | none =>
   simp only [↓qe,qt,reduceIte,Nat.reduceEqDiff,qeb,valO,x20,x21,l2.ld,t3]
   exact ⟨by simp only [Ex.val,hu],f12⟩
  | some u =>
   have ru:=Lang.Ex.rng (x:=x) h.wr h.vr hsm hu
   obtain ⟨u0,u1⟩:=ru
   have hl:=h2.sl.len
   have hwl:=h.wl
   have w1:wrapI .u64 ((s.w.length:Nat):Int)=(s.w.length:Nat):=qa5 (by omega) (by omega)
   by_cases hq:s.w.length<=u.toNat
   ·have t1:((s.w.length:Nat):Int)<=u:=by omega
    simp only [↓qe,qt,reduceIte,Nat.reduceEqDiff,qeb,valO,x20,x21,l2.ld,t3,qo,h2.l0,hl,w1,t1]
    exact ⟨by simp only [Ex.val,hu];rw [z7 hq],f12⟩
   ·have t1:¬ ((s.w.length:Nat):Int)<=u:=by omega
    obtain ⟨y,hy⟩:∃ y,s.w[u.toNat]? = some y:=⟨s.w[u.toNat],by simp⟩
    have q1:=h2.sl.idx hy (z:=u) (by omega) .u64
    have q2:Op.load1 [.ptr (slB wv) (slO 1 wv u.toNat)] H2=some (.int .u64 y):=h2.sl.load0 qoi hy (by decide)
    simp only [↓qe,qt,reduceIte,Nat.reduceEqDiff,qeb,valO,x20,x21,l2.ld,t3,qo,h2.l0,hl,w1,t1,q1,q2]
    exact ⟨by simp only [Ex.val,hu,hy],f12⟩
 | .bin o x y,H,bb,hs,ho,hsm,h=>by
  refine qi8 ?_
  obtain ⟨hnd,hks⟩:=Seg.nd (x:=.e (.bin o x y)) hs
  have hsx:Seg ts bb (x.enc bb):=hks.cons.1
  have hsy:Seg ts (bb+x.sz) (y.enc (bb+x.sz)):=hks.cons.2.cons.1
  obtain ⟨o4,o10,hox,hoy⟩:=ho
  obtain ⟨ka,ha,e2,e3,e4,h1,l1,k1⟩:=qz7 hn h hnd
  have hnd':(It.e (.bin o x y)).nd bb=⟨o,0,[((bb+x.sz-1:Nat):Int),((bb+x.sz+y.sz-1:Nat):Int)]⟩:=by simp [It.nd,It.kn,It.ks,endsF,ints,It.sz]
  rw [hnd'] at ha e3 e4 h1 l1 k1
  simp only [It.sz] at e2 e3
  simp only at e4 h1 l1 k1
  generalize H.alloc (OR [.int .i64 (o:Nat),.int .u64 0,ka] qj)=H1 at *
  have t1:¬ (o:Int)=1:=by omega
  have t2:¬ (o:Int)=2:=by omega
  have t3:¬ (o:Int)=3:=by omega
  obtain ⟨w0,w4,w12,w20,w22,w38,-,w40,-,w48,w83,w64,w102,w88,w76,w94,w101⟩:=qeb M ⟨none,yw⟩
  obtain ⟨i2,i3⟩:=kid_m ha h1.fr (i:=0) rfl (z:=0) rfl
  simp only [↓qe,qt,reduceIte,Nat.reduceEqDiff,w0,w4,w12,w20,e2,e3,e4,l1.ld,t1,t2,i2 .i64,i3]
  refine C3.q (qh8 hn x hsx hox hsm.1 h1) fun v H2 ⟨hv,f2⟩=>?_
  subst hv
  have l2:=l1.em f2
  have h2:=h1.em f2
  obtain ⟨j2,j3⟩:=kid_m ha h2.fr (i:=1) rfl (z:=1) rfl
  have key:∀ (a:AV) (b:Bool),Op.extract 0 [valO (x.val s.w s.v)]=some a->Op.extract 1 [valO (x.val s.w s.v)]=some (.bool b)->True:=fun _ _ _ _=>trivial
  obtain ⟨ax,bx,hax,hbx,hx1,hx2⟩:∃ (ax:Int) (bx:Bool),Op.extract 0 [valO (x.val s.w s.v)]=some (.int .u64 ax)/\Op.extract 1 [valO (x.val s.w s.v)]=some (.bool bx)/\(bx=false->x.val s.w s.v=none)/\(bx=true->x.val s.w s.v=some ax):=by
   cases x.val s.w s.v with
   | none=>exact ⟨0,false,rfl,rfl,fun _=>rfl,fun q=>(by cases q)⟩
   | some u=>exact ⟨u,true,rfl,rfl,fun q=>(by cases q),fun _=>rfl⟩
  simp only [↓qe,qt,reduceIte,Nat.reduceEqDiff,hax,hbx,w22,w38,l2.ld,t3,j2 .i64,j3]
  refine C3.q (qh8 hn y hsy hoy hsm.2 h2) fun v H3 ⟨hv,f3⟩=>?_
  subst hv
  have l3:=l2.em f3
  have f13:Fr Em H H3:=(k1.trans f2 fun _ q=>q.elim).trans f3 fun _ q=>q.elim
  obtain ⟨ay,by',hay,hby,hy1,hy2⟩:∃ (ax:Int) (bx:Bool),Op.extract 0 [valO (y.val s.w s.v)]=some (.int .u64 ax)/\Op.extract 1 [valO (y.val s.w s.v)]=some (.bool bx)/\(bx=false->y.val s.w s.v=none)/\(bx=true->y.val s.w s.v=some ax):=by
   cases y.val s.w s.v with
   | none=>exact ⟨0,false,rfl,rfl,fun _=>rfl,fun q=>(by cases q)⟩
   | some u=>exact ⟨u,true,rfl,rfl,fun q=>(by cases q),fun _=>rfl⟩
  cases bx with
  | false =>
   simp only [↓qe,qt,reduceIte,Nat.reduceEqDiff,hay,hby,w40]
   exact ⟨by simp only [Ex.val,hx1 rfl,valO],f13⟩
  | true =>
  cases by' with
  | false =>
   simp only [↓qe,qt,reduceIte,Nat.reduceEqDiff,hay,hby,w40]
   exact ⟨by simp only [Ex.val,hx2 rfl,hy1 rfl,valO],f13⟩
  | true =>
  have hu:=hx2 rfl
  have hu':=hy2 rfl
  have ru:=Lang.Ex.rng h.wr h.vr hsm.1 hu
  have ru':=Lang.Ex.rng h.wr h.vr hsm.2 hu'
  have hr:=rem64 ru'.1
  have hfin:∀ z,z=opI o ax ay->(AV.tuple [.int .u64 z,.bool true]=valO ((Ex.bin o x y).val s.w s.v)/\Fr Em H H3):=fun z hz=>⟨by simp only [Ex.val,hu,hu',valO,hz],f13⟩
  simp only [↓qe,qt,reduceIte,Nat.reduceEqDiff,hay,hby,w40,w48,l3.ld]
  by_cases hsh:9<=o
  rotate_left
  ·rcases (show o=4\/o=5\/o=6\/o=7\/o=8 by omega) with rfl|rfl|rfl|rfl|rfl
   ·simp only [↓qe,qt,reduceIte,Nat.reduceEqDiff,Int.reduceEq,zq];exact hfin _ rfl
   ·simp only [↓qe,qt,reduceIte,Nat.reduceEqDiff,Int.reduceEq,zq];exact hfin _ rfl
   ·simp only [↓qe,qt,reduceIte,Nat.reduceEqDiff,Int.reduceEq,zq,w64];exact hfin _ rfl
   ·have q:Op.bin .and [.int .u64 ax,.int .u64 ay]=some (.int .u64 (opI 7 ax ay)):=rfl
    simp only [↓qe,qt,reduceIte,Nat.reduceEqDiff,Int.reduceEq,zq,w64,q];exact hfin _ rfl
   ·have q:Op.bin .xor [.int .u64 ax,.int .u64 ay]=some (.int .u64 (opI 8 ax ay)):=rfl
    simp only [↓qe,qt,reduceIte,Nat.reduceEqDiff,Int.reduceEq,zq,w64,w76,q];exact hfin _ rfl
  have n4:¬ (o:Int)=4:=by omega
  have n5:¬ (o:Int)=5:=by omega
  have n6:¬ (o:Int)=6:=by omega
  have n7:¬ (o:Int)=7:=by omega
  have n8:¬ (o:Int)=8:=by omega
  have q:Op.bin .rem [.int .u64 ay,.int .u64 64]=some (.int .u64 (((ay % 64).toNat:Nat):Int)):=by rw [<-hr];rfl
  have hn64:(ay % 64).toNat<64:=by omega
  simp only [↓qe,qt,reduceIte,Nat.reduceEqDiff,n4,n5,n6,n7,n8,w64,w76,w83]
  refine LOOP3.intro (fun k E' H'=>∃ i:Nat,H3=H'/\E'=[(13,.int .u64 (i:Nat)),(11,.int .u64 ay),(9,.int .u64 (if o=9 then wrapI .u64 (ax*2 ^ i) else wrapI .u64 (ax / 2 ^ i))),(8,.ptr H.next 0)]/\k=(ay % 64).toNat-i/\i<=(ay % 64).toNat) ?_ ?_
  ·refine ⟨_,_,⟨0,rfl,rfl,rfl,by omega⟩,?_⟩
   have e0:(if o=9 then wrapI .u64 (ax*2 ^ 0) else wrapI .u64 (ax / 2 ^ 0))=ax:=by
    simp only [Int.pow_zero,Int.mul_one,Int.ediv_one,qa5 ru.1 ru.2];split<;>rfl
   rw [e0]
   simp only [↓qe,qt,reduceIte,Nat.reduceEqDiff]
  rintro k E' H' ⟨i,rfl,rfl,rfl,hi⟩
  rcases j8 i (ay % 64).toNat with hlt|hge
  ·have q1:(i:Int)<(((ay % 64).toNat:Nat):Int):=by omega
   have wi:wrapI .u64 ((i:Int)+1)=((i+1:Nat):Int):=by rw [qa5 (by omega) (by omega)];omega
   by_cases h9:o=9
   ·have t9:=x8 (show (o:Int)=9 by omega)
    simp only [↓qe,qt,reduceIte,Nat.reduceEqDiff,w88,w94,w101,q,q1,l3.ld,t9,qw h9,shl_one,wi]
    exact ⟨_,_,⟨i+1,rfl,rfl,by omega⟩,by simp only [↓qe,qt,reduceIte,Nat.reduceEqDiff,qw h9],by omega⟩
   ·have t9:¬ (o:Int)=9:=by omega
    have qq:∀ z:Int,Op.bin .quo [.int .u64 z,.int .u64 2]=some (.int .u64 (wrapI .u64 (z.tdiv 2))):=fun z=>rfl
    simp only [↓qe,qt,reduceIte,Nat.reduceEqDiff,w88,w94,w101,q,q1,l3.ld,t9,qk h9,qq,shr_one ru,wi]
    exact ⟨_,_,⟨i+1,rfl,rfl,by omega⟩,by simp only [↓qe,qt,reduceIte,Nat.reduceEqDiff,qk h9],by omega⟩
  ·have q1:¬ (i:Int)<(((ay % 64).toNat:Nat):Int):=by omega
   obtain rfl:i=(ay % 64).toNat:=by omega
   simp only [↓qe,qt,reduceIte,Nat.reduceEqDiff,w88,w102,q,q1]
   refine hfin _ ?_
   rcases (show o=9\/o=10 by omega) with rfl|rfl<;>rfl
theorem qj5 {H0:AHeap} {r:Nat} {tv wv:AV} {ts:List Nd} {s:MS} (hn:Nds H0 tv ts):∀ (x:Ex) {H:AHeap} {bb:Nat},Seg ts bb (x.enc bb)->x.ok->x.small->SSt H0 H r wv s ->
 yq M yw [tv,.int .i64 ((bb+x.sz-1:Nat):Int),.ptr r 0] H fun v H'=>v=valO (x.val s.w s.v)/\Fr Em H H' :=
 fun x _ _ hs ho hsm h=>qh8 hn x hs ho hsm h.toR
end Go.Am
namespace Go.Am
open Lang Go.Proofs
variable {M:Mac} [MK M]
def soI (o:Option Bool):Int:=match o with
 | none=>-1
 | some true=>1
 | some false=>0
theorem qov (o:Option Int):∃ (a:Int) (b:Bool),Op.extract 0 [valO o]=some (.int .u64 a)/\Op.extract 1 [valO o]=some (.bool b)/\(b=false->o=none)/\(b=true->o=some a):=by
 cases o with
 | none=>exact ⟨0,false,rfl,rfl,fun _=>rfl,fun q=>(by cases q)⟩
 | some u=>exact ⟨u,true,rfl,rfl,fun q=>(by cases q),fun _=>rfl⟩
theorem qz6 {H0 H:AHeap} {r bb:Nat} {tv wv:AV} {ts:List Nd} {s:MS} (hn:Nds H0 tv ts) (c:Cn) (hs:Seg ts bb (c.enc bb)) (ho:c.ok) (hsm:c.small) (h:SSt H0 H r wv s) :
 yq M qgk [tv,.int .i64 ((bb+c.sz-1:Nat):Int),.ptr r 0] H fun v H'=>v=.int .i64 (soI (c.so s.w s.v))/\Fr Em H H':=by
 refine q7p ?_
 obtain ⟨hnd,hks⟩:=Seg.nd (x:=.c c) hs
 have hsx:Seg ts bb (c.a.enc bb):=hks.cons.1
 have hsy:Seg ts (bb+c.a.sz) (c.b.enc (bb+c.a.sz)):=hks.cons.2.cons.1
 obtain ⟨o4,o10,hox,hoy⟩:=ho
 obtain ⟨ka,ha,e2,e3,e4,h1,l1,k1⟩:=qz5 hn h hnd
 have hnd':(It.c c).nd bb=⟨c.k,0,[((bb+c.a.sz-1:Nat):Int),((bb+c.a.sz+c.b.sz-1:Nat):Int)]⟩:=by simp [It.nd,It.kn,It.ks,endsF,ints,It.sz]
 rw [hnd'] at ha e3 e4 h1 l1 k1
 simp only [It.sz] at e2 e3
 simp only at e4 h1 l1 k1
 generalize H.alloc (OR [.int .i64 (c.k:Nat),.int .u64 0,ka] qj)=H1 at *
 obtain ⟨i2,i3⟩:=kid_m ha h1.fr (i:=0) rfl (z:=0) rfl
 obtain ⟨w0,w4,w8,w16,w24⟩:=q7q M ⟨none,qgk⟩
 simp only [↓qe,qt,reduceIte,Nat.reduceEqDiff,w0,w4,e2,e3,e4,l1.ld,i2 .i64,i3]
 refine C3.q (qj5 hn c.a hsx hox hsm.1 h1) fun v H2 ⟨hv,f2⟩=>?_
 subst hv
 have l2:=l1.em f2
 have h2:=h1.em f2
 obtain ⟨j2,j3⟩:=kid_m ha h2.fr (i:=1) rfl (z:=1) rfl
 obtain ⟨ax,bx,hax,hbx,hx1,hx2⟩:=qov (c.a.val s.w s.v)
 simp only [↓qe,qt,reduceIte,Nat.reduceEqDiff,hax,hbx,l2.ld,j2 .i64,j3]
 refine C3.q (qj5 hn c.b hsy hoy hsm.2 h2) fun v H3 ⟨hv,f3⟩=>?_
 subst hv
 have l3:=l2.em f3
 have f13:Fr Em H H3:=(k1.trans f2 fun _ q=>q.elim).trans f3 fun _ q=>q.elim
 obtain ⟨ay,by',hay,hby,hy1,hy2⟩:=qov (c.b.val s.w s.v)
 cases bx with
 | false =>
  simp only [↓qe,qt,reduceIte,Nat.reduceEqDiff,hay,hby,w8]
  exact ⟨by simp only [Cn.so,hx1 rfl,soI],f13⟩
 | true =>
 cases by' with
 | false =>
  simp only [↓qe,qt,reduceIte,Nat.reduceEqDiff,hay,hby,w8]
  exact ⟨by simp only [Cn.so,hx2 rfl,hy1 rfl,soI],f13⟩
 | true =>
 have hu:=hx2 rfl
 have hu':=hy2 rfl
 rcases (show c.k=11\/c.k=12\/c.k=13 by omega) with q|q|q
 ·by_cases hc:ax=ay
  ·simp only [↓qe,qt,reduceIte,Nat.reduceEqDiff,hay,hby,w8,w16,w24,l3.ld,q,Int.reduceEq,zq,x8 hc]
   exact ⟨by simp [Cn.so,hu,hu',q,hc,soI],f13⟩
  ·simp only [↓qe,qt,reduceIte,Nat.reduceEqDiff,hay,hby,w8,w16,w24,l3.ld,q,Int.reduceEq,zq,hc]
   exact ⟨by simp [Cn.so,hu,hu',q,hc,soI],f13⟩
 ·by_cases hc:ax=ay
  ·simp only [↓qe,qt,reduceIte,Nat.reduceEqDiff,hay,hby,w8,w16,w24,l3.ld,q,Int.reduceEq,zq,x8 hc]
   exact ⟨by simp [Cn.so,hu,hu',q,hc,soI],f13⟩
  ·simp only [↓qe,qt,reduceIte,Nat.reduceEqDiff,hay,hby,w8,w16,w24,l3.ld,q,Int.reduceEq,zq,hc]
   exact ⟨by simp [Cn.so,hu,hu',q,hc,soI],f13⟩
 ·by_cases hc:ax<ay
  ·simp only [↓qe,qt,reduceIte,Nat.reduceEqDiff,hay,hby,w8,w16,w24,l3.ld,q,Int.reduceEq,zq,hc]
   exact ⟨by simp [Cn.so,hu,hu',q,hc,soI],f13⟩
  ·simp only [↓qe,qt,reduceIte,Nat.reduceEqDiff,hay,hby,w8,w16,w24,l3.ld,q,Int.reduceEq,zq,hc]
   exact ⟨by simp [Cn.so,hu,hu',q,hc,soI],f13⟩
end Go.Am
namespace Go.Am
open Lang Go.Proofs
variable {M:Mac} [MK M]
def RQ (H0 H:AHeap) (r:Nat) (wv:AV) (s':MS) (H':AHeap):Prop:=∃ wv',SSt H0 H' r wv' s'/\Fr (MW r wv) H H' /\ ∀ b,OnS wv' b->OnS wv b\/H.next<=b
theorem RQ.at {H0 H H':AHeap} {r:Nat} {wv:AV} {s':MS} (h:SSt H0 H' r wv s') (f:Fr (MW r wv) H H'):RQ H0 H r wv s' H':=⟨wv,h,f,fun b hb=>.inl hb⟩
theorem RQ.up {H0 H H1 H':AHeap} {r:Nat} {wv:AV} {s':MS} (h:RQ H0 H1 r wv s' H') (f:Fr (MW r wv) H H1):RQ H0 H r wv s' H':=by
 obtain ⟨wv',h3,h4,h5⟩:=h
 exact ⟨wv',h3,FrM.trans f h4,fun b hb=>(h5 b hb).imp id fun q=>zr f.next q⟩
theorem SSt.seterr {H0 H:AHeap} {r:Nat} {wv:AV} {s:MS} (h:SSt H0 H r wv s) (e:Nat):∃ H',Op.store 1 [.ptr r 12,.int .i64 (e:Nat)] H=some (.undef,H')/\SSt H0 H' r wv { s with err:=e }/\Fr (MW r wv) H H':=by
 have st:=jz h.row (o:=12) (n:=1) (v:=.int .i64 (e:Nat)) rfl (by simp [cellsS,regsA,h.v8]) rfl
 obtain ⟨h2,hf2⟩:=h.put (s':={ s with err:=e }) (c:=(cellsS wv s).take 12++(AV.int .i64 (e:Nat)).cells++(cellsS wv s).drop (12+1)) (by
  obtain ⟨v0,v1,v2,v3,v4,v5,v6,v7,e⟩:=qa3 (tv:=wv) (wv:=wv) (a:=true) h.v8
  unfold cellsS regsA;simp only [e];rfl) rfl h.v8 h.vr h.fl
 exact ⟨_,st,h2,hf2⟩
def DSR (M:Mac) (H0:AHeap) (tv:AV) (ts:List Nd) (x:Lang.St):Prop:=∀ (H:AHeap) (r bb:Nat) (wv:AV) (a:Bool) (s:MS),Seg ts bb (x.enc bb)->x.ok->x.small->s.on->SSt H0 H r wv s ->
 yq M yd [tv,.int .i64 ((bb+x.sz-1:Nat):Int),.ptr r 0,.bool a] H fun _ H'=>RQ H0 H r wv (x.run a s) H'
def LR (M:Mac) (H0:AHeap) (tv:AV) (ts:List Nd) (l:Ls):Prop:=∀ (H:AHeap) (r bb:Nat) (wv:AV) (a:Bool) (s:MS),Seg ts bb (l.encL bb)->l.ok->l.small->SSt H0 H r wv s ->
 yq M yd [tv,.int .i64 ((bb+l.sz:Nat):Int),.ptr r 0,.bool a] H fun _ H'=>RQ H0 H r wv (l.run a s) H'
theorem qoo {H0 H:AHeap} {r i:Nat} {tv wv:AV} {ts:List Nd} {a:Bool} {s s':MS} {x:Nd} (hn:Nds H0 tv ts) (h:SSt H0 H r wv s) (hon:s.on) (hx:ts[i]? = some x) (h20:x.k ≠ 20) (h17:x.k ≠ 17)
 (h0:s.left=0->s'=s.pay)
 (hk:s.left ≠ 0 -> ∀ (ka:AV) (p:Nat) (H2:AHeap),SlT encI 1 H0 ka x.kids->SSt H0 H2 r wv s.pay->Lc H2 r wv p [.int .i64 x.k,.int .u64 x.n,ka] qj->Fr (MW r wv) H H2 ->
  W M ⟨none,yd⟩ (xb 70) true (FIN3 M [] (RT3 fun _ H'=>RQ H0 H r wv s' H')) [(8,.ptr p 0),(0,tv),(1,.int .i64 (i:Int)),(2,.ptr r 0),(3,.bool a)] [] H2) :
 yq M yd [tv,.int .i64 (i:Int),.ptr r 0,.bool a] H fun _ H'=>RQ H0 H r wv s' H':=by
 refine qsq ?_
 obtain ⟨ka,ha,e2,e3,e4,h1,l1,k1⟩:=qz5 hn h hx
 obtain ⟨w0,w2,w23,-,w62,-,-,-,w64,-,-,-,-,-,-,-,-,-,-,-,-,-,-,-,-,-,-,-,-,-⟩:=qfs M ⟨none,yd⟩
 simp only [↓qe,qt,reduceIte,Nat.reduceEqDiff,w0,w2,w23,w62,e2,e3,e4,l1.ld,h20,h17]
 refine C3.q (q2p (M:=M) h1) fun v H2 ⟨h2,f2⟩=>?_
 have fH:=FrM.trans (Fr.toM (r:=r) (wv:=wv) k1) f2
 by_cases hl:s.left=0
 ·have t1:¬ ((s.pay.err:Nat):Int)=0:=by rw [qmh hl];simp
  simp only [↓qe,qt,reduceIte,Nat.reduceEqDiff,w64,qo,h2.l12,t1]
  rw [h0 hl]
  exact RQ.at h2 fH
 ·have t1:=x8 (show ((s.pay.err:Nat):Int)=0 by rw [qf2 hl];have:=hon.2;simp only;omega)
  simp only [↓qe,qt,reduceIte,Nat.reduceEqDiff,w64,qo,h2.l12,t1]
  exact hk hl ka _ H2 ha h2 (l1.mv f2) fH
theorem rset_do {H0:AHeap} {tv:AV} {ts:List Nd} (hn:Nds H0 tv ts) (w:Nat) (x:Ex):DSR M H0 tv ts (.set w x):=by
 intro H r bb wv a s hs ho hsm hon h
 obtain ⟨hnd,hks⟩:=Seg.nd (x:=.s (.set w x)) hs
 have hsx:Seg ts bb (x.enc bb):=hks.cons.1
 have hnd':(It.s (.set w x)).nd bb=⟨14,w,[((bb+x.sz-1:Nat):Int)]⟩:=by simp [It.nd,It.kn,It.ks,endsF,ints,It.sz]
 rw [hnd'] at hnd
 obtain ⟨ho7,hox⟩:=ho
 refine qoo hn h hon hnd (show (14:Int) ≠ 20 by decide) (show (14:Int) ≠ 17 by decide) (fun q=>by simp only [St.run,qw q]) fun hl ka p H2 ha h2 l2 f2=>?_
 simp only [St.run,qk hl]
 rw [qf2 hl] at h2 ⊢
 obtain ⟨i1,i2⟩:=kid_m ha h2.fr (i:=0) rfl (z:=0) rfl
 have t14:=x8 (show (14:Int)=14 from rfl)
 obtain ⟨-,-,-,-,-,-,-,-,-,-,-,-,w70,-,-,w78,-,-,-,-,-,-,-,-,-,-,-,-,-,-⟩:=qfs M ⟨none,yd⟩
 simp only [↓qe,qt,reduceIte,Nat.reduceEqDiff,w70,l2.ld,t14,i1 .i64,i2]
 refine C3.q (qj5 hn x hsx hox hsm h2) fun v H3 ⟨hv,f3⟩=>?_
 subst hv
 have h3:=h2.em f3
 have l3:=l2.em f3
 have f23:=FrM.trans f2 (Fr.toM f3)
 have h8:=h.v8
 have ei:Op.indexArr 8 1 [.ptr r 1,.int .u64 (w:Int)]=some (.ptr r (1+w)):=by have:=qls (len:=8) (size:=1) (b:=r) (o:=1) (k:=.u64) (j:=(w:Int)) (i:=w) rfl (by omega);rwa [wk] at this
 show _
 cases hu:x.val s.w s.v with
 | none =>
  obtain ⟨H4,st,h4,f4⟩:=h3.seterr 111
  have st:Op.store 1 [.ptr r 12,.int .i64 111] H3=some (.undef,H4):=st
  simp only [↓qe,qt,reduceIte,Nat.reduceEqDiff,hu,valO,x20,x21,w78,qo,st]
  exact RQ.at h4 (FrM.trans f23 f4)
 | some y =>
  have ry:=Lang.Ex.rng h.wr h.vr hsm hu
  have st:=jz h3.row (o:=1+w) (n:=1) (v:=.int .u64 y) rfl (by simp [cellsS,regsA,h8];omega) rfl
  obtain ⟨h4,f4⟩:=h3.put (s':={ s with left:=s.left-1,v:=s.v.set w y }) (c:=(cellsS wv { s with left:=s.left-1 }).take (1+w)++(AV.int .u64 y).cells++(cellsS wv { s with left:=s.left-1 }).drop (1+w+1)) (by
   obtain ⟨v0,v1,v2,v3,v4,v5,v6,v7,e⟩:=qa3 (tv:=wv) (wv:=wv) (a:=a) h8
   unfold cellsS regsA;simp only [e]
   rcases (show w=0\/w=1\/w=2\/w=3\/w=4\/w=5\/w=6\/w=7 by omega) with rfl|rfl|rfl|rfl|rfl|rfl|rfl|rfl<;>rfl) rfl (by simpa using h8) (q0b h.vr ry w) (by have:=h.fl;simp only;omega)
  simp only [↓qe,qt,reduceIte,Nat.reduceEqDiff,hu,valO,x20,x21,w78,qo,l3.ld,ei,st]
  exact RQ.at h4 (FrM.trans f23 f4)
theorem rhalt_do {H0:AHeap} {tv:AV} {ts:List Nd} (hn:Nds H0 tv ts):DSR M H0 tv ts .halt:=by
 intro H r bb wv a s hs ho hsm hon h
 obtain ⟨hnd,hks⟩:=Seg.nd (x:=.s .halt) hs
 have hnd':(It.s .halt).nd bb=⟨19,0,[]⟩:=by simp [It.nd,It.kn,It.ks,endsF,ints,It.sz]
 rw [hnd'] at hnd
 refine qoo hn h hon hnd (show (19:Int) ≠ 20 by decide) (show (19:Int) ≠ 17 by decide) (fun q=>by simp only [St.run,qw q]) fun hl ka p H2 ha h2 l2 f2=>?_
 simp only [St.run,qk hl]
 rw [qf2 hl] at h2 ⊢
 have t19:=x8 (show (19:Int)=19 from rfl)
 obtain ⟨-,-,-,-,-,-,-,-,-,-,-,-,w70,-,-,-,-,w95,-,-,-,-,w133,-,-,-,-,-,-,-⟩:=qfs M ⟨none,yd⟩
 cases a with
 | true =>
  obtain ⟨H4,st,h4,f4⟩:=h2.seterr 111
  have st:Op.store 1 [.ptr r 12,.int .i64 111] H2=some (.undef,H4):=st
  simp only [↓qe,qt,reduceIte,Nat.reduceEqDiff,w70,w95,w133,l2.ld,Int.reduceEq,t19,qo,st]
  exact RQ.at h4 (FrM.trans f2 f4)
 | false =>
  have st:=jz h2.row (o:=11) (n:=1) (v:=.bool true) rfl (by simp [cellsS,regsA,h.v8]) rfl
  obtain ⟨h4,f4⟩:=h2.put (s':={ s with left:=s.left-1,hlt:=true }) (c:=(cellsS wv { s with left:=s.left-1 }).take 11++(AV.bool true).cells++(cellsS wv { s with left:=s.left-1 }).drop (11+1)) (by
   obtain ⟨v0,v1,v2,v3,v4,v5,v6,v7,e⟩:=qa3 (tv:=wv) (wv:=wv) (a:=false) h.v8
   unfold cellsS regsA;simp only [e];rfl) rfl h.v8 h.vr (by have:=h.fl;simp only;omega)
  simp only [↓qe,qt,reduceIte,Nat.reduceEqDiff,w70,w95,w133,l2.ld,Int.reduceEq,t19,qo,st]
  simp only [qk (show ¬ (false=true) by decide)]
  exact RQ.at h4 (FrM.trans f2 f4)
theorem SSt.setw {H0 H:AHeap} {r i:Nat} {wv:AV} {s:MS} (h:SSt H0 H r wv s) (hi:i<s.w.length) {y:Int} (hy:u64 y) :
 ∃ H',Op.store 1 [.ptr (slB wv) (slO 1 wv i),.int .u64 y] H=some (.undef,H')/\SSt H0 H' r wv { s with w:=s.w.set i y }/\Fr (MW r wv) H H':=by
 obtain ⟨x,hx⟩:∃ x,s.w[i]? = some x:=⟨s.w[i],by simp⟩
 obtain ⟨H',h1,h2,h3⟩:=h.nw.own.set1 qoi hx (j:=0) (by decide) (u:=.int .u64 y) rfl (y:=y) rfl
 have f:Fr (MW r wv) H H':=h3.mono fun _ _ q=>.inr q
 have hg:=h3.keep r h.hi h.off
 exact ⟨H',h1,⟨by rw [hg];exact h.row,h.lo,qh h.hi h3.next,⟨h2,h.nw.fr.trans h3 fun x hx=>.inr (h.nw.fresh x hx),h.nw.fresh⟩,h.off,h.v8,by simp only [zw];exact h.wl,q0b h.wr hy i,h.vr,h.fl⟩,f⟩
theorem xac {H0:AHeap} {tv:AV} {ts:List Nd} (hn:Nds H0 tv ts) (x y:Ex):DSR M H0 tv ts (.store x y):=by
 intro H r bb wv a s hs ho hsm hon h
 obtain ⟨hnd,hks⟩:=Seg.nd (x:=.s (.store x y)) hs
 have hsx:Seg ts bb (x.enc bb):=hks.cons.1
 have hsy:Seg ts (bb+x.sz) (y.enc (bb+x.sz)):=hks.cons.2.cons.1
 have hnd':(It.s (.store x y)).nd bb=⟨15,0,[((bb+x.sz-1:Nat):Int),((bb+x.sz+y.sz-1:Nat):Int)]⟩:=by simp [It.nd,It.kn,It.ks,endsF,ints,It.sz]
 rw [hnd'] at hnd
 obtain ⟨hox,hoy⟩:=ho
 refine qoo hn h hon hnd (show (15:Int) ≠ 20 by decide) (show (15:Int) ≠ 17 by decide) (fun q=>by simp only [St.run,qw q]) fun hl ka p H2 ha h2 l2 f2=>?_
 simp only [St.run,qk hl]
 rw [qf2 hl] at h2 ⊢
 obtain ⟨i1,i2⟩:=kid_m ha h2.fr (i:=0) rfl (z:=0) rfl
 have t15:=x8 (show (15:Int)=15 from rfl)
 obtain ⟨-,-,-,-,-,-,-,-,-,-,-,-,w70,-,-,-,w86,-,-,w90,-,-,-,-,-,-,-,-,-,-⟩:=qfs M ⟨none,yd⟩
 simp only [↓qe,qt,reduceIte,Nat.reduceEqDiff,w70,w86,l2.ld,Int.reduceEq,t15,i1 .i64,i2]
 refine C3.q (qj5 hn x hsx hox hsm.1 h2) fun v H3 ⟨hv,f3⟩=>?_
 subst hv
 have h3:=h2.em f3
 have l3:=l2.em f3
 obtain ⟨j1,j2⟩:=kid_m ha h3.fr (i:=1) rfl (z:=1) rfl
 obtain ⟨ax,bx,hax,hbx,hx1,hx2⟩:=qov (x.val s.w s.v)
 have hax:Op.extract 0 [valO (x.val ({ s with left:=s.left-1 }:MS).w ({ s with left:=s.left-1 }:MS).v)]=some (.int .u64 ax):=hax
 have hbx:Op.extract 1 [valO (x.val ({ s with left:=s.left-1 }:MS).w ({ s with left:=s.left-1 }:MS).v)]=some (.bool bx):=hbx
 simp only [↓qe,qt,reduceIte,Nat.reduceEqDiff,hax,hbx,l3.ld,j1 .i64,j2]
 refine C3.q (qj5 hn y hsy hoy hsm.2 h3) fun v H4 ⟨hv,f4⟩=>?_
 subst hv
 have h4:=h3.em f4
 obtain ⟨ay,by',hay,hby,hy1,hy2⟩:=qov (y.val s.w s.v)
 have hay:Op.extract 0 [valO (y.val ({ s with left:=s.left-1 }:MS).w ({ s with left:=s.left-1 }:MS).v)]=some (.int .u64 ay):=hay
 have hby:Op.extract 1 [valO (y.val ({ s with left:=s.left-1 }:MS).w ({ s with left:=s.left-1 }:MS).v)]=some (.bool by'):=hby
 have f24:=FrM.trans (FrM.trans f2 (Fr.toM f3)) (Fr.toM f4)
 obtain ⟨H5,st5,h5,f5⟩:=h4.seterr 111
 have st5:Op.store 1 [.ptr r 12,.int .i64 111] H4=some (.undef,H5):=st5
 have bad:RQ H0 H r wv { s with left:=s.left-1,err:=111 } H5:=RQ.at h5 (FrM.trans f24 f5)
 cases bx with
 | false =>
  simp only [↓qe,qt,reduceIte,Nat.reduceEqDiff,hay,hby,w90,qo,st5]
  simp only [hx1 rfl];exact bad
 | true =>
 cases by' with
 | false =>
  simp only [↓qe,qt,reduceIte,Nat.reduceEqDiff,hay,hby,w90,qo,st5]
  simp only [hx2 rfl,hy1 rfl];exact bad
 | true =>
 have hu:=hx2 rfl
 have hz:=hy2 rfl
 have ru:=Lang.Ex.rng h.wr h.vr hsm.1 hu
 have rz:=Lang.Ex.rng h.wr h.vr hsm.2 hz
 obtain ⟨u0,u1⟩:=ru
 have hlw:=h4.nw.len
 have hwl:=h.wl
 have w1:wrapI .u64 ((s.w.length:Nat):Int)=(s.w.length:Nat):=qa5 (by omega) (by omega)
 have hlw:Op.lenSl [wv]=some (.int .i64 (s.w.length:Nat)):=hlw
 by_cases hlt:ax.toNat<s.w.length
 ·have t1:ax<((s.w.length:Nat):Int):=by omega
  obtain ⟨w0,hw0⟩:∃ w0,s.w[ax.toNat]? = some w0:=⟨s.w[ax.toNat],by simp⟩
  have q1:=h4.nw.sl.idx hw0 (z:=ax) (by omega) .u64
  obtain ⟨H6,st,h6,f6⟩:=h4.setw (i:=ax.toNat) hlt rz
  simp only [↓qe,qt,reduceIte,Nat.reduceEqDiff,hay,hby,w90,qo,h4.l0,hlw,w1,t1,q1,st]
  simp only [hu,hz,qw hlt]
  exact RQ.at h6 (FrM.trans f24 f6)
 ·have t1:¬ ax<((s.w.length:Nat):Int):=by omega
  simp only [↓qe,qt,reduceIte,Nat.reduceEqDiff,hay,hby,w90,qo,h4.l0,hlw,w1,t1,st5]
  simp only [hu,hz,qk hlt]
  exact bad
end Go.Am
