/- LqO4: LpK LpL LpQ LpM LpN LpO. -/
import Derived.Test.YtbimikjajohflaaDoorAmOLqO3
set_option linter.unusedVariables false
set_option linter.unusedSimpArgs false
set_option linter.unusedSectionVars false
set_option maxRecDepth 100000
namespace Go.Am
open Lang Go.Proofs
variable {M:Mac} [MK M]
theorem Seg.szle {ts:List Nd} {H0:AHeap} {tv:AV} (hc:WC H0 tv ts) {b:Nat} {x:It} (h:Seg ts b (x.enc b)):x.sz<=2000:=by
 have:=h.lt;have:=hc.len;omega
theorem qzp {H0 H1:AHeap} {tv a:AV} {ts:List Nd} (hc:WC H0 tv ts) {c:Cn} {l:Ls} (hsp:∀ s ∈ sts l,SP M H0 tv ts s) {b bb d p:Nat} {k:Int} {xs w:List UInt8} {kids:List Int} {Q:Post3} {E:Env} (hk:k=16/\w=[105,102,32,40]\/k=17/\w=[119,104,105,108,101,32,40])
 (hsc:Seg ts bb (c.enc bb)) (hsl:Seg ts (bb+c.sz) (l.encL (bb+c.sz))) (ho:c.ok/\l.ok) (hsm:c.small/\l.small) (hd:d+1+l.sz<=4000) (ha:SlT encI 1 H0 a kids) (k0:kids[0]? = some ((bb+c.sz-1:Nat):Int)) (k1:kids[1]? = some ((bb+c.sz+l.sz:Nat):Int)) (hkl:kids.length<=3)
 (h:WS H0 H1 b tv xs) (hl:xs.length+(w++c.txt ++ [41,32]++blkT l d).length<=1000000000) (lo:Loc H1 b p [.int .i64 k,.int .u64 0,a] zj)
 (e0:lk E 0=some (.ptr b 0)) (e6:lk E 6=some (.ptr p 0)) (e54:lk E 54=some (.bool true)) (e2:lk E 2=some (.int .i64 (d:Int)))
 (hq:∀ H5,WS H0 H5 b tv (xs++(w++c.txt ++ [41,32]++blkT l d))->Loc H5 b p [.int .i64 k,.int .u64 0,a] zj->BK b H1 H5 ->
  IF3 true (.bool (decide (((kids.length:Nat):Int)=3))) (fun g=>Ly g E 0 fun g t0_1=>C3 M g (.func xc) [t0_1,(.str [32,101,108,115,101,32])] H5 fun g t85 H2=>Ly g E 0 fun g t0_2=>Ly g E 6 fun g t6_2=>Fl g 2 t6_2 H2 fun g t88=>Xl g t88 (.int .i64 2) H2 fun g t90=>Ly g E 2 fun g t2_1=>C3 M g (.func yj) [t0_2,t90,t2_1] H2 fun g t92 H3=>GO3 g Q .normal E [] H3) (fun g=>GO3 g Q .normal E [] H5)) :
 W M ⟨none,jd⟩ (xw 31) true Q E [] H1:=by
 obtain ⟨-,-,-,w31,w34,-,w38⟩:=xn M ⟨none,jd⟩
 obtain ⟨o,b1,b2,b3⟩:=ifw_row H1 hk
 have hf1:Fr Em H1 (H1.alloc o):=(Fr.refl H1).alloc _
 have kk1:=BK.fr (b:=b) hf1 h.hi
 have lo1:=lo.step kk1
 have hwl:w.length<=7:=by rcases hk with ⟨_,rfl⟩|⟨_,rfl⟩<;>decide
 have hwa:ascii w:=by rcases hk with ⟨_,rfl⟩|⟨_,rfl⟩<;>decide
 simp only [qe,qk,qu] at hl
 have hcz:c.sz<=2000:=Seg.szle hc (x:=.c c) hsc
 simp only [↓qh,qx,reduceIte,Nat.reduceEqDiff,w31,e54,e0,e6,b1,lo1.ld,b2,b3]
 refine C3.q (vv (M:=M) (s:=w) (h.em hf1) hwa (by omega)) fun v H2 ⟨h2,k2⟩=>?_
 have lo2:=lo1.step k2
 obtain ⟨i1,i2⟩:=qkd ha h2.fr k0 (z:=0) rfl
 simp only [↓qh,qx,reduceIte,Nat.reduceEqDiff,w34,e0,e6,lo2.ld,i1 .i64,i2]
 refine C3.q (q4t (M:=M) hc c hsc ho.1 hsm.1 h2 (by unfold big;simp only [qe];omega)) fun v H3 ⟨h3,k3⟩=>?_
 simp only [↓qh,qx,reduceIte,Nat.reduceEqDiff,e0]
 refine C3.q (vv (M:=M) (s:=[41,32]) h3 (by decide) (by simp only [qe,qk,qu];omega)) fun v H4 ⟨h4,k4⟩=>?_
 have lo4:=(lo2.step k3).step k4
 obtain ⟨j1,j2⟩:=qkd ha h4.fr k1 (z:=1) rfl
 simp only [↓qh,qx,reduceIte,Nat.reduceEqDiff,w38,e0,e6,e2,lo4.ld,j1 .i64,j2]
 refine C3.q (qvc hc l hsp (d:=d) hsl ho.2 hsm.2 hd h4 (by simp only [qe,qk,qu];omega)) fun v H5 ⟨h5,k5⟩=>?_
 have lo5:=lo4.step k5
 have hal:=(ha.em h5.fr).len
 simp only [↓qh,qx,reduceIte,Nat.reduceEqDiff,e6,lo5.ld,hal]
 exact hq H5 (by simpa only [qo] using h5) lo5 ((((kk1.trans k2).trans k3).trans k4).trans k5)
def LsP (M:Mac) (H0:AHeap) (tv:AV) (ts:List Nd) (l:Ls):Prop:=∀ s ∈ sts l,SP M H0 tv ts s
mutual
theorem St_spec {H0:AHeap} {tv:AV} {ts:List Nd} (hc:WC H0 tv ts):∀ x:Lang.St,SP M H0 tv ts x
 | .set w x=>by
  intro H b bb d xs hs ho hsm hd h hl
  refine yl ?_
  obtain ⟨hnd,hks⟩:=Seg.nd (x:=.s (.set w x)) hs
  have hsx:Seg ts bb (x.enc bb):=hks.cons.1
  have hxz:x.sz<=2000:=Seg.szle hc (x:=.e x) hsx
  obtain ⟨a,ha,e1,e2,e3,e4,h1,l1,k1⟩:=qhm hc h hnd
  have hnd':(It.s (.set w x)).nd bb=⟨14,w,[((bb+x.sz-1:Nat):Int)]⟩:=by simp [It.nd,It.kn,It.ks,endsF,ints,It.sz]
  rw [hnd'] at ha e3 e4 h1 l1 k1
  have hlt:(St.txt (.set w x) d)=letter w ++ [32,61,32]++x.txt 0 ++ [59]:=rfl
  rw [hlt] at hl ⊢
  obtain ⟨tx,htx⟩:∃ tx:List UInt8,tx=letter w ++ [32,61,32]++x.txt 0 ++ [59]:=⟨_,rfl⟩
  rw [<-htx]
  simp only [qe,letter,qk,qu] at hl
  simp only [It.sz] at e2 e3
  simp only at e4 h1 l1 k1
  obtain ⟨ho7,hox⟩:=ho
  generalize H.alloc (OR [.int .i64 14,.int .u64 (w:Nat),a] zj)=H1 at *
  have w1:wrapI .u64 (97+(w:Int))=((97+w:Nat):Int):=by rw [qd7 (by omega) (by omega)];omega
  have w2:wrapI .i32 ((97+w:Nat):Int)=((97+w:Nat):Int):=by rw [qy7];omega
  have hcat:Op.bin .add [.str (letter w),.str [32,61,32]]=some (.str (letter w ++ [32,61,32])):=o_cat _ _ (by simp [letter])
  have t1:=vf (show (14:Int)=14 from rfl)
  simp only [↓qh,qx,reduceIte,Nat.reduceEqDiff,xn,qp,e1,e2,e3,e4,l1.ld,t1,w1,w2,qun w ho7,hcat]
  refine C3.q (vv (M:=M) (s:=letter w ++ [32,61,32]) h1 (qlo (qqp w ho7) (by decide)) (by simp [letter];omega)) fun v H2 ⟨h2,k2⟩=>?_
  have l2:=l1.step k2
  obtain ⟨i1,i2⟩:=qkd ha h2.fr (i:=0) rfl (z:=0) rfl
  simp only [↓qh,qx,reduceIte,Nat.reduceEqDiff,xn,l2.ld,i1 .i64,i2]
  refine C3.q (qg7 hc x (d:=0) hsx hox hsm (by omega) h2 (by unfold big;simp [letter];omega)) fun v H3 ⟨h3,k3⟩=>?_
  simp only [↓qh,qx,reduceIte,Nat.reduceEqDiff,xn]
  refine C3.q (vv (M:=M) (s:=[59]) h3 (by decide) (by simp [letter];omega)) fun v H4 ⟨h4,k4⟩=>?_
  simp only [↓qh,qx,reduceIte,Nat.reduceEqDiff,xn]
  exact ⟨by rw [htx];simpa only [qo] using h4,((k1.trans k2).trans k3).trans k4⟩
 | .store x y=>by
  intro H b bb d xs hs ho hsm hd h hl
  refine yl ?_
  obtain ⟨hnd,hks⟩:=Seg.nd (x:=.s (.store x y)) hs
  have hsx:Seg ts bb (x.enc bb):=hks.cons.1
  have hsy:Seg ts (bb+x.sz) (y.enc (bb+x.sz)):=hks.cons.2.cons.1
  have hxz:x.sz<=2000:=Seg.szle hc (x:=.e x) hsx
  have hyz:y.sz<=2000:=Seg.szle hc (x:=.e y) hsy
  obtain ⟨a,ha,e1,e2,e3,e4,h1,l1,k1⟩:=qhm hc h hnd
  have hnd':(It.s (.store x y)).nd bb=⟨15,0,[((bb+x.sz-1:Nat):Int),((bb+x.sz+y.sz-1:Nat):Int)]⟩:=by simp [It.nd,It.kn,It.ks,endsF,ints,It.sz]
  rw [hnd'] at ha e3 e4 h1 l1 k1
  have hlt:(St.txt (.store x y) d)=[115,116,111,114,101,40]++x.txt 0 ++ [44,32]++y.txt 0 ++ [41,59]:=rfl
  rw [hlt] at hl ⊢
  obtain ⟨tx,htx⟩:∃ tx:List UInt8,tx=[115,116,111,114,101,40]++x.txt 0 ++ [44,32]++y.txt 0 ++ [41,59]:=⟨_,rfl⟩
  rw [<-htx]
  simp only [qe,qk,qu] at hl
  simp only [It.sz] at e2 e3
  simp only at e4 h1 l1 k1
  obtain ⟨hox,hoy⟩:=ho
  generalize H.alloc (OR [.int .i64 15,.int .u64 0,a] zj)=H1 at *
  simp only [↓qh,qx,reduceIte,Nat.reduceEqDiff,xn,qp,e1,e2,e3,e4,l1.ld,Int.reduceEq]
  refine C3.q (vv (M:=M) (s:=[115,116,111,114,101,40]) h1 (by decide) (by simp only [qk,qu];omega)) fun v H2 ⟨h2,k2⟩=>?_
  have l2:=l1.step k2
  obtain ⟨i1,i2⟩:=qkd ha h2.fr (i:=0) rfl (z:=0) rfl
  simp only [↓qh,qx,reduceIte,Nat.reduceEqDiff,xn,l2.ld,i1 .i64,i2]
  refine C3.q (qg7 hc x (d:=0) hsx hox hsm.1 (by omega) h2 (by unfold big;simp only [qe,qk,qu];omega)) fun v H3 ⟨h3,k3⟩=>?_
  simp only [↓qh,qx,reduceIte,Nat.reduceEqDiff,xn]
  refine C3.q (vv (M:=M) (s:=[44,32]) h3 (by decide) (by simp only [qe,qk,qu];omega)) fun v H4 ⟨h4,k4⟩=>?_
  have l4:=(l2.step k3).step k4
  obtain ⟨j1,j2⟩:=qkd ha h4.fr (i:=1) rfl (z:=1) rfl
  simp only [↓qh,qx,reduceIte,Nat.reduceEqDiff,xn,l4.ld,j1 .i64,j2]
  refine C3.q (qg7 hc y (d:=0) hsy hoy hsm.2 (by omega) h4 (by unfold big;simp only [qe,qk,qu];omega)) fun v H5 ⟨h5,k5⟩=>?_
  simp only [↓qh,qx,reduceIte,Nat.reduceEqDiff,xn]
  refine C3.q (vv (M:=M) (s:=[41,59]) h5 (by decide) (by simp only [qe,qk,qu];omega)) fun v H6 ⟨h6,k6⟩=>?_
  simp only [↓qh,qx,reduceIte,Nat.reduceEqDiff,xn]
  exact ⟨by rw [htx];simpa only [qo] using h6,((((k1.trans k2).trans k3).trans k4).trans k5).trans k6⟩
 | .ite c l=>by
  intro H b bb d xs hs ho hsm hd h hl
  refine yl ?_
  obtain ⟨hnd,hks⟩:=Seg.nd (x:=.s (.ite c l)) hs
  have hsc:Seg ts bb (c.enc bb):=hks.cons.1
  have hsl:Seg ts (bb+c.sz) (l.encL (bb+c.sz)):=hks.cons.2.cons.1
  obtain ⟨a,ha,e1,e2,e3,e4,h1,l1,k1⟩:=qhm hc h hnd
  have hnd':(It.s (.ite c l)).nd bb=⟨16,0,[((bb+c.sz-1:Nat):Int),((bb+c.sz+l.sz:Nat):Int)]⟩:=by simp [It.nd,It.kn,It.ks,endsF,ints,It.sz]
  rw [hnd'] at ha e3 e4 h1 l1 k1
  have hlt:(St.txt (.ite c l) d)=[105,102,32,40]++c.txt ++ [41,32]++blkT l d:=rfl
  rw [hlt] at hl ⊢
  obtain ⟨tx,htx⟩:∃ tx:List UInt8,tx=[105,102,32,40]++c.txt ++ [41,32]++blkT l d:=⟨_,rfl⟩
  rw [<-htx]
  simp only [It.sz] at e2 e3
  simp only at e4 h1 l1 k1
  simp only [St.sz] at hd
  generalize H.alloc (OR [.int .i64 16,.int .u64 0,a] zj)=H1 at *
  obtain ⟨w0,w13,w25,-,-,-,-⟩:=xn M ⟨none,jd⟩
  simp only [↓qh,qx,reduceIte,Nat.reduceEqDiff,w0,w13,w25,qp,e1,e2,e3,e4,l1.ld,Int.reduceEq]
  refine qzp (M:=M) hc (qm7 hc l) (.inl ⟨rfl,rfl⟩) hsc hsl ho hsm (by omega) ha rfl rfl (by simp) h1 hl l1 rfl rfl rfl rfl fun H5 h5 l5 k5=>?_
  have t1:¬ (([((bb+c.sz-1:Nat):Int),((bb+c.sz+l.sz:Nat):Int)].length:Nat):Int)=3:=by simp
  simp only [↓qh,qx,reduceIte,Nat.reduceEqDiff,t1]
  exact ⟨by rw [htx];exact h5,k1.trans k5⟩
 | .ites c l m=>by
  intro H b bb d xs hs ho hsm hd h hl
  refine yl ?_
  obtain ⟨hnd,hks⟩:=Seg.nd (x:=.s (.ites c l m)) hs
  have hsc:Seg ts bb (c.enc bb):=hks.cons.1
  have hsl:Seg ts (bb+c.sz) (l.encL (bb+c.sz)):=hks.cons.2.cons.1
  have hsm':Seg ts (bb+c.sz+(l.sz+1)) (m.encL (bb+c.sz+(l.sz+1))):=hks.cons.2.cons.2.cons.1
  obtain ⟨a,ha,e1,e2,e3,e4,h1,l1,k1⟩:=qhm hc h hnd
  have hnd':(It.s (.ites c l m)).nd bb=⟨16,0,[((bb+c.sz-1:Nat):Int),((bb+c.sz+l.sz:Nat):Int),((bb+c.sz+(l.sz+1)+m.sz:Nat):Int)]⟩:=by
   simp [It.nd,It.kn,It.ks,endsF,ints,It.sz]
  rw [hnd'] at ha e3 e4 h1 l1 k1
  have hlt:(St.txt (.ites c l m) d)=([105,102,32,40]++c.txt ++ [41,32]++blkT l d) ++ [32,101,108,115,101,32]++blkT m d:=by simp [St.txt,blkT]
  rw [hlt] at hl ⊢
  obtain ⟨tx,htx⟩:∃ tx:List UInt8,tx=([105,102,32,40]++c.txt ++ [41,32]++blkT l d) ++ [32,101,108,115,101,32]++blkT m d:=⟨_,rfl⟩
  rw [<-htx]
  simp only [It.sz] at e2 e3
  simp only at e4 h1 l1 k1
  simp only [St.sz] at hd
  have hl':xs.length+([105,102,32,40]++c.txt ++ [41,32]++blkT l d).length<=1000000000:=by simp only [qe] at hl ⊢;omega
  generalize H.alloc (OR [.int .i64 16,.int .u64 0,a] zj)=H1 at *
  obtain ⟨w0,w13,w25,-,-,-,-⟩:=xn M ⟨none,jd⟩
  simp only [↓qh,qx,reduceIte,Nat.reduceEqDiff,w0,w13,w25,qp,e1,e2,e3,e4,l1.ld,Int.reduceEq]
  refine qzp (M:=M) hc (qm7 hc l) (.inl ⟨rfl,rfl⟩) hsc hsl ⟨ho.1,ho.2.1⟩ ⟨hsm.1,hsm.2.1⟩ (by omega) ha rfl rfl (by simp) h1 hl' l1 rfl rfl rfl rfl fun H5 h5 l5 k5=>?_
  have t1:=vf (show (([((bb+c.sz-1:Nat):Int),((bb+c.sz+l.sz:Nat):Int),((bb+c.sz+(l.sz+1)+m.sz:Nat):Int)].length:Nat):Int)=3 by simp)
  simp only [↓qh,qx,reduceIte,Nat.reduceEqDiff,t1]
  refine C3.q (vv (M:=M) (s:=[32,101,108,115,101,32]) h5 (by decide) (by simp only [qe,qk,qu] at hl ⊢;omega)) fun v H6 ⟨h6,k6⟩=>?_
  have l6:=l5.step k6
  obtain ⟨j1,j2⟩:=qkd ha h6.fr (i:=2) rfl (z:=2) rfl
  simp only [↓qh,qx,reduceIte,Nat.reduceEqDiff,l6.ld,j1 .i64,j2]
  refine C3.q (qvc hc m (qm7 hc m) (d:=d) hsm' ho.2.2 hsm.2.2 (by omega) h6 (by simp only [qe,qk,qu] at hl ⊢;omega)) fun v H7 ⟨h7,k7⟩=>?_
  simp only [↓qh,qx,reduceIte,Nat.reduceEqDiff]
  exact ⟨by rw [htx];simpa only [qo] using h7,((k1.trans k5).trans k6).trans k7⟩
 | .loop c l=>by
  intro H b bb d xs hs ho hsm hd h hl
  refine yl ?_
  obtain ⟨hnd,hks⟩:=Seg.nd (x:=.s (.loop c l)) hs
  have hsc:Seg ts bb (c.enc bb):=hks.cons.1
  have hsl:Seg ts (bb+c.sz) (l.encL (bb+c.sz)):=hks.cons.2.cons.1
  obtain ⟨a,ha,e1,e2,e3,e4,h1,l1,k1⟩:=qhm hc h hnd
  have hnd':(It.s (.loop c l)).nd bb=⟨17,0,[((bb+c.sz-1:Nat):Int),((bb+c.sz+l.sz:Nat):Int)]⟩:=by simp [It.nd,It.kn,It.ks,endsF,ints,It.sz]
  rw [hnd'] at ha e3 e4 h1 l1 k1
  have hlt:(St.txt (.loop c l) d)=[119,104,105,108,101,32,40]++c.txt ++ [41,32]++blkT l d:=rfl
  rw [hlt] at hl ⊢
  obtain ⟨tx,htx⟩:∃ tx:List UInt8,tx=[119,104,105,108,101,32,40]++c.txt ++ [41,32]++blkT l d:=⟨_,rfl⟩
  rw [<-htx]
  simp only [It.sz] at e2 e3
  simp only at e4 h1 l1 k1
  simp only [St.sz] at hd
  generalize H.alloc (OR [.int .i64 17,.int .u64 0,a] zj)=H1 at *
  obtain ⟨w0,w13,w25,-,-,-,-⟩:=xn M ⟨none,jd⟩
  simp only [↓qh,qx,reduceIte,Nat.reduceEqDiff,w0,w13,w25,qp,e1,e2,e3,e4,l1.ld,Int.reduceEq]
  refine qzp (M:=M) hc (qm7 hc l) (.inr ⟨rfl,rfl⟩) hsc hsl ho hsm (by omega) ha rfl rfl (by simp) h1 hl l1 rfl rfl rfl rfl fun H5 h5 l5 k5=>?_
  have t1:¬ (([((bb+c.sz-1:Nat):Int),((bb+c.sz+l.sz:Nat):Int)].length:Nat):Int)=3:=by simp
  simp only [↓qh,qx,reduceIte,Nat.reduceEqDiff,t1]
  exact ⟨by rw [htx];exact h5,k1.trans k5⟩
 | .atom l=>by
  intro H b bb d xs hs ho hsm hd h hl
  refine yl ?_
  obtain ⟨hnd,hks⟩:=Seg.nd (x:=.s (.atom l)) hs
  have hsl:Seg ts bb (l.encL bb):=hks.cons.1
  obtain ⟨a,ha,e1,e2,e3,e4,h1,l1,k1⟩:=qhm hc h hnd
  have hnd':(It.s (.atom l)).nd bb=⟨18,0,[((bb+l.sz:Nat):Int)]⟩:=by simp [It.nd,It.kn,It.ks,endsF,ints,It.sz]
  rw [hnd'] at ha e3 e4 h1 l1 k1
  have hlt:(St.txt (.atom l) d)=[97,116,111,109,105,99,32]++blkT l d:=rfl
  rw [hlt] at hl ⊢
  obtain ⟨tx,htx⟩:∃ tx:List UInt8,tx=[97,116,111,109,105,99,32]++blkT l d:=⟨_,rfl⟩
  rw [<-htx]
  simp only [qe,qk,qu] at hl
  simp only [It.sz] at e2 e3
  simp only at e4 h1 l1 k1
  simp only [St.sz] at hd
  generalize H.alloc (OR [.int .i64 18,.int .u64 0,a] zj)=H1 at *
  simp only [↓qh,qx,reduceIte,Nat.reduceEqDiff,xn,qp,e1,e2,e3,e4,l1.ld,Int.reduceEq]
  refine C3.q (vv (M:=M) (s:=[97,116,111,109,105,99,32]) h1 (by decide) (by simp only [qk,qu];omega)) fun v H2 ⟨h2,k2⟩=>?_
  have l2:=l1.step k2
  obtain ⟨i1,i2⟩:=qkd ha h2.fr (i:=0) rfl (z:=0) rfl
  simp only [↓qh,qx,reduceIte,Nat.reduceEqDiff,xn,l2.ld,i1 .i64,i2]
  refine C3.q (qvc hc l (qm7 hc l) (d:=d) hsl ho.1 hsm (by omega) h2 (by simp only [qe,qk,qu];omega)) fun v H3 ⟨h3,k3⟩=>?_
  simp only [↓qh,qx,reduceIte,Nat.reduceEqDiff,xn]
  exact ⟨by rw [htx];simpa only [qo] using h3,(k1.trans k2).trans k3⟩
 | .halt=>by
  intro H b bb d xs hs ho hsm hd h hl
  refine yl ?_
  obtain ⟨hnd,hks⟩:=Seg.nd (x:=.s .halt) hs
  obtain ⟨a,ha,e1,e2,e3,e4,h1,l1,k1⟩:=qhm hc h hnd
  have hnd':(It.s .halt).nd bb=⟨19,0,[]⟩:=by simp [It.nd,It.kn,It.ks,endsF,ints]
  rw [hnd'] at ha e3 e4 h1 l1 k1
  have hlt:(St.txt .halt d)=[104,97,108,116,59]:=rfl
  rw [hlt] at hl ⊢
  obtain ⟨tx,htx⟩:∃ tx:List UInt8,tx=[104,97,108,116,59]:=⟨_,rfl⟩
  rw [<-htx]
  simp only [qk,qu] at hl
  simp only [It.sz] at e2 e3
  simp only at e4 h1 l1 k1
  generalize H.alloc (OR [.int .i64 19,.int .u64 0,a] zj)=H1 at *
  simp only [↓qh,qx,reduceIte,Nat.reduceEqDiff,xn,qp,e1,e2,e3,e4,l1.ld,Int.reduceEq]
  refine C3.q (vv (M:=M) (s:=[104,97,108,116,59]) h1 (by decide) (by simp only [qk,qu];omega)) fun v H2 ⟨h2,k2⟩=>?_
  simp only [↓qh,qx,reduceIte,Nat.reduceEqDiff,xn]
  exact ⟨by rw [htx];exact h2,k1.trans k2⟩
theorem qm7 {H0:AHeap} {tv:AV} {ts:List Nd} (hc:WC H0 tv ts):∀ (l:Ls),LsP M H0 tv ts l
 | .nil=>fun s h=>by cases h
 | .cons x l=>fun s h=>by
  rcases zg.1 h with h|h
  ·rw [h];exact St_spec hc x
  ·exact qm7 hc l s h
end
end Go.Am
namespace Go.Am
open Lang Go.Proofs
variable {M:Mac} [MK M]
abbrev lt64 (l:List Nd):Prop:=∀ y ∈ l,y.n<18446744073709551616
theorem lt64.app {a b:List Nd} (h:lt64 (a++b)):lt64 a/\lt64 b:=⟨fun y hy=>h y (by simp [hy]),fun y hy=>h y (by simp [hy])⟩
theorem Ex.small_of:∀ (x:Ex) (b:Nat),lt64 (x.enc b)->x.small
 | .num n,b,h=>by have:=h ⟨1,n,[]⟩ (by simp [Ex.enc]);simp only at this;show n<18446744073709551616;omega
 | .var v,b,h=>trivial
 | .load a,b,h=>Ex.small_of a b h.app.1
 | .bin o a c,b,h=>⟨Ex.small_of a b h.app.1,Ex.small_of c _ h.app.2.app.1⟩
theorem Cn.small_of (c:Cn) (b:Nat) (h:lt64 (c.enc b)):c.small:=⟨Ex.small_of c.a b h.app.1,Ex.small_of c.b _ h.app.2.app.1⟩
mutual
theorem St.small_of:∀ (x:Lang.St) (b:Nat),lt64 (x.enc b)->x.small
 | .set v a,b,h=>Ex.small_of a b h.app.1
 | .store a c,b,h=>⟨Ex.small_of a b h.app.1,Ex.small_of c _ h.app.2.app.1⟩
 | .ite c l,b,h=>⟨Cn.small_of c b h.app.1,Ls.small_of l _ h.app.2.app.1⟩
 | .ites c l e,b,h=>⟨Cn.small_of c b h.app.1,Ls.small_of l _ h.app.2.app.1,Ls.small_of e _ h.app.2.app.2.app.2.app.1⟩
 | .loop c l,b,h=>⟨Cn.small_of c b h.app.1,Ls.small_of l _ h.app.2.app.1⟩
 | .atom l,b,h=>Ls.small_of l _ h.app.1
 | .halt,b,h=>trivial
theorem Ls.small_of:∀ (x:Ls) (b:Nat),lt64 (x.enc b)->x.small
 | .nil,b,h=>trivial
 | .cons s l,b,h=>⟨St.small_of s b h.app.1,Ls.small_of l _ h.app.2⟩
end
def printR (p:Ls):List UInt8 × Int:=if (scan (p.txt 0) (0,0)).2<=50 then (p.txt 0,0) else ([],2)
theorem lies_W:liesB Tryd.prog 78 kq 5 0=true:=by kernel_rfl
theorem q66 {p:Ls} (hs:p.small) (hz:p.sz+1<=2000):(p.txt 0).length<=100000000:=by
 have h:=p.txt_len 0 p.sz hs (by omega)
 have:(40+8*p.sz)*p.sz<=(40+8*2000)*2000:=Nat.mul_le_mul (by omega) (by omega)
 omega
theorem q4g {H:AHeap} {tv:AV} {p:Ls} (hn:Nds H tv (p.encL 0)) (hz:∀ x ∈ p.encL 0,x.kids.length*8<=140737488355328) (hm:mayB (p.encL 0)=true) (ho:p.ok) (hs:p.small) (hl:p.sz+1<=2000) (hp:PowT H) (hpl:zt<H.next) :
 yv M qcs [tv] H fun v H'=>v=.tuple [.str (printR p).1,.int .i64 (printR p).2]/\Fr Em H H':=by
 refine qxt ?_
 obtain ⟨w0,w2,w10,w14,w22⟩:=qxu M ⟨none,qcs⟩
 simp only [↓qh,qx,reduceIte,Nat.reduceEqDiff,w0,w2]
 refine C3.q (may_spec (M:=M) hn hz) fun v H1 ⟨hv,hf⟩=>?_
 rw [hm] at hv;subst hv
 have hn1:=hn.em hf
 have hc:WC H1 tv (p.encL 0):=⟨hn1,(hf.cells hpl id).trans hp,qi hpl hf.next,by rw [Ls.lenL];omega⟩
 have hb:Op.build [.nilp,.nils,.nils,.int .i64 0,.int .i64 0] [(2,1)] [tv]=some (.agg [.nilp,.nils,tv,.int .i64 0,.int .i64 0]):=by
  obtain ⟨zs,_,h2,_⟩:=hn1.ex
  have hcl:tv.cells=[tv]:=by have:=h2.one;cases tv<;>first|rfl|cases this
  simp only [qzv,qsb,qvk,hcl];rfl
 have wl:wrapI .i64 (((p.encL 0).length:Nat)-1:Int)=((0+p.sz:Nat):Int):=by rw [Ls.lenL,jn (by omega) (by omega)];omega
 simp only [↓qh,qx,reduceIte,Nat.reduceEqDiff,w10,hb,hn1.len,wl]
 have hf2:Fr Em H1 (H1.alloc (OR [.nilp,.nils,tv,.int .i64 0,.int .i64 0] kq)):=(Fr.refl H1).alloc _
 have hws:WS H1 (H1.alloc (OR [.nilp,.nils,tv,.int .i64 0,.int .i64 0] kq)) H1.next tv [] :=
  ⟨⟨.nilp,.nils,xr ..,.inl rfl,BufZ.nil hf2,fun q=>q.1 rfl,fun _ _=>rfl⟩,qg _,by rw [ze];omega,lies_W⟩
 have htl:=q66 hs hl
 have hlo:=q5j (M:=M) hc p (qm7 hc p) (bb:=0) (d:=0) (Seg.all _) ho hs (by omega) hws (by simp;omega)
 rw [ja] at hlo
 refine C3.q hlo fun v H2 ⟨h2,k2⟩=>?_
 rw [x8] at h2
 have hpk:Op.load1 [.ptr H1.next 4] H2=some (.int .i64 (scan (p.txt 0) (0,0)).2):=by
  obtain ⟨⟨pp,buf,h1,_⟩,_⟩:=h2
  rw [vo (jk h1)];rfl
 by_cases hq:(scan (p.txt 0) (0,0)).2<=50
 ·have q1:¬ (50:Int)<(scan (p.txt 0) (0,0)).2:=by omega
  rw [show printR p=(p.txt 0,0) by unfold printR;rw [xi hq]]
  simp only [↓qh,qx,reduceIte,Nat.reduceEqDiff,w14,w22,qp,hpk,q1]
  refine C3.q (qm9 (M:=M) h2 (by omega) (.inr rfl)) fun v H3 ⟨hv,h3,_⟩=>?_
  subst hv
  simp only [↓qh,qx,reduceIte,Nat.reduceEqDiff]
  exact hf.em h3.fr
 ·have q1:(50:Int)<(scan (p.txt 0) (0,0)).2:=by omega
  rw [show printR p=([],2) by unfold printR;rw [qt hq]]
  simp only [↓qh,qx,reduceIte,Nat.reduceEqDiff,w14,qp,hpk,q1]
  exact hf.em h2.fr
end Go.Am
namespace Go.Am
open Lang Go.Proofs
variable {M:Mac} [MK M]
structure NdI (H:AHeap) (tv:AV) (t:List Nd):Prop where
 nd:Nds H tv t
 kids:∀ x ∈ t,x.kids.length*8<=140737488355328
 lo:∀ x ∈ t,0<=x.n
 hi:∀ x ∈ t,x.n<18446744073709551616
 pow:PowT H
 pl:zt<H.next
theorem NdI.em {H H':AHeap} {tv:AV} {t:List Nd} (h:NdI H tv t) (f:Fr Em H H'):NdI H' tv t:=⟨h.nd.em f,h.kids,h.lo,h.hi,(f.cells h.pl id).trans h.pow,qi h.pl f.next⟩
theorem x20 (a b:AV):Op.extract 0 [.tuple [a,b]]=some a:=rfl
theorem x21 (a b:AV):Op.extract 1 [.tuple [a,b]]=some b:=rfl
end Go.Am
namespace Go.Am
open Lang Go.Proofs
variable {M:Mac} [MK M]
end Go.Am
namespace Go.Am
open Lang Go.Proofs
variable {M:Mac} [MK M]
structure RdC (H0:AHeap) (tv:AV) (ts:List Nd):Prop where
 nd:Nds H0 tv ts
 len:ts.length<=2000
theorem RdC.szle {ts:List Nd} {H0:AHeap} {tv:AV} (hc:RdC H0 tv ts) {b:Nat} {x:It} (h:Seg ts b (x.enc b)):x.sz<=2000:=by
 have:=h.lt;have:=hc.len;omega
end Go.Am
namespace Go.Am
open Lang Go.Proofs
variable {M:Mac} [MK M]
theorem q4l {H:AHeap} {v1 v2:AV} {t:List Nd} (h1:Nds H v1 t) (h2:Nds H v2 t) (hl:t.length<=140737488355328) (hz:∀ x ∈ t,x.kids.length*8<=140737488355328):yv M qeb [v1,v2] H fun v H'=>v=.bool true/\H'=H:=by
 refine qyt ?_
 obtain ⟨w0,w2,w10,w52,w15,w21,w51,w31,w35,w41,w50⟩:=qyu M ⟨none,qeb⟩
 have t0:=vf (show ((t.length:Nat):Int)=((t.length:Nat):Int) from rfl)
 simp only [↓qh,qx,reduceIte,Nat.reduceEqDiff,w0,w2,w10,h1.len,h2.len,t0]
 refine LOOP3.intro (fun k E' H'=>∃ j,H'=H/\E'=[(5,.int .i64 (j:Nat)),(0,v1),(1,v2)]/\k=t.length-j/\j<=t.length) ?_ ?_
 ·exact ⟨_,_,⟨0,rfl,rfl,rfl,by omega⟩,by simp only [↓qh,qx,reduceIte,Nat.reduceEqDiff]⟩
 rintro k E' H' ⟨j,rfl,rfl,rfl,hj⟩
 rcases ke j t.length with hlt|hge
 ·have q1:(j:Int)<(t.length:Nat):=by omega
  obtain ⟨x,hx⟩:∃ x,t[j]? = some x:=⟨t[j],by simp [hlt]⟩
  obtain ⟨a,ha,_,a1,_,a3,a4,a5⟩:=h1.get hx
  obtain ⟨b,hb,_,b1,_,b3,b4,b5⟩:=h2.get hx
  have t1:=vf (show x.k=x.k from rfl)
  have t2:=vf (show x.n=x.n from rfl)
  have t3:=vf (show ((x.kids.length:Nat):Int)=((x.kids.length:Nat):Int) from rfl)
  have wj:wrapI .i64 ((j:Int)+1)=((j+1:Nat):Int):=by rw [jn (by omega) (by omega)];omega
  have hkz:=hz x (zh hx)
  simp only [↓qh,qx,reduceIte,Nat.reduceEqDiff,w15,w21,w31,h1.len,q1,a1,a3,a4,a5,b1,b3,b4,b5,ha.len,hb.len,t1,t2,t3]
  refine LOOP3.intro (fun k E' H_1=>∃ i,H_1=H'/\E'=[(6,.int .i64 (i:Nat)),(5,.int .i64 (j:Nat)),(0,v1),(1,v2)]/\k=x.kids.length-i/\i<=x.kids.length) ?_ ?_
  ·exact ⟨_,_,⟨0,rfl,rfl,rfl,by omega⟩,by simp only [↓qh,qx,reduceIte,Nat.reduceEqDiff]⟩
  rintro k E' H_1 ⟨i,rfl,rfl,rfl,hi⟩
  rcases ke i x.kids.length with hil|hig
  ·have q2:(i:Int)<(x.kids.length:Nat):=by omega
   obtain ⟨y,hy⟩:∃ y,x.kids[i]? = some y:=⟨x.kids[i],by simp [hil]⟩
   obtain ⟨c1,c2⟩:=ha.getI hy
   obtain ⟨d1,d2⟩:=hb.getI hy
   have t4:=vf (show y=y from rfl)
   have wi:wrapI .i64 ((i:Int)+1)=((i+1:Nat):Int):=by rw [jn (by omega) (by omega)];omega
   simp only [↓qh,qx,reduceIte,Nat.reduceEqDiff,w35,w41,w50,a1,a5,b1,b5,ha.len,q2,c1,c2,d1,d2,t4,wi]
   exact ⟨_,_,⟨i+1,rfl,rfl,by omega⟩,by simp only [↓qh,qx,reduceIte,Nat.reduceEqDiff],by omega⟩
  ·have hie:i=x.kids.length:=by omega
   subst hie
   have q2:¬ ((x.kids.length:Nat):Int)<(x.kids.length:Nat):=by omega
   simp only [↓qh,qx,reduceIte,Nat.reduceEqDiff,w35,w51,a1,a5,ha.len,q2,wj]
   exact ⟨_,_,⟨j+1,rfl,rfl,by omega⟩,by simp only [↓qh,qx,reduceIte,Nat.reduceEqDiff],by omega⟩
 ·have hje:j=t.length:=by omega
  subst hje
  have q1:¬ ((t.length:Nat):Int)<(t.length:Nat):=by omega
  simp only [↓qh,qx,reduceIte,Nat.reduceEqDiff,w15,w52,h1.len,q1]
end Go.Am
