/- LqJ4: LpK LpL MnT MnA MnB MnC. -/
import Derived.Test.YtbimikjajohflaaDoorAmJLqJ3
import Derived.Test.YtbimikjajohflaaDoorAmJCodeJ
import Derived.Test.YtbimikjajohflaaDoorAmJLqJ0
set_option linter.unusedVariables false
set_option linter.unusedSimpArgs false
set_option linter.unusedSectionVars false
set_option maxRecDepth 100000
namespace Go.Am
open Lang Go.Proofs
variable {M:Mac} [MK M]
theorem Seg.szle {ts:List Nd} {H0:AHeap} {tv:AV} (hc:WC H0 tv ts) {b:Nat} {x:It} (h:Seg ts b (x.enc b)):x.sz<=2000:=by
 have:=h.lt;have:=hc.len;omega
theorem q3h {H0 H1:AHeap} {tv a:AV} {ts:List Nd} (hc:WC H0 tv ts) {c:Cn} {l:Ls} (hsp:∀ s ∈ sts l,SP M H0 tv ts s) {b bb d p:Nat} {k:Int} {xs w:List UInt8} {kids:List Int} {Q:Post3} {E:Env} (hk:k=16/\w=[105,102,32,40]\/k=17/\w=[119,104,105,108,101,32,40])
 (hsc:Seg ts bb (c.enc bb)) (hsl:Seg ts (bb+c.sz) (l.encL (bb+c.sz))) (ho:c.ok/\l.ok) (hsm:c.small/\l.small) (hd:d+1+l.sz<=4000) (ha:SlT encI 1 H0 a kids) (k0:kids[0]? = some ((bb+c.sz-1:Nat):Int)) (k1:kids[1]? = some ((bb+c.sz+l.sz:Nat):Int)) (hkl:kids.length<=3)
 (h:WS H0 H1 b tv xs) (hl:xs.length+(w++c.txt ++ [41,32]++blkT l d).length<=1000000000) (lo:Loc H1 b p [.int .i64 k,.int .u64 0,a] qj)
 (e0:lk E 0=some (.ptr b 0)) (e6:lk E 6=some (.ptr p 0)) (e54:lk E 54=some (.bool true)) (e2:lk E 2=some (.int .i64 (d:Int)))
 (hq:∀ H5,WS H0 H5 b tv (xs++(w++c.txt ++ [41,32]++blkT l d))->Loc H5 b p [.int .i64 k,.int .u64 0,a] qj->BK b H1 H5 ->
  IF3 true (.bool (decide (((kids.length:Nat):Int)=3))) (fun g=>Ly g E 0 fun g t0_1=>C3 M g (.func xe) [t0_1,(.str [32,101,108,115,101,32])] H5 fun g t85 H2=>Ly g E 0 fun g t0_2=>Ly g E 6 fun g t6_2=>Fl g 2 t6_2 H2 fun g t88=>Xl g t88 (.int .i64 2) H2 fun g t90=>Ly g E 2 fun g t2_1=>C3 M g (.func yv) [t0_2,t90,t2_1] H2 fun g t92 H3=>GO3 g Q .normal E [] H3) (fun g=>GO3 g Q .normal E [] H5)) :
 W M ⟨none,z4⟩ (x6 31) true Q E [] H1:=by
 obtain ⟨-,-,-,w31,w34,-,w38⟩:=xn M ⟨none,z4⟩
 obtain ⟨o,b1,b2,b3⟩:=ifw_row H1 hk
 have hf1:Fr Em H1 (H1.alloc o):=(Fr.refl H1).alloc _
 have kk1:=BK.fr (b:=b) hf1 h.hi
 have lo1:=lo.step kk1
 have hwl:w.length<=7:=by rcases hk with ⟨_,rfl⟩|⟨_,rfl⟩<;>decide
 have hwa:ascii w:=by rcases hk with ⟨_,rfl⟩|⟨_,rfl⟩<;>decide
 simp only [qc,qg,ql] at hl
 have hcz:c.sz<=2000:=Seg.szle hc (x:=.c c) hsc
 simp only [↓qe,qt,reduceIte,Nat.reduceEqDiff,w31,e54,e0,e6,b1,lo1.ld,b2,b3]
 refine C3.q (wh (M:=M) (s:=w) (h.em hf1) hwa (by omega)) fun v H2 ⟨h2,k2⟩=>?_
 have lo2:=lo1.step k2
 obtain ⟨i1,i2⟩:=qf0 ha h2.fr k0 (z:=0) rfl
 simp only [↓qe,qt,reduceIte,Nat.reduceEqDiff,w34,e0,e6,lo2.ld,i1 .i64,i2]
 refine C3.q (q8w (M:=M) hc c hsc ho.1 hsm.1 h2 (by unfold big;simp only [qc];omega)) fun v H3 ⟨h3,k3⟩=>?_
 simp only [↓qe,qt,reduceIte,Nat.reduceEqDiff,e0]
 refine C3.q (wh (M:=M) (s:=[41,32]) h3 (by decide) (by simp only [qc,qg,ql];omega)) fun v H4 ⟨h4,k4⟩=>?_
 have lo4:=(lo2.step k3).step k4
 obtain ⟨j1,j2⟩:=qf0 ha h4.fr k1 (z:=1) rfl
 simp only [↓qe,qt,reduceIte,Nat.reduceEqDiff,w38,e0,e6,e2,lo4.ld,j1 .i64,j2]
 refine C3.q (qyo hc l hsp (d:=d) hsl ho.2 hsm.2 hd h4 (by simp only [qc,qg,ql];omega)) fun v H5 ⟨h5,k5⟩=>?_
 have lo5:=lo4.step k5
 have hal:=(ha.em h5.fr).len
 simp only [↓qe,qt,reduceIte,Nat.reduceEqDiff,e6,lo5.ld,hal]
 exact hq H5 (by simpa only [qv] using h5) lo5 ((((kk1.trans k2).trans k3).trans k4).trans k5)
def LsP (M:Mac) (H0:AHeap) (tv:AV) (ts:List Nd) (l:Ls):Prop:=∀ s ∈ sts l,SP M H0 tv ts s
mutual
theorem St_spec {H0:AHeap} {tv:AV} {ts:List Nd} (hc:WC H0 tv ts):∀ x:Lang.St,SP M H0 tv ts x
 | .set w x=>by
  intro H b bb d xs hs ho hsm hd h hl
  refine yx ?_
  obtain ⟨hnd,hks⟩:=Seg.nd (x:=.s (.set w x)) hs
  have hsx:Seg ts bb (x.enc bb):=hks.cons.1
  have hxz:x.sz<=2000:=Seg.szle hc (x:=.e x) hsx
  obtain ⟨a,ha,e1,e2,e3,e4,h1,l1,k1⟩:=qio hc h hnd
  have hnd':(It.s (.set w x)).nd bb=⟨14,w,[((bb+x.sz-1:Nat):Int)]⟩:=by simp [It.nd,It.kn,It.ks,endsF,ints,It.sz]
  rw [hnd'] at ha e3 e4 h1 l1 k1
  have hlt:(St.txt (.set w x) d)=letter w ++ [32,61,32]++x.txt 0 ++ [59]:=rfl
  rw [hlt] at hl ⊢
  obtain ⟨tx,htx⟩:∃ tx:List UInt8,tx=letter w ++ [32,61,32]++x.txt 0 ++ [59]:=⟨_,rfl⟩
  rw [<-htx]
  simp only [qc,letter,qg,ql] at hl
  simp only [It.sz] at e2 e3
  simp only at e4 h1 l1 k1
  obtain ⟨ho7,hox⟩:=ho
  generalize H.alloc (OR [.int .i64 14,.int .u64 (w:Nat),a] qj)=H1 at *
  have w1:wrapI .u64 (97+(w:Int))=((97+w:Nat):Int):=by rw [qa5 (by omega) (by omega)];omega
  have w2:wrapI .i32 ((97+w:Nat):Int)=((97+w:Nat):Int):=by rw [q20];omega
  have hcat:Op.bin .add [.str (letter w),.str [32,61,32]]=some (.str (letter w ++ [32,61,32])):=o_cat _ _ (by simp [letter])
  have t1:=x8 (show (14:Int)=14 from rfl)
  simp only [↓qe,qt,reduceIte,Nat.reduceEqDiff,xn,qo,e1,e2,e3,e4,l1.ld,t1,w1,w2,qxx w ho7,hcat]
  refine C3.q (wh (M:=M) (s:=letter w ++ [32,61,32]) h1 (qm9 (qte w ho7) (by decide)) (by simp [letter];omega)) fun v H2 ⟨h2,k2⟩=>?_
  have l2:=l1.step k2
  obtain ⟨i1,i2⟩:=qf0 ha h2.fr (i:=0) rfl (z:=0) rfl
  simp only [↓qe,qt,reduceIte,Nat.reduceEqDiff,xn,l2.ld,i1 .i64,i2]
  refine C3.q (qh3 hc x (d:=0) hsx hox hsm (by omega) h2 (by unfold big;simp [letter];omega)) fun v H3 ⟨h3,k3⟩=>?_
  simp only [↓qe,qt,reduceIte,Nat.reduceEqDiff,xn]
  refine C3.q (wh (M:=M) (s:=[59]) h3 (by decide) (by simp [letter];omega)) fun v H4 ⟨h4,k4⟩=>?_
  simp only [↓qe,qt,reduceIte,Nat.reduceEqDiff,xn]
  exact ⟨by rw [htx];simpa only [qv] using h4,((k1.trans k2).trans k3).trans k4⟩
 | .store x y=>by
  intro H b bb d xs hs ho hsm hd h hl
  refine yx ?_
  obtain ⟨hnd,hks⟩:=Seg.nd (x:=.s (.store x y)) hs
  have hsx:Seg ts bb (x.enc bb):=hks.cons.1
  have hsy:Seg ts (bb+x.sz) (y.enc (bb+x.sz)):=hks.cons.2.cons.1
  have hxz:x.sz<=2000:=Seg.szle hc (x:=.e x) hsx
  have hyz:y.sz<=2000:=Seg.szle hc (x:=.e y) hsy
  obtain ⟨a,ha,e1,e2,e3,e4,h1,l1,k1⟩:=qio hc h hnd
  have hnd':(It.s (.store x y)).nd bb=⟨15,0,[((bb+x.sz-1:Nat):Int),((bb+x.sz+y.sz-1:Nat):Int)]⟩:=by simp [It.nd,It.kn,It.ks,endsF,ints,It.sz]
  rw [hnd'] at ha e3 e4 h1 l1 k1
  have hlt:(St.txt (.store x y) d)=[115,116,111,114,101,40]++x.txt 0 ++ [44,32]++y.txt 0 ++ [41,59]:=rfl
  rw [hlt] at hl ⊢
  obtain ⟨tx,htx⟩:∃ tx:List UInt8,tx=[115,116,111,114,101,40]++x.txt 0 ++ [44,32]++y.txt 0 ++ [41,59]:=⟨_,rfl⟩
  rw [<-htx]
  simp only [qc,qg,ql] at hl
  simp only [It.sz] at e2 e3
  simp only at e4 h1 l1 k1
  obtain ⟨hox,hoy⟩:=ho
  generalize H.alloc (OR [.int .i64 15,.int .u64 0,a] qj)=H1 at *
  simp only [↓qe,qt,reduceIte,Nat.reduceEqDiff,xn,qo,e1,e2,e3,e4,l1.ld,Int.reduceEq]
  refine C3.q (wh (M:=M) (s:=[115,116,111,114,101,40]) h1 (by decide) (by simp only [qg,ql];omega)) fun v H2 ⟨h2,k2⟩=>?_
  have l2:=l1.step k2
  obtain ⟨i1,i2⟩:=qf0 ha h2.fr (i:=0) rfl (z:=0) rfl
  simp only [↓qe,qt,reduceIte,Nat.reduceEqDiff,xn,l2.ld,i1 .i64,i2]
  refine C3.q (qh3 hc x (d:=0) hsx hox hsm.1 (by omega) h2 (by unfold big;simp only [qc,qg,ql];omega)) fun v H3 ⟨h3,k3⟩=>?_
  simp only [↓qe,qt,reduceIte,Nat.reduceEqDiff,xn]
  refine C3.q (wh (M:=M) (s:=[44,32]) h3 (by decide) (by simp only [qc,qg,ql];omega)) fun v H4 ⟨h4,k4⟩=>?_
  have l4:=(l2.step k3).step k4
  obtain ⟨j1,j2⟩:=qf0 ha h4.fr (i:=1) rfl (z:=1) rfl
  simp only [↓qe,qt,reduceIte,Nat.reduceEqDiff,xn,l4.ld,j1 .i64,j2]
  refine C3.q (qh3 hc y (d:=0) hsy hoy hsm.2 (by omega) h4 (by unfold big;simp only [qc,qg,ql];omega)) fun v H5 ⟨h5,k5⟩=>?_
  simp only [↓qe,qt,reduceIte,Nat.reduceEqDiff,xn]
  refine C3.q (wh (M:=M) (s:=[41,59]) h5 (by decide) (by simp only [qc,qg,ql];omega)) fun v H6 ⟨h6,k6⟩=>?_
  simp only [↓qe,qt,reduceIte,Nat.reduceEqDiff,xn]
  exact ⟨by rw [htx];simpa only [qv] using h6,((((k1.trans k2).trans k3).trans k4).trans k5).trans k6⟩
 | .ite c l=>by
  intro H b bb d xs hs ho hsm hd h hl
  refine yx ?_
  obtain ⟨hnd,hks⟩:=Seg.nd (x:=.s (.ite c l)) hs
  have hsc:Seg ts bb (c.enc bb):=hks.cons.1
  have hsl:Seg ts (bb+c.sz) (l.encL (bb+c.sz)):=hks.cons.2.cons.1
  obtain ⟨a,ha,e1,e2,e3,e4,h1,l1,k1⟩:=qio hc h hnd
  have hnd':(It.s (.ite c l)).nd bb=⟨16,0,[((bb+c.sz-1:Nat):Int),((bb+c.sz+l.sz:Nat):Int)]⟩:=by simp [It.nd,It.kn,It.ks,endsF,ints,It.sz]
  rw [hnd'] at ha e3 e4 h1 l1 k1
  have hlt:(St.txt (.ite c l) d)=[105,102,32,40]++c.txt ++ [41,32]++blkT l d:=rfl
  rw [hlt] at hl ⊢
  obtain ⟨tx,htx⟩:∃ tx:List UInt8,tx=[105,102,32,40]++c.txt ++ [41,32]++blkT l d:=⟨_,rfl⟩
  rw [<-htx]
  simp only [It.sz] at e2 e3
  simp only at e4 h1 l1 k1
  simp only [St.sz] at hd
  generalize H.alloc (OR [.int .i64 16,.int .u64 0,a] qj)=H1 at *
  obtain ⟨w0,w13,w25,-,-,-,-⟩:=xn M ⟨none,z4⟩
  simp only [↓qe,qt,reduceIte,Nat.reduceEqDiff,w0,w13,w25,qo,e1,e2,e3,e4,l1.ld,Int.reduceEq]
  refine q3h (M:=M) hc (qpf hc l) (.inl ⟨rfl,rfl⟩) hsc hsl ho hsm (by omega) ha rfl rfl (by simp) h1 hl l1 rfl rfl rfl rfl fun H5 h5 l5 k5=>?_
  have t1:¬ (([((bb+c.sz-1:Nat):Int),((bb+c.sz+l.sz:Nat):Int)].length:Nat):Int)=3:=by simp
  simp only [↓qe,qt,reduceIte,Nat.reduceEqDiff,t1]
  exact ⟨by rw [htx];exact h5,k1.trans k5⟩
 | .ites c l m=>by
  intro H b bb d xs hs ho hsm hd h hl
  refine yx ?_
  obtain ⟨hnd,hks⟩:=Seg.nd (x:=.s (.ites c l m)) hs
  have hsc:Seg ts bb (c.enc bb):=hks.cons.1
  have hsl:Seg ts (bb+c.sz) (l.encL (bb+c.sz)):=hks.cons.2.cons.1
  have hsm':Seg ts (bb+c.sz+(l.sz+1)) (m.encL (bb+c.sz+(l.sz+1))):=hks.cons.2.cons.2.cons.1
  obtain ⟨a,ha,e1,e2,e3,e4,h1,l1,k1⟩:=qio hc h hnd
  have hnd':(It.s (.ites c l m)).nd bb=⟨16,0,[((bb+c.sz-1:Nat):Int),((bb+c.sz+l.sz:Nat):Int),((bb+c.sz+(l.sz+1)+m.sz:Nat):Int)]⟩:=by
   simp [It.nd,It.kn,It.ks,endsF,ints,It.sz]
  rw [hnd'] at ha e3 e4 h1 l1 k1
  have hlt:(St.txt (.ites c l m) d)=([105,102,32,40]++c.txt ++ [41,32]++blkT l d) ++ [32,101,108,115,101,32]++blkT m d:=by simp [St.txt,blkT]
  rw [hlt] at hl ⊢
  obtain ⟨tx,htx⟩:∃ tx:List UInt8,tx=([105,102,32,40]++c.txt ++ [41,32]++blkT l d) ++ [32,101,108,115,101,32]++blkT m d:=⟨_,rfl⟩
  rw [<-htx]
  simp only [It.sz] at e2 e3
  simp only at e4 h1 l1 k1
  simp only [St.sz] at hd
  have hl':xs.length+([105,102,32,40]++c.txt ++ [41,32]++blkT l d).length<=1000000000:=by simp only [qc] at hl ⊢;omega
  generalize H.alloc (OR [.int .i64 16,.int .u64 0,a] qj)=H1 at *
  obtain ⟨w0,w13,w25,-,-,-,-⟩:=xn M ⟨none,z4⟩
  simp only [↓qe,qt,reduceIte,Nat.reduceEqDiff,w0,w13,w25,qo,e1,e2,e3,e4,l1.ld,Int.reduceEq]
  refine q3h (M:=M) hc (qpf hc l) (.inl ⟨rfl,rfl⟩) hsc hsl ⟨ho.1,ho.2.1⟩ ⟨hsm.1,hsm.2.1⟩ (by omega) ha rfl rfl (by simp) h1 hl' l1 rfl rfl rfl rfl fun H5 h5 l5 k5=>?_
  have t1:=x8 (show (([((bb+c.sz-1:Nat):Int),((bb+c.sz+l.sz:Nat):Int),((bb+c.sz+(l.sz+1)+m.sz:Nat):Int)].length:Nat):Int)=3 by simp)
  simp only [↓qe,qt,reduceIte,Nat.reduceEqDiff,t1]
  refine C3.q (wh (M:=M) (s:=[32,101,108,115,101,32]) h5 (by decide) (by simp only [qc,qg,ql] at hl ⊢;omega)) fun v H6 ⟨h6,k6⟩=>?_
  have l6:=l5.step k6
  obtain ⟨j1,j2⟩:=qf0 ha h6.fr (i:=2) rfl (z:=2) rfl
  simp only [↓qe,qt,reduceIte,Nat.reduceEqDiff,l6.ld,j1 .i64,j2]
  refine C3.q (qyo hc m (qpf hc m) (d:=d) hsm' ho.2.2 hsm.2.2 (by omega) h6 (by simp only [qc,qg,ql] at hl ⊢;omega)) fun v H7 ⟨h7,k7⟩=>?_
  simp only [↓qe,qt,reduceIte,Nat.reduceEqDiff]
  exact ⟨by rw [htx];simpa only [qv] using h7,((k1.trans k5).trans k6).trans k7⟩
 | .loop c l=>by
  intro H b bb d xs hs ho hsm hd h hl
  refine yx ?_
  obtain ⟨hnd,hks⟩:=Seg.nd (x:=.s (.loop c l)) hs
  have hsc:Seg ts bb (c.enc bb):=hks.cons.1
  have hsl:Seg ts (bb+c.sz) (l.encL (bb+c.sz)):=hks.cons.2.cons.1
  obtain ⟨a,ha,e1,e2,e3,e4,h1,l1,k1⟩:=qio hc h hnd
  have hnd':(It.s (.loop c l)).nd bb=⟨17,0,[((bb+c.sz-1:Nat):Int),((bb+c.sz+l.sz:Nat):Int)]⟩:=by simp [It.nd,It.kn,It.ks,endsF,ints,It.sz]
  rw [hnd'] at ha e3 e4 h1 l1 k1
  have hlt:(St.txt (.loop c l) d)=[119,104,105,108,101,32,40]++c.txt ++ [41,32]++blkT l d:=rfl
  rw [hlt] at hl ⊢
  obtain ⟨tx,htx⟩:∃ tx:List UInt8,tx=[119,104,105,108,101,32,40]++c.txt ++ [41,32]++blkT l d:=⟨_,rfl⟩
  rw [<-htx]
  simp only [It.sz] at e2 e3
  simp only at e4 h1 l1 k1
  simp only [St.sz] at hd
  generalize H.alloc (OR [.int .i64 17,.int .u64 0,a] qj)=H1 at *
  obtain ⟨w0,w13,w25,-,-,-,-⟩:=xn M ⟨none,z4⟩
  simp only [↓qe,qt,reduceIte,Nat.reduceEqDiff,w0,w13,w25,qo,e1,e2,e3,e4,l1.ld,Int.reduceEq]
  refine q3h (M:=M) hc (qpf hc l) (.inr ⟨rfl,rfl⟩) hsc hsl ho hsm (by omega) ha rfl rfl (by simp) h1 hl l1 rfl rfl rfl rfl fun H5 h5 l5 k5=>?_
  have t1:¬ (([((bb+c.sz-1:Nat):Int),((bb+c.sz+l.sz:Nat):Int)].length:Nat):Int)=3:=by simp
  simp only [↓qe,qt,reduceIte,Nat.reduceEqDiff,t1]
  exact ⟨by rw [htx];exact h5,k1.trans k5⟩
 | .atom l=>by
  intro H b bb d xs hs ho hsm hd h hl
  refine yx ?_
  obtain ⟨hnd,hks⟩:=Seg.nd (x:=.s (.atom l)) hs
  have hsl:Seg ts bb (l.encL bb):=hks.cons.1
  obtain ⟨a,ha,e1,e2,e3,e4,h1,l1,k1⟩:=qio hc h hnd
  have hnd':(It.s (.atom l)).nd bb=⟨18,0,[((bb+l.sz:Nat):Int)]⟩:=by simp [It.nd,It.kn,It.ks,endsF,ints,It.sz]
  rw [hnd'] at ha e3 e4 h1 l1 k1
  have hlt:(St.txt (.atom l) d)=[97,116,111,109,105,99,32]++blkT l d:=rfl
  rw [hlt] at hl ⊢
  obtain ⟨tx,htx⟩:∃ tx:List UInt8,tx=[97,116,111,109,105,99,32]++blkT l d:=⟨_,rfl⟩
  rw [<-htx]
  simp only [qc,qg,ql] at hl
  simp only [It.sz] at e2 e3
  simp only at e4 h1 l1 k1
  simp only [St.sz] at hd
  generalize H.alloc (OR [.int .i64 18,.int .u64 0,a] qj)=H1 at *
  simp only [↓qe,qt,reduceIte,Nat.reduceEqDiff,xn,qo,e1,e2,e3,e4,l1.ld,Int.reduceEq]
  refine C3.q (wh (M:=M) (s:=[97,116,111,109,105,99,32]) h1 (by decide) (by simp only [qg,ql];omega)) fun v H2 ⟨h2,k2⟩=>?_
  have l2:=l1.step k2
  obtain ⟨i1,i2⟩:=qf0 ha h2.fr (i:=0) rfl (z:=0) rfl
  simp only [↓qe,qt,reduceIte,Nat.reduceEqDiff,xn,l2.ld,i1 .i64,i2]
  refine C3.q (qyo hc l (qpf hc l) (d:=d) hsl ho.1 hsm (by omega) h2 (by simp only [qc,qg,ql];omega)) fun v H3 ⟨h3,k3⟩=>?_
  simp only [↓qe,qt,reduceIte,Nat.reduceEqDiff,xn]
  exact ⟨by rw [htx];simpa only [qv] using h3,(k1.trans k2).trans k3⟩
 | .halt=>by
  intro H b bb d xs hs ho hsm hd h hl
  refine yx ?_
  obtain ⟨hnd,hks⟩:=Seg.nd (x:=.s .halt) hs
  obtain ⟨a,ha,e1,e2,e3,e4,h1,l1,k1⟩:=qio hc h hnd
  have hnd':(It.s .halt).nd bb=⟨19,0,[]⟩:=by simp [It.nd,It.kn,It.ks,endsF,ints]
  rw [hnd'] at ha e3 e4 h1 l1 k1
  have hlt:(St.txt .halt d)=[104,97,108,116,59]:=rfl
  rw [hlt] at hl ⊢
  obtain ⟨tx,htx⟩:∃ tx:List UInt8,tx=[104,97,108,116,59]:=⟨_,rfl⟩
  rw [<-htx]
  simp only [qg,ql] at hl
  simp only [It.sz] at e2 e3
  simp only at e4 h1 l1 k1
  generalize H.alloc (OR [.int .i64 19,.int .u64 0,a] qj)=H1 at *
  simp only [↓qe,qt,reduceIte,Nat.reduceEqDiff,xn,qo,e1,e2,e3,e4,l1.ld,Int.reduceEq]
  refine C3.q (wh (M:=M) (s:=[104,97,108,116,59]) h1 (by decide) (by simp only [qg,ql];omega)) fun v H2 ⟨h2,k2⟩=>?_
  simp only [↓qe,qt,reduceIte,Nat.reduceEqDiff,xn]
  exact ⟨by rw [htx];exact h2,k1.trans k2⟩
theorem qpf {H0:AHeap} {tv:AV} {ts:List Nd} (hc:WC H0 tv ts):∀ (l:Ls),LsP M H0 tv ts l
 | .nil=>fun s h=>by cases h
 | .cons x l=>fun s h=>by
  rcases x4.1 h with h|h
  ·rw [h];exact St_spec hc x
  ·exact qpf hc l s h
end
end Go.Am
namespace Go.Am
open Lang Go.Proofs
variable {M:Mac} [MK M]
abbrev lt64 (l:List Nd):Prop:=∀ y ∈ l,y.n<18446744073709551616
theorem lt64.app {a b:List Nd} (h:lt64 (a++b)):lt64 a/\lt64 b:=⟨fun y hy=>h y (by simp [hy]),fun y hy=>h y (by simp [hy])⟩
theorem Ex.small_of:∀ (x:Ex) (b:Nat),lt64 (x.enc b)->x.small
 | .num n,b,h=>by have:=h ⟨1,n,[]⟩ (by simp [Ex.enc]);simp only at this;show n<18446744073709551616;omega
 | .var v,b,h=>trivial
 | .load a,b,h=>Ex.small_of a b h.app.1
 | .bin o a c,b,h=>⟨Ex.small_of a b h.app.1,Ex.small_of c _ h.app.2.app.1⟩
theorem Cn.small_of (c:Cn) (b:Nat) (h:lt64 (c.enc b)):c.small:=⟨Ex.small_of c.a b h.app.1,Ex.small_of c.b _ h.app.2.app.1⟩
mutual
theorem St.small_of:∀ (x:Lang.St) (b:Nat),lt64 (x.enc b)->x.small
 | .set v a,b,h=>Ex.small_of a b h.app.1
 | .store a c,b,h=>⟨Ex.small_of a b h.app.1,Ex.small_of c _ h.app.2.app.1⟩
 | .ite c l,b,h=>⟨Cn.small_of c b h.app.1,Ls.small_of l _ h.app.2.app.1⟩
 | .ites c l e,b,h=>⟨Cn.small_of c b h.app.1,Ls.small_of l _ h.app.2.app.1,Ls.small_of e _ h.app.2.app.2.app.2.app.1⟩
 | .loop c l,b,h=>⟨Cn.small_of c b h.app.1,Ls.small_of l _ h.app.2.app.1⟩
 | .atom l,b,h=>Ls.small_of l _ h.app.1
 | .halt,b,h=>trivial
theorem Ls.small_of:∀ (x:Ls) (b:Nat),lt64 (x.enc b)->x.small
 | .nil,b,h=>trivial
 | .cons s l,b,h=>⟨St.small_of s b h.app.1,Ls.small_of l _ h.app.2⟩
end
def printR (p:Ls):List UInt8 × Int:=if (scan (p.txt 0) (0,0)).2<=50 then (p.txt 0,0) else ([],2)
theorem lies_W:liesB Tryd.prog 78 kp 5 0=true:=by kernel_rfl
theorem q2y {p:Ls} (hs:p.small) (hz:p.sz+1<=2000):(p.txt 0).length<=100000000:=by
 have h:=p.txt_len 0 p.sz hs (by omega)
 have:(40+8*p.sz)*p.sz<=(40+8*2000)*2000:=Nat.mul_le_mul (by omega) (by omega)
 omega
theorem Print_no {H:AHeap} {tv:AV} {t:List Nd} (hn:Nds H tv t) (hz:∀ x ∈ t,x.kids.length*8<=140737488355328) (hm:mayB t=false):yq M qcp [tv] H fun v H'=>v=.tuple [.str [],.int .i64 2]/\Fr Em H H':=by
 refine qs8 ?_
 obtain ⟨w0,w2,-,-,-⟩:=qs9 M ⟨none,qcp⟩
 simp only [↓qe,qt,reduceIte,Nat.reduceEqDiff,w0,w2]
 refine C3.q (q5i (M:=M) hn hz) fun v H1 ⟨hv,hf⟩=>?_
 rw [hm] at hv;subst hv
 simp only [↓qe,qt,reduceIte,Nat.reduceEqDiff]
 exact hf
theorem q0p {H:AHeap} {tv:AV} {p:Ls} (hn:Nds H tv (p.encL 0)) (hz:∀ x ∈ p.encL 0,x.kids.length*8<=140737488355328) (hm:mayB (p.encL 0)=true) (ho:p.ok) (hs:p.small) (hl:p.sz+1<=2000) (hp:PowT H) (hpl:z9<H.next) :
 yq M qcp [tv] H fun v H'=>v=.tuple [.str (printR p).1,.int .i64 (printR p).2]/\Fr Em H H':=by
 refine qs8 ?_
 obtain ⟨w0,w2,w10,w14,w22⟩:=qs9 M ⟨none,qcp⟩
 simp only [↓qe,qt,reduceIte,Nat.reduceEqDiff,w0,w2]
 refine C3.q (q5i (M:=M) hn hz) fun v H1 ⟨hv,hf⟩=>?_
 rw [hm] at hv;subst hv
 have hn1:=hn.em hf
 have hc:WC H1 tv (p.encL 0):=⟨hn1,(hf.cells hpl id).trans hp,qh hpl hf.next,by rw [Ls.lenL];omega⟩
 have hb:Op.build [.nilp,.nils,.nils,.int .i64 0,.int .i64 0] [(2,1)] [tv]=some (.agg [.nilp,.nils,tv,.int .i64 0,.int .i64 0]):=by
  obtain ⟨zs,_,h2,_⟩:=hn1.ex
  have hcl:tv.cells=[tv]:=by have:=h2.one;cases tv<;>first|rfl|cases this
  simp only [qnj,qh4,qkh,hcl];rfl
 have wl:wrapI .i64 (((p.encL 0).length:Nat)-1:Int)=((0+p.sz:Nat):Int):=by rw [Ls.lenL,zz (by omega) (by omega)];omega
 simp only [↓qe,qt,reduceIte,Nat.reduceEqDiff,w10,hb,hn1.len,wl]
 have hf2:Fr Em H1 (H1.alloc (OR [.nilp,.nils,tv,.int .i64 0,.int .i64 0] kp)):=(Fr.refl H1).alloc _
 have hws:WS H1 (H1.alloc (OR [.nilp,.nils,tv,.int .i64 0,.int .i64 0] kp)) H1.next tv [] :=
  ⟨⟨.nilp,.nils,xc ..,.inl rfl,BufZ.nil hf2,fun q=>q.1 rfl,fun _ _=>rfl⟩,qf _,by rw [xi];omega,lies_W⟩
 have htl:=q2y hs hl
 have hlo:=q9j (M:=M) hc p (qpf hc p) (bb:=0) (d:=0) (Seg.all _) ho hs (by omega) hws (by simp;omega)
 rw [zb] at hlo
 refine C3.q hlo fun v H2 ⟨h2,k2⟩=>?_
 rw [zg] at h2
 have hpk:Op.load1 [.ptr H1.next 4] H2=some (.int .i64 (scan (p.txt 0) (0,0)).2):=by
  obtain ⟨⟨pp,buf,h1,_⟩,_⟩:=h2
  rw [yj (xg h1)];rfl
 by_cases hq:(scan (p.txt 0) (0,0)).2<=50
 ·have q1:¬ (50:Int)<(scan (p.txt 0) (0,0)).2:=by omega
  rw [show printR p=(p.txt 0,0) by unfold printR;rw [qw hq]]
  simp only [↓qe,qt,reduceIte,Nat.reduceEqDiff,w14,w22,qo,hpk,q1]
  refine C3.q (qph (M:=M) h2 (by omega) (.inr rfl)) fun v H3 ⟨hv,h3,_⟩=>?_
  subst hv
  simp only [↓qe,qt,reduceIte,Nat.reduceEqDiff]
  exact hf.em h3.fr
 ·have q1:(50:Int)<(scan (p.txt 0) (0,0)).2:=by omega
  rw [show printR p=([],2) by unfold printR;rw [qk hq]]
  simp only [↓qe,qt,reduceIte,Nat.reduceEqDiff,w14,qo,hpk,q1]
  exact hf.em h2.fr
end Go.Am
namespace Go.Am
open Go.Proofs
variable {M:Mac} [MK M]
abbrev stopV (c:Nat):AV:=.iface kg (.agg [.int .i64 (c:Nat)])
theorem xas (e:Nat) (H:AHeap):∃ v,CALLU M qaf [.ptr e 0] (some []) H (.ret v) (some []) H:=by
 have h:∃ e' up' H',CALLU M qaf [.ptr e 0] (some []) H e' up' H'/\((∃ v,e'=.ret v)/\up'=some []/\H'=H):=by
  refine qpk (MK.at (by decide) qlm) ?_
  have e1:Op.eq .iface false [AV.nili,AV.nili] H=some (.bool true):=rfl
  simp only [qpe,qrh,qn8,qrm,qob,qrk,qrl,qrr,qoe,qrp,qxm,qro,DF_fn,qhn,qru,qxn,qrs,qrt,qjd,qrq,qoc,qod,qk7,qja,qri,BLK_exit',qn9,qk3,st_tm,qyd,st_up,st_H,T.get_set,qdu,qli,qlh,qrj,qjb,qk6,qsv,qpy,qj2,qj3,tup0,tup1,tup2,qlf,mkptr,qd,qws,qp7,qp8,qn,xa,reduceIte,Nat.reduceEqDiff,qoh,qvz,qv0,o_add,o_sub,o_mul,o_eql,o_neq,o_lss,o_leq,o_gtr,o_geq,qv6,o_not,qv1,qv5,qme,qmf,qj1,qgb,qmd,qsi,o_box,AFunc.body,AFunc.results,AFunc.loops,ALoop.params,ALoop.assign,ALoop.body,zx,xl,jw,zb,ne_eq,qbw,jo,false_and,qfv,qcw,qbq,qd1,qdj,qal,wg,qjv,qhd,qjz,qhg,qjy,qhf,qiq,qg1,qip,qg0,qjx,qjw,qhe,qju,qjt,qhc,qjs,qjr,qhb,qii,args1,e1]
  exact ⟨_,rfl⟩
 obtain ⟨e',up',H',h1,⟨v,rfl⟩,rfl,rfl⟩:=h
 exact ⟨v,h1⟩
theorem xat {e c z t:Nat} {H:AHeap} (he:H.get e=some (OR [.int .i64 (z:Nat)] t)) (hlt:e<H.next):∃ v H',CALLU M qaf [.ptr e 0] (some [(stopV c,false)]) H (.ret v) (some [(stopV c,true)]) H'/\H'.get e=some (OR [.int .i64 (c:Nat)] t)/\Fr (fun x=>x=e) H H':=by
 have h:∃ e' up' H',CALLU M qaf [.ptr e 0] (some [(stopV c,false)]) H e' up' H'/\((∃ v,e'=.ret v)/\up'=some [(stopV c,true)]/\H'.get e=some (OR [.int .i64 (c:Nat)] t)/\Fr (fun x=>x=e) H H'):=by
  refine qpk (MK.at (by decide) qlm) ?_
  have e1:Op.eq .iface false [stopV c,AV.nili] H=some (.bool false):=rfl
  have e2:Op.typeAssert kg true (.agg [(.int .i64 0)]) [stopV c]=some (.tuple [.agg [.int .i64 (c:Nat)],.bool true]):=rfl
  have e3:Op.extract 1 [.tuple [.agg [.int .i64 (c:Nat)],.bool true]]=some (.bool true):=rfl
  have e4:Op.extract 0 [.tuple [.agg [.int .i64 (c:Nat)],.bool true]]=some (.agg [.int .i64 (c:Nat)]):=rfl
  have e5:Op.store 1 [AV.ptr H.next 0,AV.agg [AV.int .i64 (c:Nat)]] (H.alloc (OR [AV.int .i64 0] kg))=some (.undef,H.alloc (OR [.int .i64 (c:Nat)] kg)):=qf3 H [.int .i64 0] kg 1 (.agg [.int .i64 (c:Nat)]) rfl rfl rfl
  have e6:Op.load1 [AV.ptr H.next 0] (H.alloc (OR [.int .i64 (c:Nat)] kg))=some (.int .i64 (c:Nat)):=zm H [.int .i64 (c:Nat)] kg (0,0) true 0
  have he':(H.alloc (OR [.int .i64 (c:Nat)] kg)).get e=some (OR [.int .i64 (z:Nat)] t):=by rw [wq hlt];exact he
  have e7:Op.store 1 [.ptr e 0,.int .i64 (c:Nat)] (H.alloc (OR [.int .i64 (c:Nat)] kg))=some (.undef,(H.alloc (OR [.int .i64 (c:Nat)] kg)).set e (OR [.int .i64 (c:Nat)] t)):=jz he' (o:=0) (n:=1) (v:=.int .i64 (c:Nat)) rfl (by simp) rfl
  simp only [qpe,qrh,qn8,qrm,qob,qrk,qrl,qrr,qoe,qrp,qxm,qro,DF_fn,qhn,qru,qxn,qrs,qrt,qjd,qrq,qoc,qod,qk7,qja,qri,BLK_exit',qn9,qk3,st_tm,qyd,st_up,st_H,T.get_set,qdu,qli,qlh,qrj,qjb,qk6,qsv,qpy,qj2,qj3,tup0,tup1,tup2,qlf,mkptr,qd,qws,qp7,qp8,qn,xa,reduceIte,Nat.reduceEqDiff,qoh,qvz,qv0,o_add,o_sub,o_mul,o_eql,o_neq,o_lss,o_leq,o_gtr,o_geq,qv6,o_not,qv1,qv5,qme,qmf,qj1,qgb,qmd,qsi,o_box,AFunc.body,AFunc.results,AFunc.loops,ALoop.params,ALoop.assign,ALoop.body,zx,xl,jw,zb,ne_eq,qbw,jo,false_and,qfv,qcw,qbq,qd1,qdj,qal,wg,qjv,qhd,qjz,qhg,qjy,qhf,qiq,qg1,qip,qg0,qjx,qjw,qhe,qju,qjt,qhc,qjs,qjr,qhb,qii,args1,e1,e2,e3,e4,e5,e6,e7]
  exact ⟨⟨_,rfl⟩,zf ..,Fr.set (W:=fun x=>x=e) ((Fr.refl H).alloc _) (.inl rfl) _⟩
 obtain ⟨e',up',H',h1,⟨v,rfl⟩,rfl,h2,h3⟩:=h
 exact ⟨v,H',h1,h2,h3⟩
def Ended (P:Nat->AHeap->Prop) (e:AEnd) (H:AHeap):Prop:=(∃ u,e=.ret u)/\P 0 H \/ ∃ c,e=.panic [(stopV c,false)]/\P c H
theorem q0i {g:Nat} {first cap:List AV} {rv:AV} {H:AHeap} {P:Nat->AHeap->Prop}
 (h:kx M g (first++cap) (H.alloc (OR [.int .i64 0] jj)) (Ended fun c H1=>H1.get H.next=some (OR [.int .i64 0] jj)/\H.next<H1.next/\P c H1)) :
 yq M qei [rv,.fn (.func g) first cap] H fun v H'=>∃ c H1,v=.int .i64 ((c:Nat):Int)/\P c H1/\Fr (fun x=>x=H.next) H1 H':=by
 have h:∃ e' H',CALL M qei [rv,.fn (.func g) first cap] H e' H' /\ ∃ c H1,e'=.ret (.int .i64 ((c:Nat):Int))/\P c H1/\Fr (fun x=>x=H.next) H1 H':=by
  obtain ⟨e,H1,hc,hq⟩:=h
  have e1:Op.mkFunc qaf 0 [.ptr H.next 0]=some (.fn (.func qaf) [] [.ptr H.next 0]):=rfl
  refine qxr (MK.at (by decide) qvr) ?_
  simp only [qpe,qrh,qn8,qrm,qob,qrk,qrl,qrr,qoe,qrp,qxm,qro,DF_fn,qhn,qru,qxn,qrs,qrt,qjd,qrq,qoc,qod,qk7,qja,qri,BLK_exit',qn9,qk3,st_tm,qyd,st_up,st_H,T.get_set,qdu,qli,qlh,qrj,qjb,qk6,qsv,qpy,qj2,qj3,tup0,tup1,tup2,qlf,mkptr,qd,qws,qp7,qp8,qn,xa,reduceIte,Nat.reduceEqDiff,qoh,qvz,qv0,o_add,o_sub,o_mul,o_eql,o_neq,o_lss,o_leq,o_gtr,o_geq,qv6,o_not,qv1,qv5,qme,qmf,qj1,qgb,qmd,qsi,o_box,AFunc.body,AFunc.results,AFunc.loops,ALoop.params,ALoop.assign,ALoop.body,zx,xl,jw,zb,ne_eq,qbw,jo,false_and,qfv,qcw,qbq,qd1,qdj,qal,wg,qlr,qiu,qlq,qit,qlp,qis,qlo,qir,qo6,args2,e1,jx,zg]
  rcases hq with ⟨⟨u,rfl⟩,h1,h2,h3⟩|⟨c,rfl,h1,h2,h3⟩
  ·refine CA.ret hc ?_
   have e2:Op.store 1 [AV.ptr H.next 0,AV.int .i64 0] H1=some (.undef,H1.set H.next (OR [.int .i64 ((0:Nat):Int)] jj)):=jz h1 (o:=0) (n:=1) (v:=.int .i64 0) rfl (by simp) rfl
   simp only [qpe,qrh,qn8,qrm,qob,qrk,qrl,qrr,qoe,qrp,qxm,qro,DF_fn,qhn,qru,qxn,qrs,qrt,qjd,qrq,qoc,qod,qk7,qja,qri,BLK_exit',qn9,qk3,st_tm,qyd,st_up,st_H,T.get_set,qdu,qli,qlh,qrj,qjb,qk6,qsv,qpy,qj2,qj3,tup0,tup1,tup2,qlf,mkptr,qd,qws,qp7,qp8,qn,xa,reduceIte,Nat.reduceEqDiff,qoh,qvz,qv0,o_add,o_sub,o_mul,o_eql,o_neq,o_lss,o_leq,o_gtr,o_geq,qv6,o_not,qv1,qv5,qme,qmf,qj1,qgb,qmd,qsi,o_box,AFunc.body,AFunc.results,AFunc.loops,ALoop.params,ALoop.assign,ALoop.body,zx,xl,jw,zb,ne_eq,qbw,jo,false_and,qfv,qcw,qbq,qd1,qdj,qal,wg,qlr,qiu,qlq,qit,qlp,qis,qlo,qir,e2]
   obtain ⟨v,hv⟩:=xas (M:=M) H.next (H1.set H.next (OR [.int .i64 ((0:Nat):Int)] jj))
   refine ⟨v,[],_,hv,?_⟩
   refine BIND.intro (m:=dirty) (a:=none) rfl ?_
   have e3:Op.load1 [.ptr H.next 0] (H1.set H.next (OR [.int .i64 ((0:Nat):Int)] jj))=some (.int .i64 ((0:Nat):Int)):=yj (xg (zf ..)) 0
   refine BIND.intro (m:=dirty) (a:=[.int .i64 ((0:Nat):Int)]) ?_ ⟨rfl,0,H1,rfl,h3,Fr.set (W:=fun x=>x=H.next) (Fr.refl H1) (.inl rfl) _⟩
   simp only [qpe,qrh,qn8,qrm,qob,qrk,qrl,qrr,qoe,qrp,qxm,qro,DF_fn,qhn,qru,qxn,qrs,qrt,qjd,qrq,qoc,qod,qk7,qja,qri,BLK_exit',qn9,qk3,st_tm,qyd,st_up,st_H,T.get_set,qdu,qli,qlh,qrj,qjb,qk6,qsv,qpy,qj2,qj3,tup0,tup1,tup2,qlf,mkptr,qd,qws,qp7,qp8,qn,xa,reduceIte,Nat.reduceEqDiff,qoh,qvz,qv0,o_add,o_sub,o_mul,o_eql,o_neq,o_lss,o_leq,o_gtr,o_geq,qv6,o_not,qv1,qv5,qme,qmf,qj1,qgb,qmd,qsi,o_box,AFunc.body,AFunc.results,AFunc.loops,ALoop.params,ALoop.assign,ALoop.body,zx,xl,jw,zb,ne_eq,qbw,jo,false_and,qfv,qcw,qbq,qd1,qdj,qal,wg,e3]
  ·refine CA.panic hc ?_
   obtain ⟨v,H2,hv,g1,g2⟩:=xat (M:=M) (c:=c) h1 h2
   refine ⟨v,[(stopV c,true)],H2,hv,?_⟩
   refine BIND.intro (m:=dirty) (a:=none) rfl ?_
   have e3:Op.load1 [.ptr H.next 0] H2=some (.int .i64 ((c:Nat):Int)):=yj (xg g1) 0
   refine BIND.intro (m:=dirty) (a:=[.int .i64 ((c:Nat):Int)]) ?_ ⟨rfl,c,H1,rfl,h3,g2⟩
   simp only [qpe,qrh,qn8,qrm,qob,qrk,qrl,qrr,qoe,qrp,qxm,qro,DF_fn,qhn,qru,qxn,qrs,qrt,qjd,qrq,qoc,qod,qk7,qja,qri,BLK_exit',qn9,qk3,st_tm,qyd,st_up,st_H,T.get_set,qdu,qli,qlh,qrj,qjb,qk6,qsv,qpy,qj2,qj3,tup0,tup1,tup2,qlf,mkptr,qd,qws,qp7,qp8,qn,xa,reduceIte,Nat.reduceEqDiff,qoh,qvz,qv0,o_add,o_sub,o_mul,o_eql,o_neq,o_lss,o_leq,o_gtr,o_geq,qv6,o_not,qv1,qv5,qme,qmf,qj1,qgb,qmd,qsi,o_box,AFunc.body,AFunc.results,AFunc.loops,ALoop.params,ALoop.assign,ALoop.body,zx,xl,jw,zb,ne_eq,qbw,jo,false_and,qfv,qcw,qbq,qd1,qdj,qal,wg,e3,forget]
 obtain ⟨e',H',h1,c,H1,rfl,h2,h3⟩:=h
 exact yq.intro h1 ⟨c,H1,rfl,h2,h3⟩
end Go.Am
namespace Go.Am
open Lang Go.Proofs
variable {M:Mac} [MK M]
abbrev encU (x:Int):List AV:=[.int .u64 x]
theorem qoi (x:Int):(encU x).length=1:=rfl
def EQ (R:AV->AHeap->Prop) (X:Nat->AHeap->Prop) (e:AEnd) (H:AHeap):Prop:=match e with
 | .ret v=>R v H
 | .panic c=>∃ k,c=[(stopV k,false)]/\X k H
theorem qcx (R:AV->AHeap->Prop) (X:Nat->AHeap->Prop) (v:AV) (H:AHeap):EQ R X (.ret v) H=R v H:=rfl
theorem vm (R:AV->AHeap->Prop) (X:Nat->AHeap->Prop) (k:Nat) (H:AHeap):EQ R X (.panic [(stopV k,false)]) H=X k H :=
 propext ⟨fun ⟨k',h,hx⟩=>by simp only [qu,qp,jo,AV.iface.injEq,AV.agg.injEq,AV.int.injEq,qbw] at h;rw [show k=k' from by omega];exact hx,fun h=>⟨k,rfl,h⟩⟩
theorem P3.e {f:Nat} {vs:List AV} {H:AHeap} {R:AV->AHeap->Prop} {X':Nat->AHeap->Prop} {m:Bool} {X:Chain->AHeap->Prop} {K:Bool->AV->AHeap->Prop} (h:kx M f vs H (EQ R X')) (hk:∀ v H',R v H'->K m v H') (hx:∀ k H',X' k H'->X [(stopV k,false)] H'):P3 M m X (.func f) vs H K:=by
 obtain ⟨e,H',h1,h2⟩:=h
 refine ⟨e,H',h1,?_⟩
 cases e with
 | ret v=>exact hk v H' h2
 | panic c=>obtain ⟨k,rfl,h2⟩:=h2;exact hx k H' h2
theorem qa2 (ds ks:List Nat) (Q:Post3) (E:Env) (D:List ADef) (c:Chain) (H:AHeap):PX (some ds) ks Q E D c H=Q (.panic c) (dropE ds (dropE ks E)) D H:=rfl
theorem EQ.mono {R R':AV->AHeap->Prop} {X X':Nat->AHeap->Prop} {f:Nat} {vs:List AV} {H:AHeap} (h:kx M f vs H (EQ R X)) (hr:∀ v H',R v H'->R' v H') (hx:∀ k H',X k H'->X' k H'):kx M f vs H (EQ R' X'):=by
 obtain ⟨e,H',h1,h2⟩:=h
 refine ⟨e,H',h1,?_⟩
 cases e with
 | ret v=>exact hr v H' h2
 | panic c=>obtain ⟨k,rfl,h2⟩:=h2;exact ⟨k,rfl,hx k H' h2⟩
abbrev u64 (x:Int):Prop:=0<=x/\x<18446744073709551616
def regsA (v:List Int):List AV:=v.map fun x=>.int .u64 x
def cellsR (tv wv:AV) (a:Bool) (s:MS):List AV:=tv::wv::(regsA s.v ++ [.int .i64 0,.int .i64 (s.left:Nat),.int .i64 (s.blk:Nat),.int .i64 0,.bool a,.bool s.hlt])
def MW (r:Nat) (wv:AV):Nat->Prop:=fun c=>c=r\/OnS wv c
structure WSt (H0 H:AHeap) (r:Nat) (tv wv:AV) (a:Bool) (s:MS):Prop where
 row:H.get r=some (OR (cellsR tv wv a s) ye)
 lo:H0.next<=r
 hi:r<H.next
 nw:New encU jp 1 H0 H wv s.w
 off:¬ OnS wv r
 v8:s.v.length=8
 wl:s.w.length<=4096
 wr:∀ x ∈ s.w,u64 x
 vr:∀ x ∈ s.v,u64 x
 fl:s.left+s.blk<=1048576
section
variable {H0 H H':AHeap} {r:Nat} {tv wv:AV} {a:Bool} {s:MS}
theorem WSt.em (h:WSt H0 H r tv wv a s) (f:Fr Em H H'):WSt H0 H' r tv wv a s :=
 { h with row:=by rw [f.keep r h.hi id];exact h.row,hi:=qh h.hi f.next,nw:=h.nw.em f }
theorem WSt.fr (h:WSt H0 H r tv wv a s):Fr Em H0 H:=h.nw.fr
theorem WSt.ld (h:WSt H0 H r tv wv a s) (o:Nat):Op.load1 [.ptr r o] H=(cellsR tv wv a s)[o]?:=yj (xg h.row) o
theorem WSt.l0 (h:WSt H0 H r tv wv a s):Op.load1 [.ptr r 0] H=some tv:=by rw [h.ld];rfl
theorem WSt.l1 (h:WSt H0 H r tv wv a s):Op.load1 [.ptr r 1] H=some wv:=by rw [h.ld];rfl
theorem qa3 {tv wv:AV} {a:Bool} {s:MS} (h:s.v.length=8):∃ v0 v1 v2 v3 v4 v5 v6 v7,s.v=[v0,v1,v2,v3,v4,v5,v6,v7]:=by
 match s.v,h with
 | [a,b,c,d,e,f,g,i],_=>exact ⟨a,b,c,d,e,f,g,i,rfl⟩
theorem qog {s:MS} {v0 v1 v2 v3 v4 v5 v6 v7:Int} (h:s.v=[v0,v1,v2,v3,v4,v5,v6,v7]) (tv wv:AV) (a:Bool):cellsR tv wv a s=[tv,wv,.int .u64 v0,.int .u64 v1,.int .u64 v2,.int .u64 v3,.int .u64 v4,.int .u64 v5,.int .u64 v6,.int .u64 v7,.int .i64 0,.int .i64 (s.left:Nat),.int .i64 (s.blk:Nat),.int .i64 0,.bool a,.bool s.hlt]:=by
 unfold cellsR regsA;rw [h];rfl
theorem WSt.l11 (h:WSt H0 H r tv wv a s):Op.load1 [.ptr r 11] H=some (.int .i64 (s.left:Nat)):=by
 obtain ⟨v0,v1,v2,v3,v4,v5,v6,v7,e⟩:=qa3 (tv:=tv) (wv:=wv) (a:=a) h.v8;rw [h.ld,qog e];rfl
theorem WSt.l12 (h:WSt H0 H r tv wv a s):Op.load1 [.ptr r 12] H=some (.int .i64 (s.blk:Nat)):=by
 obtain ⟨v0,v1,v2,v3,v4,v5,v6,v7,e⟩:=qa3 (tv:=tv) (wv:=wv) (a:=a) h.v8;rw [h.ld,qog e];rfl
theorem WSt.l14 (h:WSt H0 H r tv wv a s):Op.load1 [.ptr r 14] H=some (.bool a):=by
 obtain ⟨v0,v1,v2,v3,v4,v5,v6,v7,e⟩:=qa3 (tv:=tv) (wv:=wv) (a:=a) h.v8;rw [h.ld,qog e];rfl
theorem WSt.l15 (h:WSt H0 H r tv wv a s):Op.load1 [.ptr r 15] H=some (.bool s.hlt):=by
 obtain ⟨v0,v1,v2,v3,v4,v5,v6,v7,e⟩:=qa3 (tv:=tv) (wv:=wv) (a:=a) h.v8;rw [h.ld,qog e];rfl
end
structure VSt (H0 H:AHeap) (r:Nat) (tv wv:AV) (a:Bool) (s:MS):Prop where
 row:H.get r=some (OR (cellsR tv wv a s) ye)
 hi:r<H.next
 fr:Fr Em H0 H
 sl:SlT encU 1 H wv s.w
 v8:s.v.length=8
 wl:s.w.length<=4096
 wr:∀ x ∈ s.w,u64 x
 vr:∀ x ∈ s.v,u64 x
section
variable {H0 H H':AHeap} {r:Nat} {tv wv:AV} {a:Bool} {s:MS}
theorem VSt.em (h:VSt H0 H r tv wv a s) (f:Fr Em H H'):VSt H0 H' r tv wv a s :=
 { h with row:=by rw [f.keep r h.hi id];exact h.row,hi:=qh h.hi f.next,sl:=h.sl.em f,fr:=h.fr.trans f fun _ q=>q.elim }
theorem VSt.ld (h:VSt H0 H r tv wv a s) (o:Nat):Op.load1 [.ptr r o] H=(cellsR tv wv a s)[o]?:=yj (xg h.row) o
theorem VSt.l0 (h:VSt H0 H r tv wv a s):Op.load1 [.ptr r 0] H=some tv:=by rw [h.ld];rfl
theorem VSt.l1 (h:VSt H0 H r tv wv a s):Op.load1 [.ptr r 1] H=some wv:=by rw [h.ld];rfl
theorem VSt.lv (h:VSt H0 H r tv wv a s) {w:Nat} {x:Int} (hx:s.v[w]? = some x):Op.load1 [.ptr r (2+w)] H=some (.int .u64 x):=by
 rw [h.ld];unfold cellsR regsA
 have hw:=(xd.1 hx).1
 rw [qex,xz,xz,xm (by simpa using hw),xf,hx];rfl
theorem WSt.toV (h:WSt H0 H r tv wv a s):VSt H0 H r tv wv a s:=⟨h.row,h.hi,h.nw.fr,h.nw.sl,h.v8,h.wl,h.wr,h.vr⟩
theorem WSt.lv (h:WSt H0 H r tv wv a s) {w:Nat} {x:Int} (hx:s.v[w]? = some x):Op.load1 [.ptr r (2+w)] H=some (.int .u64 x):=h.toV.lv hx
theorem WSt.put {s':MS} {a':Bool} (h:WSt H0 H r tv wv a s) (e1:s'.w=s.w) (e2:s'.v.length=8) (e3:∀ x ∈ s'.v,u64 x) (e4:s'.left+s'.blk<=1048576) :
 WSt H0 (H.set r (OR (cellsR tv wv a' s') ye)) r tv wv a' s'/\Fr (MW r wv) H (H.set r (OR (cellsR tv wv a' s') ye)):=by
 have f:Fr (fun x=>x=r) H (H.set r (OR (cellsR tv wv a' s') ye)):=(Fr.refl H).set (W:=fun x=>x=r) (.inl rfl) _
 refine ⟨⟨zf ..,h.lo,h.hi,⟨?_,h.nw.fr.trans f (fun x hx=>by subst hx;exact .inr h.lo),h.nw.fresh⟩,h.off,e2,by rw [e1];exact h.wl,by rw [e1];exact h.wr,e3,e4⟩,f.mono fun x _ hx=>.inl hx⟩
 rw [e1];exact Own.fr h.nw.own f fun x hx q=>h.off (by subst q;exact hx)
theorem WSt.put' {s':MS} {a':Bool} {c:List AV} (h:WSt H0 H r tv wv a s) (hc:c=cellsR tv wv a' s') (e1:s'.w=s.w) (e2:s'.v.length=8) (e3:∀ x ∈ s'.v,u64 x) (e4:s'.left+s'.blk<=1048576) :
 WSt H0 (H.set r (OR c ye)) r tv wv a' s'/\Fr (MW r wv) H (H.set r (OR c ye)):=by subst hc;exact h.put e1 e2 e3 e4
theorem MW.lt (h:WSt H0 H r tv wv a s) {c:Nat} (hc:MW r wv c):c<H.next:=hc.elim (fun q=>by rw [q];exact h.hi) fun q=>Own.lt h.nw.own c q
end
theorem WSt.err {H0 H:AHeap} {r:Nat} {tv wv:AV} {a:Bool} {s:MS} (h:WSt H0 H r tv wv a s) (e:Nat):WSt H0 H r tv wv a { s with err:=e }:=⟨h.row,h.lo,h.hi,h.nw,h.off,h.v8,h.wl,h.wr,h.vr,h.fl⟩
theorem q5o {H0 H:AHeap} {r:Nat} {tv wv:AV} {a:Bool} {s:MS} (h:WSt H0 H r tv wv a s):kx M qdk [.ptr r 0] H (EQ (fun _ H'=>s.left ≠ 0/\WSt H0 H' r tv wv a s.pay/\Fr (MW r wv) H H') (fun k H'=>s.left=0/\k=190/\H'=H)):=by
 refine qw2 ?_
 by_cases h0:s.left=0
 ·have t1:((s.left:Nat):Int)=0:=by omega
  have e1:Op.build [(.int .i64 0)] [(0,1)] [.int .i64 190]=some (.agg [.int .i64 ((190:Nat):Int)]):=rfl
  have e2:Op.mkIface kg [.agg [.int .i64 ((190:Nat):Int)]]=some (stopV 190):=rfl
  simp only [↓qe,qt,reduceIte,Nat.reduceEqDiff,qo5,qo,h.l11,x8 t1,e1,e2,qke,qa2,vm]
  exact h0
 ·have t1:¬ ((s.left:Nat):Int)=0:=by omega
  have hf:=h.fl
  have w1:wrapI .i64 (((s.left:Nat):Int)-1)=((s.left-1:Nat):Int):=by rw [zz (by omega) (by omega)];omega
  have hs:s.pay = { s with left:=s.left-1 }:=by unfold MS.pay;rw [qk h0]
  have st:=jz h.row (o:=11) (n:=1) (v:=.int .i64 ((s.left-1:Nat):Int)) rfl (by simp [cellsR,regsA,h.v8]) rfl
  obtain ⟨h2,hf2⟩:=h.put' (s':=s.pay) (a':=a) (c:=(cellsR tv wv a s).take 11++(AV.int .i64 ((s.left-1:Nat):Int)).cells++(cellsR tv wv a s).drop (11+1)) (by
   obtain ⟨v0,v1,v2,v3,v4,v5,v6,v7,e⟩:=qa3 (tv:=tv) (wv:=wv) (a:=a) h.v8
   rw [qog e,hs,qog (s:={ s with left:=s.left-1 }) e];rfl) (by rw [hs]) (by rw [hs];exact h.v8) (by rw [hs];exact h.vr) (by rw [hs];simp only;omega)
  simp only [↓qe,qt,reduceIte,Nat.reduceEqDiff,qo5,qo,h.l11,t1,w1,st,qcx]
  exact ⟨h0,h2,hf2⟩
theorem qyf {H0 H:AHeap} {r:Nat} {tv wv:AV} {a:Bool} {s:MS} (h:VSt H0 H r tv wv a s) {u:Int} (hu:u64 u):kx M qbr [.ptr r 0,.int .u64 u] H (EQ (fun v H'=>u.toNat<s.w.length/\v=.int .i64 ((u.toNat:Nat):Int)/\H'=H) (fun k H'=>s.w.length<=u.toNat/\k=111/\H'=H)):=by
 refine qvt ?_
 obtain ⟨u0,u1⟩:=hu
 have hwl:=h.wl
 have hl:=h.sl.len
 have w1:wrapI .u64 ((s.w.length:Nat):Int)=(s.w.length:Nat):=qa5 (by omega) (by omega)
 by_cases hq:s.w.length<=u.toNat
 ·have t1:((s.w.length:Nat):Int)<=u:=by omega
  have e1:Op.build [(.int .i64 0)] [(0,1)] [.int .i64 111]=some (.agg [.int .i64 ((111:Nat):Int)]):=rfl
  have e2:Op.mkIface kg [.agg [.int .i64 ((111:Nat):Int)]]=some (stopV 111):=rfl
  simp only [↓qe,qt,reduceIte,Nat.reduceEqDiff,qnp,qo,h.l1,hl,w1,t1,e1,e2,qke,qa2,vm]
  exact hq
 ·have t1:¬ ((s.w.length:Nat):Int)<=u:=by omega
  have w2:wrapI .i64 u=((u.toNat:Nat):Int):=by rw [zz (by omega) (by omega)];omega
  simp only [↓qe,qt,reduceIte,Nat.reduceEqDiff,qnp,qo,h.l1,hl,w1,t1,w2,qcx]
  omega
theorem xax {H0 H:AHeap} {r:Nat} {tv wv:AV} {a:Bool} {s:MS} (h:WSt H0 H r tv wv a s) {u:Int} (hu:u64 u):kx M qbr [.ptr r 0,.int .u64 u] H (EQ (fun v H'=>u.toNat<s.w.length/\v=.int .i64 ((u.toNat:Nat):Int)/\H'=H) (fun k H'=>s.w.length<=u.toNat/\k=111/\H'=H)):=qyf h.toV hu
end Go.Am
namespace Go.Am
open Lang Go.Proofs
variable {M:Mac} [MK M]
theorem wrap_rng (n:Int):u64 (wrapI .u64 n):=by rw [qic];constructor<;>omega
theorem opI_rng (o:Nat) (x y:Int):u64 (opI o x y):=by unfold opI;(repeat' split)<;>exact wrap_rng _
theorem Lang.Ex.rng {w v:List Int} (hw:∀ x ∈ w,u64 x) (hv:∀ x ∈ v,u64 x):∀ {x:Ex} {y:Int},x.small->x.val w v=some y->u64 y
 | .num n,y,hs,h=>by
  have hs:n<18446744073709551616:=hs
  injection h with h;subst h;constructor<;>omega
 | .var n,y,hs,h=>hv y (xo h)
 | .load a,y,hs,h=>by
  simp only [Ex.val] at h
  split at h
  ·exact hw y (xo h)
  ·cases h
 | .bin o a b,y,hs,h=>by
  simp only [Ex.val] at h
  split at h
  ·split at h
   ·injection h with h;subst h;exact opI_rng _ _ _
   ·cases h
  ·cases h
structure Lc (H:AHeap) (r:Nat) (wv:AV) (p:Nat) (row:List AV) (e:Nat):Prop where
 get:H.get p=some (OR row e)
 lt:p<H.next
 nr:p ≠ r
 ns:¬ OnS wv p
section
variable {H0 H H':AHeap} {r p e:Nat} {wv tv:AV} {row:List AV} {a:Bool} {s:MS}
theorem Lc.em (h:Lc H r wv p row e) (f:Fr Em H H'):Lc H' r wv p row e:=⟨by rw [f.keep p h.lt id];exact h.get,qh h.lt f.next,h.nr,h.ns⟩
theorem Lc.mv (h:Lc H r wv p row e) (f:Fr (MW r wv) H H'):Lc H' r wv p row e:=⟨by rw [f.keep p h.lt fun q=>q.elim h.nr h.ns];exact h.get,qh h.lt f.next,h.nr,h.ns⟩
theorem Lc.ld (h:Lc H r wv p row e) (o:Nat):Op.load1 [.ptr p o] H=row[o]?:=yj (xg h.get) o
theorem Lc.new (h:WSt H0 H r tv wv a s) (row:List AV) (e:Nat):Lc (H.alloc (OR row e)) r wv H.next row e :=
 ⟨xc ..,by rw [xi];omega,fun q=>by have:=h.hi;omega,fun q=>by have:=Own.lt h.nw.own _ q;omega⟩
end
theorem qze {H0 H:AHeap} {r i:Nat} {tv wv:AV} {ts:List Nd} {a:Bool} {s:MS} {x:Nd} (hn:Nds H0 tv ts) (h:WSt H0 H r tv wv a s) (hx:ts[i]? = some x):∃ ka,SlT encI 1 H0 ka x.kids /\
 (∀ k,Op.indexSl 3 [tv,.int k (i:Int)]=some (.ptr (slB tv) (slO 3 tv i)))/\Op.loadN 3 [.ptr (slB tv) (slO 3 tv i)] H=some (nodeV x ka) /\
 Op.store 3 [.ptr H.next 0,nodeV x ka] (H.alloc (OR [.int .i64 0,.int .u64 0,.nils] qj))=some (.undef,H.alloc (OR [.int .i64 x.k,.int .u64 x.n,ka] qj)) /\
 WSt H0 (H.alloc (OR [.int .i64 x.k,.int .u64 x.n,ka] qj)) r tv wv a s/\Lc (H.alloc (OR [.int .i64 x.k,.int .u64 x.n,ka] qj)) r wv H.next [.int .i64 x.k,.int .u64 x.n,ka] qj/\Fr Em H (H.alloc (OR [.int .i64 x.k,.int .u64 x.n,ka] qj)):=by
 obtain ⟨ka,h1,h2,h3,h4,_⟩:=hn.getF hx h.fr
 have f:Fr Em H (H.alloc (OR [.int .i64 x.k,.int .u64 x.n,ka] qj)):=(Fr.refl H).alloc _
 exact ⟨ka,h1,h3,h4,qf7 H x h2 qj,h.em f,Lc.new h _ _,f⟩
structure Lv (H:AHeap) (p:Nat) (row:List AV) (e:Nat):Prop where
 get:H.get p=some (OR row e)
 lt:p<H.next
theorem Lv.em {H H':AHeap} {p e:Nat} {row:List AV} (h:Lv H p row e) (f:Fr Em H H'):Lv H' p row e:=⟨by rw [f.keep p h.lt id];exact h.get,qh h.lt f.next⟩
theorem Lv.ld {H:AHeap} {p e:Nat} {row:List AV} (h:Lv H p row e) (o:Nat):Op.load1 [.ptr p o] H=row[o]?:=yj (xg h.get) o
theorem Lv.new (H:AHeap) (row:List AV) (e:Nat):Lv (H.alloc (OR row e)) H.next row e:=⟨xc ..,by rw [xi];omega⟩
theorem q0j {H0 H:AHeap} {r i:Nat} {tv wv:AV} {ts:List Nd} {a:Bool} {s:MS} {x:Nd} (hn:Nds H0 tv ts) (h:VSt H0 H r tv wv a s) (hx:ts[i]? = some x):∃ ka,SlT encI 1 H0 ka x.kids /\
 (∀ k,Op.indexSl 3 [tv,.int k (i:Int)]=some (.ptr (slB tv) (slO 3 tv i)))/\Op.loadN 3 [.ptr (slB tv) (slO 3 tv i)] H=some (nodeV x ka) /\
 Op.store 3 [.ptr H.next 0,nodeV x ka] (H.alloc (OR [.int .i64 0,.int .u64 0,.nils] qj))=some (.undef,H.alloc (OR [.int .i64 x.k,.int .u64 x.n,ka] qj)) /\
 VSt H0 (H.alloc (OR [.int .i64 x.k,.int .u64 x.n,ka] qj)) r tv wv a s/\Lv (H.alloc (OR [.int .i64 x.k,.int .u64 x.n,ka] qj)) H.next [.int .i64 x.k,.int .u64 x.n,ka] qj/\Fr Em H (H.alloc (OR [.int .i64 x.k,.int .u64 x.n,ka] qj)):=by
 obtain ⟨ka,h1,h2,h3,h4,_⟩:=hn.getF hx h.fr
 have f:Fr Em H (H.alloc (OR [.int .i64 x.k,.int .u64 x.n,ka] qj)):=(Fr.refl H).alloc _
 exact ⟨ka,h1,h3,h4,qf7 H x h2 qj,h.em f,Lv.new _ _ _,f⟩
theorem kid_m {H0 H:AHeap} {a:AV} {kids:List Int} (h:SlT encI 1 H0 a kids) (f:Fr Em H0 H) {i:Nat} {x:Int} (hx:kids[i]? = some x) {z:Int} (hz:z=(i:Int)):(∀ k,Op.indexSl 1 [a,.int k z]=some (.ptr (slB a) (slO 1 a i)))/\Op.load1 [.ptr (slB a) (slO 1 a i)] H=some (.int .i64 x):=by subst hz;exact (h.em f).getI hx
theorem q4x (x y:Int):wrapI .u64 (x+wrapI .u64 (0-y))=wrapI .u64 (x-y):=by rw [qic,qic,qic];omega
theorem rem64 {y:Int} (h:0<=y):y.tmod 64=(((y % 64).toNat:Nat):Int):=by rw [Int.tmod_eq_emod_of_nonneg h];omega
theorem min64 (y:Int):min (y % 64).toNat 64=(y % 64).toNat:=by omega
theorem shr_eq {x:Int} (hx:u64 x) (n:Nat):x.fdiv (2 ^ n)=wrapI .u64 (x / 2 ^ n):=by
 obtain ⟨h0,h1⟩:=hx
 have hp:(0:Int)<2 ^ n:=Int.pow_pos (by decide)
 rw [Int.fdiv_eq_ediv_of_nonneg _ (Int.le_of_lt hp),qa5 (Int.ediv_nonneg h0 (Int.le_of_lt hp))]
 exact Int.lt_of_le_of_lt (Int.ediv_le_self _ h0) h1
abbrev VQ (H:AHeap) (o:Option Int):AEnd->AHeap->Prop:=EQ (fun v H'=>∃ y,o=some y/\v=.int .u64 y/\Fr Em H H') (fun k H'=>k=111/\o=none/\Fr Em H H')
theorem qkc {H0:AHeap} {r:Nat} {tv wv:AV} {ts:List Nd} {a:Bool} {s:MS} (hn:Nds H0 tv ts):∀ (x:Ex) {H:AHeap} {bb:Nat},Seg ts bb (x.enc bb)->x.ok->x.small->VSt H0 H r tv wv a s ->
 kx M jk [.ptr r 0,.int .i64 ((bb+x.sz-1:Nat):Int)] H (VQ H (x.val s.w s.v))
 | .num n,H,bb,hs,ho,hsm,h=>by
  refine qf6 ?_
  obtain ⟨hnd,-⟩:=Seg.nd (x:=.e (.num n)) hs
  obtain ⟨ka,-,e2,e3,e4,h1,l1,k1⟩:=q0j hn h hnd
  simp only [It.nd,It.kn,It.ks,endsF,It.sz,Ex.sz,ints,z8] at e2 e3 e4 h1 l1 k1
  generalize H.alloc (OR [.int .i64 1,.int .u64 (n:Nat),ka] qj)=H1 at *
  have t1:=x8 (show (1:Int)=1 from rfl)
  simp only [↓qe,qt,reduceIte,Nat.reduceEqDiff,jc,Ex.sz,qo,h.l0,e2,e3,e4,l1.ld,t1,qcx]
  exact ⟨_,rfl,rfl,k1⟩
 | .var w,H,bb,hs,ho,hsm,h=>by
  refine qf6 ?_
  obtain ⟨hnd,-⟩:=Seg.nd (x:=.e (.var w)) hs
  have ho:w<=7:=ho
  obtain ⟨ka,-,e2,e3,e4,h1,l1,k1⟩:=q0j hn h hnd
  simp only [It.nd,It.kn,It.ks,endsF,It.sz,Ex.sz,ints,z8] at e2 e3 e4 h1 l1 k1
  generalize H.alloc (OR [.int .i64 2,.int .u64 (w:Nat),ka] qj)=H1 at *
  have h8:=h.v8
  obtain ⟨y,hy⟩:∃ y,s.v[w]? = some y:=⟨s.v[w],by simp⟩
  have ei:Op.indexArr 8 1 [.ptr r 2,.int .u64 (w:Int)]=some (.ptr r (2+w)):=by have:=qls (len:=8) (size:=1) (b:=r) (o:=2) (k:=.u64) (j:=(w:Int)) (i:=w) rfl (by omega);rwa [wk] at this
  simp only [↓qe,qt,reduceIte,Nat.reduceEqDiff,jc,Ex.sz,qo,h.l0,e2,e3,e4,l1.ld,Int.reduceEq,ei,h1.lv hy,qcx]
  exact ⟨y,hy,rfl,k1⟩
 | .load x,H,bb,hs,ho,hsm,h=>by
  refine qf6 ?_
  obtain ⟨hnd,hks⟩:=Seg.nd (x:=.e (.load x)) hs
  have hsx:Seg ts bb (x.enc bb):=hks.cons.1
  obtain ⟨ka,ha,e2,e3,e4,h1,l1,k1⟩:=q0j hn h hnd
  have hnd':(It.e (.load x)).nd bb=⟨3,0,[((bb+x.sz-1:Nat):Int)]⟩:=by simp [It.nd,It.kn,It.ks,endsF,ints,It.sz]
  rw [hnd'] at ha e3 e4 h1 l1 k1
  simp only [It.sz] at e2 e3
  simp only at e4 h1 l1 k1
  generalize H.alloc (OR [.int .i64 3,.int .u64 0,ka] qj)=H1 at *
  obtain ⟨i2,i3⟩:=kid_m ha h1.fr (i:=0) rfl (z:=0) rfl
  simp only [↓qe,qt,reduceIte,Nat.reduceEqDiff,jc,qo,h.l0,h1.l1,e2,e3,e4,l1.ld,Int.reduceEq,i2 .i64,i3]
  refine P3.e (qkc hn x hsx ho hsm h1) (fun v H2 ⟨u,hu,hv,f2⟩=>?_) fun k H2 ⟨hk,hu,f2⟩=>?_
  ·subst hv
   have h2:=h1.em f2
   simp only [↓qe,qt,reduceIte,Nat.reduceEqDiff,jc,h2.l1]
   refine P3.e (qyf h2 (Lang.Ex.rng (x:=x) h.wr h.vr hsm hu)) (fun v H3 ⟨hl,hv,hh⟩=>?_) fun k H3 ⟨hl,hk,hh⟩=>?_
   ·subst hv;subst hh
    obtain ⟨y,hy⟩:∃ y,s.w[u.toNat]? = some y:=⟨s.w[u.toNat],by simp⟩
    have q1:=h2.sl.idx hy rfl .i64
    have q2:=h2.sl.load0 qoi hy (by decide)
    have q2:Op.load1 [.ptr (slB wv) (slO 1 wv u.toNat)] H3=some (.int .u64 y):=q2
    simp only [↓qe,qt,reduceIte,Nat.reduceEqDiff,jc,h2.l1,q1,q2,qcx]
    exact ⟨y,by simp only [Ex.val,hu,hy],rfl,k1.trans f2 fun _ q=>q.elim⟩
   ·subst hk;subst hh
    simp only [↓qe,qt,reduceIte,Nat.reduceEqDiff,jc,qa2,vm]
    exact ⟨by simp only [Ex.val,hu];simpa using hl,k1.trans f2 fun _ q=>q.elim⟩
  ·subst hk
   simp only [↓qe,qt,reduceIte,Nat.reduceEqDiff,jc,qa2,vm]
   exact ⟨by simp only [Ex.val,hu],k1.trans f2 fun _ q=>q.elim⟩
 | .bin o x y,H,bb,hs,ho,hsm,h=>by
  refine qf6 ?_
  obtain ⟨hnd,hks⟩:=Seg.nd (x:=.e (.bin o x y)) hs
  have hsx:Seg ts bb (x.enc bb):=hks.cons.1
  have hsy:Seg ts (bb+x.sz) (y.enc (bb+x.sz)):=hks.cons.2.cons.1
  obtain ⟨o4,o10,hox,hoy⟩:=ho
  obtain ⟨ka,ha,e2,e3,e4,h1,l1,k1⟩:=q0j hn h hnd
  have hnd':(It.e (.bin o x y)).nd bb=⟨o,0,[((bb+x.sz-1:Nat):Int),((bb+x.sz+y.sz-1:Nat):Int)]⟩:=by simp [It.nd,It.kn,It.ks,endsF,ints,It.sz]
  rw [hnd'] at ha e3 e4 h1 l1 k1
  simp only [It.sz] at e2 e3
  simp only at e4 h1 l1 k1
  generalize H.alloc (OR [.int .i64 (o:Nat),.int .u64 0,ka] qj)=H1 at *
  have t1:¬ (o:Int)=1:=by omega
  have t2:¬ (o:Int)=2:=by omega
  have t3:¬ (o:Int)=3:=by omega
  obtain ⟨w0,w4,w27,w20,w29,-,-,-,-,-,-,-,-,-,-,-,-,-,-,-,-,-,-,-⟩:=jc M ⟨none,jk⟩
  obtain ⟨i2,i3⟩:=kid_m ha h1.fr (i:=0) rfl (z:=0) rfl
  obtain ⟨j2,j3⟩:=kid_m ha h1.fr (i:=1) rfl (z:=1) rfl
  simp only [↓qe,qt,reduceIte,Nat.reduceEqDiff,w0,w4,w20,w27,qo,h.l0,e2,e3,e4,l1.ld,t1,t2,t3,i2 .i64,i3,j2 .i64,j3]
  refine P3.e (qkc hn x hsx hox hsm.1 h1) (fun v H2 ⟨u,hu,hv,f2⟩=>?_) fun k H2 ⟨hk,hu,f2⟩=>?_
  ·subst hv
   have h2:=h1.em f2
   have l2:=l1.em f2
   obtain ⟨j4,j5⟩:=kid_m ha h2.fr (i:=1) rfl (z:=1) rfl
   simp only [↓qe,qt,reduceIte,Nat.reduceEqDiff,l2.ld,j5]
   refine P3.e (qkc hn y hsy hoy hsm.2 h2) (fun v H3 ⟨u',hu',hv,f3⟩=>?_) fun k H3 ⟨hk,hu',f3⟩=>?_
   ·subst hv
    have l3:=l2.em f3
    have f13:Fr Em H H3:=(k1.trans f2 fun _ q=>q.elim).trans f3 fun _ q=>q.elim
    have ru:=Lang.Ex.rng h.wr h.vr hsm.1 hu
    have ru':=Lang.Ex.rng h.wr h.vr hsm.2 hu'
    have hr:=rem64 ru'.1
    have hfin:∀ z,z=opI o u u'->(∃ y',(Ex.bin o x y).val s.w s.v=some y'/\AV.int .u64 z=.int .u64 y'/\Fr Em H H3):=fun z hz=>⟨opI o u u',by simp only [Ex.val,hu,hu'],by rw [hz],f13⟩
    simp only [↓qe,qt,reduceIte,Nat.reduceEqDiff,w29,l3.ld]
    rcases (show o=4\/o=5\/o=6\/o=7\/o=8\/o=9\/o=10 by omega) with rfl|rfl|rfl|rfl|rfl|rfl|rfl
    ·simp only [↓qe,qt,reduceIte,Nat.reduceEqDiff,jc,Int.reduceEq,zq,qcx]
     exact hfin _ rfl
    ·simp only [↓qe,qt,reduceIte,Nat.reduceEqDiff,jc,Int.reduceEq,zq,o_neg,q4x,qcx]
     exact hfin _ rfl
    ·simp only [↓qe,qt,reduceIte,Nat.reduceEqDiff,jc,Int.reduceEq,zq,qcx]
     exact hfin _ rfl
    ·have q:Op.bin .and [.int .u64 u,.int .u64 u']=some (.int .u64 (opI 7 u u')):=rfl
     simp only [↓qe,qt,reduceIte,Nat.reduceEqDiff,jc,Int.reduceEq,zq,q,qcx]
     exact hfin _ rfl
    ·have q:Op.bin .xor [.int .u64 u,.int .u64 u']=some (.int .u64 (opI 8 u u')):=rfl
     simp only [↓qe,qt,reduceIte,Nat.reduceEqDiff,jc,Int.reduceEq,zq,q,qcx]
     exact hfin _ rfl
    ·have q:Op.bin .rem [.int .u64 u',.int .u64 64]=some (.int .u64 (((u' % 64).toNat:Nat):Int)):=by rw [<-hr];rfl
     have q2:=o_shl .u64 .u64 u (u' % 64).toNat
     rw [show IntKind.u64.bits=64 from rfl,min64] at q2
     simp only [↓qe,qt,reduceIte,Nat.reduceEqDiff,jc,Int.reduceEq,zq,q,q2,qcx]
     exact hfin _ rfl
    ·have q:Op.bin .rem [.int .u64 u',.int .u64 64]=some (.int .u64 (((u' % 64).toNat:Nat):Int)):=by rw [<-hr];rfl
     have q2:=o_shr .u64 .u64 u (u' % 64).toNat
     rw [show IntKind.u64.bits=64 from rfl,min64,shr_eq ru] at q2
     simp only [↓qe,qt,reduceIte,Nat.reduceEqDiff,jc,Int.reduceEq,zq,q,q2,qcx]
     exact hfin _ rfl
   ·subst hk
    simp only [↓qe,qt,reduceIte,Nat.reduceEqDiff,jc,qa2,vm]
    exact ⟨by simp only [Ex.val,hu,hu'],(k1.trans f2 fun _ q=>q.elim).trans f3 fun _ q=>q.elim⟩
  ·subst hk
   simp only [↓qe,qt,reduceIte,Nat.reduceEqDiff,jc,qa2,vm]
   exact ⟨by simp only [Ex.val,hu],k1.trans f2 fun _ q=>q.elim⟩
theorem qlz {H0:AHeap} {r:Nat} {tv wv:AV} {ts:List Nd} {a:Bool} {s:MS} (hn:Nds H0 tv ts):∀ (x:Ex) {H:AHeap} {bb:Nat},Seg ts bb (x.enc bb)->x.ok->x.small->WSt H0 H r tv wv a s ->
 kx M jk [.ptr r 0,.int .i64 ((bb+x.sz-1:Nat):Int)] H (VQ H (x.val s.w s.v)) :=
 fun x _ _ hs ho hsm h=>qkc hn x hs ho hsm h.toV
abbrev SQ (H:AHeap) (o:Option Bool):AEnd->AHeap->Prop:=EQ (fun v H'=>∃ y,o=some y/\v=.bool y/\Fr Em H H') (fun k H'=>k=111/\o=none/\Fr Em H H')
theorem q4m {H0 H:AHeap} {r bb:Nat} {tv wv:AV} {ts:List Nd} {a:Bool} {s:MS} (hn:Nds H0 tv ts) (c:Cn) (hs:Seg ts bb (c.enc bb)) (ho:c.ok) (hsm:c.small) (h:WSt H0 H r tv wv a s) :
 kx M qd4 [.ptr r 0,.int .i64 ((bb+c.sz-1:Nat):Int)] H (SQ H (c.so s.w s.v)):=by
 refine qzc ?_
 obtain ⟨hnd,hks⟩:=Seg.nd (x:=.c c) hs
 have hsx:Seg ts bb (c.a.enc bb):=hks.cons.1
 have hsy:Seg ts (bb+c.a.sz) (c.b.enc (bb+c.a.sz)):=hks.cons.2.cons.1
 obtain ⟨o4,o10,hox,hoy⟩:=ho
 obtain ⟨ka,ha,e2,e3,e4,h1,l1,k1⟩:=qze hn h hnd
 have hnd':(It.c c).nd bb=⟨c.k,0,[((bb+c.a.sz-1:Nat):Int),((bb+c.a.sz+c.b.sz-1:Nat):Int)]⟩:=by simp [It.nd,It.kn,It.ks,endsF,ints,It.sz]
 rw [hnd'] at ha e3 e4 h1 l1 k1
 simp only [It.sz] at e2 e3
 simp only at e4 h1 l1 k1
 generalize H.alloc (OR [.int .i64 (c.k:Nat),.int .u64 0,ka] qj)=H1 at *
 obtain ⟨i2,i3⟩:=kid_m ha h1.fr (i:=0) rfl (z:=0) rfl
 obtain ⟨j2,j3⟩:=kid_m ha h1.fr (i:=1) rfl (z:=1) rfl
 simp only [↓qe,qt,reduceIte,Nat.reduceEqDiff,qea,qo,h.l0,e2,e3,e4,l1.ld,i2 .i64,i3,j2 .i64,j3]
 refine P3.e (qlz hn c.a hsx hox hsm.1 h1) (fun v H2 ⟨u,hu,hv,f2⟩=>?_) fun k H2 ⟨hk,hu,f2⟩=>?_
 ·subst hv
  have h2:=h1.em f2
  have l2:=l1.em f2
  obtain ⟨j4,j5⟩:=kid_m ha h2.fr (i:=1) rfl (z:=1) rfl
  simp only [↓qe,qt,reduceIte,Nat.reduceEqDiff,qea,l2.ld,j5]
  refine P3.e (qlz hn c.b hsy hoy hsm.2 h2) (fun v H3 ⟨u',hu',hv,f3⟩=>?_) fun k H3 ⟨hk,hu',f3⟩=>?_
  ·subst hv
   have l3:=l2.em f3
   have f13:Fr Em H H3:=(k1.trans f2 fun _ q=>q.elim).trans f3 fun _ q=>q.elim
   by_cases q1:c.k=11
   ·have t1:=x8 (show ((c.k:Nat):Int)=11 by omega)
    simp only [↓qe,qt,reduceIte,Nat.reduceEqDiff,qea,l3.ld,t1,qcx]
    exact ⟨_,by simp only [Cn.so,hu,hu',q1,qw],rfl,f13⟩
   have t1:¬ ((c.k:Nat):Int)=11:=by omega
   by_cases q2:c.k=12
   ·have t2:=x8 (show ((c.k:Nat):Int)=12 by omega)
    simp only [↓qe,qt,reduceIte,Nat.reduceEqDiff,qea,l3.ld,t1,t2,qcx]
    exact ⟨decide (u ≠ u'),by simp only [Cn.so,hu,hu',qk q1,qw q2],by simp,f13⟩
   have t2:¬ ((c.k:Nat):Int)=12:=by omega
   simp only [↓qe,qt,reduceIte,Nat.reduceEqDiff,qea,l3.ld,t1,t2,qcx]
   exact ⟨_,by simp only [Cn.so,hu,hu',qk q1,qk q2],rfl,f13⟩
  ·subst hk
   simp only [↓qe,qt,reduceIte,Nat.reduceEqDiff,qea,qa2,vm]
   exact ⟨by simp only [Cn.so,hu,hu'],(k1.trans f2 fun _ q=>q.elim).trans f3 fun _ q=>q.elim⟩
 ·subst hk
  simp only [↓qe,qt,reduceIte,Nat.reduceEqDiff,qea,qa2,vm]
  exact ⟨by simp only [Cn.so,hu],k1.trans f2 fun _ q=>q.elim⟩
end Go.Am
namespace Go.Am
open Lang Go.Proofs
variable {M:Mac} [MK M]
theorem Fr.toM {r:Nat} {wv:AV} {H H':AHeap} (f:Fr Em H H'):Fr (MW r wv) H H':=f.mono fun _ _ q=>q.elim
theorem FrM.trans {r:Nat} {wv:AV} {H H1 H2:AHeap} (f:Fr (MW r wv) H H1) (g:Fr (MW r wv) H1 H2):Fr (MW r wv) H H2:=f.trans g fun _ q=>.inl q
theorem qpg (b:ACode) (Q:Post3) (E:Env) (D:List ADef) (H:AHeap):SCP3 b Q .normal E D H=Q .normal E D H:=rfl
theorem q6g (b:ACode) (Q:Post3) (c:Chain) (E:Env) (D:List ADef) (H:AHeap):SCP3 b Q (.panic c) E D H=Q (.panic c) E D H:=rfl
abbrev DX (H0 H:AHeap) (r:Nat) (tv wv:AV) (s':MS):Nat->AHeap->Prop:=fun k H'=>s'.err=k/\k ≠ 0 /\ ∃ wv' a',WSt H0 H' r tv wv' a' s'/\Fr (MW r wv) H H' /\ ∀ b,OnS wv' b->OnS wv b\/H.next<=b
abbrev DR (H0 H:AHeap) (r:Nat) (tv wv:AV) (a:Bool) (s':MS):AV->AHeap->Prop:=fun _ H'=>s'.err=0/\WSt H0 H' r tv wv a s'/\Fr (MW r wv) H H'
abbrev DQ (H0 H:AHeap) (r:Nat) (tv wv:AV) (a:Bool) (s':MS):AEnd->AHeap->Prop:=EQ (DR H0 H r tv wv a s') (DX H0 H r tv wv s')
theorem DX.up {H0 H H1 H':AHeap} {r k:Nat} {tv wv:AV} {s':MS} (h:DX H0 H1 r tv wv s' k H') (f:Fr (MW r wv) H H1):DX H0 H r tv wv s' k H':=by
 obtain ⟨h1,h2,wv',a',h3,h4,h5⟩:=h
 exact ⟨h1,h2,wv',a',h3,FrM.trans f h4,fun b hb=>(h5 b hb).imp id fun q=>zr f.next q⟩
theorem DX.at {H0 H H':AHeap} {r k:Nat} {tv wv:AV} {a:Bool} {s s':MS} (h:WSt H0 H' r tv wv a s) (f:Fr (MW r wv) H H') (hk:k ≠ 0) (hs:s' = { s with err:=k }):DX H0 H r tv wv s' k H':=by
 subst hs;exact ⟨rfl,hk,wv,a,h.err k,f,fun b hb=>.inl hb⟩
theorem qf2 {s:MS} (h:s.left ≠ 0):s.pay = { s with left:=s.left-1 }:=by unfold MS.pay;rw [qk h]
theorem qmh {s:MS} (h:s.left=0):s.pay = { s with err:=190 }:=by unfold MS.pay;rw [qw h]
theorem qr0 {H0 H:AHeap} {r i:Nat} {tv wv:AV} {ts:List Nd} {a:Bool} {s s':MS} {x:Nd} (hn:Nds H0 tv ts) (h:WSt H0 H r tv wv a s) (hx:ts[i]? = some x) (h20:x.k ≠ 20) (h17:x.k ≠ 17)
 (h0:s.left=0->s'=s.pay)
 (hk:s.left ≠ 0 -> ∀ (ka:AV) (p:Nat) (H2:AHeap),SlT encI 1 H0 ka x.kids->WSt H0 H2 r tv wv a s.pay->Lc H2 r wv p [.int .i64 x.k,.int .u64 x.n,ka] qj->Fr (MW r wv) H H2 ->
  W M ⟨none,j7⟩ (qy 8) true (FIN3 M [] (DQ H0 H r tv wv a s')) [(4,.ptr p 0),(0,.ptr r 0),(1,.int .i64 (i:Int))] [] H2) :
 kx M j7 [.ptr r 0,.int .i64 (i:Int)] H (DQ H0 H r tv wv a s'):=by
 refine qma ?_
 obtain ⟨ka,ha,e2,e3,e4,h1,l1,k1⟩:=qze hn h hx
 obtain ⟨w0,w2,-,-,-,-,-,-,-,-,-,-,-,-,-,-,-,-,-,-,-⟩:=za M ⟨none,j7⟩
 simp only [↓qe,qt,reduceIte,Nat.reduceEqDiff,w0,w2,qo,h.l0,e2,e3,e4,l1.ld,h20,h17]
 refine P3.e (q5o h1) (fun v H2 ⟨hl,h2,f2⟩=>?_) fun k H2 ⟨hl,hk,hh⟩=>?_
 ·exact hk hl ka _ H2 ha h2 (l1.mv f2) (FrM.trans (Fr.toM k1) f2)
 ·subst hk;subst hh
  simp only [↓qe,qt,reduceIte,Nat.reduceEqDiff,qa2,vm]
  exact DX.at h1 (Fr.toM k1) (by decide) (by rw [h0 hl,qmh hl])
def SD (M:Mac) (H0:AHeap) (tv:AV) (ts:List Nd) (x:Lang.St):Prop:=∀ (H:AHeap) (r bb:Nat) (wv:AV) (a:Bool) (s:MS),Seg ts bb (x.enc bb)->x.ok->x.small->(a=true->x.atm=false)->s.on->WSt H0 H r tv wv a s ->
 kx M j7 [.ptr r 0,.int .i64 ((bb+x.sz-1:Nat):Int)] H (DQ H0 H r tv wv a (x.run a s))
def LD (M:Mac) (H0:AHeap) (tv:AV) (ts:List Nd) (l:Ls):Prop:=∀ (H:AHeap) (r bb:Nat) (wv:AV) (a:Bool) (s:MS),Seg ts bb (l.encL bb)->l.ok->l.small->(a=true->l.atm=false)->s.err=0->WSt H0 H r tv wv a s ->
 kx M j7 [.ptr r 0,.int .i64 ((bb+l.sz:Nat):Int)] H (DQ H0 H r tv wv a (l.run a s))
def runs (i:Bool):List Lang.St->MS->MS
 | [],s=>s
 | x::l,s=>if s.on then runs i l (x.run i s) else s
theorem q4f (i:Bool):∀ (l:Ls) (s:MS),l.run i s=runs i (sts l) s
 | .nil,s=>rfl
 | .cons x l,s=>by simp only [Ls.run,sts,runs,q4f i l]
theorem runs_off (i:Bool) {l:List Lang.St} {s:MS} (h:¬ s.on):runs i l s=s:=by cases l<;>simp [runs,h]
theorem xao:∀ l:Ls,l.atm=false -> ∀ s ∈ sts l,s.atm=false
 | .nil,_,s,h=>by cases h
 | .cons x l,ho,s,h=>by
  simp only [Ls.atm,Bool.or_eq_false_iff] at ho
  rcases x4.1 h with rfl|h
  ·exact ho.1
  ·exact xao l ho.2 s h
theorem qr7 {H0:AHeap} {tv:AV} {ts:List Nd} (hn:Nds H0 tv ts) (ht:ts.length<=2000) (l:Ls) (hsp:∀ s ∈ sts l,SD M H0 tv ts s):LD M H0 tv ts l:=by
 intro H r bb wv a s hs ho hsm hat herr h
 refine qma ?_
 obtain ⟨hnd,-⟩:=Seg.nd (x:=.l l) hs
 have hse:Seg ts bb (l.enc bb):=hs.left
 have hsz:(It.l l).sz=l.sz+1:=rfl
 rw [hsz,show bb+(l.sz+1)-1=bb+l.sz by omega] at hnd
 have hnd':(It.l l).nd bb=⟨20,0,ints (l.ends bb)⟩:=by simp [It.nd,It.kn,It.ks,Ls.its_ends]
 rw [hnd'] at hnd
 obtain ⟨ka,ha,e2,e3,e4,h1,l1,k1⟩:=qze hn h hnd
 have hal:=(ha.em h1.fr).len
 rw [que] at hal
 have hlen:=qwp l
 have hlt:=Seg.lt (x:=.l l) hs
 rw [hsz] at hlt
 obtain ⟨w0,w2,w8,w14,-,w15,-,-,w17,-,-,w21,-,-,w27,-,-,w38,w31,-,w37⟩:=za M ⟨none,j7⟩
 have t20:=x8 (show (20:Int)=20 from rfl)
 simp only [↓qe,qt,reduceIte,Nat.reduceEqDiff,w0,w2,w8,w14,w15,w17,qo,h.l0,e2,e3,e4,l1.ld,t20,hal,qpg]
 rw [q4f]
 refine LOOP3.intro (fun k E' H'=>∃ j sj,E'=[(33,.int .i64 (j:Nat)),(32,.int .i64 ((sts l).length:Nat)),(31,ka),(4,.ptr H.next 0),(0,.ptr r 0)]/\k=(sts l).length-j/\j<=(sts l).length/\WSt H0 H' r tv wv a sj/\sj.err=0/\Fr (MW r wv) H H'/\runs a ((sts l).drop j) sj=runs a (sts l) s) ?_ ?_
 ·exact ⟨_,_,⟨0,s,rfl,rfl,by omega,h1,herr,Fr.toM k1,rfl⟩,by simp only [↓qe,qt,reduceIte,Nat.reduceEqDiff]⟩
 rintro k E' Hc ⟨j,sj,rfl,rfl,hj,hw,he,hk,hrun⟩
 rcases j8 j (sts l).length with hlt|hge
 ·have q1:(j:Int)<((sts l).length:Nat):=by omega
  obtain ⟨x,hsj⟩:∃ x,(sts l)[j]? = some x:=⟨(sts l)[j],by simp [hlt]⟩
  have hm:=xo hsj
  obtain ⟨c,hkc,hsc⟩:=q5v hse hsj
  obtain ⟨i1,i2⟩:=kid_m ha hw.fr hkc (z:=(j:Int)) rfl
  rw [qnb hsj,runs] at hrun
  cases hh:sj.hlt with
  | true =>
   have hoff:¬ sj.on:=fun q=>by rw [q.1] at hh;cases hh
   rw [qk hoff] at hrun
   have l15:=hw.l15
   rw [hh] at l15
   simp only [↓qe,qt,reduceIte,Nat.reduceEqDiff,w21,w27,w31,q1,i1 .i64,i2,qo,l15,qcx,qpg]
   rw [<-hrun]
   exact ⟨he,hw,hk⟩
  | false =>
   rw [qw ⟨hh,he⟩] at hrun
   have l15:=hw.l15
   rw [hh] at l15
   simp only [↓qe,qt,reduceIte,Nat.reduceEqDiff,w21,w27,w31,w37,q1,i1 .i64,i2,qo,l15]
   refine P3.e (hsp x hm Hc r c wv a sj hsc (q2v l ho x hm) (qn4 l hsm x hm) (fun q=>xao l (hat q) x hm) ⟨hh,he⟩ hw) (fun v H2 ⟨he2,h2,f2⟩=>?_) fun k H2 hx=>?_
   ·have wj:wrapI .i64 ((j:Int)+1)=((j+1:Nat):Int):=by rw [zz (by omega) (by omega)];omega
    simp only [↓qe,qt,reduceIte,Nat.reduceEqDiff,w38,wj]
    exact ⟨_,_,⟨j+1,x.run a sj,rfl,rfl,by omega,h2,he2,FrM.trans hk f2,hrun⟩,by simp only [↓qe,qt,reduceIte,Nat.reduceEqDiff],by omega⟩
   ·have hoff:¬ (x.run a sj).on:=fun q=>hx.2.1 (by rw [<-hx.1];exact q.2)
    rw [runs_off a hoff] at hrun
    simp only [↓qe,qt,reduceIte,Nat.reduceEqDiff,qa2,vm,q6g]
    rw [<-hrun]
    exact DX.up hx hk
 ·have q1:¬ (j:Int)<((sts l).length:Nat):=by omega
  rw [j6 hge,runs] at hrun
  simp only [↓qe,qt,reduceIte,Nat.reduceEqDiff,w21,q1,qcx,qpg]
  rw [<-hrun]
  exact ⟨he,hw,hk⟩
end Go.Am
