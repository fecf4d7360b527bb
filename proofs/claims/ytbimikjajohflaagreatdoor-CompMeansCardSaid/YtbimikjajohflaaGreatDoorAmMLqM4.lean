/- LqM4: LpK LpL LpQ. -/
import Derived.Test.YtbimikjajohflaaGreatDoorAmMLqM3
set_option linter.unusedVariables false
set_option linter.unusedSimpArgs false
set_option linter.unusedSectionVars false
set_option maxRecDepth 100000
open Nat (reduceEqDiff)
namespace Go.Am
open Lang Go.Proofs
variable {M:aO} [MK M]
theorem bj.Ad {ts:List Nd} {H0:AHeap} {tv:AV} (hc:WC H0 tv ts) {b:Nat} {x:It} (h:bj ts b (x.enc b)):x.sz<=2000:=by
 have:=h.lt;have:=hc.len;omega
theorem Py {H0 H1:AHeap} {tv a:AV} {ts:List Nd} (hc:WC H0 tv ts) {c:Cn} {l:Ls} (hsp:∀ s ∈ av l,SP M H0 tv ts s) {b bb d p:Nat} {k:Int} {xs w:List UInt8} {kids:List Int} {Q:aK} {E:Env} (hk:k=16/\w=[105,102,32,40]\/k=17/\w=[119,104,105,108,101,32,40])
 (hsc:bj ts bb (c.enc bb)) (hsl:bj ts (bb+c.sz) (l.cu (bb+c.sz))) (ho:c.ok/\l.ok) (hsm:c.small/\l.small) (hd:d+1+l.sz<=4000) (ha:cU eB 1 H0 a kids) (k0:kids[0]? = some ((bb+c.sz-1:Nat):Int)) (k1:kids[1]? = some ((bb+c.sz+l.sz:Nat):Int)) (hkl:kids.length<=3)
 (h:WS H0 H1 b tv xs) (hl:xs.length+(w++c.cR ++ [41,32]++gH l d).length<=1000000000) (lo:Loc H1 b p [.int .i64 k,.int .u64 0,a] xf)
 (e0:lk E 0=some (.ptr b 0)) (e6:lk E 6=some (.ptr p 0)) (e54:lk E 54=some (.bool true)) (e2:lk E 2=some (.int .i64 (d:Int)))
 (hq:∀ H5,WS H0 H5 b tv (xs++(w++c.cR ++ [41,32]++gH l d))->Loc H5 b p [.int .i64 k,.int .u64 0,a] xf->BK b H1 H5 ->
  cB true (.bool (decide (((kids.length:Nat):Int)=3))) (λ g=>Ly g E 0 λ g t0_1=>C3 M g (.func xh) [t0_1,(.str [32,101,108,115,101,32])] H5 λ g t85 H2=>Ly g E 0 λ g t0_2=>Ly g E 6 λ g t6_2=>Fl g 2 t6_2 H2 λ g t88=>Xl g t88 (.int .i64 2) H2 λ g t90=>Ly g E 2 λ g t2_1=>C3 M g (.func vk) [t0_2,t90,t2_1] H2 λ g t92 H3=>aB g Q .normal E [] H3) (λ g=>aB g Q .normal E [] H5)) :
 W M ⟨none,jk⟩ (ze 31) true Q E [] H1:=by
 obtain ⟨-,-,-,w31,w34,-,w38⟩:=xy M ⟨none,jk⟩;obtain ⟨o,b1,b2,b3⟩:=yS H1 hk;have hf1:Fr Em H1 (H1.alloc o):=(Fr.refl H1).alloc _;have kk1:=BK.fr (b:=b) hf1 h.hi;have lo1:=lo.step kk1;have hwl:w.length<=7:=by rcases hk with ⟨_,rfl⟩|⟨_,rfl⟩<;>decide
 have hwa:ia w:=by rcases hk with ⟨_,rfl⟩|⟨_,rfl⟩<;>decide
 simp only [qg,qn,qw] at hl;have hcz:c.sz<=2000:=bj.Ad hc (x:=.c c) hsc;simp only [↓qh,qq,reduceIte,reduceEqDiff,w31,e54,e0,e6,b1,lo1.ld,b2,b3];refine C3.q (mc (M:=M) (s:=w) (h.em hf1) hwa (by omega)) λ v H2 ⟨h2,k2⟩=>?_;have lo2:=lo1.step k2;obtain ⟨i1,i2⟩:=qZ ha h2.fr k0 (z:=0) rfl;simp only [↓qh,qq,reduceIte,reduceEqDiff,w34,e0,e6,lo2.ld,i1 .i64,i2];refine C3.q (xc8 (M:=M) hc c hsc ho.1 hsm.1 h2 (by unfold qA;simp only [qg];omega)) λ v H3 ⟨h3,k3⟩=>?_;simp only [↓qh,qq,reduceIte,reduceEqDiff,e0];refine C3.q (mc (M:=M) (s:=[41,32]) h3 (by decide) (by simp only [qg,qn,qw];omega)) λ v H4 ⟨h4,k4⟩=>?_;have lo4:=(lo2.step k3).step k4;obtain ⟨j1,j2⟩:=qZ ha h4.fr k1 (z:=1) rfl;simp only [↓qh,qq,reduceIte,reduceEqDiff,w38,e0,e6,e2,lo4.ld,j1 .i64,j2];refine C3.q (Nm hc l hsp (d:=d) hsl ho.2 hsm.2 hd h4 (by simp only [qg,qn,qw];omega)) λ v H5 ⟨h5,k5⟩=>?_;have lo5:=lo4.step k5;have hal:=(ha.em h5.fr).len;simp only [↓qh,qq,reduceIte,reduceEqDiff,e6,lo5.ld,hal];exact hq H5 (by simpa only [qt] using h5) lo5 ((((kk1.trans k2).trans k3).trans k4).trans k5)
def LsP (M:aO) (H0:AHeap) (tv:AV) (ts:List Nd) (l:Ls):Prop:=∀ s ∈ av l,SP M H0 tv ts s
mutual
theorem yY {H0:AHeap} {tv:AV} {ts:List Nd} (hc:WC H0 tv ts):∀ x:Lang.St,SP M H0 tv ts x
 | .set w x=>by
  intro H b bb d xs hs ho hsm hd h hl;refine vn ?_;obtain ⟨hnd,hks⟩:=bj.nd (x:=.s (.set w x)) hs;have hsx:bj ts bb (x.enc bb):=hks.cons.1;have hxz:x.sz<=2000:=bj.Ad hc (x:=.e x) hsx;obtain ⟨a,ha,e1,e2,e3,e4,h1,l1,k1⟩:=rV hc h hnd;have hnd':(It.s (.set w x)).nd bb=⟨14,w,[((bb+x.sz-1:Nat):Int)]⟩:=by simp [It.nd,It.kn,It.ks,aH,ints,It.sz]
  rw [hnd'] at ha e3 e4 h1 l1 k1;have aT:(St.cR (.set w x) d)=letter w ++ [32,61,32]++x.cR 0 ++ [59]:=rfl;rw [aT] at hl ⊢;obtain ⟨tx,htx⟩:∃ tx:List UInt8,tx=letter w ++ [32,61,32]++x.cR 0 ++ [59]:=⟨_,rfl⟩
  rw [<-htx];simp only [qg,letter,qn,qw] at hl;simp only [It.sz] at e2 e3;simp only at e4 h1 l1 k1;obtain ⟨ho7,hox⟩:=ho;generalize H.alloc (OR [.int .i64 14,.int .u64 (w:Nat),a] xf)=H1 at *;have w1:ae .u64 (97+(w:Int))=((97+w:Nat):Int):=by rw [ww (by omega) (by omega)];omega
  have w2:ae .i32 ((97+w:Nat):Int)=((97+w:Nat):Int):=by rw [q6i];omega
  have hcat:Op.bin .add [.str (letter w),.str [32,61,32]]=some (.str (letter w ++ [32,61,32])):=pX _ _ (by simp [letter]);have t1:=j0 (show (14:Int)=14 from rfl);simp only [↓qh,qq,reduceIte,reduceEqDiff,xy,qi,e1,e2,e3,e4,l1.ld,t1,w1,w2,q1k w ho7,hcat];refine C3.q (mc (M:=M) (s:=letter w ++ [32,61,32]) h1 (Jj (qw2 w ho7) (by decide)) (by simp [letter];omega)) λ v H2 ⟨h2,k2⟩=>?_;have l2:=l1.step k2;obtain ⟨i1,i2⟩:=qZ ha h2.fr (i:=0) rfl (z:=0) rfl;simp only [↓qh,qq,reduceIte,reduceEqDiff,xy,l2.ld,i1 .i64,i2];refine C3.q (Cv hc x (d:=0) hsx hox hsm (by omega) h2 (by unfold qA;simp [letter];omega)) λ v H3 ⟨h3,k3⟩=>?_;simp only [↓qh,qq,reduceIte,reduceEqDiff,xy];refine C3.q (mc (M:=M) (s:=[59]) h3 (by decide) (by simp [letter];omega)) λ v H4 ⟨h4,k4⟩=>?_;simp only [↓qh,qq,reduceIte,reduceEqDiff,xy];exact ⟨by rw [htx];simpa only [qt] using h4,((k1.trans k2).trans k3).trans k4⟩
 | .store x y=>by
  intro H b bb d xs hs ho hsm hd h hl;refine vn ?_;obtain ⟨hnd,hks⟩:=bj.nd (x:=.s (.store x y)) hs;have hsx:bj ts bb (x.enc bb):=hks.cons.1;have hsy:bj ts (bb+x.sz) (y.enc (bb+x.sz)):=hks.cons.2.cons.1;have hxz:x.sz<=2000:=bj.Ad hc (x:=.e x) hsx;have hyz:y.sz<=2000:=bj.Ad hc (x:=.e y) hsy;obtain ⟨a,ha,e1,e2,e3,e4,h1,l1,k1⟩:=rV hc h hnd;have hnd':(It.s (.store x y)).nd bb=⟨15,0,[((bb+x.sz-1:Nat):Int),((bb+x.sz+y.sz-1:Nat):Int)]⟩:=by simp [It.nd,It.kn,It.ks,aH,ints,It.sz]
  rw [hnd'] at ha e3 e4 h1 l1 k1;have aT:(St.cR (.store x y) d)=[115,116,111,114,101,40]++x.cR 0 ++ [44,32]++y.cR 0 ++ [41,59]:=rfl;rw [aT] at hl ⊢;obtain ⟨tx,htx⟩:∃ tx:List UInt8,tx=[115,116,111,114,101,40]++x.cR 0 ++ [44,32]++y.cR 0 ++ [41,59]:=⟨_,rfl⟩
  rw [<-htx];simp only [qg,qn,qw] at hl;simp only [It.sz] at e2 e3;simp only at e4 h1 l1 k1;obtain ⟨hox,hoy⟩:=ho;generalize H.alloc (OR [.int .i64 15,.int .u64 0,a] xf)=H1 at *;simp only [↓qh,qq,reduceIte,reduceEqDiff,xy,qi,e1,e2,e3,e4,l1.ld,Int.reduceEq];refine C3.q (mc (M:=M) (s:=[115,116,111,114,101,40]) h1 (by decide) (by simp only [qn,qw];omega)) λ v H2 ⟨h2,k2⟩=>?_;have l2:=l1.step k2;obtain ⟨i1,i2⟩:=qZ ha h2.fr (i:=0) rfl (z:=0) rfl;simp only [↓qh,qq,reduceIte,reduceEqDiff,xy,l2.ld,i1 .i64,i2];refine C3.q (Cv hc x (d:=0) hsx hox hsm.1 (by omega) h2 (by unfold qA;simp only [qg,qn,qw];omega)) λ v H3 ⟨h3,k3⟩=>?_;simp only [↓qh,qq,reduceIte,reduceEqDiff,xy];refine C3.q (mc (M:=M) (s:=[44,32]) h3 (by decide) (by simp only [qg,qn,qw];omega)) λ v H4 ⟨h4,k4⟩=>?_;have l4:=(l2.step k3).step k4;obtain ⟨j1,j2⟩:=qZ ha h4.fr (i:=1) rfl (z:=1) rfl;simp only [↓qh,qq,reduceIte,reduceEqDiff,xy,l4.ld,j1 .i64,j2];refine C3.q (Cv hc y (d:=0) hsy hoy hsm.2 (by omega) h4 (by unfold qA;simp only [qg,qn,qw];omega)) λ v H5 ⟨h5,k5⟩=>?_;simp only [↓qh,qq,reduceIte,reduceEqDiff,xy];refine C3.q (mc (M:=M) (s:=[41,59]) h5 (by decide) (by simp only [qg,qn,qw];omega)) λ v H6 ⟨h6,k6⟩=>?_;simp only [↓qh,qq,reduceIte,reduceEqDiff,xy];exact ⟨by rw [htx];simpa only [qt] using h6,((((k1.trans k2).trans k3).trans k4).trans k5).trans k6⟩
 | .ite c l=>by
  intro H b bb d xs hs ho hsm hd h hl;refine vn ?_;obtain ⟨hnd,hks⟩:=bj.nd (x:=.s (.ite c l)) hs;have hsc:bj ts bb (c.enc bb):=hks.cons.1;have hsl:bj ts (bb+c.sz) (l.cu (bb+c.sz)):=hks.cons.2.cons.1;obtain ⟨a,ha,e1,e2,e3,e4,h1,l1,k1⟩:=rV hc h hnd;have hnd':(It.s (.ite c l)).nd bb=⟨16,0,[((bb+c.sz-1:Nat):Int),((bb+c.sz+l.sz:Nat):Int)]⟩:=by simp [It.nd,It.kn,It.ks,aH,ints,It.sz]
  rw [hnd'] at ha e3 e4 h1 l1 k1;have aT:(St.cR (.ite c l) d)=[105,102,32,40]++c.cR ++ [41,32]++gH l d:=rfl;rw [aT] at hl ⊢;obtain ⟨tx,htx⟩:∃ tx:List UInt8,tx=[105,102,32,40]++c.cR ++ [41,32]++gH l d:=⟨_,rfl⟩
  rw [<-htx];simp only [It.sz] at e2 e3;simp only at e4 h1 l1 k1;simp only [St.sz] at hd;generalize H.alloc (OR [.int .i64 16,.int .u64 0,a] xf)=H1 at *;obtain ⟨w0,w13,w25,-,-,-,-⟩:=xy M ⟨none,jk⟩;simp only [↓qh,qq,reduceIte,reduceEqDiff,w0,w13,w25,qi,e1,e2,e3,e4,l1.ld,Int.reduceEq];refine Py (M:=M) hc (CN hc l) (.inl ⟨rfl,rfl⟩) hsc hsl ho hsm (by omega) ha rfl rfl (by simp) h1 hl l1 rfl rfl rfl rfl λ H5 h5 l5 k5=>?_;have t1:¬ (([((bb+c.sz-1:Nat):Int),((bb+c.sz+l.sz:Nat):Int)].length:Nat):Int)=3:=by simp
  simp only [↓qh,qq,reduceIte,reduceEqDiff,t1];exact ⟨by rw [htx];exact h5,k1.trans k5⟩
 | .cG c l m=>by
  intro H b bb d xs hs ho hsm hd h hl;refine vn ?_;obtain ⟨hnd,hks⟩:=bj.nd (x:=.s (.cG c l m)) hs;have hsc:bj ts bb (c.enc bb):=hks.cons.1;have hsl:bj ts (bb+c.sz) (l.cu (bb+c.sz)):=hks.cons.2.cons.1;have hsm':bj ts (bb+c.sz+(l.sz+1)) (m.cu (bb+c.sz+(l.sz+1))):=hks.cons.2.cons.2.cons.1;obtain ⟨a,ha,e1,e2,e3,e4,h1,l1,k1⟩:=rV hc h hnd;have hnd':(It.s (.cG c l m)).nd bb=⟨16,0,[((bb+c.sz-1:Nat):Int),((bb+c.sz+l.sz:Nat):Int),((bb+c.sz+(l.sz+1)+m.sz:Nat):Int)]⟩:=by
   simp [It.nd,It.kn,It.ks,aH,ints,It.sz]
  rw [hnd'] at ha e3 e4 h1 l1 k1;have aT:(St.cR (.cG c l m) d)=([105,102,32,40]++c.cR ++ [41,32]++gH l d) ++ [32,101,108,115,101,32]++gH m d:=by simp [St.cR,gH]
  rw [aT] at hl ⊢;obtain ⟨tx,htx⟩:∃ tx:List UInt8,tx=([105,102,32,40]++c.cR ++ [41,32]++gH l d) ++ [32,101,108,115,101,32]++gH m d:=⟨_,rfl⟩
  rw [<-htx];simp only [It.sz] at e2 e3;simp only at e4 h1 l1 k1;simp only [St.sz] at hd;have hl':xs.length+([105,102,32,40]++c.cR ++ [41,32]++gH l d).length<=1000000000:=by simp only [qg] at hl ⊢;omega
  generalize H.alloc (OR [.int .i64 16,.int .u64 0,a] xf)=H1 at *;obtain ⟨w0,w13,w25,-,-,-,-⟩:=xy M ⟨none,jk⟩;simp only [↓qh,qq,reduceIte,reduceEqDiff,w0,w13,w25,qi,e1,e2,e3,e4,l1.ld,Int.reduceEq];refine Py (M:=M) hc (CN hc l) (.inl ⟨rfl,rfl⟩) hsc hsl ⟨ho.1,ho.2.1⟩ ⟨hsm.1,hsm.2.1⟩ (by omega) ha rfl rfl (by simp) h1 hl' l1 rfl rfl rfl rfl λ H5 h5 l5 k5=>?_;have t1:=j0 (show (([((bb+c.sz-1:Nat):Int),((bb+c.sz+l.sz:Nat):Int),((bb+c.sz+(l.sz+1)+m.sz:Nat):Int)].length:Nat):Int)=3 by simp);simp only [↓qh,qq,reduceIte,reduceEqDiff,t1];refine C3.q (mc (M:=M) (s:=[32,101,108,115,101,32]) h5 (by decide) (by simp only [qg,qn,qw] at hl ⊢;omega)) λ v H6 ⟨h6,k6⟩=>?_;have l6:=l5.step k6;obtain ⟨j1,j2⟩:=qZ ha h6.fr (i:=2) rfl (z:=2) rfl;simp only [↓qh,qq,reduceIte,reduceEqDiff,l6.ld,j1 .i64,j2];refine C3.q (Nm hc m (CN hc m) (d:=d) hsm' ho.2.2 hsm.2.2 (by omega) h6 (by simp only [qg,qn,qw] at hl ⊢;omega)) λ v H7 ⟨h7,k7⟩=>?_;simp only [↓qh,qq,reduceIte,reduceEqDiff];exact ⟨by rw [htx];simpa only [qt] using h7,((k1.trans k5).trans k6).trans k7⟩
 | .loop c l=>by
  intro H b bb d xs hs ho hsm hd h hl;refine vn ?_;obtain ⟨hnd,hks⟩:=bj.nd (x:=.s (.loop c l)) hs;have hsc:bj ts bb (c.enc bb):=hks.cons.1;have hsl:bj ts (bb+c.sz) (l.cu (bb+c.sz)):=hks.cons.2.cons.1;obtain ⟨a,ha,e1,e2,e3,e4,h1,l1,k1⟩:=rV hc h hnd;have hnd':(It.s (.loop c l)).nd bb=⟨17,0,[((bb+c.sz-1:Nat):Int),((bb+c.sz+l.sz:Nat):Int)]⟩:=by simp [It.nd,It.kn,It.ks,aH,ints,It.sz]
  rw [hnd'] at ha e3 e4 h1 l1 k1;have aT:(St.cR (.loop c l) d)=[119,104,105,108,101,32,40]++c.cR ++ [41,32]++gH l d:=rfl;rw [aT] at hl ⊢;obtain ⟨tx,htx⟩:∃ tx:List UInt8,tx=[119,104,105,108,101,32,40]++c.cR ++ [41,32]++gH l d:=⟨_,rfl⟩
  rw [<-htx];simp only [It.sz] at e2 e3;simp only at e4 h1 l1 k1;simp only [St.sz] at hd;generalize H.alloc (OR [.int .i64 17,.int .u64 0,a] xf)=H1 at *;obtain ⟨w0,w13,w25,-,-,-,-⟩:=xy M ⟨none,jk⟩;simp only [↓qh,qq,reduceIte,reduceEqDiff,w0,w13,w25,qi,e1,e2,e3,e4,l1.ld,Int.reduceEq];refine Py (M:=M) hc (CN hc l) (.inr ⟨rfl,rfl⟩) hsc hsl ho hsm (by omega) ha rfl rfl (by simp) h1 hl l1 rfl rfl rfl rfl λ H5 h5 l5 k5=>?_;have t1:¬ (([((bb+c.sz-1:Nat):Int),((bb+c.sz+l.sz:Nat):Int)].length:Nat):Int)=3:=by simp
  simp only [↓qh,qq,reduceIte,reduceEqDiff,t1];exact ⟨by rw [htx];exact h5,k1.trans k5⟩
 | .atom l=>by
  intro H b bb d xs hs ho hsm hd h hl;refine vn ?_;obtain ⟨hnd,hks⟩:=bj.nd (x:=.s (.atom l)) hs;have hsl:bj ts bb (l.cu bb):=hks.cons.1;obtain ⟨a,ha,e1,e2,e3,e4,h1,l1,k1⟩:=rV hc h hnd;have hnd':(It.s (.atom l)).nd bb=⟨18,0,[((bb+l.sz:Nat):Int)]⟩:=by simp [It.nd,It.kn,It.ks,aH,ints,It.sz]
  rw [hnd'] at ha e3 e4 h1 l1 k1;have aT:(St.cR (.atom l) d)=[97,116,111,109,105,99,32]++gH l d:=rfl;rw [aT] at hl ⊢;obtain ⟨tx,htx⟩:∃ tx:List UInt8,tx=[97,116,111,109,105,99,32]++gH l d:=⟨_,rfl⟩
  rw [<-htx];simp only [qg,qn,qw] at hl;simp only [It.sz] at e2 e3;simp only at e4 h1 l1 k1;simp only [St.sz] at hd;generalize H.alloc (OR [.int .i64 18,.int .u64 0,a] xf)=H1 at *;simp only [↓qh,qq,reduceIte,reduceEqDiff,xy,qi,e1,e2,e3,e4,l1.ld,Int.reduceEq];refine C3.q (mc (M:=M) (s:=[97,116,111,109,105,99,32]) h1 (by decide) (by simp only [qn,qw];omega)) λ v H2 ⟨h2,k2⟩=>?_;have l2:=l1.step k2;obtain ⟨i1,i2⟩:=qZ ha h2.fr (i:=0) rfl (z:=0) rfl;simp only [↓qh,qq,reduceIte,reduceEqDiff,xy,l2.ld,i1 .i64,i2];refine C3.q (Nm hc l (CN hc l) (d:=d) hsl ho.1 hsm (by omega) h2 (by simp only [qg,qn,qw];omega)) λ v H3 ⟨h3,k3⟩=>?_;simp only [↓qh,qq,reduceIte,reduceEqDiff,xy];exact ⟨by rw [htx];simpa only [qt] using h3,(k1.trans k2).trans k3⟩
 | .halt=>by
  intro H b bb d xs hs ho hsm hd h hl;refine vn ?_;obtain ⟨hnd,hks⟩:=bj.nd (x:=.s .halt) hs;obtain ⟨a,ha,e1,e2,e3,e4,h1,l1,k1⟩:=rV hc h hnd;have hnd':(It.s .halt).nd bb=⟨19,0,[]⟩:=by simp [It.nd,It.kn,It.ks,aH,ints]
  rw [hnd'] at ha e3 e4 h1 l1 k1;have aT:(St.cR .halt d)=[104,97,108,116,59]:=rfl;rw [aT] at hl ⊢;obtain ⟨tx,htx⟩:∃ tx:List UInt8,tx=[104,97,108,116,59]:=⟨_,rfl⟩
  rw [<-htx];simp only [qn,qw] at hl;simp only [It.sz] at e2 e3;simp only at e4 h1 l1 k1;generalize H.alloc (OR [.int .i64 19,.int .u64 0,a] xf)=H1 at *;simp only [↓qh,qq,reduceIte,reduceEqDiff,xy,qi,e1,e2,e3,e4,l1.ld,Int.reduceEq];refine C3.q (mc (M:=M) (s:=[104,97,108,116,59]) h1 (by decide) (by simp only [qn,qw];omega)) λ v H2 ⟨h2,k2⟩=>?_;simp only [↓qh,qq,reduceIte,reduceEqDiff,xy];exact ⟨by rw [htx];exact h2,k1.trans k2⟩
theorem CN {H0:AHeap} {tv:AV} {ts:List Nd} (hc:WC H0 tv ts):∀ (l:Ls),LsP M H0 tv ts l
 | .nil=>λ s h=>by cases h
 | .cons x l=>λ s h=>by
  rcases x8.1 h with h|h
  ·rw [h];exact yY hc x
  ·exact CN hc l s h
end
end Go.Am
namespace Go.Am
open Lang Go.Proofs
variable {M:aO} [MK M]
abbrev jZ (l:List Nd):Prop:=∀ y ∈ l,y.n<18446744073709551616
theorem jZ.app {a b:List Nd} (h:jZ (a++b)):jZ a/\jZ b:=⟨λ y hy=>h y (by simp [hy]),λ y hy=>h y (by simp [hy])⟩
theorem Ex.bn:∀ (x:Ex) (b:Nat),jZ (x.enc b)->x.small
 | .num n,b,h=>by have:=h ⟨1,n,[]⟩ (by simp [Ex.enc]);simp only at this;show n<18446744073709551616;omega
 | .var v,b,h=>trivial
 | .load a,b,h=>Ex.bn a b h.app.1
 | .bin o a c,b,h=>⟨Ex.bn a b h.app.1,Ex.bn c _ h.app.2.app.1⟩
theorem Cn.bn (c:Cn) (b:Nat) (h:jZ (c.enc b)):c.small:=⟨Ex.bn c.a b h.app.1,Ex.bn c.b _ h.app.2.app.1⟩
mutual
theorem St.bn:∀ (x:Lang.St) (b:Nat),jZ (x.enc b)->x.small
 | .set v a,b,h=>Ex.bn a b h.app.1
 | .store a c,b,h=>⟨Ex.bn a b h.app.1,Ex.bn c _ h.app.2.app.1⟩
 | .ite c l,b,h=>⟨Cn.bn c b h.app.1,Ls.bn l _ h.app.2.app.1⟩
 | .cG c l e,b,h=>⟨Cn.bn c b h.app.1,Ls.bn l _ h.app.2.app.1,Ls.bn e _ h.app.2.app.2.app.2.app.1⟩
 | .loop c l,b,h=>⟨Cn.bn c b h.app.1,Ls.bn l _ h.app.2.app.1⟩
 | .atom l,b,h=>Ls.bn l _ h.app.1
 | .halt,b,h=>trivial
theorem Ls.bn:∀ (x:Ls) (b:Nat),jZ (x.enc b)->x.small
 | .nil,b,h=>trivial
 | .cons s l,b,h=>⟨St.bn s b h.app.1,Ls.bn l _ h.app.2⟩
end
def iM (p:Ls):List UInt8 × Int:=if (scan (p.cR 0) (0,0)).2<=50 then (p.cR 0,0) else ([],2)
theorem E7:fY Tryz.prog 74 yo 5 0=true:=by kernel_rfl
theorem xfg {p:Ls} (hs:p.small) (hz:p.sz+1<=2000):(p.cR 0).length<=100000000:=by
 have h:=p.bK 0 p.sz hs (by omega);have:(40+8*p.sz)*p.sz<=(40+8*2000)*2000:=Nat.mul_le_mul (by omega) (by omega);omega
theorem sV {H:AHeap} {tv:AV} {t:List Nd} (hn:eT H tv t) (hz:∀ x ∈ t,x.kids.length*8<=140737488355328) (hm:lu t=false):ye M tP [tv] H λ v H'=>v=.tuple [.str [],.int .i64 2]/\Fr Em H H':=by
 refine qwv ?_;obtain ⟨w0,w2,-,-,-⟩:=qww M ⟨none,tP⟩;simp only [↓qh,qq,reduceIte,reduceEqDiff,w0,w2];refine C3.q (q9a (M:=M) hn hz) λ v H1 ⟨hv,hf⟩=>?_;rw [hm] at hv;subst hv;simp only [↓qh,qq,reduceIte,reduceEqDiff];exact hf
theorem q4b {H:AHeap} {tv:AV} {p:Ls} (hn:eT H tv (p.cu 0)) (hz:∀ x ∈ p.cu 0,x.kids.length*8<=140737488355328) (hm:lu (p.cu 0)=true) (ho:p.ok) (hs:p.small) (hl:p.sz+1<=2000) (hp:kD H) (hpl:jo<H.next) :
 ye M tP [tv] H λ v H'=>v=.tuple [.str (iM p).1,.int .i64 (iM p).2]/\Fr Em H H':=by
 refine qwv ?_;obtain ⟨w0,w2,w10,w14,w22⟩:=qww M ⟨none,tP⟩;simp only [↓qh,qq,reduceIte,reduceEqDiff,w0,w2];refine C3.q (q9a (M:=M) hn hz) λ v H1 ⟨hv,hf⟩=>?_;rw [hm] at hv;subst hv;have hn1:=hn.em hf;have hc:WC H1 tv (p.cu 0):=⟨hn1,(hf.cells hpl id).trans hp,qe hpl hf.next,by rw [Ls.bW];omega⟩
 have hb:Op.build [.nilp,.nils,.nils,.int .i64 0,.int .i64 0] [(2,1)] [tv]=some (.agg [.nilp,.nils,tv,.int .i64 0,.int .i64 0]):=by
  obtain ⟨zs,_,h2,_⟩:=hn1.ex;have hcl:tv.cells=[tv]:=by have:=h2.one;cases tv<;>first|rfl|cases this
  simp only [DP,Db,CI,hcl];rfl
 have wl:ae .i64 (((p.cu 0).length:Nat)-1:Int)=((0+p.sz:Nat):Int):=by rw [Ls.bW,zk (by omega) (by omega)];omega
 simp only [↓qh,qq,reduceIte,reduceEqDiff,w10,hb,hn1.len,wl];have hf2:Fr Em H1 (H1.alloc (OR [.nilp,.nils,tv,.int .i64 0,.int .i64 0] yo)):=(Fr.refl H1).alloc _;have hws:WS H1 (H1.alloc (OR [.nilp,.nils,tv,.int .i64 0,.int .i64 0] yo)) H1.next tv [] :=
  ⟨⟨.nilp,.nils,qp ..,.inl rfl,eS.nil hf2,λ q=>q.1 rfl,λ _ _=>rfl⟩,qf _,by rw [xk];omega,E7⟩
 have htl:=xfg hs hl;have hlo:=xdy (M:=M) hc p (CN hc p) (bb:=0) (d:=0) (bj.all _) ho hs (by omega) hws (by simp;omega);rw [x6] at hlo;refine C3.q hlo λ v H2 ⟨h2,k2⟩=>?_;rw [zn] at h2;have hpk:Op.aa [.ptr H1.next 4] H2=some (.int .i64 (scan (p.cR 0) (0,0)).2):=by
  obtain ⟨⟨pp,buf,h1,_⟩,_⟩:=h2;rw [j8 (qy h1)];rfl
 by_cases hq:(scan (p.cR 0) (0,0)).2<=50
 ·have q1:¬ (50:Int)<(scan (p.cR 0) (0,0)).2:=by omega
  rw [show iM p=(p.cR 0,0) by unfold iM;rw [qk hq]];simp only [↓qh,qq,reduceIte,reduceEqDiff,w14,w22,qi,hpk,q1];refine C3.q (Pp (M:=M) h2 (by omega) (.inr rfl)) λ v H3 ⟨hv,h3,_⟩=>?_;subst hv;simp only [↓qh,qq,reduceIte,reduceEqDiff];exact hf.em h3.fr
 ·have q1:(50:Int)<(scan (p.cR 0) (0,0)).2:=by omega
  rw [show iM p=([],2) by unfold iM;rw [qc hq]];simp only [↓qh,qq,reduceIte,reduceEqDiff,w14,qi,hpk,q1];exact hf.em h2.fr
end Go.Am
namespace Go.Am
open Lang Go.Proofs
variable {M:aO} [MK M]
def EB (t:List Nd):Prop:=∃ p:Ls,t=p.cu 0/\p.ok/\p.sz+1<=2000/\(iM p).2=0
structure uW (H:AHeap) (tv:AV) (t:List Nd):Prop where
 nd:eT H tv t
 kids:∀ x ∈ t,x.kids.length*8<=140737488355328
 lo:∀ x ∈ t,0<=x.n
 hi:∀ x ∈ t,x.n<18446744073709551616
 pow:kD H
 pl:jo<H.next
theorem uW.em {H H':AHeap} {tv:AV} {t:List Nd} (h:uW H tv t) (f:Fr Em H H'):uW H' tv t:=⟨h.nd.em f,h.kids,h.lo,h.hi,(f.cells h.pl id).trans h.pow,qe h.pl f.next⟩
theorem q8n {H:AHeap} {tv:AV} {t:List Nd} (h:uW H tv t):ye M tP [tv] H λ v H'=>Fr Em H H' /\ ∃ s e,v=.tuple [.str s,.int .i64 e]/\(e=0 ↔ EB t):=by
 have hsm:∀ {p:Ls},t=p.cu 0->p.small:=λ q=>Ls.bn _ 0 λ y hy=>h.hi y (by rw [q];unfold Ls.cu;exact List.mem_append_left _ hy)
 by_cases hok:EB t
 ·have hok':=hok;obtain ⟨p,rfl,ho,hz,hp⟩:=hok';refine (q4b h.nd h.kids ((q89 h.lo).2 ⟨p,rfl,ho,hz⟩) ho (hsm rfl) hz h.pow h.pl).mono λ v H' ⟨hv,hf⟩=>⟨hf,_,_,hv,?_⟩
  exact ⟨λ _=>hok,λ _=>hp⟩
 ·cases hm:lu t with
  | false =>
   refine (sV h.nd h.kids hm).mono λ v H' ⟨hv,hf⟩=>⟨hf,[],2,hv,?_⟩
   exact ⟨λ q=>absurd q (by decide),λ q=>(hok q).elim⟩
  | true =>
   obtain ⟨p,rfl,ho,hz⟩:=(q89 h.lo).1 hm;refine (q4b h.nd h.kids hm ho (hsm rfl) hz h.pow h.pl).mono λ v H' ⟨hv,hf⟩=>⟨hf,_,_,hv,?_⟩
   exact ⟨λ q=>(hok ⟨p,rfl,ho,hz,q⟩).elim,λ q=>(hok q).elim⟩
theorem EN (a b:AV):Op.extract 0 [.tuple [a,b]]=some a:=rfl
theorem Ed (a b:AV):Op.extract 1 [.tuple [a,b]]=some b:=rfl
end Go.Am
