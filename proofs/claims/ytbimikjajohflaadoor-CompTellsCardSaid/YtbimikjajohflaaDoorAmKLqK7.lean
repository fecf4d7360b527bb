/- LqK7: CpE CpF CpG CpH. -/
import Derived.Test.YtbimikjajohflaaDoorAmKCodeK
import Derived.Test.YtbimikjajohflaaDoorAmKLqK5
import Derived.Test.YtbimikjajohflaaDoorAmKLqK6
set_option linter.unusedVariables false
set_option linter.unusedSimpArgs false
set_option linter.unusedSectionVars false
set_option maxRecDepth 100000
namespace Go.Am
open Lang Go.Proofs
variable {M:Mac} [MK M]
theorem ql6 {H0 H:AHeap} {i:Nat} {tv:AV} {ts:List Nd} {x:Nd} (hn:Nds H0 tv ts) (f:Fr Em H0 H) (hx:ts[i]? = some x):∃ ka H1,SlT encI 1 H0 ka x.kids /\
 (∀ k,Op.indexSl 3 [tv,.int k (i:Int)]=some (.ptr (slB tv) (slO 3 tv i)))/\Op.loadN 3 [.ptr (slB tv) (slO 3 tv i)] H=some (nodeV x ka) /\
 Op.store 3 [.ptr H.next 0,nodeV x ka] (H.alloc (OR [.int .i64 0,.int .u64 0,.nils] qo))=some (.undef,H1)/\Fr Em H H1 /\
 ∀ {Hx:AHeap} (o:Nat),Fr Em H1 Hx->Op.load1 [.ptr H.next o] Hx=[.int .i64 x.k,.int .u64 x.n,ka][o]?:=by
 obtain ⟨ka,h1,h2,h3,h4,_⟩:=hn.getF hx f
 refine ⟨ka,_,h1,h3,h4,qf7 H x h2 qo,(Fr.refl H).alloc _,fun o fx=>?_⟩
 exact qae (x8 (by rw [fx.keep _ (by rw [x4];omega) id];exact xk ..)) o
theorem o_max (a b:Int):Op.minmax true [.int .i64 a,.int .i64 b]=some (.int .i64 (if a<b then b else a)):=by
 show some (AV.int .i64 (cond true (cond (ltI a b) b a) (cond (ltI b a) b a)))=_
 rw [qm,qh9]
 by_cases h:a<b
 ·rw [zn h,qu h];rfl
 ·rw [jg h,qj h];rfl
theorem qwr (a b:Nat):(if (a:Int)<((1+b:Nat):Int) then ((1+b:Nat):Int) else (a:Int))=((max a (1+b):Nat):Int):=by
 by_cases h:a<1+b
 ·rw [qu (by omega),Nat.max_eq_right (by omega)]
 ·rw [qj (by omega),Nat.max_eq_left (by omega)]
theorem qx5 {H0:AHeap} {tv:AV} {ts:List Nd} (hn:Nds H0 tv ts):∀ (x:Ex) {H:AHeap} {bb:Nat},Seg ts bb (x.enc bb)->x.sz<=100000->Fr Em H0 H ->
 yg M qbn [tv,.int .i64 ((bb+x.sz-1:Nat):Int)] H fun v H'=>v=.int .i64 (x.needs:Nat)/\Fr Em H H':=by
 intro x
 have leaf:∀ {H:AHeap} {n:Nat} {y:Nd},ts[n]? = some y->y.kids=[]->Fr Em H0 H->yg M qbn [tv,.int .i64 (n:Int)] H fun v H'=>v=.int .i64 ((1:Nat):Int)/\Fr Em H H':=by
  intro H n y hy hk f
  refine qj5 ?_
  obtain ⟨ka,H1,ha,e2,e3,e4,f1,ld⟩:=ql6 hn f hy
  have hal:=(ha.em (f.trans f1 fun _ q=>q.elim)).len
  rw [hk] at hal
  have t1:(((([]:List Int).length:Nat)):Int)=0:=rfl
  simp only [↓qe,qq,reduceIte,Nat.reduceEqDiff,qj6,e2,e3,e4,ld _ (Fr.refl H1),hal,zj t1]
  exact ⟨rfl,f1⟩
 induction x with
 | num n=>intro H bb hs hz f;exact leaf (Seg.nd (x:=.e (.num n)) hs).1 rfl f
 | var n=>intro H bb hs hz f;exact leaf (Seg.nd (x:=.e (.var n)) hs).1 rfl f
 | load x ih =>
  intro H bb hs hz f
  refine qj5 ?_
  obtain ⟨hnd,hks⟩:=Seg.nd (x:=.e (.load x)) hs
  have hsx:Seg ts bb (x.enc bb):=hks.cons.1
  have hnd':(It.e (.load x)).nd bb=⟨3,0,[((bb+x.sz-1:Nat):Int)]⟩:=by simp [It.nd,It.kn,It.ks,endsF,ints,It.sz]
  rw [hnd'] at hnd
  obtain ⟨ka,H1,ha,e2,e3,e4,f1,ld⟩:=ql6 hn f hnd
  have f01:=f.trans f1 fun _ q=>q.elim
  have hal:=(ha.em f01).len
  have t0:¬ (([((bb+x.sz-1:Nat):Int)].length:Nat):Int)=0:=by simp
  have t1:(([((bb+x.sz-1:Nat):Int)].length:Nat):Int)=1:=rfl
  obtain ⟨i2,i3⟩:=kid_c ha f01 (i:=0) rfl (z:=0) rfl
  simp only [It.sz] at e2 e3
  simp only [Ex.sz] at hz
  simp only [↓qe,qq,reduceIte,Nat.reduceEqDiff,qj6,e2,e3,e4,ld _ (Fr.refl H1),hal,t0,zj t1,i2 .i64,i3]
  refine C3.q (ih hsx (by omega) f01) fun v H2 ⟨hv,f2⟩=>?_
  subst hv
  simp only [↓qe,qq,reduceIte,Nat.reduceEqDiff]
  exact ⟨rfl,f1.trans f2 fun _ q=>q.elim⟩
 | bin o x y ihx ihy =>
  intro H bb hs hz f
  refine qj5 ?_
  obtain ⟨hnd,hks⟩:=Seg.nd (x:=.e (.bin o x y)) hs
  have hsx:Seg ts bb (x.enc bb):=hks.cons.1
  have hsy:Seg ts (bb+x.sz) (y.enc (bb+x.sz)):=hks.cons.2.cons.1
  have hnd':(It.e (.bin o x y)).nd bb=⟨o,0,[((bb+x.sz-1:Nat):Int),((bb+x.sz+y.sz-1:Nat):Int)]⟩:=by simp [It.nd,It.kn,It.ks,endsF,ints,It.sz]
  rw [hnd'] at hnd
  obtain ⟨ka,H1,ha,e2,e3,e4,f1,ld⟩:=ql6 hn f hnd
  have f01:=f.trans f1 fun _ q=>q.elim
  have hal:=(ha.em f01).len
  have t0:¬ (([((bb+x.sz-1:Nat):Int),((bb+x.sz+y.sz-1:Nat):Int)].length:Nat):Int)=0:=by simp
  have t1:¬ (([((bb+x.sz-1:Nat):Int),((bb+x.sz+y.sz-1:Nat):Int)].length:Nat):Int)=1:=by simp
  obtain ⟨i2,i3⟩:=kid_c ha f01 (i:=0) rfl (z:=0) rfl
  obtain ⟨j2,j3⟩:=kid_c ha f01 (i:=1) rfl (z:=1) rfl
  simp only [It.sz] at e2 e3
  simp only [Ex.sz] at hz
  simp only [↓qe,qq,reduceIte,Nat.reduceEqDiff,qj6,e2,e3,e4,ld _ (Fr.refl H1),hal,t0,t1,i2 .i64,i3,j2 .i64,j3]
  refine C3.q (ihx hsx (by omega) f01) fun v H2 ⟨hv,f2⟩=>?_
  subst hv
  have f02:=f01.trans f2 fun _ q=>q.elim
  obtain ⟨m2,m3⟩:=kid_c ha f02 (i:=1) rfl (z:=1) rfl
  simp only [↓qe,qq,reduceIte,Nat.reduceEqDiff,ld _ f2,m3]
  refine C3.q (ihy hsy (by omega) f02) fun v H3 ⟨hv,f3⟩=>?_
  subst hv
  have ny:=y.needs_le
  have wy:wrapI .i64 (1+((y.needs:Nat):Int))=((1+y.needs:Nat):Int):=by rw [xz (by omega) (by omega)];omega
  simp only [↓qe,qq,reduceIte,Nat.reduceEqDiff,wy,o_max,qwr]
  exact ⟨rfl,(f1.trans f2 fun _ q=>q.elim).trans f3 fun _ q=>q.elim⟩
theorem qrw {H0:AHeap} {tv:AV} {ts:List Nd} (hn:Nds H0 tv ts):∀ (x:Ex) {H:AHeap} {bb:Nat},Seg ts bb (x.enc bb)->x.sz<=100000->Fr Em H0 H ->
 yg M qax [tv,.int .i64 ((bb+x.sz-1:Nat):Int)] H fun v H'=>v=.int .i64 (x.needs:Nat)/\Fr Em H H':=by
 intro x
 have leaf:∀ {H:AHeap} {n:Nat} {y:Nd},ts[n]? = some y->y.kids=[]->Fr Em H0 H->yg M qax [tv,.int .i64 (n:Int)] H fun v H'=>v=.int .i64 ((1:Nat):Int)/\Fr Em H H':=by
  intro H n y hy hk f
  refine qjk ?_
  obtain ⟨ka,H1,ha,e2,e3,e4,f1,ld⟩:=ql6 hn f hy
  have hal:=(ha.em (f.trans f1 fun _ q=>q.elim)).len
  rw [hk] at hal
  have t1:(((([]:List Int).length:Nat)):Int)=0:=rfl
  simp only [↓qe,qq,reduceIte,Nat.reduceEqDiff,qc6,e2,e3,e4,ld _ (Fr.refl H1),hal,zj t1]
  exact ⟨rfl,f1⟩
 induction x with
 | num n=>intro H bb hs hz f;exact leaf (Seg.nd (x:=.e (.num n)) hs).1 rfl f
 | var n=>intro H bb hs hz f;exact leaf (Seg.nd (x:=.e (.var n)) hs).1 rfl f
 | load x ih =>
  intro H bb hs hz f
  refine qjk ?_
  obtain ⟨hnd,hks⟩:=Seg.nd (x:=.e (.load x)) hs
  have hsx:Seg ts bb (x.enc bb):=hks.cons.1
  have hnd':(It.e (.load x)).nd bb=⟨3,0,[((bb+x.sz-1:Nat):Int)]⟩:=by simp [It.nd,It.kn,It.ks,endsF,ints,It.sz]
  rw [hnd'] at hnd
  obtain ⟨ka,H1,ha,e2,e3,e4,f1,ld⟩:=ql6 hn f hnd
  have f01:=f.trans f1 fun _ q=>q.elim
  have hal:=(ha.em f01).len
  have t0:¬ (([((bb+x.sz-1:Nat):Int)].length:Nat):Int)=0:=by simp
  have t1:(([((bb+x.sz-1:Nat):Int)].length:Nat):Int)=1:=rfl
  obtain ⟨i2,i3⟩:=kid_c ha f01 (i:=0) rfl (z:=0) rfl
  simp only [It.sz] at e2 e3
  simp only [Ex.sz] at hz
  simp only [↓qe,qq,reduceIte,Nat.reduceEqDiff,qc6,e2,e3,e4,ld _ (Fr.refl H1),hal,t0,i2 .i64,i3]
  refine C3.q (ih hsx (by omega) f01) fun v H2 ⟨hv,f2⟩=>?_
  subst hv
  have hal2:=(ha.em (f01.trans f2 fun _ q=>q.elim)).len
  simp only [↓qe,qq,reduceIte,Nat.reduceEqDiff,qc6,ld _ f2,hal2,zj t1]
  exact ⟨rfl,f1.trans f2 fun _ q=>q.elim⟩
 | bin o x y ihx ihy =>
  intro H bb hs hz f
  refine qjk ?_
  obtain ⟨hnd,hks⟩:=Seg.nd (x:=.e (.bin o x y)) hs
  have hsx:Seg ts bb (x.enc bb):=hks.cons.1
  have hsy:Seg ts (bb+x.sz) (y.enc (bb+x.sz)):=hks.cons.2.cons.1
  have hnd':(It.e (.bin o x y)).nd bb=⟨o,0,[((bb+x.sz-1:Nat):Int),((bb+x.sz+y.sz-1:Nat):Int)]⟩:=by simp [It.nd,It.kn,It.ks,endsF,ints,It.sz]
  rw [hnd'] at hnd
  obtain ⟨ka,H1,ha,e2,e3,e4,f1,ld⟩:=ql6 hn f hnd
  have f01:=f.trans f1 fun _ q=>q.elim
  have hal:=(ha.em f01).len
  have t0:¬ (([((bb+x.sz-1:Nat):Int),((bb+x.sz+y.sz-1:Nat):Int)].length:Nat):Int)=0:=by simp
  have t1:¬ (([((bb+x.sz-1:Nat):Int),((bb+x.sz+y.sz-1:Nat):Int)].length:Nat):Int)=1:=by simp
  obtain ⟨i2,i3⟩:=kid_c ha f01 (i:=0) rfl (z:=0) rfl
  simp only [It.sz] at e2 e3
  simp only [Ex.sz] at hz
  simp only [↓qe,qq,reduceIte,Nat.reduceEqDiff,qc6,e2,e3,e4,ld _ (Fr.refl H1),hal,t0,i2 .i64,i3]
  refine C3.q (ihx hsx (by omega) f01) fun v H2 ⟨hv,f2⟩=>?_
  subst hv
  have f02:=f01.trans f2 fun _ q=>q.elim
  have hal2:=(ha.em f02).len
  obtain ⟨m2,m3⟩:=kid_c ha f02 (i:=1) rfl (z:=1) rfl
  simp only [↓qe,qq,reduceIte,Nat.reduceEqDiff,qc6,ld _ f2,hal2,t1,m2 .i64,m3]
  refine C3.q (ihy hsy (by omega) f02) fun v H3 ⟨hv,f3⟩=>?_
  subst hv
  have ny:=y.needs_le
  have wy:wrapI .i64 (((y.needs:Nat):Int)+1)=((1+y.needs:Nat):Int):=by rw [xz (by omega) (by omega)];omega
  have nm:=qwr x.needs y.needs
  by_cases hq:((x.needs:Nat):Int)<((1+y.needs:Nat):Int)
  ·rw [qu hq] at nm
   simp only [↓qe,qq,reduceIte,Nat.reduceEqDiff,qc6,wy,hq]
   exact ⟨by rw [nm];rfl,(f1.trans f2 fun _ q=>q.elim).trans f3 fun _ q=>q.elim⟩
  ·rw [qj hq] at nm
   simp only [↓qe,qq,reduceIte,Nat.reduceEqDiff,qc6,wy,hq]
   exact ⟨by rw [nm];rfl,(f1.trans f2 fun _ q=>q.elim).trans f3 fun _ q=>q.elim⟩
theorem qqr {H:AHeap} {tv:AV} {t:List Nd} (h:NdI H tv t):yg M qdt [tv] H fun v H'=>Fr Em H H' /\ ∃ b,v=.bool b/\(b=true ↔ OkP t):=by
 refine qvv ?_
 simp only [↓qe,qq,reduceIte,Nat.reduceEqDiff,qvw]
 refine C3.q (Print_ok (M:=M) h) fun v H' ⟨f,s,e,hv,he⟩=>?_
 subst hv
 by_cases h0:e=0
 ·simp only [↓qe,qq,reduceIte,Nat.reduceEqDiff,x20,x21,zj h0]
  exact ⟨f,true,rfl,by rw [<-he];simp [h0]⟩
 ·simp only [↓qe,qq,reduceIte,Nat.reduceEqDiff,x20,x21,h0]
  exact ⟨f,false,rfl,by rw [<-he];simp [h0]⟩
theorem qza {H:AHeap} {tv:AV} {t:List Nd} (h:NdI H tv t):yg M qd9 [tv] H fun v H'=>Fr Em H H' /\ ∃ b,v=.bool b/\(b=true ↔ OkP t):=by
 refine quy ?_
 simp only [↓qe,qq,reduceIte,Nat.reduceEqDiff,quz]
 refine C3.q (q4z (M:=M) h) fun v H' ⟨f,s,e,hv,he⟩=>?_
 subst hv
 by_cases h0:e=0
 ·simp only [↓qe,qq,reduceIte,Nat.reduceEqDiff,x20,x21,zj h0]
  exact ⟨f,true,rfl,by rw [<-he];simp [h0]⟩
 ·simp only [↓qe,qq,reduceIte,Nat.reduceEqDiff,x20,x21,h0]
  exact ⟨f,false,rfl,by rw [<-he];simp [h0]⟩
end Go.Am
namespace Go.Am
open Lang Go.Proofs
variable {M:Mac} [MK M]
def FrOk (f:Frm):Prop:=f.ok/\(f.many=0\/f.vars+8<=f.base\/f.base+f.many<=f.vars)
theorem q3b {H:AHeap} (f:Frm):yg M qbc [.agg [.int .i64 f.vars,.int .i64 f.base,.int .i64 f.many]] H fun v H'=>Fr Em H H' /\ ∃ b,v=.bool b/\(b=true ↔ FrOk f):=by
 refine qpj ?_
 obtain ⟨H1,e1⟩:∃ X,X=H.alloc (OR [.int .i64 f.vars,.int .i64 f.base,.int .i64 f.many] qce):=⟨_,rfl⟩
 have f1:Fr Em H H1:=by rw [e1];exact (Fr.refl H).alloc _
 have ld:∀ o,Op.load1 [.ptr H.next o] H1=[.int .i64 f.vars,.int .i64 f.base,.int .i64 f.many][o]?:=fun o=>qae (x8 (by rw [e1,xk])) o
 obtain ⟨w0,w2,w10⟩:=qpk M ⟨none,qbc⟩
 by_cases h1:f.vars<0
 ·simp only [↓qe,qq,reduceIte,Nat.reduceEqDiff,w0,w2,qbx,<-e1,ld,h1];exact ⟨f1,false,rfl,⟨fun w=>(by cases w),fun w=>by have:=w.1.1;omega⟩⟩
 by_cases h2:4096<f.vars
 ·simp only [↓qe,qq,reduceIte,Nat.reduceEqDiff,w0,w2,qbx,<-e1,ld,h1,h2];exact ⟨f1,false,rfl,⟨fun w=>(by cases w),fun w=>by have:=w.1.2.1;omega⟩⟩
 by_cases h3:f.base<0
 ·simp only [↓qe,qq,reduceIte,Nat.reduceEqDiff,w0,w2,qbx,<-e1,ld,h1,h2,h3];exact ⟨f1,false,rfl,⟨fun w=>(by cases w),fun w=>by have:=w.1.2.2.1;omega⟩⟩
 by_cases h4:4096<f.base
 ·simp only [↓qe,qq,reduceIte,Nat.reduceEqDiff,w0,w2,qbx,<-e1,ld,h1,h2,h3,h4];exact ⟨f1,false,rfl,⟨fun w=>(by cases w),fun w=>by have:=w.1.2.2.2.1;omega⟩⟩
 by_cases h5:f.many<0
 ·simp only [↓qe,qq,reduceIte,Nat.reduceEqDiff,w0,w2,qbx,<-e1,ld,h1,h2,h3,h4,h5];exact ⟨f1,false,rfl,⟨fun w=>(by cases w),fun w=>by have:=w.1.2.2.2.2.1;omega⟩⟩
 by_cases h6:4096<f.many
 ·simp only [↓qe,qq,reduceIte,Nat.reduceEqDiff,w0,w2,qbx,<-e1,ld,h1,h2,h3,h4,h5,h6];exact ⟨f1,false,rfl,⟨fun w=>(by cases w),fun w=>by have:=w.1.2.2.2.2.2;omega⟩⟩
 have hok:f.ok:=⟨by omega,by omega,by omega,by omega,by omega,by omega⟩
 have wa:wrapI .i64 (f.vars+8)=f.vars+8:=xz (by omega) (by omega)
 have wb:wrapI .i64 (f.base+f.many)=f.base+f.many:=xz (by omega) (by omega)
 by_cases h7:f.many=0
 ·simp only [↓qe,qq,reduceIte,Nat.reduceEqDiff,w0,w2,w10,qbx,<-e1,ld,h1,h2,h3,h4,h5,h6,zj h7];exact ⟨f1,true,rfl,⟨fun _=>⟨hok,.inl h7⟩,fun _=>rfl⟩⟩
 by_cases h8:f.vars+8<=f.base
 ·simp only [↓qe,qq,reduceIte,Nat.reduceEqDiff,w0,w2,w10,qbx,<-e1,ld,h1,h2,h3,h4,h5,h6,h7,wa,h8];exact ⟨f1,true,rfl,⟨fun _=>⟨hok,.inr (.inl h8)⟩,fun _=>rfl⟩⟩
 by_cases h9:f.base+f.many<=f.vars
 ·simp only [↓qe,qq,reduceIte,Nat.reduceEqDiff,w0,w2,w10,qbx,<-e1,ld,h1,h2,h3,h4,h5,h6,h7,wa,h8,wb,h9];exact ⟨f1,true,rfl,⟨fun _=>⟨hok,.inr (.inr h9)⟩,fun _=>rfl⟩⟩
 ·simp only [↓qe,qq,reduceIte,Nat.reduceEqDiff,w0,w2,w10,qbx,<-e1,ld,h1,h2,h3,h4,h5,h6,h7,wa,h8,wb,h9];exact ⟨f1,false,rfl,⟨fun w=>(by cases w),fun w=>by rcases w.2 with q|q|q<;>omega⟩⟩
theorem qy8 {H:AHeap} (f:Frm):yg M qc2 [.int .i64 f.vars,.int .i64 f.base,.int .i64 f.many] H fun v H'=>H'=H /\ ∃ b,v=.bool b/\(b=true ↔ FrOk f):=by
 refine quu ?_
 obtain ⟨w0,w2,w10,w31,w15,w21,w30⟩:=quv M ⟨none,qc2⟩
 by_cases h1:f.vars<0
 ·simp only [↓qe,qq,reduceIte,Nat.reduceEqDiff,w0,w2,h1];exact ⟨false,rfl,⟨fun w=>(by cases w),fun w=>by have:=w.1.1;omega⟩⟩
 by_cases h2:4096<f.vars
 ·simp only [↓qe,qq,reduceIte,Nat.reduceEqDiff,w0,w2,h1,h2];exact ⟨false,rfl,⟨fun w=>(by cases w),fun w=>by have:=w.1.2.1;omega⟩⟩
 by_cases h3:f.base<0
 ·simp only [↓qe,qq,reduceIte,Nat.reduceEqDiff,w0,w2,h1,h2,h3];exact ⟨false,rfl,⟨fun w=>(by cases w),fun w=>by have:=w.1.2.2.1;omega⟩⟩
 by_cases h4:4096<f.base
 ·simp only [↓qe,qq,reduceIte,Nat.reduceEqDiff,w0,w2,h1,h2,h3,h4];exact ⟨false,rfl,⟨fun w=>(by cases w),fun w=>by have:=w.1.2.2.2.1;omega⟩⟩
 by_cases h5:f.many<0
 ·simp only [↓qe,qq,reduceIte,Nat.reduceEqDiff,w0,w2,h1,h2,h3,h4,h5];exact ⟨false,rfl,⟨fun w=>(by cases w),fun w=>by have:=w.1.2.2.2.2.1;omega⟩⟩
 by_cases h6:4096<f.many
 ·simp only [↓qe,qq,reduceIte,Nat.reduceEqDiff,w0,w2,h1,h2,h3,h4,h5,h6];exact ⟨false,rfl,⟨fun w=>(by cases w),fun w=>by have:=w.1.2.2.2.2.2;omega⟩⟩
 have hok:f.ok:=⟨by omega,by omega,by omega,by omega,by omega,by omega⟩
 have wa:wrapI .i64 (f.vars+8)=f.vars+8:=xz (by omega) (by omega)
 have wb:wrapI .i64 (f.base+f.many)=f.base+f.many:=xz (by omega) (by omega)
 simp only [↓qe,qq,reduceIte,Nat.reduceEqDiff,w0,w2,w10,h1,h2,h3,h4,h5,h6]
 refine LOOP3.intro (fun k E' H'=>∃ j:Nat,H'=H/\E'=[(7,.int .i64 (f.vars+(j:Nat))),(0,.int .i64 f.vars),(1,.int .i64 f.base),(2,.int .i64 f.many)]/\k=8-j/\j<=8 /\ ∀ i:Nat,i<j -> ¬ (f.base<=f.vars+(i:Int)/\f.vars+(i:Int)<f.base+f.many)) ?_ ?_
 ·exact ⟨_,_,⟨0,rfl,by rw [show f.vars+((0:Nat):Int)=f.vars by omega],rfl,by omega,fun i hi=>by omega⟩,by simp only [↓qe,qq,reduceIte,Nat.reduceEqDiff]⟩
 rintro k E' H' ⟨j,rfl,rfl,rfl,hj,hno⟩
 rcases zy j 8 with hlt|hge
 ·have q1:f.vars+(j:Int)<f.vars+8:=by omega
  have wj:wrapI .i64 (f.vars+(j:Int)+1)=f.vars+((j+1:Nat):Int):=by rw [xz (by omega) (by omega)];omega
  by_cases g1:f.base<=f.vars+(j:Int)
  ·by_cases g2:f.vars+(j:Int)<f.base+f.many
   ·simp only [↓qe,qq,reduceIte,Nat.reduceEqDiff,w15,w21,wa,q1,g1,wb,g2]
    exact ⟨false,rfl,⟨fun w=>(by cases w),fun w=>by rcases w.2 with q|q|q<;>omega⟩⟩
   ·simp only [↓qe,qq,reduceIte,Nat.reduceEqDiff,w15,w21,w30,wa,q1,g1,wb,g2,wj]
    exact ⟨_,_,⟨j+1,rfl,rfl,by omega,fun i hi=>by
     rcases zy i j with q|q
     ·exact hno i q
     ·rw [show i=j by omega];exact fun w=>g2 w.2⟩,by simp only [↓qe,qq,reduceIte,Nat.reduceEqDiff],by omega⟩
  ·simp only [↓qe,qq,reduceIte,Nat.reduceEqDiff,w15,w21,w30,wa,q1,g1,wj]
   exact ⟨_,_,⟨j+1,rfl,rfl,by omega,fun i hi=>by
    rcases zy i j with q|q
    ·exact hno i q
    ·rw [show i=j by omega];exact fun w=>g1 w.1⟩,by simp only [↓qe,qq,reduceIte,Nat.reduceEqDiff],by omega⟩
 ·have q1:¬ f.vars+(j:Int)<f.vars+8:=by omega
  simp only [↓qe,qq,reduceIte,Nat.reduceEqDiff,w15,w21,w31,wa,q1]
  refine ⟨true,rfl,⟨fun _=>⟨hok,?_⟩,fun _=>rfl⟩⟩
  have:=hno (f.base-f.vars).toNat
  omega
theorem qv5 {H:AHeap} {tv:AV} {t:List Nd} (hn:Nds H tv t) (hl:t.length<=140737488355328):yg M qc0 [tv] H fun v H'=>(∃ q,v=.bool q)/\H'=H:=by
 refine qt3 ?_
 obtain ⟨w0,w4,w19,w9,w15,w18⟩:=qt4 M ⟨none,qc0⟩
 simp only [↓qe,qq,reduceIte,Nat.reduceEqDiff,w0,w4]
 refine LOOP3.intro (fun k E' H'=>∃ j n,H'=H/\E'=[(4,.int .i64 (j:Nat)),(3,.int .i64 n),(0,tv)]/\k=t.length-j/\j<=t.length) ?_ ?_
 ·exact ⟨_,_,⟨0,0,rfl,rfl,rfl,by omega⟩,by simp only [↓qe,qq,reduceIte,Nat.reduceEqDiff]⟩
 rintro k E' H' ⟨j,n,rfl,rfl,rfl,hj⟩
 rcases zy j t.length with hlt|hge
 ·have q1:(j:Int)<(t.length:Nat):=by omega
  obtain ⟨x,hx⟩:∃ x,t[j]? = some x:=⟨t[j],by simp [hlt]⟩
  obtain ⟨a,ha,_,a1,_,a3,a4,a5⟩:=hn.get hx
  have wj:wrapI .i64 ((j:Int)+1)=((j+1:Nat):Int):=by rw [xz (by omega) (by omega)];omega
  simp only [↓qe,qq,reduceIte,Nat.reduceEqDiff,w9,w15,w18,hn.len,q1,a1,a5,ha.len,wj]
  exact ⟨_,_,⟨j+1,_,rfl,rfl,by omega⟩,by simp only [↓qe,qq,reduceIte,Nat.reduceEqDiff];rfl,by omega⟩
 ·have q1:¬ (j:Int)<(t.length:Nat):=by omega
  simp only [↓qe,qq,reduceIte,Nat.reduceEqDiff,w9,w19,hn.len,q1]
  exact ⟨_,rfl⟩
def exs:It->List Ex
 | .c q=>[q.a,q.b]
 | .s (.set _ a)=>[a]
 | .s (.store a b)=>[a,b]
 | _=>[]
theorem exs_deep (y:It):y.deep1=true ↔ ∃ j x,(exs y)[j]? = some x/\6<x.needs+j:=by
 have two:∀ a b:Ex,(decide (6<a.needs) || decide (6<1+b.needs))=true ↔ ∃ j x,[a,b][j]? = some x/\6<x.needs+j:=by
  intro a b
  rw [ye,ji,ji]
  constructor
  ·rintro (q|q)
   ·exact ⟨0,a,rfl,q⟩
   ·exact ⟨1,b,rfl,by omega⟩
  ·rintro ⟨j,x,hj,hx⟩
   match j,hj with
   | 0,hj=>injection hj with hj;subst hj;exact .inl hx
   | 1,hj=>injection hj with hj;subst hj;exact .inr (by omega)
   | j+2,hj=>simp at hj
 have none:∀ y:It,exs y=[]->y.deep1=false->(y.deep1=true ↔ ∃ j x,(exs y)[j]? = some x/\6<x.needs+j):=by
  intro y h1 h2
  rw [h1,h2]
  exact ⟨fun q=>(by cases q),fun ⟨j,x,hj,_⟩=>by simp at hj⟩
 match y with
 | .c q=>exact two q.a q.b
 | .s (.store a b)=>exact two a b
 | .s (.set v a) =>
  show decide (6<a.needs)=true ↔ ∃ j x,[a][j]? = some x/\6<x.needs+j
  rw [ji]
  constructor
  ·intro q;exact ⟨0,a,rfl,q⟩
  ·rintro ⟨j,x,hj,hx⟩
   match j,hj with
   | 0,hj=>injection hj with hj;subst hj;exact hx
   | j+1,hj=>simp at hj
 | .e _=>exact none _ rfl rfl
 | .l _=>exact none _ rfl rfl
 | .s (.ite _ _)=>exact none _ rfl rfl
 | .s (.ites _ _ _)=>exact none _ rfl rfl
 | .s (.loop _ _)=>exact none _ rfl rfl
 | .s (.atom _)=>exact none _ rfl rfl
 | .s .halt=>exact none _ rfl rfl
theorem exs_kids {t:List Nd} {y:It} {c:Nat} (ho:y.ok) (hs:Seg t c (y.enc c)):(11<=y.kn.1/\y.kn.1<=15/\(y.nd c).kids.length=(exs y).length /\ ∀ (j:Nat) (x:Ex),(exs y)[j]? = some x -> ∃ b,(y.nd c).kids[j]? = some ((b+x.sz-1:Nat):Int)/\Seg t b (x.enc b))\/(¬ (11<=y.kn.1/\y.kn.1<=15)/\y.deep1=false):=by
 obtain ⟨hnd,hks⟩:=Seg.nd hs
 have two:∀ a b:Ex,y.ks=[.e a,.e b]->exs y=[a,b]->(y.nd c).kids.length=(exs y).length /\ ∀ (j:Nat) (x:Ex),(exs y)[j]? = some x -> ∃ b,(y.nd c).kids[j]? = some ((b+x.sz-1:Nat):Int)/\Seg t b (x.enc b):=by
  intro a b h1 h2
  rw [h1] at hks
  have hnk:(y.nd c).kids=[((c+a.sz-1:Nat):Int),((c+a.sz+b.sz-1:Nat):Int)]:=by simp [It.nd,h1,endsF,ints,It.sz]
  rw [hnk,h2]
  refine ⟨rfl,fun j x hj=>?_⟩
  match j,hj with
  | 0,hj=>injection hj with hj;subst hj;exact ⟨c,rfl,hks.cons.1⟩
  | 1,hj=>injection hj with hj;subst hj;exact ⟨c+a.sz,rfl,hks.cons.2.cons.1⟩
  | j+2,hj=>simp at hj
 match y,ho,two,hks with
 | .c q,ho,two,hks=>exact .inl ⟨by have:=ho.1;simp only [It.kn];omega,by have:=ho.2.1;simp only [It.kn];omega,two q.a q.b rfl rfl⟩
 | .s (.store a b),ho,two,hks=>exact .inl ⟨by simp [It.kn],by simp [It.kn],two a b rfl rfl⟩
 | .s (.set v a),ho,two,hks =>
  refine .inl ⟨by simp [It.kn],by simp [It.kn],rfl,fun j x hj=>?_⟩
  match j,hj with
  | 0,hj=>injection hj with hj;subst hj;exact ⟨c,rfl,hks.cons.1⟩
  | j+1,hj=>simp [exs] at hj
 | .e (.num _),_,_,_=>exact .inr ⟨by simp [It.kn],rfl⟩
 | .e (.var _),_,_,_=>exact .inr ⟨by simp [It.kn],rfl⟩
 | .e (.load _),_,_,_=>exact .inr ⟨by simp [It.kn],rfl⟩
 | .e (.bin o _ _),ho,_,_=>exact .inr ⟨by have:=ho.2.1;simp only [It.kn];omega,rfl⟩
 | .l _,_,_,_=>exact .inr ⟨by simp [It.kn],rfl⟩
 | .s (.ite _ _),_,_,_=>exact .inr ⟨by simp [It.kn],rfl⟩
 | .s (.ites _ _ _),_,_,_=>exact .inr ⟨by simp [It.kn],rfl⟩
 | .s (.loop _ _),_,_,_=>exact .inr ⟨by simp [It.kn],rfl⟩
 | .s (.atom _),_,_,_=>exact .inr ⟨by simp [It.kn],rfl⟩
 | .s .halt,_,_,_=>exact .inr ⟨by simp [It.kn],rfl⟩
end Go.Am
namespace Go.Am
open Lang Go.Proofs
variable {M:Mac} [MK M]
theorem q17 {H:AHeap} {tv:AV} {p:Ls} (hn:Nds H tv (p.encL 0)) (hp:p.ok) (hz:p.sz<=10000) :
 yg M qdv [tv] H fun v H'=>v=.bool ((It.l p).all.any It.deep1)/\Fr Em H H':=by
 refine qxk ?_
 obtain ⟨w0,w2,w42,w7,w13,w41,w20,w24,w30,w39⟩:=qxl M ⟨none,qdv⟩
 have hall:(It.l p).all.length=(p.encL 0).length:=by rw [It.all_len,Ls.lenL];rfl
 have hlen:(p.encL 0).length<=10001:=by rw [Ls.lenL];omega
 obtain ⟨t,ht⟩:∃ t,t=p.encL 0:=⟨_,rfl⟩
 obtain ⟨al,hal⟩:∃ al,al=(It.l p).all:=⟨_,rfl⟩
 rw [<-ht] at hn hall hlen
 rw [<-hal] at hall ⊢
 simp only [↓qe,qq,reduceIte,Nat.reduceEqDiff,w0,w2]
 refine LOOP3.intro (fun k E' Hc=>∃ i:Nat,E'=[(3,.int .i64 (i:Nat)),(2,.bool false),(0,tv)]/\k=t.length-i/\i<=t.length/\Fr Em H Hc /\ ∀ m y,m<i->al[m]? = some y->y.deep1=false) ?_ ?_
 ·exact ⟨_,_,⟨0,rfl,rfl,by omega,Fr.refl _,fun m y hm=>by omega⟩,by simp only [↓qe,qq,reduceIte,Nat.reduceEqDiff]⟩
 rintro k E' Hc ⟨i,rfl,rfl,hi,fc,hno⟩
 rcases zy i t.length with hlt|hge
 ·have q1:(i:Int)<(t.length:Nat):=by omega
  obtain ⟨y,hy⟩:∃ y,al[i]? = some y:=⟨al[i]'(by omega),by simp⟩
  obtain ⟨c,ho,hs,hic⟩:=Ls.at hp (n:=i) (y:=y) (by rw [<-hal];exact hy)
  rw [<-ht] at hs
  obtain ⟨hnd,-⟩:=Seg.nd hs
  rw [<-hic] at hnd
  obtain ⟨ka,H1,ha,e2,e3,e4,f1,ld⟩:=ql6 hn fc hnd
  have wi:wrapI .i64 ((i:Int)+1)=((i+1:Nat):Int):=by rw [xz (by omega) (by omega)];omega
  have next:∀ {Hx:AHeap},Fr Em H Hx->y.deep1=false->(∃ i':Nat,([(3,.int .i64 ((i+1:Nat):Int)),(2,.bool false),(0,tv)]:Env)=[(3,.int .i64 (i':Nat)),(2,.bool false),(0,tv)]/\t.length-(i+1)=t.length-i'/\i'<=t.length/\Fr Em H Hx /\ ∀ m y,m<i'->al[m]? = some y->y.deep1=false):=by
   intro Hx fx hd
   refine ⟨i+1,rfl,rfl,by omega,fx,fun m z hm hz=>?_⟩
   rcases zy m i with q|q
   ·exact hno m z q hz
   ·rw [show m=i by omega,hy] at hz;injection hz with hz;rw [<-hz];exact hd
  have fc1:=fc.trans f1 fun _ q=>q.elim
  rcases exs_kids ho hs with ⟨k1,k2,hkl,hkk⟩|⟨hk,hd⟩
  ·have k1':(11:Int)<=(y.nd c).k:=k1
   have k2':(y.nd c).k<=15:=k2
   have hal1:=(ha.em fc1).len
   rw [hkl] at hal1
   have hkn:=exs_deep y
   simp only [↓qe,qq,reduceIte,Nat.reduceEqDiff,w7,w13,w20,hn.em fc |>.len,q1,e2,e3,e4,ld _ (Fr.refl H1),k1',k2']
   refine LOOP3.intro (fun k E' Hd=>∃ j:Nat,E'=[(5,.int .i64 (j:Nat)),(4,.ptr Hc.next 0),(3,.int .i64 (i:Nat)),(2,.bool false),(0,tv)]/\k=(exs y).length-j/\j<=(exs y).length/\Fr Em H1 Hd /\ ∀ m x,m<j->(exs y)[m]? = some x -> ¬ 6<x.needs+m) ?_ ?_
   ·exact ⟨_,_,⟨0,rfl,rfl,by omega,Fr.refl _,fun m y hm=>by omega⟩,by simp only [↓qe,qq,reduceIte,Nat.reduceEqDiff]⟩
   rintro k E' Hd ⟨j,rfl,rfl,hj,fd,hnj⟩
   have hald:=(ha.em (fc1.trans fd fun _ q=>q.elim)).len
   rw [hkl] at hald
   rcases zy j (exs y).length with hlj|hgj
   ·have q2:(j:Int)<((exs y).length:Nat):=by omega
    obtain ⟨x,hx⟩:∃ x,(exs y)[j]? = some x:=⟨(exs y)[j],by simp [hlj]⟩
    obtain ⟨b,hb,hsb⟩:=hkk j x hx
    obtain ⟨i2,i3⟩:=kid_c ha (fc1.trans fd fun _ q=>q.elim) hb (z:=(j:Int)) rfl
    have hxs:=Seg.lt (x:=.e x) hsb
    have hxz:(It.e x).sz=x.sz:=rfl
    have hl2:(exs y).length<=2:=by
     match y with
     | .c _=>exact qf _
     | .s (.set _ _)=>exact qcy _
     | .s (.store _ _)=>exact qf _
     | .e _=>exact zi _
     | .l _=>exact zi _
     | .s (.ite _ _)=>exact zi _
     | .s (.ites _ _ _)=>exact zi _
     | .s (.loop _ _)=>exact zi _
     | .s (.atom _)=>exact zi _
     | .s .halt=>exact zi _
    simp only [↓qe,qq,reduceIte,Nat.reduceEqDiff,w24,w30,ld _ fd,hald,q2,i2 .i64,i3]
    refine C3.q (qrw (M:=M) hn x hsb (by omega) (fc1.trans fd fun _ q=>q.elim)) fun v He ⟨hv,fe⟩=>?_
    subst hv
    have nx:=x.needs_le
    have wn:wrapI .i64 (((x.needs:Nat):Int)+(j:Int))=((x.needs+j:Nat):Int):=by rw [xz (by omega) (by omega)];omega
    have wj:wrapI .i64 ((j:Int)+1)=((j+1:Nat):Int):=by rw [xz (by omega) (by omega)];omega
    have fde:=fd.trans fe fun _ q=>q.elim
    by_cases h6:6<x.needs+j
    ·have t6:(6:Int)<((x.needs+j:Nat):Int):=by omega
     simp only [↓qe,qq,reduceIte,Nat.reduceEqDiff,wn,t6]
     refine ⟨?_,fc1.trans fde fun _ q=>q.elim⟩
     have:al.any It.deep1=true:=List.any_eq_true.2 ⟨y,xo hy,hkn.2 ⟨j,x,hx,h6⟩⟩
     rw [this]
    ·have t6:¬ (6:Int)<((x.needs+j:Nat):Int):=by omega
     simp only [↓qe,qq,reduceIte,Nat.reduceEqDiff,w39,wn,t6,wj]
     exact ⟨_,_,⟨j+1,rfl,rfl,by omega,fde,fun m z hm hz=>by
      rcases zy m j with q|q
      ·exact hnj m z q hz
      ·have:m=j:=by omega
       subst this;rw [hx] at hz;injection hz with hz;subst hz;exact h6⟩,by simp only [↓qe,qq,reduceIte,Nat.reduceEqDiff],by omega⟩
   ·have q2:¬ (j:Int)<((exs y).length:Nat):=by omega
    have hd:y.deep1=false:=by
     cases hq:y.deep1 with
     | false=>rfl
     | true =>
      obtain ⟨m,x,hm,h6⟩:=hkn.1 hq
      exact (hnj m x (by have:=(qr.1 hm).1;omega) hm h6).elim
    simp only [↓qe,qq,reduceIte,Nat.reduceEqDiff,w24,w41,ld _ fd,hald,q2,wi,reduceCtorEq,qu]
    exact ⟨_,_,next (fc1.trans fd fun _ q=>q.elim) hd,by simp only [↓qe,qq,reduceIte,Nat.reduceEqDiff],by omega⟩
  ·have hk':¬ (11<=(y.nd c).k/\(y.nd c).k<=15):=hk
   by_cases k1:11<=(y.nd c).k
   ·have k2:¬ (y.nd c).k<=15:=fun q=>hk' ⟨k1,q⟩
    simp only [↓qe,qq,reduceIte,Nat.reduceEqDiff,w7,w13,w41,hn.em fc |>.len,q1,e2,e3,e4,ld _ (Fr.refl H1),k1,k2,wi]
    exact ⟨_,_,next fc1 hd,by simp only [↓qe,qq,reduceIte,Nat.reduceEqDiff],by omega⟩
   ·simp only [↓qe,qq,reduceIte,Nat.reduceEqDiff,w7,w13,w41,hn.em fc |>.len,q1,e2,e3,e4,ld _ (Fr.refl H1),k1,wi]
    exact ⟨_,_,next fc1 hd,by simp only [↓qe,qq,reduceIte,Nat.reduceEqDiff],by omega⟩
 ·have q1:¬ (i:Int)<(t.length:Nat):=by omega
  simp only [↓qe,qq,reduceIte,Nat.reduceEqDiff,w7,w42,hn.em fc |>.len,q1]
  refine ⟨?_,fc⟩
  have:al.any It.deep1=false:=by
   rw [List.any_eq_false]
   intro y hy
   obtain ⟨m,hm⟩:=List.getElem?_of_mem hy
   rw [hno m y (by have:=(qr.1 hm).1;omega) hm];decide
  rw [this]
end Go.Am
namespace Go.Am
open Lang Go.Proofs
variable {M:Mac} [MK M]
abbrev frV (f:Frm):AV:=.agg [.int .i64 f.vars,.int .i64 f.base,.int .i64 f.many]
def Lang.Ls.code (p:Ls) (f:Frm):CW:=p.cmp f ⟨[],false⟩
def CompR (H:AHeap) (t:List Nd) (f:Frm) (v:AV) (H':AHeap):Prop:=Fr Em H H'/\(¬ (OkP t/\FrOk f)/\v=.tuple [.nils,.int .i64 2] \/
 ∃ p:Ls,t=p.encL 0/\p.ok/\p.sz+1<=2000/\OkP t/\FrOk f/\(((p.code f).d=true\/1024<(p.code f).l.length)/\v=.tuple [.nils,.int .i64 210] \/
  ((p.code f).d=false/\(p.code f).l.length<=1024) /\ ∃ lv,v=.tuple [lv,.int .i64 0]/\New encX jk 5 H H' lv (p.code f).l))
theorem qvg {H:AHeap} {tv:AV} {t:List Nd} (h:NdI H tv t) (f:Frm):yg M qcf [tv,frV f] H (CompR H t f):=by
 refine qr7 ?_
 obtain ⟨w0,w2,w10,w14,w22⟩:=qr8 M ⟨none,qcf⟩
 obtain ⟨H1,e1⟩:∃ X,X=H.alloc (OR [.int .i64 f.vars,.int .i64 f.base,.int .i64 f.many] qce):=⟨_,rfl⟩
 have f1:Fr Em H H1:=by rw [e1];exact (Fr.refl H).alloc _
 have n1:H1.next=H.next+1:=by rw [e1,x4]
 have g1:H1.get H.next=some (OR [.int .i64 f.vars,.int .i64 f.base,.int .i64 f.many] qce):=by rw [e1,xk]
 have ldf:∀ {Hx:AHeap},Fr Em H1 Hx->Op.loadN 3 [.ptr H.next 0] Hx=some (frV f):=fun fx=>by rw [qky (x8 (by rw [fx.keep _ (by omega) id];exact g1)) (by simp)];rfl
 simp only [↓qe,qq,reduceIte,Nat.reduceEqDiff,w0,qbx,<-e1,w2]
 refine C3.q (qqr (M:=M) (h.em f1)) fun v1 H2 ⟨f2,b,hv1,hb⟩=>?_
 subst hv1
 have f02:=f1.trans f2 fun _ q=>q.elim
 cases b with
 | false=>simp only [↓qe,qq,reduceIte,Nat.reduceEqDiff];exact ⟨f02,.inl ⟨fun q=>(by have:=hb.2 q.1;cases this),rfl⟩⟩
 | true =>
  have hok:=hb.1 rfl
  simp only [↓qe,qq,reduceIte,Nat.reduceEqDiff,ldf f2]
  refine C3.q (q3b (M:=M) f) fun v2 H3 ⟨f3,b2,hv2,hb2⟩=>?_
  subst hv2
  have f13:=f2.trans f3 fun _ q=>q.elim
  have f03:=f1.trans f13 fun _ q=>q.elim
  cases b2 with
  | false=>simp only [↓qe,qq,reduceIte,Nat.reduceEqDiff];exact ⟨f03,.inl ⟨fun q=>(by have:=hb2.2 q.2;cases this),rfl⟩⟩
  | true =>
   have hfr:=hb2.1 rfl
   have hok':=hok
   obtain ⟨p,hp,ho,hz,_⟩:=hok'
   have ot:tv.cells=[tv]:=by obtain ⟨zs,_,q,_⟩:=h.nd.ex;have:=q.one;cases tv<;>first|rfl|cases this
   have eb:Op.build [.nils,.int .i64 0,.int .i64 0,.int .i64 0,.nils,.bool false] [(0,1),(1,3)] [tv,frV f]=some (.agg [tv,.int .i64 f.vars,.int .i64 f.base,.int .i64 f.many,.nils,.bool false]):=by simp only [qyl,qqx,qtw,ot];rfl
   obtain ⟨H4,e4⟩:∃ X,X=H3.alloc (OR [tv,.int .i64 f.vars,.int .i64 f.base,.int .i64 f.many,.nils,.bool false] qe5):=⟨_,rfl⟩
   have f4:Fr Em H3 H4:=by rw [e4];exact (Fr.refl H3).alloc _
   have n4:H4.next=H3.next+1:=by rw [e4,x4]
   have g4:H4.get H3.next=some (OR [tv,.int .i64 f.vars,.int .i64 f.base,.int .i64 f.many,.nils,.bool false] qe5):=by rw [e4,xk]
   have f04:=f03.trans f4 fun _ q=>q.elim
   have hC:CSt H H4 H3.next tv .nils f ⟨[],false⟩:=⟨g4,by have:=f03.next;omega,by omega,⟨Own.nil _ _ _,f04,fun b hb=>(hb.1 rfl).elim⟩,fun q=>q.1 rfl⟩
   have hlen:t.length=p.sz+1:=by rw [hp,Ls.lenL]
   have wl:wrapI .i64 (((t.length:Nat):Int)-1)=((p.sz:Nat):Int):=by rw [xz (by omega) (by omega)];omega
   have hln:=h.nd.len
   have hgo:=qhb (M:=M) hfr.1 h.nd (by omega) p (qqd hfr.1 h.nd (by omega) p) H4 0 .nils ⟨[],false⟩ (by rw [hp];exact Seg.all _) ho (by simp only [qi];omega) hC
   rw [x9] at hgo
   simp only [↓qe,qq,reduceIte,Nat.reduceEqDiff,w10,ldf f13,eb,qbx,<-e4,hln,wl]
   refine C3.q hgo fun v5 H5 ⟨lv,h5,_⟩=>?_
   have hres:∀ {v:AV},(((p.code f).d=true\/1024<(p.code f).l.length)/\v=.tuple [.nils,.int .i64 210]\/((p.code f).d=false/\(p.code f).l.length<=1024) /\ ∃ lv,v=.tuple [lv,.int .i64 0]/\New encX jk 5 H H5 lv (p.code f).l)->CompR H t f v H5 :=
    fun q=>⟨h5.fr,.inr ⟨p,hp,ho,hz,hok,hfr,q⟩⟩
   have h5:CSt H H5 H3.next tv lv f (p.code f):=h5
   have l5:Op.load1 [.ptr H3.next 5] H5=some (.bool (p.code f).d):=h5.ld 5
   have l4:Op.load1 [.ptr H3.next 4] H5=some lv:=h5.ld 4
   cases hd:(p.code f).d with
   | true =>
    rw [hd] at l5
    simp only [↓qe,qq,reduceIte,Nat.reduceEqDiff,w14,xa,l5]
    exact hres (.inl ⟨.inl hd,rfl⟩)
   | false =>
    rw [hd] at l5
    by_cases hl:(1024:Int)<((p.code f).l.length:Nat)
    ·simp only [↓qe,qq,reduceIte,Nat.reduceEqDiff,w14,xa,l5,l4,h5.len,hl]
     exact hres (.inl ⟨.inr (by omega),rfl⟩)
    ·simp only [↓qe,qq,reduceIte,Nat.reduceEqDiff,w14,w22,xa,l5,l4,h5.len,hl]
     exact hres (.inr ⟨⟨hd,by omega⟩,lv,rfl,h5.nw⟩)
def NeedOk (t:List Nd) (n:Int):Prop:=OkP t/\0<=n/\n<(t.length:Nat) /\ ∀ x,t[n.toNat]? = some x->x.k<=10
theorem q4k {t:List Nd} {n:Int} (h:NeedOk t n):∃ (x:Ex) (c:Nat),Seg t c (x.enc c)/\x.sz<=100000/\n=((c+x.sz-1:Nat):Int):=by
 obtain ⟨hm,h0,h1,h2⟩:=h
 obtain ⟨p,rfl,ho,hz,_⟩:=hm
 obtain ⟨x,c,x1,x2,x3⟩:=Ls.sub ho (n:=n.toNat) (by omega)
 obtain ⟨hnd,_⟩:=Seg.nd x2
 have hlt:=Seg.lt x2
 have hk:=h2 (x.nd c) (by rw [x3];exact hnd)
 have ht:(p.encL 0).length<=2000:=by rw [Ls.lenL];omega
 cases x with
 | e x=>exact ⟨x,c,x2,by have:(It.e x).sz=x.sz:=rfl;omega,by have hq:n.toNat=c+x.sz-1:=x3;omega⟩
 | c x=>have h11:11<=x.k:=x1.1;simp only [It.nd,It.kn] at hk;omega
 | s x=>cases x<;>(simp only [It.nd,It.kn] at hk;omega)
 | l x=>simp only [It.nd,It.kn] at hk;omega
theorem q0z {H:AHeap} {tv:AV} {t:List Nd} {n:Int} (h:NdI H tv t) {x:Ex} {c:Nat} (hx:NeedOk t n->Seg t c (x.enc c)/\x.sz<=100000/\n=((c+x.sz-1:Nat):Int)) :
 yg M qds [tv,.int .i64 n] H fun v H'=>Fr Em H H'/\(¬ NeedOk t n/\v=.int .i64 0\/NeedOk t n/\v=.int .i64 (x.needs:Nat)):=by
 refine qvp ?_
 obtain ⟨w0,w2,w10⟩:=qvq M ⟨none,qds⟩
 simp only [↓qe,qq,reduceIte,Nat.reduceEqDiff,w0,w2]
 refine C3.q (qqr (M:=M) h) fun v1 H2 ⟨f2,b,hv1,hb⟩=>?_
 subst hv1
 have hln:=h.nd.len
 cases b with
 | false=>simp only [↓qe,qq,reduceIte,Nat.reduceEqDiff];exact ⟨f2,.inl (fun q=>by have:=hb.2 q.1;cases this)⟩
 | true =>
  have hok:=hb.1 rfl
  by_cases h1:n<0
  ·simp only [↓qe,qq,reduceIte,Nat.reduceEqDiff,h1];exact ⟨f2,.inl (fun q=>by have:=q.2.1;omega)⟩
  by_cases h2:((t.length:Nat):Int)<=n
  ·simp only [↓qe,qq,reduceIte,Nat.reduceEqDiff,h1,hln,h2];exact ⟨f2,.inl (fun q=>by have:=q.2.2.1;omega)⟩
  obtain ⟨i,rfl⟩:∃ i:Nat,n=(i:Int):=⟨n.toNat,by omega⟩
  obtain ⟨y,hy⟩:∃ y,t[i]? = some y:=⟨t[i]'(by omega),by simp⟩
  obtain ⟨ka,_,_,q1,_,q2,_⟩:=(h.em f2).nd.get hy
  by_cases h3:10<y.k
  ·simp only [↓qe,qq,reduceIte,Nat.reduceEqDiff,h1,hln,h2,q1,q2,h3];exact ⟨f2,.inl (fun q=>by have:=q.2.2.2 y (by rw [we];exact hy);omega)⟩
  have hno:NeedOk t (i:Int):=⟨hok,by omega,by omega,fun z hz=>by rw [we,hy] at hz;injection hz with hz;subst hz;omega⟩
  obtain ⟨hs,hz,hi⟩:=hx hno
  simp only [↓qe,qq,reduceIte,Nat.reduceEqDiff,h1,hln,h2,q1,q2,h3,w10]
  rw [hi]
  refine C3.q (qx5 (M:=M) h.nd x hs hz f2) fun v3 H3 ⟨hv3,f3⟩=>?_
  subst hv3
  simp only [↓qe,qq,reduceIte,Nat.reduceEqDiff]
  rw [<-hi]
  exact ⟨f2.trans f3 fun _ q=>q.elim,.inr hno⟩
theorem qth {H:AHeap} {tv:AV} {t:List Nd} {n:Int} (h:NdI H tv t) (ht:t.length<=140737488355328) (f:Frm):yg M wk [tv,frV f,.int .i64 n] H fun v' _=>v'=.bool true:=by
 refine qn0 ?_
 obtain ⟨w0,w2,w10,w14,w18,w20,w26,w34,w42,w50⟩:=qn1 M ⟨none,wk⟩
 obtain ⟨H1,e1⟩:∃ X,X=H.alloc (OR [.int .i64 f.vars,.int .i64 f.base,.int .i64 f.many] qce):=⟨_,rfl⟩
 have f1:Fr Em H H1:=by rw [e1];exact (Fr.refl H).alloc _
 have n1:H1.next=H.next+1:=by rw [e1,x4]
 have g1:H1.get H.next=some (OR [.int .i64 f.vars,.int .i64 f.base,.int .i64 f.many] qce):=by rw [e1,xk]
 have gx:∀ {Hx:AHeap},Fr Em H1 Hx->Hx.get H.next=some (OR [.int .i64 f.vars,.int .i64 f.base,.int .i64 f.many] qce):=fun fx=>by rw [fx.keep _ (by omega) id];exact g1
 have ldf:∀ {Hx:AHeap},Fr Em H1 Hx->Op.loadN 3 [.ptr H.next 0] Hx=some (frV f):=fun fx=>by rw [qky (x8 (gx fx)) (by simp)];rfl
 have ld1:∀ {Hx:AHeap} (o:Nat),Fr Em H1 Hx->Op.load1 [.ptr H.next o] Hx=[.int .i64 f.vars,.int .i64 f.base,.int .i64 f.many][o]?:=fun o fx=>qae (x8 (gx fx)) o
 have h1:=h.em f1
 simp only [↓qe,qq,reduceIte,Nat.reduceEqDiff,w0,qbx,<-e1,w2]
 refine C3.q (qv5 (M:=M) h1.nd ht) fun vg H1' ⟨⟨gq,hg⟩,hh⟩=>?_
 subst hg;subst hh
 cases gq with
 | true=>simp only [↓qe,qq,reduceIte,Nat.reduceEqDiff]
 | false =>
 simp only [↓qe,qq,reduceIte,Nat.reduceEqDiff,w10,ldf (Fr.refl H1')]
 refine C3.q (qvg (M:=M) h1 f) fun vc H2 ⟨f2,hc⟩=>?_
 obtain ⟨x,c,hx⟩:∃ (x:Ex) (c:Nat),NeedOk t n->Seg t c (x.enc c)/\x.sz<=100000/\n=((c+x.sz-1:Nat):Int):=by
  by_cases q:NeedOk t n
  ·obtain ⟨x,c,a1,a2,a3⟩:=q4k q
   exact ⟨x,c,fun _=>⟨a1,a2,a3⟩⟩
  ·exact ⟨.num 0,0,fun w=>(q w).elim⟩
 obtain ⟨lv,ee,hvc⟩:∃ lv ee,vc=.tuple [lv,.int .i64 ee]:=by
  rcases hc with ⟨_,q⟩|⟨p,_,_,_,_,_,⟨_,q⟩|⟨_,lv,q,_⟩⟩
  ·exact ⟨_,_,q⟩
  ·exact ⟨_,_,q⟩
  ·exact ⟨_,_,q⟩
 have hle:∀ {a:AV} {b:Int},vc=.tuple [a,.int .i64 b]->lv=a/\ee=b:=by
  intro a b q
  rw [hvc] at q
  simp only [AV.tuple.injEq,qt,AV.int.injEq,qf4,k9] at q
  exact q
 have nil0:Op.lenSl [.nils]=some (.int .i64 0):=rfl
 have t0:=zj (show (0:Int)=0 from rfl)
 rw [hvc]
 simp only [↓qe,qq,reduceIte,Nat.reduceEqDiff,x20,x21]
 refine C3.q (q0z (M:=M) (h1.em f2) hx) fun vn H3 ⟨f3,hn⟩=>?_
 have f13:=f2.trans f3 fun _ q=>q.elim
 obtain ⟨m,hm,hmn⟩:∃ m:Int,vn=.int .i64 m/\(¬ NeedOk t n/\m=0\/NeedOk t n/\m=(x.needs:Nat)):=by
  rcases hn with ⟨a,b⟩|⟨a,b⟩
  ·exact ⟨0,b,.inl ⟨a,rfl⟩⟩
  ·exact ⟨_,b,.inr ⟨a,rfl⟩⟩
 subst hm
 simp only [↓qe,qq,reduceIte,Nat.reduceEqDiff,w14]
 refine C3.q (qza (M:=M) (h1.em f13)) fun vv H4 ⟨f4,bv,hvv,hbv⟩=>?_
 subst hvv
 have f14:=f13.trans f4 fun _ q=>q.elim
 simp only [↓qe,qq,reduceIte,Nat.reduceEqDiff,ld1 _ f14]
 refine C3.q (qy8 (M:=M) f) fun vf H4' ⟨hh,bf,hvf,hbf⟩=>?_
 subst hvf;subst hh
 simp only [↓qe,qq,reduceIte,Nat.reduceEqDiff,w18]
 have h4:=h1.em f14
 have hln:=h4.nd.len
 -- the end
 have fin:∀ {Hx:AHeap} {E:Env},Fr Em H1' Hx->lk E 12=some (.int .i64 m)->lk E 11=some (.bool bf)->lk E 10=some (.bool bv)->lk E 9=some (.int .i64 m)->lk E 8=some (.int .i64 ee)->lk E 7=some lv->lk E 0=some tv ->
  W M ⟨none,wk⟩ (xf 26) true (FIN3 M [.tmp 6] (RT3 fun v' _=>v'=.bool true)) E [] Hx:=by
  intro Hx E fx r12 r11 r10 r9 r8 r7 r0
  simp only [↓qe,qq,reduceIte,Nat.reduceEqDiff,w26,r9,r12,eq_self,w34,r10]
  rcases hc with ⟨q,hq⟩|⟨p,hp,ho,hz,hok,hfr,hq⟩
  ·obtain ⟨rfl,rfl⟩:=hle hq
   have t2:=zj (show (2:Int)=2 from rfl)
   cases bv with
   | false=>simp only [↓qe,qq,reduceIte,Nat.reduceEqDiff,r8,r7,t2,nil0,t0]
   | true =>
    cases bf with
    | false=>simp only [↓qe,qq,reduceIte,Nat.reduceEqDiff,r11,r8,r7,t2,nil0,t0]
    | true=>exact (q ⟨hbv.1 rfl,hbf.1 rfl⟩).elim
  ·have b1:=hbv.2 hok
   have b2:=hbf.2 hfr
   subst b1;subst b2
   have t210:=zj (show (210:Int)=210 from rfl)
   have hx1:=h1.em fx
   simp only [↓qe,qq,reduceIte,Nat.reduceEqDiff,r11,w42,r0]
   rw [hp] at hx1
   refine C3.q (q17 (M:=M) hx1.nd ho (by omega)) fun vd H5 ⟨hvd,f5⟩=>?_
   subst hvd
   have hdd:(p.code f).d=(It.l p).all.any It.deep1:=by
    unfold Ls.code
    rw [Ls.cmp_d]
    simp only [It.all,vq,qbj,qb9,It.deep1,y9,Bool.false_or]
   have hcl:=p.cmp_len f ⟨[],false⟩
   have hln5:=((h1.em fx).em f5).nd.len
   have hlen:t.length=p.sz+1:=by rw [hp,Ls.lenL]
   rw [<-hdd]
   cases hd:(p.code f).d with
   | true =>
    rcases hq with ⟨_,hq⟩|⟨q,_⟩
    ·obtain ⟨rfl,rfl⟩:=hle hq
     simp only [↓qe,qq,reduceIte,Nat.reduceEqDiff,r8,r7,t210,nil0,t0]
    ·rw [hd] at q;exact absurd q.1 (by decide)
   | false =>
    rcases hq with ⟨q,hq⟩|⟨q,lv',hq,hnw⟩
    ·obtain ⟨rfl,rfl⟩:=hle hq
     have hl:1024<(p.code f).l.length:=q.elim (fun q=>by rw [hd] at q;cases q) id
     have hl':(p.code f).l.length<=4*p.sz:=by have:=hcl.2;simp only [qi] at this;unfold Ls.code;omega
     have t100:(100:Int)<(t.length:Nat):=by omega
     simp only [↓qe,qq,reduceIte,Nat.reduceEqDiff,w50,r8,r7,r0,t210,Int.reduceEq,nil0,t0,hln5,t100]
    ·obtain ⟨rfl,rfl⟩:=hle hq
     have hll:=hnw.sl.len
     have hl:((p.code f).l.length:Int)<=1024:=by omega
     simp only [↓qe,qq,reduceIte,Nat.reduceEqDiff,w50,r8,r7,r0,t0,hll,hl]
 have dne:∀ {Hx:AHeap},Fr Em H1' Hx -> ¬ NeedOk t n->W M ⟨none,wk⟩ (xf 26) true (FIN3 M [.tmp 6] (RT3 fun v' _=>v'=.bool true)) [(12,.int .i64 0),(11,.bool bf),(10,.bool bv),(9,.int .i64 m),(8,.int .i64 ee),(7,lv),(6,.bool false),(4,.ptr H.next 0),(0,tv),(1,frV f),(2,.int .i64 n)] [] Hx:=by
  intro Hx fx q
  have:m=0:=hmn.elim (fun w=>w.2) fun w=>(q w.1).elim
  subst this
  exact fin fx rfl rfl rfl rfl rfl rfl rfl
 cases hbb:bv with
 | false =>
  rw [hbb] at dne
  simp only [↓qe,qq,reduceIte,Nat.reduceEqDiff,w20]
  exact dne f14 fun q=>by have:=hbv.2 q.1;rw [hbb] at this;cases this
 | true =>
  have hok:=hbv.1 hbb
  rw [hbb] at dne fin
  by_cases p1:0<=n
  ·by_cases p2:n<((t.length:Nat):Int)
   ·obtain ⟨i,rfl⟩:∃ i:Nat,n=(i:Int):=⟨n.toNat,by omega⟩
    obtain ⟨y,hy⟩:∃ y,t[i]? = some y:=⟨t[i]'(by omega),by simp⟩
    obtain ⟨ka,_,_,q1,_,q2,_⟩:=h4.nd.get hy
    by_cases p3:y.k<=10
    ·have hno:NeedOk t (i:Int):=⟨hok,by omega,by omega,fun z hz=>by rw [we,hy] at hz;injection hz with hz;subst hz;exact p3⟩
     obtain ⟨hs,hxz,hi⟩:=hx hno
     have hm':m=(x.needs:Nat):=hmn.elim (fun w=>(w.1 hno).elim) fun w=>w.2
     subst hm'
     simp only [↓qe,qq,reduceIte,Nat.reduceEqDiff,w20,p1,p2,hln,q1,q2,p3]
     rw [hi]
     refine C3.q (qrw (M:=M) h4.nd x hs hxz (Fr.refl _)) fun v5 H5 ⟨hv5,f5⟩=>?_
     subst hv5
     simp only [↓qe,qq,reduceIte,Nat.reduceEqDiff]
     exact fin (f14.trans f5 fun _ q=>q.elim) rfl rfl rfl rfl rfl rfl rfl
    ·simp only [↓qe,qq,reduceIte,Nat.reduceEqDiff,w20,p1,p2,hln,q1,q2,p3]
     exact dne f14 fun q=>p3 (q.2.2.2 y (by rw [we];exact hy))
   ·simp only [↓qe,qq,reduceIte,Nat.reduceEqDiff,w20,p1,p2,hln]
    exact dne f14 fun q=>p2 q.2.2.1
  ·simp only [↓qe,qq,reduceIte,Nat.reduceEqDiff,w20,p1]
   exact dne f14 fun q=>p1 q.2.1
end Go.Am
