/- NmQ9: NiE NiF NiG. -/
import Derived.Test.YtiibohocdbaekaaAmQNmQ8
set_option linter.unusedVariables false
set_option linter.unusedSimpArgs false
set_option linter.unusedSectionVars false
set_option maxRecDepth 100000
namespace Go.Am
open Go.Proofs Ca
open Lang (ints)
variable {M:Mac} [MK M]
def MsB (H H':AHeap) (v:AV) (ms:List Mg):Prop:=(v=.nils/\ms=[]) \/ ∃ m a,v=Op.sliceTo 1 1 a/\ms=[m]/\H.next<=a/\a<H'.next/\H'.get a=some (OR (encM m) xm)
theorem MsB.ms {H H':AHeap} {v:AV} {ms:List Mg} (h:MsB H H' v ms):MsR H H' v ms:=by
 rcases h with ⟨rfl,rfl⟩|⟨m,a,rfl,rfl,h1,h2,h3⟩
 ·exact MsR.nil ..
 ·exact ⟨RowT.sl (e:=xm) qan ⟨a,rfl,h2,by rw [h3];simp⟩,fun _=>h1⟩
theorem MsB.one {H H0:AHeap} (m:Mg) (h:H0.next<=H.next):MsB H0 (H.alloc (OR (encM m) xm)) (Op.sliceTo 1 1 H.next) [m]:=.inr ⟨m,H.next,rfl,rfl,h,by rw [za];omega,xg ..⟩
section
variable {H0 H:AHeap} {r b:Nat} {sv bv:AV} {n:No} {ks:List Nat}
theorem NoR.newBk (h:NoR H0 H r b sv bv n ks) {bv':AV} {ks':List Nat} {H1:AHeap} (hs:Stk T_int H0 H1 bv' ks') (f:Fr (OnS bv) H H1) (hf:∀ x,OnS bv' x->OnS bv x\/H.next<=x) :
 ∃ H2,Op.store 1 [.ptr r 14,bv'] H1=some (.undef,H2)/\NoR H0 H2 r b sv bv' { n with backs:=ints ks' } ks'/\Fr (NoW r b sv bv) H H2:=by
 have hlb:=h.ca.lt
 have hls:slB sv<H.next:=h.ca.sl.lt
 have a1:∀ x,x<H.next -> ¬ OnS bv x -> ¬ OnS bv' x:=fun x h1 h2 q=>(hf x q).elim h2 fun w=>by omega
 have g1:H1.get r=some (OR (noC n b bv) qhf):=by rw [f.keep _ h.lt h.o1];exact h.row
 have o1:oneCell bv'=true:=by have:=Sl.one hs.sl;exact this
 have hu:AV.cells bv'=[bv']:=by
  rcases hs.own with ⟨rfl,_⟩|⟨b,m,rest,rfl,_⟩<;>rfl
 have st:=qf7 g1 (o:=14) (n:=1) (v:=bv') (by rw [hu];rfl) (by rw [(qpg n b bv).2.2.2.2.2.2.2.2];decide) (by rw [hu];simp [qgo,o1])
 have e:(noC n b bv).take 14++AV.cells bv'++(noC n b bv).drop (14+1)=noC n b bv':=by
  rw [hu]
  obtain ⟨core,lines,c,⟨k,co,l,⟨d,hd⟩⟩,backs,live,code⟩:=n
  match d,hd with
  | [d0,d1,d2,d3,d4,d5,d6,d7],_=>rfl
 rw [e] at st
 have f2:Fr (On r) H1 (H1.set r (OR (noC n b bv') qhf)):=(Fr.refl H1).set (W:=On r) (.inl rfl) _
 have fn:=f.next
 refine ⟨_,st,⟨xj ..,ql h.lt fn,(h.ca.fr f h.o2 h.o3).fr f2 (fun (q:b=r)=>h.n1 q.symm) (fun (q:slB sv=r)=>h.n2 q.symm),hs.frW f2 (hs.fr.set (.inr h.lr) _) (fun x hx (q:x=r)=>a1 r h.lt h.o1 (q ▸ hx)),rfl,h.lr,h.lb,h.ls,h.n1,h.n2,a1 _ h.lt h.o1,a1 _ hlb h.o2,a1 _ hls h.o3,h.li,h.len⟩,?_⟩
 exact (f.mono fun _ _ q=>.inr (.inr q)).trans f2 fun x q=>.inl (.inl q)
theorem ints_add (ks:List Nat) (x:Nat):ints (ks ++ [x])=ints ks ++ [(x:Int)]:=by simp [ints]
theorem bdD (m:Mg) (d:L8):(encM m).take 3++(AV.agg (enL d)).cells++(encM m).drop (3+8)=encM { m with d:=d }:=by
 obtain ⟨k,co,l,⟨e,he⟩⟩:=m
 obtain ⟨d,hd⟩:=d
 match e,he,d,hd with
 | [d0,d1,d2,d3,d4,d5,d6,d7],_,[e0,e1,e2,e3,e4,e5,e6,e7],_=>rfl
theorem q2g (x:En):((encE x).drop 4).take 8=enL x.d:=by
 obtain ⟨line,st,r,w,⟨d,hd⟩,⟨o,ho⟩,u⟩:=x
 match d,hd,o,ho with
 | [d0,d1,d2,d3,d4,d5,d6,d7],_,[e0,e1,e2,e3,e4,e5,e6,e7],_=>rfl
def GoneR (H0 H:AHeap) (r b:Nat) (sv bv:AV) (a:No × List Mg) (v:AV) (H':AHeap):Prop:=MsB H H' v a.2/\NoT H0 H r b sv bv a.1 H'
theorem qzi (h:NoR H0 H r b sv bv n ks) (hk:n.backs.length<=900000) (x:En) (hx:0<=x.line):yf M qbp [.ptr r 0,.agg (encE x)] H (GoneR H0 H r b sv bv (n.gone x)):=by
 refine qsc ?_
 obtain ⟨w0,w2,w10⟩:=qsd M ⟨none,qbp⟩
 obtain ⟨H1,e1⟩:∃ X,X=H.alloc (OR (encE x) qk):=⟨_,rfl⟩
 have f1:Fr Em H H1:=by rw [e1];exact (Fr.refl H).alloc _
 have g1:H1.get H.next=some (OR (encE x) qk):=by rw [e1,xg]
 have l0:Op.load1 [.ptr H.next 0] H1=some (.int .i64 x.line):=zw (xd g1) 0
 have l1:Op.load1 [.ptr H.next 1] H1=some (.int .i64 x.st):=zw (xd g1) 1
 have h1:=h.em f1
 have n1:H.next<H1.next:=by rw [e1,za];omega
 by_cases q:x.st=2
 case neg =>
  have ea:n.gone x=(n,[]):=by unfold No.gone;rw [qo q]
  rw [ea]
  simp only [↓qj,xh,reduceIte,Nat.reduceEqDiff,w0,xx,<-e1,w2,l1,q]
  exact ⟨.inl ⟨rfl,rfl⟩,h.same f1⟩
 have ea:n.gone x=({ n with backs:=n.backs ++ [x.line] },[⟨3,n.core,x.line,x.d⟩]):=by unfold No.gone;rw [xc q]
 rw [ea]
 obtain ⟨ln,hln⟩:=ji hx
 rw [hln] at l0
 simp only [↓qj,xh,reduceIte,Nat.reduceEqDiff,w0,xx,<-e1,w2,l1,ja q,w10,qn,h1.l14,l0]
 have hkl:=h.kl
 refine h1.bk.push (x:=ln) rfl (by omega) (by omega) fun bv' H2 hs f2 hf2=>?_
 obtain ⟨H3,s3,h3,f3⟩:=h1.newBk hs f2 hf2
 have k3:H3.get H.next=some (OR (encE x) qk):=by
  rw [f3.keep _ n1 ?_];exact g1
  rintro (q|q|q)
  ·have:=h.lt;omega
  ·have h4:=h.ca.lt
   have h5:slB sv<H.next:=h.ca.sl.lt
   exact q.elim (fun q=>by omega) fun q=>by omega
  ·have:=h.bk.fresh _ q;omega
 have n3:H.next<H3.next:=by have:=f3.next;omega
 have l0:Op.load1 [.ptr H.next 0] H3=some (.int .i64 (ln:Int)):=by rw [<-hln];exact zw (xd k3) 0
 simp only [↓qj,xh,reduceIte,Nat.reduceEqDiff,qn,s3,l0]
 refine C3.q (qh0 (M:=M) h3 3 (ln:Int)) fun v H4 ⟨hv,f4⟩=>?_
 rw [hv]
 have k4:H4.get H.next=some (OR (encE x) qk):=by rw [f4.keep _ n3 id];exact k3
 obtain ⟨m,hm⟩:∃ m,m=No.msg { n with backs:=ints (ks ++ [ln]) } 3 (ln:Int):=⟨_,rfl⟩
 have hme:({ m with d:=x.d }:Mg)=⟨3,n.core,x.line,x.d⟩:=by rw [hm,hln];rfl
 rw [<-hm]
 have s5:=stN (xg H4 (OR (encM ⟨0,0,0,.zero⟩) xm)) (qan _) (qan m) (qnq _)
 obtain ⟨H5,e5⟩:∃ X,X=(H4.alloc (OR (encM ⟨0,0,0,.zero⟩) xm)).set H4.next (OR (encM m) xm):=⟨_,rfl⟩
 rw [<-e5] at s5
 have f5:Fr Em H4 H5:=by rw [e5];exact qls _ _
 have g5:H5.get H4.next=some (OR (encM m) xm):=by rw [e5,xj]
 have n4:H.next<H4.next:=by have:=f4.next;omega
 have k5:H5.get H.next=some (OR (encE x) qk):=by rw [f5.keep _ n4 id];exact k4
 have ld5:Op.loadN 8 [.ptr H.next 4] H5=some (.agg (enL x.d)):=by rw [qhz (xd k5) (by rw [x9];decide),q2g]
 have s6:=qf7 g5 (o:=3) (n:=8) (v:=.agg (enL x.d)) (by rw [xx];exact qez _) (by rw [qan];decide) (by rw [xx];exact qmo _)
 rw [bdD,hme] at s6
 have ld6:=ldN (xj H5 H4.next (OR (encM ⟨3,n.core,x.line,x.d⟩) xm)) (qan _)
 simp only [↓qj,xh,reduceIte,Nat.reduceEqDiff,mZ,s5,ld5,s6,ld6,bsM]
 have n5:H5.next=H4.next+1:=by rw [e5];rfl
 have f6:Fr Em H4 (H5.set H4.next (OR (encM ⟨3,n.core,x.line,x.d⟩) xm)):=f5.set (.inr (qe _)) _
 refine ⟨MsB.one _ (by rw [qpq];omega),bv',ks ++ [ln],?_,?_,?_⟩
 ·have e:({ n with backs:=ints (ks ++ [ln]) }:No) = { n with backs:=n.backs ++ [x.line] }:=by rw [ints_add,hln,h.eq]
  rw [<-e]
  exact (h3.em (f4.trans f6 fun _ q=>q.elim)).em ((Fr.refl _).alloc _)
 ·exact ((fwE f1).trans f3 fun x q=>.inl q).em ((f4.trans f6 fun _ q=>q.elim).alloc _)
 ·exact fun y hy=>(hf2 y hy).imp id fun w=>by omega
end
end Go.Am
namespace Go.Am
open Go.Proofs Ca
open Lang (ints)
variable {M:Mac} [MK M]
theorem eqTreeP (off:Nat) (n:Option Nat) (t rest:EqTree) (x y:List AV):eqTree (.part off n t rest) (.agg x) (.agg y)=(partAt x off n).bind fun a=>(partAt y off n).bind fun b=>(eqTree t a b).bind fun q=>cond q (eqTree rest (.agg x) (.agg y)) (some false):=rfl
theorem qws (x:List AV) (k:Nat):partAt x k none=nth x k:=rfl
theorem eqPart {k:Nat} {t:EqTree} {l l':List AV} {K:IntKind} {a b:Int} {P:Prop} [Decidable P] (h:nth l k=some (.int K a)) (h':nth l' k=some (.int K b)) (hp:eqTree t (.agg l) (.agg l')=some (decide P)) :
 eqTree (.part k none .int t) (.agg l) (.agg l')=some (decide (a=b/\P)):=by
 have q:eqTree .int (.int K a) (.int K b)=some (decide (a=b)):=by
  have e:eqK K K=true:=by cases K<;>rfl
  simp only [eqTree,qkh,e,qz];rfl
 rw [eqTreeP,qws,qws,h,h',qf,qf,q,qf,hp]
 by_cases e:a=b
 ·simp [e]
 ·simp [e]
abbrev L8T:EqTree:=.part 0 none .int (.part 1 none .int (.part 2 none .int (.part 3 none .int (.part 4 none .int (.part 5 none .int (.part 6 none .int (.part 7 none .int .nil)))))))
theorem eqL (d e:L8):eqTree L8T (.agg (enL d)) (.agg (enL e))=some (decide (d=e)):=by
 obtain ⟨d,hd⟩:=d
 obtain ⟨e,he⟩:=e
 match d,hd,e,he with
 | [d0,d1,d2,d3,d4,d5,d6,d7],_,[e0,e1,e2,e3,e4,e5,e6,e7],_ =>
  rw [eqPart (P:=d1=e1/\d2=e2/\d3=e3/\d4=e4/\d5=e5/\d6=e6/\d7=e7/\True) (a:=d0) (b:=e0) (K:=.u64) rfl rfl (eqPart rfl rfl (eqPart rfl rfl (eqPart rfl rfl (eqPart rfl rfl (eqPart rfl rfl (eqPart rfl rfl (eqPart rfl rfl rfl)))))))]
  congr 1
  exact decide_eq_decide.2 ⟨fun q=>by obtain ⟨a0,a1,a2,a3,a4,a5,a6,a7,-⟩:=q;subst a0 a1 a2 a3 a4 a5 a6 a7;rfl,fun q=>by
   have q:=congrArg L8.l q
   injection q with q0 q;injection q with q1 q;injection q with q2 q;injection q with q3 q;injection q with q4 q;injection q with q5 q;injection q with q6 q;injection q with q7 q
   exact ⟨q0,q1,q2,q3,q4,q5,q6,q7,trivial⟩⟩
abbrev MgT:EqTree:=.part 0 none .int (.part 1 none .int (.part 2 none .int (.part 3 (some 8) L8T .nil)))
theorem eqM (m m':Mg):eqTree MgT (.agg (encM m)) (.agg (encM m'))=some (decide (m=m')):=by
 have e3:eqTree (.part 3 (some 8) L8T .nil) (.agg (encM m)) (.agg (encM m'))=some (decide (m.d=m'.d)):=by
  have p:∀ x:Mg,partAt (encM x) 3 (some 8)=some (.agg (enL x.d)):=fun x=>by
   obtain ⟨k,co,l,⟨d,hd⟩⟩:=x
   match d,hd with
   | [d0,d1,d2,d3,d4,d5,d6,d7],_=>rfl
  rw [eqTreeP,p,p,qf,qf,eqL,qf]
  cases decide (m.d=m'.d)<;>rfl
 rw [eqPart (P:=m.core=m'.core/\m.line=m'.line/\m.d=m'.d) (a:=m.k) (b:=m'.k) (K:=.i64) rfl rfl (eqPart rfl rfl (eqPart rfl rfl e3))]
 congr 1
 refine decide_eq_decide.2 ⟨fun q=>?_,fun q=>by rw [q];exact ⟨rfl,rfl,rfl,rfl⟩⟩
 obtain ⟨a,b,c,d⟩:=q
 cases m;cases m';simp only at a b c d;subst a b c d;rfl
theorem eqMg (m m':Mg) (H:AHeap):Op.eq (.agg MgT) false [.agg (encM m),.agg (encM m')] H=some (.bool (decide (m=m'))):=eqTy_agg' _ _ _ _ _ (eqM m m')
section
variable {H0 H:AHeap} {r b:Nat} {sv bv:AV} {n:No} {ks:List Nat}
theorem qzt (h:NoR H0 H r b sv bv n ks) (hk:n.backs.length<=900000) (m:Mg) (x:En):yf M qar [.ptr r 0,.agg (encM m),.agg (encE x)] H fun v H'=>v=.bool (decide (n.hears m x))/\Fr Em H H':=by
 refine qoo ?_
 obtain ⟨w0,w2,w41,w12,w18,w28⟩:=qop M ⟨none,qar⟩
 obtain ⟨H1,e1⟩:∃ X,X=H.alloc (OR (encM m) xm):=⟨_,rfl⟩
 obtain ⟨H2,e2⟩:∃ X,X=H1.alloc (OR (encE x) qk):=⟨_,rfl⟩
 have f1:Fr Em H H1:=by rw [e1];exact (Fr.refl H).alloc _
 have f12:Fr Em H1 H2:=by rw [e2];exact (Fr.refl H1).alloc _
 have f2:Fr Em H H2:=f1.trans f12 fun _ q=>q.elim
 have n1:H1.next=H.next+1:=by rw [e1,za]
 have g1:H2.get H.next=some (OR (encM m) xm):=by rw [f12.keep _ (by omega) id,e1,xg]
 have g2:H2.get H1.next=some (OR (encE x) qk):=by rw [e2,xg]
 have lk0:Op.load1 [.ptr H.next 0] H2=some (.int .i64 m.k):=zw (xd g1) 0
 have lk2:Op.load1 [.ptr H.next 2] H2=some (.int .i64 m.line):=zw (xd g1) 2
 have ls:Op.load1 [.ptr H1.next 1] H2=some (.int .i64 x.st):=zw (xd g2) 1
 have h2:=h.em f2
 have d:∀ (P Q:Prop) [Decidable P] [Decidable Q],(P ↔ Q)->AV.bool (decide P)=.bool (decide Q):=fun P Q _ _ q=>by congr 1;exact decide_eq_decide.2 q
 by_cases k11:m.k=11
 ·simp only [↓qj,xh,reduceIte,Nat.reduceEqDiff,w0,xx,<-e1,<-e2,w2,lk0,ja k11,ls]
  exact ⟨by congr 1;simp [No.hears,k11],f2⟩
 by_cases k12:m.k=12
 ·simp only [↓qj,xh,reduceIte,Nat.reduceEqDiff,w0,xx,<-e1,<-e2,w2,lk0,k11,ls,w12,ja k12,w18]
  exact ⟨by congr 1;simp [No.hears,k12],f2⟩
 by_cases k13:m.k=13
 ·simp only [↓qj,xh,reduceIte,Nat.reduceEqDiff,w0,xx,<-e1,<-e2,w2,lk0,k11,ls,w12,k12,ja k13,w18]
  exact ⟨by congr 1;simp [No.hears,k13],f2⟩
 by_cases k14:m.k=14
 ·simp only [↓qj,xh,reduceIte,Nat.reduceEqDiff,w0,xx,<-e1,<-e2,w2,lk0,k11,ls,w12,k12,k13,w18,ja k14,qn,h2.lo,lk2]
  refine C3.q (qh0 (M:=M) h2 1 m.line) fun v H3 ⟨hv,f3⟩=>?_
  rw [hv]
  simp only [↓qj,xh,reduceIte,Nat.reduceEqDiff,(h2.em f3).lo,qw5,eqMg]
  exact ⟨by congr 1;simp [No.hears,k14],f2.trans f3 fun _ q=>q.elim⟩
 by_cases k15:m.k=15
 ·simp only [↓qj,xh,reduceIte,Nat.reduceEqDiff,w0,xx,<-e1,<-e2,w2,lk0,k11,ls,w12,k12,k13,w18,k14,w28,ja k15,qn,h2.lo,lk2]
  refine C3.q (qh0 (M:=M) h2 2 m.line) fun v H3 ⟨hv,f3⟩=>?_
  rw [hv]
  simp only [↓qj,xh,reduceIte,Nat.reduceEqDiff,(h2.em f3).lo,qw5,eqMg]
  exact ⟨by congr 1;simp [No.hears,k15],f2.trans f3 fun _ q=>q.elim⟩
 by_cases k16:m.k=16
 ·have hkl:=h.kl
  simp only [↓qj,xh,reduceIte,Nat.reduceEqDiff,w0,xx,<-e1,<-e2,w2,lk0,k11,ls,w12,k12,k13,w18,k14,w28,k15,ja k16,qn,h2.l14,lk2]
  refine C3.q (qo1 (M:=M) h2.bk.sl (by omega) m.line) fun v H3 ⟨hv,hh⟩=>?_
  rw [hv,hh]
  simp only [↓qj,xh,reduceIte,Nat.reduceEqDiff]
  exact ⟨by congr 1;simp [No.hears,k16,h.eq],f2⟩
 ·simp only [↓qj,xh,reduceIte,Nat.reduceEqDiff,w0,xx,<-e1,<-e2,w2,lk0,k11,ls,w12,k12,k13,w18,k14,w28,k15,k16,w41]
  exact ⟨by congr 1;simp [No.hears,k11,k12,k13,k14,k15,k16],f2⟩
theorem q09 (c:Ca) (line st:Int) (d:L8):(c.fill line st d).1.sl.length=c.sl.length/\((c.fill line st d).1.us=c.us\/(c.fill line st d).1.us=c.us+1):=by
 unfold Ca.fill
 cases c.pos line with
 | some i=>exact ⟨rfl,.inl rfl⟩
 | none =>
  cases c.room line with
  | none=>exact ⟨rfl,.inl rfl⟩
  | some i=>exact ⟨qt,.inr rfl⟩
theorem fill_old {lines line st:Int} {c:Ca} {d:L8} (h:CI lines c) (hs:(c.fill line st d).2.1.st ≠ 0):0<=(c.fill line st d).2.1.line:=by
 unfold Ca.fill at hs ⊢
 cases hp:c.pos line with
 | some i=>rw [hp] at hs;exact absurd rfl hs
 | none =>
  rw [hp] at hs
  cases hr:c.room line with
  | none=>rw [hr] at hs;exact absurd rfl hs
  | some i =>
   rw [hr] at hs
   have hs:(c.en i).st ≠ 0:=hs
   show 0<=(c.en i).line
   rcases z8 i c.sl.length with q|q
   ·exact (h.ok i q hs).2.1
   ·rw [qo4 q] at hs;exact absurd rfl hs
theorem fill_22 {line st:Int} {c:Ca} {d:L8} (h:(c.fill line st d).2.2=22):(c.fill line st d).1=c:=by
 unfold Ca.fill at h ⊢
 cases hp:c.pos line with
 | some i=>rfl
 | none =>
  rw [hp] at h
  cases hr:c.room line with
  | none=>rfl
  | some i=>rw [hr] at h;exact absurd h (show ¬ (0:Int)=22 by decide)
theorem MsB.from {H H1 H':AHeap} {v:AV} {ms:List Mg} (h:MsB H1 H' v ms) (f:H.next<=H1.next):MsB H H' v ms:=by
 rcases h with q|⟨m,a,h1,h2,h3,h4,h5⟩
 ·exact .inl q
 ·exact .inr ⟨m,a,h1,h2,zn f h3,h4,h5⟩
theorem NoT.from {n':No} {H1 H':AHeap} (f:Fr (NoW r b sv bv) H H1) (h:NoT H0 H1 r b sv bv n' H'):NoT H0 H r b sv bv n' H':=by
 obtain ⟨bv',ks',h1,h2,h3⟩:=h
 have fn:=f.next
 exact ⟨bv',ks',h1,fwT f h2,fun x q=>(h3 x q).imp id fun w=>by omega⟩
theorem NoT.em {n':No} {H1 H':AHeap} (h:NoT H0 H r b sv bv n' H1) (f:Fr Em H1 H'):NoT H0 H r b sv bv n' H':=by
 obtain ⟨bv',ks',h1,h2,h3⟩:=h
 exact ⟨bv',ks',h1.em f,h2.em f,h3⟩
theorem NoR.off {W:Nat->Prop} {H':AHeap} (h:NoR H0 H r b sv bv n ks) (f:Fr W H H') (hw:∀ x,W x->H0.next<=x /\ ¬ NoW r b sv bv x):NoR H0 H' r b sv bv n ks :=
 ⟨by rw [f.keep _ h.lt fun q=>(hw _ q).2 (.inl rfl)];exact h.row,ql h.lt f.next,h.ca.fr f (fun q=>(hw _ q).2 (.inr (.inl (.inl rfl)))) (fun q=>(hw _ q).2 (.inr (.inl (.inr rfl)))),h.bk.frW f (h.bk.fr.trans f fun x q=>.inr (hw x q).1) (fun x hx q=>(hw x q).2 (.inr (.inr hx))),h.eq,h.lr,h.lb,h.ls,h.n1,h.n2,h.o1,h.o2,h.o3,h.li,h.len⟩
theorem GoneR.from {a:No × List Mg} {H1 H':AHeap} {v:AV} (f:Fr (NoW r b sv bv) H H1) (h:GoneR H0 H1 r b sv bv a v H'):GoneR H0 H r b sv bv a v H':=⟨h.1.from f.next,h.2.from f⟩
theorem q38 (h:NoR H0 H r b sv bv n ks) (hci:CI n.lines n.c) (hk:n.backs.length<=900000) (hu:n.c.us+1<=1000000) (m:Mg) (hm:0<=m.line):yf M qam [.ptr r 0,.agg (encM m)] H (GoneR H0 H r b sv bv (n.fill m)):=by
 refine qr9 ?_
 obtain ⟨w0,w4,w10,w12,w20,w28⟩:=qsa M ⟨none,qam⟩
 obtain ⟨H1,e1⟩:∃ X,X=H.alloc (OR (encM m) xm):=⟨_,rfl⟩
 have f1:Fr Em H H1:=by rw [e1];exact (Fr.refl H).alloc _
 have n1:H1.next=H.next+1:=by rw [e1,za]
 have g1:H1.get H.next=some (OR (encM m) xm):=by rw [e1,xg]
 have lk0:Op.load1 [.ptr H.next 0] H1=some (.int .i64 m.k):=zw (xd g1) 0
 have h1:=h.em f1
 have hlr:=h.lt
 have hlb:=h.ca.lt
 have hls:slB sv<H.next:=h.ca.sl.lt
 have hbf:=h.bk.fresh
 have off:∀ y,H.next<=y -> ¬ NoW r b sv bv y:=fun y hy q=>by
  rcases q with q|q|q
  ·omega
  ·exact q.elim (fun q=>by omega) fun q=>by omega
  ·have:=hbf _ q;omega
 -- the line's words
 have ldd:∀ {Hx:AHeap},Hx.get H.next=some (OR (encM m) xm)->Op.loadN 8 [.ptr H.next 3] Hx=some (.agg (enL m.d)):=fun g=>by
  rw [qhz (xd g) (by rw [qan];decide)]
  obtain ⟨k,co,l,⟨d,hd⟩⟩:=m
  match d,hd with
  | [d0,d1,d2,d3,d4,d5,d6,d7],_=>rfl
 have ldl:∀ {Hx:AHeap},Hx.get H.next=some (OR (encM m) xm)->Op.load1 [.ptr H.next 2] Hx=some (.int .i64 m.line):=fun g=>zw (xd g) 2
 -- what goes is told
 have fin:∀ {n':No} {st:Int} {Hc:AHeap} {t:Nat},NoR H0 Hc r b sv bv { n' with c:=(n'.c.fill m.line st m.d).1 } ks->CI n'.lines n'.c->n'.backs=n.backs->Fr (NoW r b sv bv) H Hc->Hc.get t=some (OR (encE (n'.c.fill m.line st m.d).2.1) qk)->n.fill m=n'.fillE m st ->
  ∀ {E:Env},lk E 0=some (.ptr r 0)->lk E 6=some (.ptr t 0)->lk E 4=some .nils->lk E 7=some (.bool (decide ((n'.c.fill m.line st m.d).2.2=0/\(n'.c.fill m.line st m.d).2.1.st ≠ 0))) ->
  W M ⟨none,qam⟩ (jp 20) true (FIN3 M [.tmp 4] (RT3 (GoneR H0 H r b sv bv (n.fill m)))) E [] Hc:=by
  intro n' st Hc t hc hci' hb hf hg hn E q0 q6 q4 q7
  rw [hn]
  unfold No.fillE
  by_cases q:(n'.c.fill m.line st m.d).2.2=0/\(n'.c.fill m.line st m.d).2.1.st ≠ 0
  ·have e7:lk E 7=some (.bool true):=by rw [q7,qew q]
   rw [xc q]
   have ld:=ldN (n:=21) hg (x9 _)
   simp only [↓qj,xh,reduceIte,Nat.reduceEqDiff,w20,e7,w28,q0,q6,ld]
   refine C3.q (qzi (M:=M) hc (by show n'.backs.length<=_;rw [hb];exact hk) _ (fill_old hci' q.2)) fun v H2 h2=>?_
   simp only [↓qj,xh,reduceIte,Nat.reduceEqDiff]
   exact h2.from hf
  ·have e7:lk E 7=some (.bool false):=by rw [q7,qe7 q]
   rw [qo q]
   simp only [↓qj,xh,reduceIte,Nat.reduceEqDiff,w20,e7,q4]
   exact ⟨.inl ⟨rfl,rfl⟩,NoT.of hc hf⟩
 -- put in
 have main:∀ {st:Int},st=1\/st=2->n.fill m=n.fillS m st -> ∀ {E:Env},lk E 0=some (.ptr r 0)->lk E 3=some (.ptr H.next 0)->lk E 4=some .nils->lk E 5=some (.int .i64 st)->W M ⟨none,qam⟩ (jp 10) true (FIN3 M [.tmp 4] (RT3 (GoneR H0 H r b sv bv (n.fill m)))) E [] H1:=by
  intro st hst hn E q0 q3 q4 q5
  simp only [↓qj,xh,reduceIte,Nat.reduceEqDiff,w10,q0,q3,q5,qn,h1.l2,ldl g1,ldd g1]
  refine C3.q (qzd (M:=M) h1.ca hci hu hm hst m.d) fun v H2 ⟨hv,h2,f2⟩=>?_
  rw [hv]
  unfold fillV
  have k2:H2.get H.next=some (OR (encM m) xm):=by rw [f2.keep _ (by omega) (fun q=>q.elim (fun q=>by omega) fun q=>by omega)];exact g1
  have n2:=f2.next
  have hn2:=h1.putCa h2 f2 (by rw [(q09 ..).1];exact h.len)
  obtain ⟨H3,e3⟩:∃ X,X=(H2.alloc (OR (encE .zero) qk)).set H2.next (OR (encE (n.c.fill m.line st m.d).2.1) qk):=⟨_,rfl⟩
  have f3:Fr Em H2 H3:=by rw [e3];exact qls _ _
  have g3:H3.get H2.next=some (OR (encE (n.c.fill m.line st m.d).2.1) qk):=by rw [e3,xj]
  have n3:H3.next=H2.next+1:=by rw [e3];rfl
  have k3:H3.get H.next=some (OR (encM m) xm):=by rw [f3.keep _ (by omega) id];exact k2
  have hn3:=hn2.em f3
  have f03:Fr (NoW r b sv bv) H H3:=fwT (fwT (fwE f1) (fwC f2)) (fwE f3)
  by_cases q:(n.c.fill m.line st m.d).2.2=22
  case neg =>
   have hn':n.fill m=n.fillE m st:=by rw [hn];unfold No.fillS;rw [qo q]
   simp only [↓qj,xh,reduceIte,Nat.reduceEqDiff,xa,eZ,box_E,<-e3,w12,q]
   exact fin hn3 hci rfl f03 g3 hn' q0 rfl q4 rfl
  ·have hn':n.fill m=(n.abt 3).fillE m st:=by rw [hn];unfold No.fillS;rw [xc q]
   have ec:({ n with c:=(n.c.fill m.line st m.d).1 }:No)=n:=by rw [fill_22 q]
   rw [ec] at hn3
   simp only [↓qj,xh,reduceIte,Nat.reduceEqDiff,xa,eZ,box_E,<-e3,w12,ja q,q0]
   refine C3.q (qfd (M:=M) hn3 3) fun _ H4 ⟨h4,f4⟩=>?_
   have k4:H4.get H.next=some (OR (encM m) xm):=by rw [f4.keep _ (by omega) (off _ (qe _))];exact k3
   have g4:H4.get H2.next=some (OR (encE (n.c.fill m.line st m.d).2.1) qk):=by rw [f4.keep _ (by omega) (off _ (by omega))];exact g3
   have n4:=f4.next
   simp only [↓qj,xh,reduceIte,Nat.reduceEqDiff,q0,q3,q5,qn,h4.l2,ldl k4,ldd k4]
   have hci4:CI n.lines (n.abt 3).c:=hci.discard
   refine C3.q (qzd (M:=M) h4.ca hci4 hu hm hst m.d) fun v H5 ⟨hv,h5,f5⟩=>?_
   rw [hv]
   unfold fillV
   have g5:H5.get H2.next=some (OR (encE (n.c.fill m.line st m.d).2.1) qk):=by rw [f5.keep _ (by omega) (fun q=>q.elim (fun q=>by omega) fun q=>by omega)];exact g4
   have s6:=stN g5 (x9 _) (x9 ((n.abt 3).c.fill m.line st m.d).2.1) (qdp _)
   have hn5:=h4.putCa h5 f5 (by rw [(q09 ..).1];exact h4.len)
   have f6:Fr (On H2.next) H5 (H5.set H2.next (OR (encE ((n.abt 3).c.fill m.line st m.d).2.1) qk)):=(Fr.refl H5).set (W:=On H2.next) (.inl rfl) _
   simp only [↓qj,xh,reduceIte,Nat.reduceEqDiff,xa,s6]
   refine fin (n':=n.abt 3) (t:=H2.next) ?_ hci4 rfl ?_ (xj ..) hn' q0 rfl q4 rfl
   ·exact hn5.off f6 (fun x (hx:x=H2.next)=>by rw [hx];exact ⟨by have:=h.bk.fr.next;omega,off _ (by omega)⟩)
   ·exact (fwT (fwT f03 f4) (fwC f5)).set (.inr (by omega)) _
 by_cases k15:m.k=15
 ·simp only [↓qj,xh,reduceIte,Nat.reduceEqDiff,w0,xx,<-e1,w4,lk0,ja k15]
  exact main (.inr rfl) (by unfold No.fill;rw [xc k15]) rfl rfl rfl rfl
 ·simp only [↓qj,xh,reduceIte,Nat.reduceEqDiff,w0,xx,<-e1,w4,lk0,k15]
  exact main (.inl rfl) (by unfold No.fill;rw [qo k15]) rfl rfl rfl rfl
end
end Go.Am
namespace Go.Am
open Go.Proofs Ca
open Lang (ints)
variable {M:Mac} [MK M]
theorem q46 {H:AHeap} {e size bytes b n:Nat} {cells:List AV} (h:Sl H size (.slice b 0 n n) n cells) (hn:0<n) {x:AV} {k:Nat} {new:List AV} (hx:Sl H size x k new) (hk:0<k) (hnew:allOne new=true) (hs:0<size)
 (hf:(n+k)*bytes<=140737488355328) (hf':n+k<=140737488355328) {K:Bool->AV->AHeap->Prop} {m:Bool}
 (hK:∀ v' H',Own H' e size v' (n+k) (cells++new)->Fr Em H H'->(∀ c,OnS v' c->H.next<=c)->K m v' H'):B32 m (Op.append e size bytes [.slice b 0 n n,x] H) K:=by
 have hfit:=q1b hf hf'
 have hlen:new.length=k*size:=hx.1
 have hs':=qnp hs
 have h3:Nat.ble (n+k) n=false:=by cases hq:Nat.ble (n+k) n with|false=>rfl|true=>rw [vl] at hq;omega
 have e0:Op.append e size bytes [.slice b 0 n n,x] H=some (grownV H e size (n+k) (cells++new) (0,0)):=by
  simp only [Op.append,hx.lenV,hx.first,qf,hnew,qz,appendV,h3,xy,hfit,qb6 (show n<=n+k by omega),hs',ko,h.first,qdt]
 rw [e0]
 refine B32.intro rfl (hK _ _ ⟨by rw [qu,h.1,hlen,yk],.inr ⟨H.next,rfl,by rw [za];omega,?_⟩⟩ ((Fr.refl H).alloc _) fun c q=>by rw [q.2];exact qe _)
 rw [AHeap.get_alloc,xc rfl]
theorem MsB.em {H H1 H':AHeap} {v:AV} {ms:List Mg} (h:MsB H H1 v ms) (f:Fr Em H1 H'):MsB H H' v ms:=by
 rcases h with q|⟨m,a,h1,h2,h3,h4,h5⟩
 ·exact .inl q
 ·exact .inr ⟨m,a,h1,h2,h3,ql h4 f.next,by rw [f.keep _ h4 id];exact h5⟩
theorem app_ms {H H':AHeap} {v a:AV} {ms:List Mg} {m:Mg} (h:MsB H H' v ms) (x:RowT encM xm 11 H' a [m]) (hl:H.next<=H'.next) {K:Bool->AV->AHeap->Prop}
 (hK:∀ v2 H2,MsR H H2 v2 (ms ++ [m])->Fr Em H' H2->K true v2 H2):B32 true (Op.append xm 11 88 [v,a] H') K:=by
 have xs:=x.sl qan
 have xo:allOne ([m].flatMap encM)=true:=by rw [j4,List.flatMap_nil,jb];exact qnq m
 rcases h with ⟨rfl,rfl⟩|⟨m0,b,rfl,rfl,h3,h4,h5⟩
 ·refine append3s (Own.nil H' xm 11) xs xo (by decide) (by simp) (by simp) fun v2 H2 o f w=>hK v2 H2 ⟨?_,fun _=>?_⟩ (f.mono fun y _ q=>(q.1 rfl).elim)
  ·have:=Own.sl o
   exact this
  ·have hv:v2 ≠ .nils:=fun q=>by
    subst q
    have:=Own.sl o
    exact absurd this.2 (by intro z;cases z)
   exact (w _ ⟨hv,rfl⟩).elim (fun q=>(q.1 rfl).elim) fun q=>by omega
 ·have x0:SlT encM 11 H' (Op.sliceTo 1 1 b) [m0]:=RowT.sl (e:=xm) qan ⟨b,rfl,h4,by rw [h5];simp⟩
  refine q46 (b:=b) (n:=1) (e:=xm) x0 (by decide) xs (by simp) xo (by decide) (by simp) (by simp) fun v2 H2 o f w=>hK v2 H2 ⟨?_,fun _=>?_⟩ f
  ·have:=Own.sl o
   unfold SlT
   rw [qbv]
   exact this
  ·have hv:v2 ≠ .nils:=fun q=>by
    subst q
    have:=Own.sl o
    exact absurd this.2 (by intro z;cases z)
   have:=w _ ⟨hv,rfl⟩
   omega
section
variable {H0 H:AHeap} {r b:Nat} {sv bv:AV} {n:No} {ks:List Nat}
theorem ints_off (ks:List Nat) (line:Int):ints (offL ks line)=(ints ks).filter (· ≠ line):=by
 unfold ints offL
 rw [List.filter_map]
 congr 1
 refine List.filter_congr fun k _=>?_
 show ((k:Int) != line)=decide ((k:Int) ≠ line)
 by_cases q:(k:Int)=line<;>simp [q]
theorem q2n (c:Ca) (line:Int):findV c line=.tuple [.agg (encE ((c.find line).getD .zero)),.bool (c.find line).isSome]:=by
 unfold findV
 cases c.find line<;>rfl
theorem q1f {x:En} {too:Bool} (h:CI n.lines n.c):CI n.lines (n.lost x too).c:=by
 unfold No.lost
 split
 ·split
  ·exact h.discard
  ·exact h.discard
 ·exact h
theorem qij (x:En) (too:Bool):(n.lost x too).backs=n.backs/\(n.lost x too).core=n.core/\(n.lost x too).lines=n.lines/\(n.lost x too).c.us=n.c.us:=by
 unfold No.lost
 split
 ·split<;>exact ⟨rfl,rfl,rfl,rfl⟩
 ·exact ⟨rfl,rfl,rfl,rfl⟩
theorem qp5 (c:Ca) (line:Int):(c.drop line).1.sl.length=c.sl.length/\(c.drop line).1.us=c.us:=by
 unfold Ca.drop
 cases c.inS line 0 with
 | none=>exact ⟨rfl,rfl⟩
 | some i=>exact ⟨qt,rfl⟩
theorem qy3 (c:Ca) (line:Int):(c.demote line).1.sl.length=c.sl.length/\(c.demote line).1.us=c.us:=by
 unfold Ca.demote
 cases c.inS line 2 with
 | none=>exact ⟨rfl,rfl⟩
 | some i=>exact ⟨qt,rfl⟩
theorem qwt (c:Ca) (line:Int) (d:L8):(c.promote line d).sl.length=c.sl.length/\(c.promote line d).us=c.us:=by
 unfold Ca.promote
 cases c.inS line 1 with
 | none=>exact ⟨rfl,rfl⟩
 | some i=>exact ⟨qt,rfl⟩
theorem q5s (n:No) (x:En):(n.gone x).1.core=n.core:=by unfold No.gone;split<;>rfl
theorem q5o (n:No) (m:Mg):(n.fill m).1.core=n.core:=by
 have e:∀ (n:No) (st:Int),(n.fillE m st).1.core=n.core:=fun n st=>by
  unfold No.fillE
  split
  ·exact q5s ..
  ·rfl
 unfold No.fill
 generalize (if m.k=15 then (2:Int) else 1)=st
 unfold No.fillS
 split
 ·exact e (n.abt 3) st
 ·exact e n st
def HearR (H0 H:AHeap) (r b:Nat) (sv bv:AV) (a:No × List Mg) (v:AV) (H':AHeap):Prop:=(∃ ov e,v=.tuple [ov,e]/\MsR H H' ov a.2)/\NoT H0 H r b sv bv a.1 H'
theorem q4v (h:NoR H0 H r b sv bv n ks) (hci:CI n.lines n.c) (hk:n.backs.length<=900000) (hu:n.c.us+1<=1000000) (m:Mg):yf M kj [.ptr r 0,.agg (encM m)] H (HearR H0 H r b sv bv (n.hear m)):=by
 refine qr0 ?_
 obtain ⟨w0,w2,w10,w12,w20,w73,w34,w75,w40,w85,w41,w49,w53,w61⟩:=qr1 M ⟨none,kj⟩
 obtain ⟨H1,e1⟩:∃ X,X=H.alloc (OR (encM m) xm):=⟨_,rfl⟩
 have f1:Fr Em H H1:=by rw [e1];exact (Fr.refl H).alloc _
 have n1:H1.next=H.next+1:=by rw [e1,za]
 have g1:H1.get H.next=some (OR (encM m) xm):=by rw [e1,xg]
 have hlr:=h.lt
 have hlb:=h.ca.lt
 have hls:slB sv<H.next:=h.ca.sl.lt
 have hbf:=h.bk.fresh
 have off:∀ y,H.next<=y -> ¬ NoW r b sv bv y:=fun y hy q=>by
  rcases q with q|q|q
  ·omega
  ·exact q.elim (fun q=>by omega) fun q=>by omega
  ·have:=hbf _ q;omega
 have offC:∀ y,H.next<=y -> ¬ CaW b sv y:=fun y hy q=>off y hy (.inr (.inl q))
 have ldk:∀ {Hx:AHeap},Hx.get H.next=some (OR (encM m) xm)->Op.load1 [.ptr H.next 0] Hx=some (.int .i64 m.k):=fun g=>zw (xd g) 0
 have ldc:∀ {Hx:AHeap},Hx.get H.next=some (OR (encM m) xm)->Op.load1 [.ptr H.next 1] Hx=some (.int .i64 m.core):=fun g=>zw (xd g) 1
 have ldl:∀ {Hx:AHeap},Hx.get H.next=some (OR (encM m) xm)->Op.load1 [.ptr H.next 2] Hx=some (.int .i64 m.line):=fun g=>zw (xd g) 2
 have ldm:∀ {Hx:AHeap},Hx.get H.next=some (OR (encM m) xm)->Op.loadN 11 [.ptr H.next 0] Hx=some (.agg (encM m)):=fun g=>ldN g (qan m)
 have ldd:∀ {Hx:AHeap},Hx.get H.next=some (OR (encM m) xm)->Op.loadN 8 [.ptr H.next 3] Hx=some (.agg (enL m.d)):=fun g=>by
  rw [qhz (xd g) (by rw [qan];decide)]
  obtain ⟨k,co,l,⟨d,hd⟩⟩:=m
  match d,hd with
  | [d0,d1,d2,d3,d4,d5,d6,d7],_=>rfl
 have h1:=h.em f1
 simp only [↓qj,xh,reduceIte,Nat.reduceEqDiff,w0,xx,<-e1,w2,qau,w10,qn,h1.l2,ldl g1]
 refine C3.q (qo6 (M:=M) h1.ca hci m.line) fun v H2 ⟨hv,f2⟩=>?_
 rw [hv,q2n]
 obtain ⟨x,hx⟩:∃ x,x=(n.c.find m.line).getD .zero:=⟨_,rfl⟩
 rw [<-hx]
 obtain ⟨H3,e3⟩:∃ X,X=(H2.alloc (OR (encE .zero) qk)).set H2.next (OR (encE x) qk):=⟨_,rfl⟩
 have f3:Fr Em H2 H3:=by rw [e3];exact qls _ _
 have f03:Fr Em H H3:=(f1.trans f2 fun _ q=>q.elim).trans f3 fun _ q=>q.elim
 have n2:=f2.next
 have n3:H3.next=H2.next+1:=by rw [e3];rfl
 have x3:H3.get H2.next=some (OR (encE x) qk):=by rw [e3,xj]
 have g3:H3.get H.next=some (OR (encM m) xm):=by rw [f3.keep _ (by omega) id,f2.keep _ (by omega) id];exact g1
 have h3:=h.em f03
 have ldx:∀ {Hx:AHeap},Hx.get H2.next=some (OR (encE x) qk)->Op.loadN 21 [.ptr H2.next 0] Hx=some (.agg (encE x)):=fun g=>ldN g (x9 x)
 simp only [↓qj,xh,reduceIte,Nat.reduceEqDiff,xa,eZ,box_E,<-e3]
 -- what is not heard
 have no:∀ {e:Int},(m.core ≠ n.core\/m.line<0\/n.lines<=m.line \/ ¬ n.hears m ((n.c.find m.line).getD .zero)) -> ∀ {H':AHeap},Fr Em H H'->HearR H0 H r b sv bv (n.hear m) (.tuple [.nils,.int .i64 e]) H':=by
  intro e q H' f
  have ea:n.hear m=(n,[]):=by unfold No.hear;rw [xc q]
  rw [ea]
  exact ⟨⟨.nils,_,rfl,MsR.nil ..⟩,h.same f⟩
 by_cases q1:m.core=n.core
 case neg =>
  simp only [↓qj,xh,reduceIte,Nat.reduceEqDiff,w12,ldc g3,qn,h3.l0,q1]
  exact no (.inl q1) f03
 by_cases q2:m.line<0
 ·simp only [↓qj,xh,reduceIte,Nat.reduceEqDiff,w12,ldc g3,qn,h3.l0,ja q1,ldl g3,q2]
  exact no (.inr (.inl q2)) f03
 by_cases q3:n.lines<=m.line
 ·simp only [↓qj,xh,reduceIte,Nat.reduceEqDiff,w12,ldc g3,qn,h3.l0,ja q1,ldl g3,q2,h3.l1,q3]
  exact no (.inr (.inr (.inl q3))) f03
 simp only [↓qj,xh,reduceIte,Nat.reduceEqDiff,w12,ldc g3,qn,h3.l0,ja q1,ldl g3,q2,h3.l1,q3,ldm g3,ldx x3]
 refine C3.q (qzt (M:=M) h3 hk m x) fun v H4 ⟨hv,f4⟩=>?_
 rw [hv]
 have f04:Fr Em H H4:=f03.trans f4 fun _ q=>q.elim
 have n4:=f4.next
 have h4:=h.em f04
 have g4:H4.get H.next=some (OR (encM m) xm):=by rw [f4.keep _ (by omega) id];exact g3
 have x4:H4.get H2.next=some (OR (encE x) qk):=by rw [f4.keep _ (by omega) id];exact x3
 by_cases q4:n.hears m x
 case neg =>
  simp only [↓qj,xh,reduceIte,Nat.reduceEqDiff,qe7 q4]
  exact no (.inr (.inr (.inr (by rw [<-hx];exact q4)))) f04
 have hn:¬ (m.core ≠ n.core\/m.line<0\/n.lines<=m.line \/ ¬ n.hears m ((n.c.find m.line).getD .zero)):=by
  rw [<-hx]
  rintro (w|w|w|w)
  ·exact w q1
  ·exact q2 w
  ·exact q3 w
  ·exact w q4
 rw [qew q4]
 -- the words that a message has
 have fill_d:∀ {k line:Int} {d:L8} {Hx:AHeap} {a:Nat},Hx.get a=some (OR (encM ⟨k,n.core,line,.zero⟩) xm)->Op.store 8 [.ptr a 3,.agg (enL d)] Hx=some (.undef,Hx.set a (OR (encM ⟨k,n.core,line,d⟩) xm)):=fun {k line d Hx a} g=>by
  have s6:=qf7 g (o:=3) (n:=8) (v:=.agg (enL d)) (by rw [xx];exact qez _) (by rw [qan];decide) (by rw [xx];exact qmo _)
  rw [bdD] at s6
  exact s6
 by_cases k11:m.k=11
 ·have ea:n.hear m=({ n.lost x true with c:=((n.lost x true).c.drop m.line).1 },[n.msg 4 m.line]):=by
   unfold No.hear;rw [qo hn,xc k11,<-hx]
  rw [ea]
  simp only [↓qj,xh,reduceIte,Nat.reduceEqDiff,w20,ldk g4,ja k11,ldx x4]
  refine C3.q (qud (M:=M) h4 x true) fun _ H5 ⟨h5,f5⟩=>?_
  have n5:=f5.next
  have g5:H5.get H.next=some (OR (encM m) xm):=by rw [f5.keep _ (by omega) (off _ (by omega))];exact g4
  simp only [↓qj,xh,reduceIte,Nat.reduceEqDiff,qn,h5.l2,ldl g5]
  refine C3.q (qtc (M:=M) h5.ca (q1f hci) m.line) fun _ H6 ⟨_,h6,f6⟩=>?_
  have g6:H6.get H.next=some (OR (encM m) xm):=by rw [f6.keep _ (by omega) (offC _ (by omega))];exact g5
  have hn6:=h5.putCa h6 f6 (by rw [(qp5 ..).1];exact h5.len)
  simp only [↓qj,xh,reduceIte,Nat.reduceEqDiff,ldl g6]
  refine C3.q (qh0 (M:=M) hn6 4 m.line) fun v H7 ⟨hv,f7⟩=>?_
  rw [hv]
  have n6:=f6.next
  have n7:=f7.next
  have em:No.msg { n.lost x true with c:=((n.lost x true).c.drop m.line).1 } 4 m.line=n.msg 4 m.line:=by unfold No.msg;rw [show (No.core { n.lost x true with c:=((n.lost x true).c.drop m.line).1 })=n.core from (qij (n:=n) x true).2.1]
  rw [em]
  simp only [↓qj,xh,reduceIte,Nat.reduceEqDiff,mZ,bsM]
  exact ⟨⟨_,_,rfl,qvd _ (by omega)⟩,NoT.of ((hn6.em f7).em ((Fr.refl _).alloc _)) (fwT (fwT (fwE f04) f5) ((fwT (fwC f6) (fwE f7)).alloc _))⟩
 by_cases k1213:m.k=12\/m.k=13
 ·have t13:¬ (13:Int)=11:=by decide
  -- a recall
  have rec41:∀ {E:Env},lk E 0=some (.ptr r 0)->lk E 3=some (.ptr H.next 0)->lk E 6=some (.ptr H2.next 0)->lk E 7=some (.bool (n.c.find m.line).isSome) ->
   W M ⟨none,kj⟩ (xe 41) true (BLK3 0 (SEQ3 (W M ⟨none,kj⟩ (xe 73)) (FIN3 M [.tmp 4,.tmp 5] (RT3 (HearR H0 H r b sv bv (n.hear m)))))) E [] H4:=by
   intro E q0 q3 q6 q7
   cases hf:n.c.find m.line with
   | none =>
    have ea:n.hear m=(n,[n.msg 6 m.line]):=by
     unfold No.hear;rw [qo hn,qo k11,xc k1213,hf]
    rw [ea]
    rw [hf] at q7
    have q7:lk E 7=some (.bool false):=q7
    simp only [↓qj,xh,reduceIte,Nat.reduceEqDiff,w41,q7,q0,q3,ldl g4]
    refine C3.q (qh0 (M:=M) h4 6 m.line) fun v H5 ⟨hv,f5⟩=>?_
    rw [hv]
    have n5:=f5.next
    simp only [↓qj,xh,reduceIte,Nat.reduceEqDiff,mZ,bsM]
    exact ⟨⟨_,_,rfl,qvd _ (by omega)⟩,h.same ((f04.trans f5 fun _ q=>q.elim).alloc _)⟩
   | some x' =>
    have exx:x=x':=by rw [hx,hf];rfl
    subst exx
    rw [hf] at q7
    have q7:lk E 7=some (.bool true):=q7
    -- behind the loss
    have go:∀ {too:Bool} {H5:AHeap},(too=true ↔ m.k=13)->NoR H0 H5 r b sv bv (n.lost x too) ks->Fr (NoW r b sv bv) H4 H5 -> ∀ {E:Env},lk E 0=some (.ptr r 0)->lk E 3=some (.ptr H.next 0)->lk E 6=some (.ptr H2.next 0)->lk E 8=some (.ptr H5.next 0) ->
     ∀ {H6:AHeap},H6=(H5.alloc (OR (encM ⟨0,0,0,.zero⟩) xm)).set H5.next (OR (encM (n.msg 5 m.line)) xm) ->
     W M ⟨none,kj⟩ (xe 53) true (BLK3 0 (SEQ3 (W M ⟨none,kj⟩ (xe 73)) (FIN3 M [.tmp 4,.tmp 5] (RT3 (HearR H0 H r b sv bv (n.hear m)))))) E [] H6:=by
     intro too H5 ht h5 f5 E q0 q3 q6 q8 H6 e6
     have n5:=f5.next
     have f6:Fr Em H5 H6:=by rw [e6];exact qls _ _
     have n6:H6.next=H5.next+1:=by rw [e6];rfl
     have h6:=h5.em f6
     have g5:H5.get H.next=some (OR (encM m) xm):=by rw [f5.keep _ (by omega) (off _ (by omega))];exact g4
     have g6:H6.get H.next=some (OR (encM m) xm):=by rw [f6.keep _ (by omega) id];exact g5
     have x5:H5.get H2.next=some (OR (encE x) qk):=by rw [f5.keep _ (by omega) (off _ (by omega))];exact x4
     have x6:H6.get H2.next=some (OR (encE x) qk):=by rw [f6.keep _ (by omega) id];exact x5
     have b6:H6.get H5.next=some (OR (encM (n.msg 5 m.line)) xm):=by rw [e6,xj]
     have f06:Fr (NoW r b sv bv) H H6:=fwT (fwT (fwE f04) f5) (fwE f6)
     -- the answer
     have out:∀ {d:L8} {n':No} {H8:AHeap},n.hear m=(n',[⟨5,n.core,m.line,d⟩])->NoR H0 H8 r b sv bv n' ks->Fr (NoW r b sv bv) H H8->H6.next<=H8.next -> ∀ {E:Env},lk E 8=some (.ptr H5.next 0) ->
      W M ⟨none,kj⟩ (xe 61) true (BLK3 0 (SEQ3 (W M ⟨none,kj⟩ (xe 73)) (FIN3 M [.tmp 4,.tmp 5] (RT3 (HearR H0 H r b sv bv (n.hear m)))))) E [] (H8.set H5.next (OR (encM ⟨5,n.core,m.line,d⟩) xm)):=by
      intro d n' H8 ea h8 f8 n8 E q8
      rw [ea]
      have ld:=ldN (xj H8 H5.next (OR (encM ⟨5,n.core,m.line,d⟩) xm)) (qan _)
      simp only [↓qj,xh,reduceIte,Nat.reduceEqDiff,w61,q8,ld,mZ,bsM]
      have f9:Fr (On H5.next) H8 (H8.set H5.next (OR (encM ⟨5,n.core,m.line,d⟩) xm)):=(Fr.refl H8).set (W:=On H5.next) (.inl rfl) _
      have h9:=h8.off f9 (fun x (hx:x=H5.next)=>by rw [hx];exact ⟨by have:=h.bk.fr.next;omega,off _ (by omega)⟩)
      exact ⟨⟨_,_,rfl,qvd _ (by rw [qpq];omega)⟩,NoT.of (h9.em ((Fr.refl _).alloc _)) ((f8.set (.inr (by omega)) _).alloc _)⟩
     by_cases k12:m.k=12
     ·have et:too=false:=by cases too with|false=>rfl|true=>have:=ht.1 rfl;omega
      subst et
      have ea:n.hear m=({ n.lost x false with c:=((n.lost x false).c.demote m.line).1 },[⟨5,n.core,m.line,((n.lost x false).c.demote m.line).2⟩]):=by
       unfold No.hear;rw [qo hn,qo k11,xc k1213,hf];show (if m.k=12 then _ else _)=_;rw [xc k12]
      simp only [↓qj,xh,reduceIte,Nat.reduceEqDiff,w53,q0,q3,ldk g6,ja k12,qn,h6.l2,ldl g6]
      refine C3.q (q02 (M:=M) h6.ca (q1f hci) m.line) fun v H7 ⟨hv,h7,f7⟩=>?_
      rw [hv]
      unfold demoteV
      have n7:=f7.next
      have b7:H7.get H5.next=some (OR (encM (n.msg 5 m.line)) xm):=by rw [f7.keep _ (by omega) (offC _ (by omega))];exact b6
      have hn7:=h6.putCa h7 f7 (by rw [(qy3 ..).1];exact h6.len)
      simp only [↓qj,xh,reduceIte,Nat.reduceEqDiff,xa,q8,fill_d b7]
      exact out ea hn7 (fwT f06 (fwC f7)) (by omega) q8
     ·have k13:m.k=13:=by omega
      have et:too=true:=ht.2 k13
      subst et
      have ea:n.hear m=({ n.lost x true with c:=((n.lost x true).c.drop m.line).1 },[⟨5,n.core,m.line,((n.lost x true).c.drop m.line).2.d⟩]):=by
       unfold No.hear;rw [qo hn,qo k11,xc k1213,hf];show (if m.k=12 then _ else _)=_;rw [qo k12]
      simp only [↓qj,xh,reduceIte,Nat.reduceEqDiff,w53,q0,q3,ldk g6,k12,qn,h6.l2,ldl g6]
      refine C3.q (qtc (M:=M) h6.ca (q1f hci) m.line) fun v H7 ⟨hv,h7,f7⟩=>?_
      rw [hv]
      unfold dropV
      have n7:=f7.next
      have b7:H7.get H5.next=some (OR (encM (n.msg 5 m.line)) xm):=by rw [f7.keep _ (by omega) (offC _ (by omega))];exact b6
      have x7:H7.get H2.next=some (OR (encE x) qk):=by rw [f7.keep _ (by omega) (offC _ (by omega))];exact x6
      have hn7:=h6.putCa h7 f7 (by rw [(qp5 ..).1];exact h6.len)
      have s8:=stN x7 (x9 _) (x9 ((n.lost x true).c.drop m.line).2) (qdp _)
      obtain ⟨H8,e8⟩:∃ X,X=H7.set H2.next (OR (encE ((n.lost x true).c.drop m.line).2) qk):=⟨_,rfl⟩
      rw [<-e8] at s8
      have f8:Fr (On H2.next) H7 H8:=by rw [e8];exact (Fr.refl H7).set (W:=On H2.next) (.inl rfl) _
      have x8:H8.get H2.next=some (OR (encE ((n.lost x true).c.drop m.line).2) qk):=by rw [e8,xj]
      have b8:H8.get H5.next=some (OR (encM (n.msg 5 m.line)) xm):=by rw [f8.keep _ (by omega) (fun (q:H5.next=H2.next)=>by omega)];exact b7
      have ld8:Op.loadN 8 [.ptr H2.next 4] H8=some (.agg (enL ((n.lost x true).c.drop m.line).2.d)):=by rw [qhz (xd x8) (by rw [x9];decide),q2g]
      have hn8:=hn7.off f8 (fun x (hx:x=H2.next)=>by rw [hx];exact ⟨by have:=h.bk.fr.next;omega,off _ (by omega)⟩)
      have f78:Fr (NoW r b sv bv) H H8:=by rw [e8];exact (fwT f06 (fwC f7)).set (.inr (by omega)) _
      simp only [↓qj,xh,reduceIte,Nat.reduceEqDiff,xa,q6,q8,s8,ld8,fill_d b8]
      exact out ea hn8 f78 (by have:=f8.next;omega) q8
    by_cases k12:m.k=12
    ·have k13:¬ m.k=13:=by omega
     simp only [↓qj,xh,reduceIte,Nat.reduceEqDiff,w41,q7,w49,q0,q3,q6,ldx x4,ldk g4,k13]
     refine C3.q (qud (M:=M) h4 x false) fun _ H5 ⟨h5,f5⟩=>?_
     have n5:=f5.next
     have g5:H5.get H.next=some (OR (encM m) xm):=by rw [f5.keep _ (by omega) (off _ (by omega))];exact g4
     simp only [↓qj,xh,reduceIte,Nat.reduceEqDiff,q0,q3,ldl g5]
     refine C3.q (qh0 (M:=M) h5 5 m.line) fun v H6 ⟨hv,f6⟩=>?_
     have em:(n.lost x false).msg 5 m.line=n.msg 5 m.line:=by unfold No.msg;rw [(qij (n:=n) x false).2.1]
     rw [hv,em]
     have s6:=stN (xg H6 (OR (encM ⟨0,0,0,.zero⟩) xm)) (qan _) (qan (n.msg 5 m.line)) (qnq _)
     simp only [↓qj,xh,reduceIte,Nat.reduceEqDiff,mZ,s6]
     refine go (too:=false) ⟨fun q=>(by cases q),fun q=>absurd q k13⟩ (h5.em f6) (fwT f5 (fwE f6)) ?_ ?_ ?_ ?_ ?_
     ·exact q0
     ·exact q3
     ·exact q6
     ·rfl
     ·rfl
    ·have k13:m.k=13:=by omega
     simp only [↓qj,xh,reduceIte,Nat.reduceEqDiff,w41,q7,w49,q0,q3,q6,ldx x4,ldk g4,ja k13]
     refine C3.q (qud (M:=M) h4 x true) fun _ H5 ⟨h5,f5⟩=>?_
     have n5:=f5.next
     have g5:H5.get H.next=some (OR (encM m) xm):=by rw [f5.keep _ (by omega) (off _ (by omega))];exact g4
     simp only [↓qj,xh,reduceIte,Nat.reduceEqDiff,q0,q3,ldl g5]
     refine C3.q (qh0 (M:=M) h5 5 m.line) fun v H6 ⟨hv,f6⟩=>?_
     have em:(n.lost x true).msg 5 m.line=n.msg 5 m.line:=by unfold No.msg;rw [(qij (n:=n) x true).2.1]
     rw [hv,em]
     have s6:=stN (xg H6 (OR (encM ⟨0,0,0,.zero⟩) xm)) (qan _) (qan (n.msg 5 m.line)) (qnq _)
     simp only [↓qj,xh,reduceIte,Nat.reduceEqDiff,mZ,s6]
     refine go (too:=true) ⟨fun _=>k13,fun _=>rfl⟩ (h5.em f6) (fwT f5 (fwE f6)) ?_ ?_ ?_ ?_ ?_
     ·exact q0
     ·exact q3
     ·exact q6
     ·rfl
     ·rfl
  by_cases k12:m.k=12
  ·simp only [↓qj,xh,reduceIte,Nat.reduceEqDiff,w20,ldk g4,k11,w34,ja k12,w40]
   exact rec41 rfl rfl rfl rfl
  ·have k13:m.k=13:=by omega
   simp only [↓qj,xh,reduceIte,Nat.reduceEqDiff,w20,ldk g4,k11,w34,k12,ja k13,w40]
   exact rec41 rfl rfl rfl rfl
 have k12:¬ m.k=12:=fun q=>k1213 (.inl q)
 have k13:¬ m.k=13:=fun q=>k1213 (.inr q)
 by_cases k16:m.k=16
 ·have ea:n.hear m=({ n with backs:=n.backs.filter (· ≠ m.line) },[]):=by
   unfold No.hear;rw [qo hn,qo k11,qo k1213,xc k16]
  rw [ea]
  have hkl:=h.kl
  simp only [↓qj,xh,reduceIte,Nat.reduceEqDiff,w20,ldk g4,k11,w34,k12,k13,w40,ja k16,qn,h4.l14]
  refine C3.q (q01 (M:=M) (t:=H.next) (line:=m.line) (fun f=>ldl (by rw [f.keep _ (by omega) fun q=>by have:=hbf _ q;omega];exact g4)) h4.bk (by omega)) fun v H5 ⟨hs,f5,w5⟩=>?_
  obtain ⟨H6,s6,h6,f6⟩:=h4.newBk hs f5 (fun x q=>.inl (w5 x q))
  simp only [↓qj,xh,reduceIte,Nat.reduceEqDiff,qn,s6]
  rw [ints_off,<-h.eq] at h6
  exact ⟨⟨_,_,rfl,MsR.nil ..⟩,v,_,h6,fwT (fwE f04) f6,fun x q=>.inl (w5 x q)⟩
 -- what was asked for
 obtain ⟨H5,s5,h5,f5⟩:=h4.putOut ⟨0,0,0,.zero⟩
 have n5:=f5.next
 have g5:H5.get H.next=some (OR (encM m) xm):=by rw [f5.keep _ (by omega) (fun (q:H.next=r)=>by omega)];exact g4
 have f05:Fr (NoW r b sv bv) H H5:=fwT (fwE f04) (fwR f5)
 cases hf:n.c.find m.line with
 | some x' =>
  have ea:n.hear m=({ n with out:=⟨0,0,0,.zero⟩,c:=n.c.promote m.line m.d },[n.msg 7 m.line]):=by
   unfold No.hear;rw [qo hn,qo k11,qo k1213,qo k16,hf]
  rw [ea]
  simp only [↓qj,xh,reduceIte,Nat.reduceEqDiff,w20,ldk g4,k11,w34,k12,k13,w40,k16,w73,mZ,bd0,qn,s5,w75,qcg,h5.l2,ldl g5,ldd g5]
  refine C3.q (qz8 (M:=M) h5.ca hci m.line m.d) fun _ H6 ⟨h6,f6⟩=>?_
  have g6:H6.get H.next=some (OR (encM m) xm):=by rw [f6.keep _ (by omega) (offC _ (by omega))];exact g5
  have hn6:=h5.putCa h6 f6 (by rw [(qwt ..).1];exact h5.len)
  simp only [↓qj,xh,reduceIte,Nat.reduceEqDiff,ldl g6]
  refine C3.q (qh0 (M:=M) hn6 7 m.line) fun v H7 ⟨hv,f7⟩=>?_
  rw [hv]
  have n6:=f6.next
  have n7:=f7.next
  simp only [↓qj,xh,reduceIte,Nat.reduceEqDiff,mZ,bsM]
  exact ⟨⟨_,_,rfl,qvd _ (by omega)⟩,NoT.of ((hn6.em f7).em ((Fr.refl _).alloc _)) (fwT f05 ((fwT (fwC f6) (fwE f7)).alloc _))⟩
 | none =>
  have ea:n.hear m=((No.fill { n with out:=⟨0,0,0,.zero⟩ } m).1,(No.fill { n with out:=⟨0,0,0,.zero⟩ } m).2 ++ [n.msg 7 m.line]):=by
   unfold No.hear;rw [qo hn,qo k11,qo k1213,qo k16,hf]
  rw [ea]
  simp only [↓qj,xh,reduceIte,Nat.reduceEqDiff,w20,ldk g4,k11,w34,k12,k13,w40,k16,w73,mZ,bd0,qn,s5,w75,qe3,w85,ldm g5]
  refine C3.q (q38 (M:=M) h5 hci hk hu m (by omega)) fun v H6 ⟨hm6,bv',ks',h6,f6,w6⟩=>?_
  have n6:=f6.next
  have g6:H6.get H.next=some (OR (encM m) xm):=by rw [f6.keep _ (by omega) (off _ (by omega))];exact g5
  simp only [↓qj,xh,reduceIte,Nat.reduceEqDiff,ldl g6]
  refine C3.q (qh0 (M:=M) h6 7 m.line) fun v H7 ⟨hv,f7⟩=>?_
  have ec:(No.fill { n with out:=⟨0,0,0,.zero⟩ } m).1.core=n.core:=q5o _ m
  have em:(No.fill { n with out:=⟨0,0,0,.zero⟩ } m).1.msg 7 m.line=n.msg 7 m.line:=by unfold No.msg;rw [ec]
  rw [hv,em]
  simp only [↓qj,xh,reduceIte,Nat.reduceEqDiff,mZ,bsM]
  have n7:=f7.next
  refine app_ms (H:=H5) (m:=n.msg 7 m.line) (hm6.em (f7.alloc _)) (row1 _) (by rw [za];omega) fun v2 H8 hms f8=>?_
  simp only [↓qj,xh,reduceIte,Nat.reduceEqDiff]
  have f68:Fr Em H6 H8:=(f7.alloc _).trans f8 fun _ q=>q.elim
  exact ⟨⟨_,_,rfl,hms.1,fun q=>by have:=hms.2 q;omega⟩,bv',ks',h6.em f68,fwT f05 (fwT f6 (fwE f68)),fun x q=>(w6 x q).imp id fun w=>by omega⟩
end
end Go.Am
