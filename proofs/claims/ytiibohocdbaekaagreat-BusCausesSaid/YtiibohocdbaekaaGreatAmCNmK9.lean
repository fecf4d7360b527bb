/- NmK9: NiE NiF NiG. -/
import Derived.Test.YtiibohocdbaekaaGreatAmCNmK8
set_option linter.unusedVariables false
set_option linter.unusedSimpArgs false
set_option linter.unusedSectionVars false
set_option maxRecDepth 100000
open Nat (reduceEqDiff)
namespace Go.Am
open Go.Proofs Ca
open Lang (ints)
variable {M:aA} [MK M]
def sm (H H':AHeap) (v:AV) (ms:List Mg):Prop:=(v=.nils/\ms=[]) \/ ∃ m a,v=Op.sliceTo 1 1 a/\ms=[m]/\H.next<=a/\a<H'.next/\H'.get a=some (OR (ai m) qt)
theorem sm.ms {H H':AHeap} {v:AV} {ms:List Mg} (h:sm H H' v ms):jJ H H' v ms:=by
 rcases h with ⟨rfl,rfl⟩|⟨m,a,rfl,rfl,h1,h2,h3⟩
 ·exact jJ.nil ..
 ·exact ⟨dR.sl (e:=qt) xq ⟨a,rfl,h2,by rw [h3];simp⟩,λ _=>h1⟩
theorem sm.one {H H0:AHeap} (m:Mg) (h:H0.next<=H.next):sm H0 (H.alloc (OR (ai m) qt)) (Op.sliceTo 1 1 H.next) [m]:=.inr ⟨m,H.next,rfl,rfl,h,by rw [xd];omega,qw ..⟩
section
variable {H0 H:AHeap} {r b:Nat} {sv bv:AV} {n:No} {ks:List Nat}
theorem bR.Dk (h:bR H0 H r b sv bv n ks) {bv':AV} {ks':List Nat} {H1:AHeap} (hs:jS eM H0 H1 bv' ks') (f:Fr (aI bv) H H1) (hf:∀ x,aI bv' x->aI bv x\/H.next<=x) :
 ∃ H2,Op.store 1 [.ptr r 14,bv'] H1=some (.undef,H2)/\bR H0 H2 r b sv bv' { n with aq:=ints ks' } ks'/\Fr (fw r b sv bv) H H2:=by
 have hlb:=h.ca.lt;have hls:aF sv<H.next:=h.ca.sl.lt
 have a1:∀ x,x<H.next -> ¬ aI bv x -> ¬ aI bv' x:=λ x h1 h2 q=>(hf x q).elim h2 λ w=>by omega
 have g1:H1.get r=some (OR (mX n b bv) Jq):=by rw [f.ah _ h.lt h.o1];exact h.row
 have o1:aT bv'=true:=by have:=Sl.one hs.sl;exact this
 have hu:AV.cells bv'=[bv']:=by
  rcases hs.own with ⟨rfl,_⟩|⟨b,m,rest,rfl,_⟩<;>rfl
 have st:=oS g1 (o:=14) (n:=1) (v:=bv') (by rw [hu];rfl) (by rw [(zS n b bv).2.2.2.2.2.2.2.2];decide) (by rw [hu];simp [oQ,o1]);have e:(mX n b bv).take 14++AV.cells bv'++(mX n b bv).drop (14+1)=mX n b bv':=by
  rw [hu];obtain ⟨core,lines,c,⟨k,co,l,⟨d,hd⟩⟩,aq,live,code⟩:=n
  match d,hd with
  | [d0,d1,d2,d3,d4,d5,d6,d7],_=>rfl
 rw [e] at st;have f2:Fr (On r) H1 (H1.set r (OR (mX n b bv') Jq)):=(Fr.refl H1).set (W:=On r) (.inl rfl) _;have fn:=f.next
 refine ⟨_,st,⟨xb ..,qk h.lt fn,(h.ca.fr f h.o2 h.o3).fr f2 (λ (q:b=r)=>h.n1 q.symm) (λ (q:aF sv=r)=>h.n2 q.symm),hs.pM f2 (hs.fr.set (.inr h.lr) _) (λ x hx (q:x=r)=>a1 r h.lt h.o1 (q ▸ hx)),rfl,h.lr,h.lb,h.ls,h.n1,h.n2,a1 _ h.lt h.o1,a1 _ hlb h.o2,a1 _ hls h.o3,h.li,h.len⟩,?_⟩;exact (f.mono λ _ _ q=>.inr (.inr q)).trans f2 λ x q=>.inl (.inl q)
theorem wU (ks:List Nat) (x:Nat):ints (ks ++ [x])=ints ks ++ [(x:Int)]:=by simp [ints]
theorem Mr (m:Mg) (d:L8):(ai m).take 3++(AV.agg (cJ d)).cells++(ai m).drop (3+8)=ai { m with d:=d }:=by
 obtain ⟨k,co,l,⟨e,he⟩⟩:=m;obtain ⟨d,hd⟩:=d
 match e,he,d,hd with
 | [d0,d1,d2,d3,d4,d5,d6,d7],_,[e0,e1,e2,e3,e4,e5,e6,e7],_=>rfl
theorem uu (x:En):((ao x).drop 4).take 8=cJ x.d:=by
 obtain ⟨line,st,r,w,⟨d,hd⟩,⟨o,ho⟩,u⟩:=x
 match d,hd,o,ho with
 | [d0,d1,d2,d3,d4,d5,d6,d7],_,[e0,e1,e2,e3,e4,e5,e6,e7],_=>rfl
def mj (H0 H:AHeap) (r b:Nat) (sv bv:AV) (a:No × List Mg) (v:AV) (H':AHeap):Prop:=sm H H' v a.2/\nM H0 H r b sv bv a.1 H'
theorem qye (h:bR H0 H r b sv bv n ks) (hk:n.aq.length<=900000) (x:En) (hx:0<=x.line):zq M PL [.ptr r 0,.agg (ao x)] H (mj H0 H r b sv bv (n.gone x)):=by
 refine qqb ?_;obtain ⟨w0,w2,w10⟩:=qqc M ⟨none,PL⟩;obtain ⟨H1,e1⟩:∃ X,X=H.alloc (OR (ao x) qr):=⟨_,rfl⟩
 have f1:Fr Em H H1:=by rw [e1];exact (Fr.refl H).alloc _
 have g1:H1.get H.next=some (OR (ao x) qr):=by rw [e1,qw]
 have l0:Op.ae [.ptr H.next 0] H1=some (.int .i64 x.line):=xp (qz g1) 0;have l1:Op.ae [.ptr H.next 1] H1=some (.int .i64 x.st):=xp (qz g1) 1;have h1:=h.em f1;have n1:H.next<H1.next:=by rw [e1,xd];omega
 by_cases q:x.st=2
 case neg =>
  have ea:n.gone x=(n,[]):=by unfold No.gone;rw [qg q]
  rw [ea];simp only [↓qd,qp,aa,reduceIte,reduceEqDiff,w0,xk,<-e1,w2,l1,q];exact ⟨.inl ⟨rfl,rfl⟩,h.same f1⟩
 have ea:n.gone x=({ n with aq:=n.aq ++ [x.line] },[⟨3,n.core,x.line,x.d⟩]):=by unfold No.gone;rw [ql q]
 rw [ea];obtain ⟨ln,hln⟩:=jb hx;rw [hln] at l0;simp only [↓qd,qp,aa,reduceIte,reduceEqDiff,w0,xk,<-e1,w2,l1,xc q,w10,qi,h1.rf,l0];have hkl:=h.kl;refine h1.bk.push (x:=ln) rfl (by omega) (by omega) λ bv' H2 hs f2 hf2=>?_;obtain ⟨H3,s3,h3,f3⟩:=h1.Dk hs f2 hf2;have k3:H3.get H.next=some (OR (ao x) qr):=by
  rw [f3.ah _ n1 ?_];exact g1;rintro (q|q|q)
  ·have:=h.lt;omega
  ·have h4:=h.ca.lt;have h5:aF sv<H.next:=h.ca.sl.lt
   exact q.elim (λ q=>by omega) λ q=>by omega
  ·have:=h.bk.fresh _ q;omega
 have n3:H.next<H3.next:=by have:=f3.next;omega
 have l0:Op.ae [.ptr H.next 0] H3=some (.int .i64 (ln:Int)):=by rw [<-hln];exact xp (qz k3) 0
 simp only [↓qd,qp,aa,reduceIte,reduceEqDiff,qi,s3,l0];refine C3.q (Aa (M:=M) h3 3 (ln:Int)) λ v H4 ⟨hv,f4⟩=>?_;rw [hv];have k4:H4.get H.next=some (OR (ao x) qr):=by rw [f4.ah _ n3 id];exact k3
 obtain ⟨m,hm⟩:∃ m,m=No.msg { n with aq:=ints (ks ++ [ln]) } 3 (ln:Int):=⟨_,rfl⟩
 have hme:({ m with d:=x.d }:Mg)=⟨3,n.core,x.line,x.d⟩:=by rw [hm,hln];rfl
 rw [<-hm];have s5:=iH (qw H4 (OR (ai ⟨0,0,0,.zero⟩) qt)) (xq _) (xq m) (vk _);obtain ⟨H5,e5⟩:∃ X,X=(H4.alloc (OR (ai ⟨0,0,0,.zero⟩) qt)).set H4.next (OR (ai m) qt):=⟨_,rfl⟩
 rw [<-e5] at s5;have f5:Fr Em H4 H5:=by rw [e5];exact tt _ _
 have g5:H5.get H4.next=some (OR (ai m) qt):=by rw [e5,xb]
 have n4:H.next<H4.next:=by have:=f4.next;omega
 have k5:H5.get H.next=some (OR (ao x) qr):=by rw [f5.ah _ n4 id];exact k4
 have ld5:Op.aG 8 [.ptr H.next 4] H5=some (.agg (cJ x.d)):=by rw [Ac (qz k5) (by rw [zd];decide),uu]
 have s6:=oS g5 (o:=3) (n:=8) (v:=.agg (cJ x.d)) (by rw [xk];exact vf _) (by rw [xq];decide) (by rw [xk];exact tq _);rw [Mr,hme] at s6;have ld6:=fU (xb H5 H4.next (OR (ai ⟨3,n.core,x.line,x.d⟩) qt)) (xq _);simp only [↓qd,qp,aa,reduceIte,reduceEqDiff,mZ,s5,ld5,s6,ld6,sW];have n5:H5.next=H4.next+1:=by rw [e5];rfl
 have f6:Fr Em H4 (H5.set H4.next (OR (ai ⟨3,n.core,x.line,x.d⟩) qt)):=f5.set (.inr (qf _)) _;refine ⟨sm.one _ (by rw [C8];omega),bv',ks ++ [ln],?_,?_,?_⟩
 ·have e:({ n with aq:=ints (ks ++ [ln]) }:No) = { n with aq:=n.aq ++ [x.line] }:=by rw [wU,hln,h.eq]
  rw [<-e];exact (h3.em (f4.trans f6 λ _ q=>q.elim)).em ((Fr.refl _).alloc _)
 ·exact ((jN f1).trans f3 λ x q=>.inl q).em ((f4.trans f6 λ _ q=>q.elim).alloc _)
 ·exact λ y hy=>(hf2 y hy).imp id λ w=>by omega
end
end Go.Am
namespace Go.Am
open Go.Proofs Ca
open Lang (ints)
variable {M:aA} [MK M]
theorem rT (off:Nat) (n:Option Nat) (t rest:bl) (x y:List AV):aW (.part off n t rest) (.agg x) (.agg y)=(partAt x off n).bind λ a=>(partAt y off n).bind λ b=>(aW t a b).bind λ q=>cond q (aW rest (.agg x) (.agg y)) (some false):=rfl
theorem qvc (x:List AV) (k:Nat):partAt x k none=nth x k:=rfl
theorem fm {k:Nat} {t:bl} {l l':List AV} {K:IntKind} {a b:Int} {P:Prop} [Decidable P] (h:nth l k=some (.int K a)) (h':nth l' k=some (.int K b)) (hp:aW t (.agg l) (.agg l')=some (decide P)) :
 aW (.part k none .int t) (.agg l) (.agg l')=some (decide (a=b/\P)):=by
 have q:aW .int (.int K a) (.int K b)=some (decide (a=b)):=by
  have e:pV K K=true:=by cases K<;>rfl
  simp only [aW,BT,e,xf];rfl
 rw [rT,qvc,qvc,h,h',qj,qj,q,qj,hp]
 by_cases e:a=b
 ·simp [e]
 ·simp [e]
abbrev NV:bl:=.part 0 none .int (.part 1 none .int (.part 2 none .int (.part 3 none .int (.part 4 none .int (.part 5 none .int (.part 6 none .int (.part 7 none .int .nil)))))))
theorem eqL (d e:L8):aW NV (.agg (cJ d)) (.agg (cJ e))=some (decide (d=e)):=by
 obtain ⟨d,hd⟩:=d;obtain ⟨e,he⟩:=e
 match d,hd,e,he with
 | [d0,d1,d2,d3,d4,d5,d6,d7],_,[e0,e1,e2,e3,e4,e5,e6,e7],_ =>
  rw [fm (P:=d1=e1/\d2=e2/\d3=e3/\d4=e4/\d5=e5/\d6=e6/\d7=e7/\True) (a:=d0) (b:=e0) (K:=.u64) rfl rfl (fm rfl rfl (fm rfl rfl (fm rfl rfl (fm rfl rfl (fm rfl rfl (fm rfl rfl (fm rfl rfl rfl)))))))];congr 1;exact decide_eq_decide.2 ⟨λ q=>by obtain ⟨a0,a1,a2,a3,a4,a5,a6,a7,-⟩:=q;subst a0 a1 a2 a3 a4 a5 a6 a7;rfl,λ q=>by
   have q:=congrArg L8.l q;injection q with q0 q;injection q with q1 q;injection q with q2 q;injection q with q3 q;injection q with q4 q;injection q with q5 q;injection q with q6 q;injection q with q7 q
   exact ⟨q0,q1,q2,q3,q4,q5,q6,q7,trivial⟩⟩
abbrev MgT:bl:=.part 0 none .int (.part 1 none .int (.part 2 none .int (.part 3 (some 8) NV .nil)))
theorem eqM (m m':Mg):aW MgT (.agg (ai m)) (.agg (ai m'))=some (decide (m=m')):=by
 have e3:aW (.part 3 (some 8) NV .nil) (.agg (ai m)) (.agg (ai m'))=some (decide (m.d=m'.d)):=by
  have p:∀ x:Mg,partAt (ai x) 3 (some 8)=some (.agg (cJ x.d)):=λ x=>by
   obtain ⟨k,co,l,⟨d,hd⟩⟩:=x
   match d,hd with
   | [d0,d1,d2,d3,d4,d5,d6,d7],_=>rfl
  rw [rT,p,p,qj,qj,eqL,qj];cases decide (m.d=m'.d)<;>rfl
 rw [fm (P:=m.core=m'.core/\m.line=m'.line/\m.d=m'.d) (a:=m.k) (b:=m'.k) (K:=.i64) rfl rfl (fm rfl rfl (fm rfl rfl e3))];congr 1;refine decide_eq_decide.2 ⟨λ q=>?_,λ q=>by rw [q];exact ⟨rfl,rfl,rfl,rfl⟩⟩;obtain ⟨a,b,c,d⟩:=q;cases m;cases m';simp only at a b c d;subst a b c d;rfl
theorem II (m m':Mg) (H:AHeap):Op.eq (.agg MgT) false [.agg (ai m),.agg (ai m')] H=some (.bool (decide (m=m'))):=sC _ _ _ _ _ (eqM m m')
section
variable {H0 H:AHeap} {r b:Nat} {sv bv:AV} {n:No} {ks:List Nat}
theorem qyo (h:bR H0 H r b sv bv n ks) (hk:n.aq.length<=900000) (m:Mg) (x:En):zq M MA [.ptr r 0,.agg (ai m),.agg (ao x)] H λ v H'=>v=.bool (decide (n.cR m x))/\Fr Em H H':=by
 refine qmc ?_;obtain ⟨w0,w2,w41,w12,w18,w28⟩:=qmd M ⟨none,MA⟩;obtain ⟨H1,e1⟩:∃ X,X=H.alloc (OR (ai m) qt):=⟨_,rfl⟩
 obtain ⟨H2,e2⟩:∃ X,X=H1.alloc (OR (ao x) qr):=⟨_,rfl⟩
 have f1:Fr Em H H1:=by rw [e1];exact (Fr.refl H).alloc _
 have f12:Fr Em H1 H2:=by rw [e2];exact (Fr.refl H1).alloc _
 have f2:Fr Em H H2:=f1.trans f12 λ _ q=>q.elim;have n1:H1.next=H.next+1:=by rw [e1,xd]
 have g1:H2.get H.next=some (OR (ai m) qt):=by rw [f12.ah _ (by omega) id,e1,qw]
 have g2:H2.get H1.next=some (OR (ao x) qr):=by rw [e2,qw]
 have lk0:Op.ae [.ptr H.next 0] H2=some (.int .i64 m.k):=xp (qz g1) 0;have lk2:Op.ae [.ptr H.next 2] H2=some (.int .i64 m.line):=xp (qz g1) 2;have ls:Op.ae [.ptr H1.next 1] H2=some (.int .i64 x.st):=xp (qz g2) 1;have h2:=h.em f2;have d:∀ (P Q:Prop) [Decidable P] [Decidable Q],(P ↔ Q)->AV.bool (decide P)=.bool (decide Q):=λ P Q _ _ q=>by congr 1;exact decide_eq_decide.2 q
 by_cases k11:m.k=11
 ·simp only [↓qd,qp,aa,reduceIte,reduceEqDiff,w0,xk,<-e1,<-e2,w2,lk0,xc k11,ls];exact ⟨by congr 1;simp [No.cR,k11],f2⟩
 by_cases k12:m.k=12
 ·simp only [↓qd,qp,aa,reduceIte,reduceEqDiff,w0,xk,<-e1,<-e2,w2,lk0,k11,ls,w12,xc k12,w18];exact ⟨by congr 1;simp [No.cR,k12],f2⟩
 by_cases k13:m.k=13
 ·simp only [↓qd,qp,aa,reduceIte,reduceEqDiff,w0,xk,<-e1,<-e2,w2,lk0,k11,ls,w12,k12,xc k13,w18];exact ⟨by congr 1;simp [No.cR,k13],f2⟩
 by_cases k14:m.k=14
 ·simp only [↓qd,qp,aa,reduceIte,reduceEqDiff,w0,xk,<-e1,<-e2,w2,lk0,k11,ls,w12,k12,k13,w18,xc k14,qi,h2.lo,lk2];refine C3.q (Aa (M:=M) h2 1 m.line) λ v H3 ⟨hv,f3⟩=>?_;rw [hv];simp only [↓qd,qp,aa,reduceIte,reduceEqDiff,(h2.em f3).lo,Ld,II];exact ⟨by congr 1;simp [No.cR,k14],f2.trans f3 λ _ q=>q.elim⟩
 by_cases k15:m.k=15
 ·simp only [↓qd,qp,aa,reduceIte,reduceEqDiff,w0,xk,<-e1,<-e2,w2,lk0,k11,ls,w12,k12,k13,w18,k14,w28,xc k15,qi,h2.lo,lk2];refine C3.q (Aa (M:=M) h2 2 m.line) λ v H3 ⟨hv,f3⟩=>?_;rw [hv];simp only [↓qd,qp,aa,reduceIte,reduceEqDiff,(h2.em f3).lo,Ld,II];exact ⟨by congr 1;simp [No.cR,k15],f2.trans f3 λ _ q=>q.elim⟩
 by_cases k16:m.k=16
 ·have hkl:=h.kl;simp only [↓qd,qp,aa,reduceIte,reduceEqDiff,w0,xk,<-e1,<-e2,w2,lk0,k11,ls,w12,k12,k13,w18,k14,w28,k15,xc k16,qi,h2.rf,lk2];refine C3.q (qmu (M:=M) h2.bk.sl (by omega) m.line) λ v H3 ⟨hv,hh⟩=>?_;rw [hv,hh];simp only [↓qd,qp,aa,reduceIte,reduceEqDiff];exact ⟨by congr 1;simp [No.cR,k16,h.eq],f2⟩
 ·simp only [↓qd,qp,aa,reduceIte,reduceEqDiff,w0,xk,<-e1,<-e2,w2,lk0,k11,ls,w12,k12,k13,w18,k14,w28,k15,k16,w41];exact ⟨by congr 1;simp [No.cR,k11,k12,k13,k14,k15,k16],f2⟩
theorem Nc (c:Ca) (line st:Int) (d:L8):(c.fill line st d).1.sl.length=c.sl.length/\((c.fill line st d).1.us=c.us\/(c.fill line st d).1.us=c.us+1):=by
 unfold Ca.fill;cases c.pos line with
 | some i=>exact ⟨rfl,.inl rfl⟩
 | none =>
  cases c.room line with
  | none=>exact ⟨rfl,.inl rfl⟩
  | some i=>exact ⟨qv,.inr rfl⟩
theorem zN {lines line st:Int} {c:Ca} {d:L8} (h:CI lines c) (hs:(c.fill line st d).2.1.st ≠ 0):0<=(c.fill line st d).2.1.line:=by
 unfold Ca.fill at hs ⊢;cases hp:c.pos line with
 | some i=>rw [hp] at hs;exact absurd rfl hs
 | none =>
  rw [hp] at hs;cases hr:c.room line with
  | none=>rw [hr] at hs;exact absurd rfl hs
  | some i =>
   rw [hr] at hs;have hs:(c.en i).st ≠ 0:=hs;show 0<=(c.en i).line;rcases zt i c.sl.length with q|q
   ·exact (h.ok i q hs).2.1
   ·rw [MI q] at hs;exact absurd rfl hs
theorem BJ {line st:Int} {c:Ca} {d:L8} (h:(c.fill line st d).2.2=22):(c.fill line st d).1=c:=by
 unfold Ca.fill at h ⊢;cases hp:c.pos line with
 | some i=>rfl
 | none =>
  rw [hp] at h;cases hr:c.room line with
  | none=>rfl
  | some i=>rw [hr] at h;exact absurd h (show ¬ (0:Int)=22 by decide)
theorem sm.from {H H1 H':AHeap} {v:AV} {ms:List Mg} (h:sm H1 H' v ms) (f:H.next<=H1.next):sm H H' v ms:=by
 rcases h with q|⟨m,a,h1,h2,h3,h4,h5⟩
 ·exact .inl q
 ·exact .inr ⟨m,a,h1,h2,xj f h3,h4,h5⟩
theorem nM.from {n':No} {H1 H':AHeap} (f:Fr (fw r b sv bv) H H1) (h:nM H0 H1 r b sv bv n' H'):nM H0 H r b sv bv n' H':=by
 obtain ⟨bv',ks',h1,h2,h3⟩:=h;have fn:=f.next
 exact ⟨bv',ks',h1,gi f h2,λ x q=>(h3 x q).imp id λ w=>by omega⟩
theorem nM.em {n':No} {H1 H':AHeap} (h:nM H0 H r b sv bv n' H1) (f:Fr Em H1 H'):nM H0 H r b sv bv n' H':=by
 obtain ⟨bv',ks',h1,h2,h3⟩:=h;exact ⟨bv',ks',h1.em f,h2.em f,h3⟩
theorem bR.off {W:Nat->Prop} {H':AHeap} (h:bR H0 H r b sv bv n ks) (f:Fr W H H') (hw:∀ x,W x->H0.next<=x /\ ¬ fw r b sv bv x):bR H0 H' r b sv bv n ks :=
 ⟨by rw [f.ah _ h.lt λ q=>(hw _ q).2 (.inl rfl)];exact h.row,qk h.lt f.next,h.ca.fr f (λ q=>(hw _ q).2 (.inr (.inl (.inl rfl)))) (λ q=>(hw _ q).2 (.inr (.inl (.inr rfl)))),h.bk.pM f (h.bk.fr.trans f λ x q=>.inr (hw x q).1) (λ x hx q=>(hw x q).2 (.inr (.inr hx))),h.eq,h.lr,h.lb,h.ls,h.n1,h.n2,h.o1,h.o2,h.o3,h.li,h.len⟩
theorem mj.from {a:No × List Mg} {H1 H':AHeap} {v:AV} (f:Fr (fw r b sv bv) H H1) (h:mj H0 H1 r b sv bv a v H'):mj H0 H r b sv bv a v H':=⟨h.1.from f.next,h.2.from f⟩
theorem q3y (h:bR H0 H r b sv bv n ks) (hci:CI n.lines n.c) (hk:n.aq.length<=900000) (hu:n.c.us+1<=1000000) (m:Mg) (hm:0<=m.line):zq M FQ [.ptr r 0,.agg (ai m)] H (mj H0 H r b sv bv (n.fill m)):=by
 refine qp9 ?_;obtain ⟨w0,w4,w10,w12,w20,w28⟩:=qqa M ⟨none,FQ⟩;obtain ⟨H1,e1⟩:∃ X,X=H.alloc (OR (ai m) qt):=⟨_,rfl⟩
 have f1:Fr Em H H1:=by rw [e1];exact (Fr.refl H).alloc _
 have n1:H1.next=H.next+1:=by rw [e1,xd]
 have g1:H1.get H.next=some (OR (ai m) qt):=by rw [e1,qw]
 have lk0:Op.ae [.ptr H.next 0] H1=some (.int .i64 m.k):=xp (qz g1) 0;have h1:=h.em f1;have hlr:=h.lt;have hlb:=h.ca.lt;have hls:aF sv<H.next:=h.ca.sl.lt
 have hbf:=h.bk.fresh;have off:∀ y,H.next<=y -> ¬ fw r b sv bv y:=λ y hy q=>by
  rcases q with q|q|q
  ·omega
  ·exact q.elim (λ q=>by omega) λ q=>by omega
  ·have:=hbf _ q;omega
 -- the line's words
 have ldd:∀ {Hx:AHeap},Hx.get H.next=some (OR (ai m) qt)->Op.aG 8 [.ptr H.next 3] Hx=some (.agg (cJ m.d)):=λ g=>by
  rw [Ac (qz g) (by rw [xq];decide)];obtain ⟨k,co,l,⟨d,hd⟩⟩:=m
  match d,hd with
  | [d0,d1,d2,d3,d4,d5,d6,d7],_=>rfl
 have ldl:∀ {Hx:AHeap},Hx.get H.next=some (OR (ai m) qt)->Op.ae [.ptr H.next 2] Hx=some (.int .i64 m.line):=λ g=>xp (qz g) 2
 -- what goes is told
 have fin:∀ {n':No} {st:Int} {Hc:AHeap} {t:Nat},bR H0 Hc r b sv bv { n' with c:=(n'.c.fill m.line st m.d).1 } ks->CI n'.lines n'.c->n'.aq=n.aq->Fr (fw r b sv bv) H Hc->Hc.get t=some (OR (ao (n'.c.fill m.line st m.d).2.1) qr)->n.fill m=n'.bV m st ->
  ∀ {E:Env},lk E 0=some (.ptr r 0)->lk E 6=some (.ptr t 0)->lk E 4=some .nils->lk E 7=some (.bool (decide ((n'.c.fill m.line st m.d).2.2=0/\(n'.c.fill m.line st m.d).2.1.st ≠ 0))) ->
  W M ⟨none,FQ⟩ (qj2 20) true (c6 M [.tmp 4] (kO (mj H0 H r b sv bv (n.fill m)))) E [] Hc:=by
  intro n' st Hc t hc hci' hb hf hg hn E q0 q6 q4 q7;rw [hn];unfold No.bV
  by_cases q:(n'.c.fill m.line st m.d).2.2=0/\(n'.c.fill m.line st m.d).2.1.st ≠ 0
  ·have e7:lk E 7=some (.bool true):=by rw [q7,Af q]
   rw [ql q];have ld:=fU (n:=21) hg (zd _);simp only [↓qd,qp,aa,reduceIte,reduceEqDiff,w20,e7,w28,q0,q6,ld];refine C3.q (qye (M:=M) hc (by show n'.aq.length<=_;rw [hb];exact hk) _ (zN hci' q.2)) λ v H2 h2=>?_;simp only [↓qd,qp,aa,reduceIte,reduceEqDiff];exact h2.from hf
  ·have e7:lk E 7=some (.bool false):=by rw [q7,AO q]
   rw [qg q];simp only [↓qd,qp,aa,reduceIte,reduceEqDiff,w20,e7,q4];exact ⟨.inl ⟨rfl,rfl⟩,nM.of hc hf⟩
 -- put in
 have main:∀ {st:Int},st=1\/st=2->n.fill m=n.fG m st -> ∀ {E:Env},lk E 0=some (.ptr r 0)->lk E 3=some (.ptr H.next 0)->lk E 4=some .nils->lk E 5=some (.int .i64 st)->W M ⟨none,FQ⟩ (qj2 10) true (c6 M [.tmp 4] (kO (mj H0 H r b sv bv (n.fill m)))) E [] H1:=by
  intro st hst hn E q0 q3 q4 q5;simp only [↓qd,qp,aa,reduceIte,reduceEqDiff,w10,q0,q3,q5,qi,h1.l2,ldl g1,ldd g1];refine C3.q (qyb (M:=M) h1.ca hci hu hm hst m.d) λ v H2 ⟨hv,h2,f2⟩=>?_;rw [hv];unfold kU;have k2:H2.get H.next=some (OR (ai m) qt):=by rw [f2.ah _ (by omega) (λ q=>q.elim (λ q=>by omega) λ q=>by omega)];exact g1
  have n2:=f2.next
  have hn2:=h1.fp h2 f2 (by rw [(Nc ..).1];exact h.len);obtain ⟨H3,e3⟩:∃ X,X=(H2.alloc (OR (ao .zero) qr)).set H2.next (OR (ao (n.c.fill m.line st m.d).2.1) qr):=⟨_,rfl⟩
  have f3:Fr Em H2 H3:=by rw [e3];exact tt _ _
  have g3:H3.get H2.next=some (OR (ao (n.c.fill m.line st m.d).2.1) qr):=by rw [e3,xb]
  have n3:H3.next=H2.next+1:=by rw [e3];rfl
  have k3:H3.get H.next=some (OR (ai m) qt):=by rw [f3.ah _ (by omega) id];exact k2
  have hn3:=hn2.em f3;have f03:Fr (fw r b sv bv) H H3:=gi (gi (jN f1) (qO f2)) (jN f3)
  by_cases q:(n.c.fill m.line st m.d).2.2=22
  case neg =>
   have hn':n.fill m=n.bV m st:=by rw [hn];unfold No.fG;rw [qg q]
   simp only [↓qd,qp,aa,reduceIte,reduceEqDiff,qn,eZ,eS,<-e3,w12,q];exact fin hn3 hci rfl f03 g3 hn' q0 rfl q4 rfl
  ·have hn':n.fill m=(n.dO 3).bV m st:=by rw [hn];unfold No.fG;rw [ql q]
   have ec:({ n with c:=(n.c.fill m.line st m.d).1 }:No)=n:=by rw [BJ q]
   rw [ec] at hn3;simp only [↓qd,qp,aa,reduceIte,reduceEqDiff,qn,eZ,eS,<-e3,w12,xc q,q0];refine C3.q (CB (M:=M) hn3 3) λ _ H4 ⟨h4,f4⟩=>?_;have k4:H4.get H.next=some (OR (ai m) qt):=by rw [f4.ah _ (by omega) (off _ (qf _))];exact k3
   have g4:H4.get H2.next=some (OR (ao (n.c.fill m.line st m.d).2.1) qr):=by rw [f4.ah _ (by omega) (off _ (by omega))];exact g3
   have n4:=f4.next
   simp only [↓qd,qp,aa,reduceIte,reduceEqDiff,q0,q3,q5,qi,h4.l2,ldl k4,ldd k4];have hci4:CI n.lines (n.dO 3).c:=hci.discard;refine C3.q (qyb (M:=M) h4.ca hci4 hu hm hst m.d) λ v H5 ⟨hv,h5,f5⟩=>?_;rw [hv];unfold kU;have g5:H5.get H2.next=some (OR (ao (n.c.fill m.line st m.d).2.1) qr):=by rw [f5.ah _ (by omega) (λ q=>q.elim (λ q=>by omega) λ q=>by omega)];exact g4
   have s6:=iH g5 (zd _) (zd ((n.dO 3).c.fill m.line st m.d).2.1) (oH _);have hn5:=h4.fp h5 f5 (by rw [(Nc ..).1];exact h4.len);have f6:Fr (On H2.next) H5 (H5.set H2.next (OR (ao ((n.dO 3).c.fill m.line st m.d).2.1) qr)):=(Fr.refl H5).set (W:=On H2.next) (.inl rfl) _;simp only [↓qd,qp,aa,reduceIte,reduceEqDiff,qn,s6];refine fin (n':=n.dO 3) (t:=H2.next) ?_ hci4 rfl ?_ (xb ..) hn' q0 rfl q4 rfl
   ·exact hn5.off f6 (λ x (hx:x=H2.next)=>by rw [hx];exact ⟨by have:=h.bk.fr.next;omega,off _ (by omega)⟩)
   ·exact (gi (gi f03 f4) (qO f5)).set (.inr (by omega)) _
 by_cases k15:m.k=15
 ·simp only [↓qd,qp,aa,reduceIte,reduceEqDiff,w0,xk,<-e1,w4,lk0,xc k15];exact main (.inr rfl) (by unfold No.fill;rw [ql k15]) rfl rfl rfl rfl
 ·simp only [↓qd,qp,aa,reduceIte,reduceEqDiff,w0,xk,<-e1,w4,lk0,k15];exact main (.inl rfl) (by unfold No.fill;rw [qg k15]) rfl rfl rfl rfl
end
end Go.Am
namespace Go.Am
open Go.Proofs Ca
open Lang (ints)
variable {M:aA} [MK M]
theorem q43 {H:AHeap} {e size bytes b n:Nat} {cells:List AV} (h:Sl H size (.slice b 0 n n) n cells) (hn:0<n) {x:AV} {k:Nat} {new:List AV} (hx:Sl H size x k new) (hk:0<k) (hnew:aO new=true) (hs:0<size)
 (hf:(n+k)*bytes<=140737488355328) (hf':n+k<=140737488355328) {K:Bool->AV->AHeap->Prop} {m:Bool}
 (hK:∀ v' H',Own H' e size v' (n+k) (cells++new)->Fr Em H H'->(∀ c,aI v' c->H.next<=c)->K m v' H'):gn m (Op.append e size bytes [.slice b 0 n n,x] H) K:=by
 have hfit:=KI hf hf';have hlen:new.length=k*size:=hx.1;have hs':=Ck hs;have h3:Nat.ble (n+k) n=false:=by cases hq:Nat.ble (n+k) n with|false=>rfl|true=>rw [yr] at hq;omega
 have e0:Op.append e size bytes [.slice b 0 n n,x] H=some (cj H e size (n+k) (cells++new) (0,0)):=by
  simp only [Op.append,hx.dD,hx.first,qj,hnew,xf,bQ,h3,za,hfit,k9 (show n<=n+k by omega),hs',zu,h.first,lG]
 rw [e0];refine gn.intro rfl (hK _ _ ⟨by rw [qx,h.1,hlen,j4],.inr ⟨H.next,rfl,by rw [xd];omega,?_⟩⟩ ((Fr.refl H).alloc _) λ c q=>by rw [q.2];exact qf _);rw [AHeap.bc,ql rfl]
theorem sm.em {H H1 H':AHeap} {v:AV} {ms:List Mg} (h:sm H H1 v ms) (f:Fr Em H1 H'):sm H H' v ms:=by
 rcases h with q|⟨m,a,h1,h2,h3,h4,h5⟩
 ·exact .inl q
 ·exact .inr ⟨m,a,h1,h2,h3,qk h4 f.next,by rw [f.ah _ h4 id];exact h5⟩
theorem EO {H H':AHeap} {v a:AV} {ms:List Mg} {m:Mg} (h:sm H H' v ms) (x:dR ai qt 11 H' a [m]) (hl:H.next<=H'.next) {K:Bool->AV->AHeap->Prop}
 (hK:∀ v2 H2,jJ H H2 v2 (ms ++ [m])->Fr Em H' H2->K true v2 H2):gn true (Op.append qt 11 88 [v,a] H') K:=by
 have xs:=x.sl xq;have xo:aO ([m].flatMap ai)=true:=by rw [zx,IU,xt];exact vk m
 rcases h with ⟨rfl,rfl⟩|⟨m0,b,rfl,rfl,h3,h4,h5⟩
 ·refine q1h (Own.nil H' qt 11) xs xo (by decide) (by simp) (by simp) λ v2 H2 o f w=>hK v2 H2 ⟨?_,λ _=>?_⟩ (f.mono λ y _ q=>(q.1 rfl).elim)
  ·have:=Own.sl o;exact this
  ·have hv:v2 ≠ .nils:=λ q=>by
    subst q;have:=Own.sl o;exact absurd this.2 (by intro z;cases z)
   exact (w _ ⟨hv,rfl⟩).elim (λ q=>(q.1 rfl).elim) λ q=>by omega
 ·have x0:du ai 11 H' (Op.sliceTo 1 1 b) [m0]:=dR.sl (e:=qt) xq ⟨b,rfl,h4,by rw [h5];simp⟩;refine q43 (b:=b) (n:=1) (e:=qt) x0 (by decide) xs (by simp) xo (by decide) (by simp) (by simp) λ v2 H2 o f w=>hK v2 H2 ⟨?_,λ _=>?_⟩ f
  ·have:=Own.sl o;unfold du;rw [jd];exact this
  ·have hv:v2 ≠ .nils:=λ q=>by
    subst q;have:=Own.sl o;exact absurd this.2 (by intro z;cases z)
   have:=w _ ⟨hv,rfl⟩;omega
section
variable {H0 H:AHeap} {r b:Nat} {sv bv:AV} {n:No} {ks:List Nat}
theorem xD (ks:List Nat) (line:Int):ints (sJ ks line)=(ints ks).filter (· ≠ line):=by
 unfold ints sJ;rw [List.filter_map];congr 1;refine List.filter_congr λ k _=>?_;show ((k:Int) != line)=decide ((k:Int) ≠ line)
 by_cases q:(k:Int)=line<;>simp [q]
theorem q1u (c:Ca) (line:Int):nJ c line=.tuple [.agg (ao ((c.find line).getD .zero)),.bool (c.find line).isSome]:=by
 unfold nJ;cases c.find line<;>rfl
theorem OA {x:En} {too:Bool} (h:CI n.lines n.c):CI n.lines (n.lost x too).c:=by
 unfold No.lost;split
 ·split
  ·exact h.discard
  ·exact h.discard
 ·exact h
theorem Cg (x:En) (too:Bool):(n.lost x too).aq=n.aq/\(n.lost x too).core=n.core/\(n.lost x too).lines=n.lines/\(n.lost x too).c.us=n.c.us:=by
 unfold No.lost;split
 ·split<;>exact ⟨rfl,rfl,rfl,rfl⟩
 ·exact ⟨rfl,rfl,rfl,rfl⟩
theorem F0 (c:Ca) (line:Int):(c.drop line).1.sl.length=c.sl.length/\(c.drop line).1.us=c.us:=by
 unfold Ca.drop;cases c.gq line 0 with
 | none=>exact ⟨rfl,rfl⟩
 | some i=>exact ⟨qv,rfl⟩
theorem qx0 (c:Ca) (line:Int):(c.bq line).1.sl.length=c.sl.length/\(c.bq line).1.us=c.us:=by
 unfold Ca.bq;cases c.gq line 2 with
 | none=>exact ⟨rfl,rfl⟩
 | some i=>exact ⟨qv,rfl⟩
theorem qvd (c:Ca) (line:Int) (d:L8):(c.bH line d).sl.length=c.sl.length/\(c.bH line d).us=c.us:=by
 unfold Ca.bH;cases c.gq line 1 with
 | none=>exact ⟨rfl,rfl⟩
 | some i=>exact ⟨qv,rfl⟩
theorem q54 (n:No) (x:En):(n.gone x).1.core=n.core:=by unfold No.gone;split<;>rfl
theorem q5y (n:No) (m:Mg):(n.fill m).1.core=n.core:=by
 have e:∀ (n:No) (st:Int),(n.bV m st).1.core=n.core:=λ n st=>by
  unfold No.bV;split
  ·exact q54 ..
  ·rfl
 unfold No.fill;generalize (if m.k=15 then (2:Int) else 1)=st;unfold No.fG;split
 ·exact e (n.dO 3) st
 ·exact e n st
def mT (H0 H:AHeap) (r b:Nat) (sv bv:AV) (a:No × List Mg) (v:AV) (H':AHeap):Prop:=(∃ ov e,v=.tuple [ov,e]/\jJ H H' ov a.2)/\nM H0 H r b sv bv a.1 H'
theorem q4q (h:bR H0 H r b sv bv n ks) (hci:CI n.lines n.c) (hk:n.aq.length<=900000) (hu:n.c.us+1<=1000000) (m:Mg):zq M kz [.ptr r 0,.agg (ai m)] H (mT H0 H r b sv bv (n.az m)):=by
 refine qp4 ?_;obtain ⟨w0,w2,w10,w12,w20,w73,w34,w75,w40,w85,w41,w49,w53,w61⟩:=qp5 M ⟨none,kz⟩;obtain ⟨H1,e1⟩:∃ X,X=H.alloc (OR (ai m) qt):=⟨_,rfl⟩
 have f1:Fr Em H H1:=by rw [e1];exact (Fr.refl H).alloc _
 have n1:H1.next=H.next+1:=by rw [e1,xd]
 have g1:H1.get H.next=some (OR (ai m) qt):=by rw [e1,qw]
 have hlr:=h.lt;have hlb:=h.ca.lt;have hls:aF sv<H.next:=h.ca.sl.lt
 have hbf:=h.bk.fresh;have off:∀ y,H.next<=y -> ¬ fw r b sv bv y:=λ y hy q=>by
  rcases q with q|q|q
  ·omega
  ·exact q.elim (λ q=>by omega) λ q=>by omega
  ·have:=hbf _ q;omega
 have offC:∀ y,H.next<=y -> ¬ jB b sv y:=λ y hy q=>off y hy (.inr (.inl q))
 have ldk:∀ {Hx:AHeap},Hx.get H.next=some (OR (ai m) qt)->Op.ae [.ptr H.next 0] Hx=some (.int .i64 m.k):=λ g=>xp (qz g) 0
 have ldc:∀ {Hx:AHeap},Hx.get H.next=some (OR (ai m) qt)->Op.ae [.ptr H.next 1] Hx=some (.int .i64 m.core):=λ g=>xp (qz g) 1
 have ldl:∀ {Hx:AHeap},Hx.get H.next=some (OR (ai m) qt)->Op.ae [.ptr H.next 2] Hx=some (.int .i64 m.line):=λ g=>xp (qz g) 2
 have ldm:∀ {Hx:AHeap},Hx.get H.next=some (OR (ai m) qt)->Op.aG 11 [.ptr H.next 0] Hx=some (.agg (ai m)):=λ g=>fU g (xq m)
 have ldd:∀ {Hx:AHeap},Hx.get H.next=some (OR (ai m) qt)->Op.aG 8 [.ptr H.next 3] Hx=some (.agg (cJ m.d)):=λ g=>by
  rw [Ac (qz g) (by rw [xq];decide)];obtain ⟨k,co,l,⟨d,hd⟩⟩:=m
  match d,hd with
  | [d0,d1,d2,d3,d4,d5,d6,d7],_=>rfl
 have h1:=h.em f1;simp only [↓qd,qp,aa,reduceIte,reduceEqDiff,w0,xk,<-e1,w2,kv,w10,qi,h1.l2,ldl g1];refine C3.q (Ki (M:=M) h1.ca hci m.line) λ v H2 ⟨hv,f2⟩=>?_;rw [hv,q1u];obtain ⟨x,hx⟩:∃ x,x=(n.c.find m.line).getD .zero:=⟨_,rfl⟩
 rw [<-hx];obtain ⟨H3,e3⟩:∃ X,X=(H2.alloc (OR (ao .zero) qr)).set H2.next (OR (ao x) qr):=⟨_,rfl⟩
 have f3:Fr Em H2 H3:=by rw [e3];exact tt _ _
 have f03:Fr Em H H3:=(f1.trans f2 λ _ q=>q.elim).trans f3 λ _ q=>q.elim;have n2:=f2.next
 have n3:H3.next=H2.next+1:=by rw [e3];rfl
 have x3:H3.get H2.next=some (OR (ao x) qr):=by rw [e3,xb]
 have g3:H3.get H.next=some (OR (ai m) qt):=by rw [f3.ah _ (by omega) id,f2.ah _ (by omega) id];exact g1
 have h3:=h.em f03;have ldx:∀ {Hx:AHeap},Hx.get H2.next=some (OR (ao x) qr)->Op.aG 21 [.ptr H2.next 0] Hx=some (.agg (ao x)):=λ g=>fU g (zd x)
 simp only [↓qd,qp,aa,reduceIte,reduceEqDiff,qn,eZ,eS,<-e3]
 -- what is not heard
 have no:∀ {e:Int},(m.core ≠ n.core\/m.line<0\/n.lines<=m.line \/ ¬ n.cR m ((n.c.find m.line).getD .zero)) -> ∀ {H':AHeap},Fr Em H H'->mT H0 H r b sv bv (n.az m) (.tuple [.nils,.int .i64 e]) H':=by
  intro e q H' f;have ea:n.az m=(n,[]):=by unfold No.az;rw [ql q]
  rw [ea];exact ⟨⟨.nils,_,rfl,jJ.nil ..⟩,h.same f⟩
 by_cases q1:m.core=n.core
 case neg =>
  simp only [↓qd,qp,aa,reduceIte,reduceEqDiff,w12,ldc g3,qi,h3.l0,q1];exact no (.inl q1) f03
 by_cases q2:m.line<0
 ·simp only [↓qd,qp,aa,reduceIte,reduceEqDiff,w12,ldc g3,qi,h3.l0,xc q1,ldl g3,q2];exact no (.inr (.inl q2)) f03
 by_cases q3:n.lines<=m.line
 ·simp only [↓qd,qp,aa,reduceIte,reduceEqDiff,w12,ldc g3,qi,h3.l0,xc q1,ldl g3,q2,h3.l1,q3];exact no (.inr (.inr (.inl q3))) f03
 simp only [↓qd,qp,aa,reduceIte,reduceEqDiff,w12,ldc g3,qi,h3.l0,xc q1,ldl g3,q2,h3.l1,q3,ldm g3,ldx x3];refine C3.q (qyo (M:=M) h3 hk m x) λ v H4 ⟨hv,f4⟩=>?_;rw [hv];have f04:Fr Em H H4:=f03.trans f4 λ _ q=>q.elim;have n4:=f4.next
 have h4:=h.em f04;have g4:H4.get H.next=some (OR (ai m) qt):=by rw [f4.ah _ (by omega) id];exact g3
 have x4:H4.get H2.next=some (OR (ao x) qr):=by rw [f4.ah _ (by omega) id];exact x3
 by_cases q4:n.cR m x
 case neg =>
  simp only [↓qd,qp,aa,reduceIte,reduceEqDiff,AO q4];exact no (.inr (.inr (.inr (by rw [<-hx];exact q4)))) f04
 have hn:¬ (m.core ≠ n.core\/m.line<0\/n.lines<=m.line \/ ¬ n.cR m ((n.c.find m.line).getD .zero)):=by
  rw [<-hx];rintro (w|w|w|w)
  ·exact w q1
  ·exact q2 w
  ·exact q3 w
  ·exact w q4
 rw [Af q4]
 -- the words that a message has
 have fill_d:∀ {k line:Int} {d:L8} {Hx:AHeap} {a:Nat},Hx.get a=some (OR (ai ⟨k,n.core,line,.zero⟩) qt)->Op.store 8 [.ptr a 3,.agg (cJ d)] Hx=some (.undef,Hx.set a (OR (ai ⟨k,n.core,line,d⟩) qt)):=λ {k line d Hx a} g=>by
  have s6:=oS g (o:=3) (n:=8) (v:=.agg (cJ d)) (by rw [xk];exact vf _) (by rw [xq];decide) (by rw [xk];exact tq _);rw [Mr] at s6;exact s6
 by_cases k11:m.k=11
 ·have ea:n.az m=({ n.lost x true with c:=((n.lost x true).c.drop m.line).1 },[n.msg 4 m.line]):=by
   unfold No.az;rw [qg hn,ql k11,<-hx]
  rw [ea];simp only [↓qd,qp,aa,reduceIte,reduceEqDiff,w20,ldk g4,xc k11,ldx x4];refine C3.q (Nj (M:=M) h4 x true) λ _ H5 ⟨h5,f5⟩=>?_;have n5:=f5.next
  have g5:H5.get H.next=some (OR (ai m) qt):=by rw [f5.ah _ (by omega) (off _ (by omega))];exact g4
  simp only [↓qd,qp,aa,reduceIte,reduceEqDiff,qi,h5.l2,ldl g5];refine C3.q (PO (M:=M) h5.ca (OA hci) m.line) λ _ H6 ⟨_,h6,f6⟩=>?_;have g6:H6.get H.next=some (OR (ai m) qt):=by rw [f6.ah _ (by omega) (offC _ (by omega))];exact g5
  have hn6:=h5.fp h6 f6 (by rw [(F0 ..).1];exact h5.len);simp only [↓qd,qp,aa,reduceIte,reduceEqDiff,ldl g6];refine C3.q (Aa (M:=M) hn6 4 m.line) λ v H7 ⟨hv,f7⟩=>?_;rw [hv];have n6:=f6.next
  have n7:=f7.next
  have em:No.msg { n.lost x true with c:=((n.lost x true).c.drop m.line).1 } 4 m.line=n.msg 4 m.line:=by unfold No.msg;rw [show (No.core { n.lost x true with c:=((n.lost x true).c.drop m.line).1 })=n.core from (Cg (n:=n) x true).2.1]
  rw [em];simp only [↓qd,qp,aa,reduceIte,reduceEqDiff,mZ,sW];exact ⟨⟨_,_,rfl,Fw _ (by omega)⟩,nM.of ((hn6.em f7).em ((Fr.refl _).alloc _)) (gi (gi (jN f04) f5) ((gi (qO f6) (jN f7)).alloc _))⟩
 by_cases k1213:m.k=12\/m.k=13
 ·have t13:¬ (13:Int)=11:=by decide
  -- a recall
  have rec41:∀ {E:Env},lk E 0=some (.ptr r 0)->lk E 3=some (.ptr H.next 0)->lk E 6=some (.ptr H2.next 0)->lk E 7=some (.bool (n.c.find m.line).isSome) ->
   W M ⟨none,kz⟩ (Gb 41) true (cw 0 (cT (W M ⟨none,kz⟩ (Gb 73)) (c6 M [.tmp 4,.tmp 5] (kO (mT H0 H r b sv bv (n.az m)))))) E [] H4:=by
   intro E q0 q3 q6 q7;cases hf:n.c.find m.line with
   | none =>
    have ea:n.az m=(n,[n.msg 6 m.line]):=by
     unfold No.az;rw [qg hn,qg k11,ql k1213,hf]
    rw [ea];rw [hf] at q7;have q7:lk E 7=some (.bool false):=q7;simp only [↓qd,qp,aa,reduceIte,reduceEqDiff,w41,q7,q0,q3,ldl g4];refine C3.q (Aa (M:=M) h4 6 m.line) λ v H5 ⟨hv,f5⟩=>?_;rw [hv];have n5:=f5.next
    simp only [↓qd,qp,aa,reduceIte,reduceEqDiff,mZ,sW];exact ⟨⟨_,_,rfl,Fw _ (by omega)⟩,h.same ((f04.trans f5 λ _ q=>q.elim).alloc _)⟩
   | some x' =>
    have exx:x=x':=by rw [hx,hf];rfl
    subst exx;rw [hf] at q7;have q7:lk E 7=some (.bool true):=q7
    -- behind the loss
    have go:∀ {too:Bool} {H5:AHeap},(too=true ↔ m.k=13)->bR H0 H5 r b sv bv (n.lost x too) ks->Fr (fw r b sv bv) H4 H5 -> ∀ {E:Env},lk E 0=some (.ptr r 0)->lk E 3=some (.ptr H.next 0)->lk E 6=some (.ptr H2.next 0)->lk E 8=some (.ptr H5.next 0) ->
     ∀ {H6:AHeap},H6=(H5.alloc (OR (ai ⟨0,0,0,.zero⟩) qt)).set H5.next (OR (ai (n.msg 5 m.line)) qt) ->
     W M ⟨none,kz⟩ (Gb 53) true (cw 0 (cT (W M ⟨none,kz⟩ (Gb 73)) (c6 M [.tmp 4,.tmp 5] (kO (mT H0 H r b sv bv (n.az m)))))) E [] H6:=by
     intro too H5 ht h5 f5 E q0 q3 q6 q8 H6 e6;have n5:=f5.next
     have f6:Fr Em H5 H6:=by rw [e6];exact tt _ _
     have n6:H6.next=H5.next+1:=by rw [e6];rfl
     have h6:=h5.em f6;have g5:H5.get H.next=some (OR (ai m) qt):=by rw [f5.ah _ (by omega) (off _ (by omega))];exact g4
     have g6:H6.get H.next=some (OR (ai m) qt):=by rw [f6.ah _ (by omega) id];exact g5
     have x5:H5.get H2.next=some (OR (ao x) qr):=by rw [f5.ah _ (by omega) (off _ (by omega))];exact x4
     have x6:H6.get H2.next=some (OR (ao x) qr):=by rw [f6.ah _ (by omega) id];exact x5
     have b6:H6.get H5.next=some (OR (ai (n.msg 5 m.line)) qt):=by rw [e6,xb]
     have f06:Fr (fw r b sv bv) H H6:=gi (gi (jN f04) f5) (jN f6)
     -- the answer
     have out:∀ {d:L8} {n':No} {H8:AHeap},n.az m=(n',[⟨5,n.core,m.line,d⟩])->bR H0 H8 r b sv bv n' ks->Fr (fw r b sv bv) H H8->H6.next<=H8.next -> ∀ {E:Env},lk E 8=some (.ptr H5.next 0) ->
      W M ⟨none,kz⟩ (Gb 61) true (cw 0 (cT (W M ⟨none,kz⟩ (Gb 73)) (c6 M [.tmp 4,.tmp 5] (kO (mT H0 H r b sv bv (n.az m)))))) E [] (H8.set H5.next (OR (ai ⟨5,n.core,m.line,d⟩) qt)):=by
      intro d n' H8 ea h8 f8 n8 E q8;rw [ea];have ld:=fU (xb H8 H5.next (OR (ai ⟨5,n.core,m.line,d⟩) qt)) (xq _);simp only [↓qd,qp,aa,reduceIte,reduceEqDiff,w61,q8,ld,mZ,sW];have f9:Fr (On H5.next) H8 (H8.set H5.next (OR (ai ⟨5,n.core,m.line,d⟩) qt)):=(Fr.refl H8).set (W:=On H5.next) (.inl rfl) _;have h9:=h8.off f9 (λ x (hx:x=H5.next)=>by rw [hx];exact ⟨by have:=h.bk.fr.next;omega,off _ (by omega)⟩);exact ⟨⟨_,_,rfl,Fw _ (by rw [C8];omega)⟩,nM.of (h9.em ((Fr.refl _).alloc _)) ((f8.set (.inr (by omega)) _).alloc _)⟩
     by_cases k12:m.k=12
     ·have et:too=false:=by cases too with|false=>rfl|true=>have:=ht.1 rfl;omega
      subst et;have ea:n.az m=({ n.lost x false with c:=((n.lost x false).c.bq m.line).1 },[⟨5,n.core,m.line,((n.lost x false).c.bq m.line).2⟩]):=by
       unfold No.az;rw [qg hn,qg k11,ql k1213,hf];show (if m.k=12 then _ else _)=_;rw [ql k12]
      simp only [↓qd,qp,aa,reduceIte,reduceEqDiff,w53,q0,q3,ldk g6,xc k12,qi,h6.l2,ldl g6];refine C3.q (qz8 (M:=M) h6.ca (OA hci) m.line) λ v H7 ⟨hv,h7,f7⟩=>?_;rw [hv];unfold oq;have n7:=f7.next
      have b7:H7.get H5.next=some (OR (ai (n.msg 5 m.line)) qt):=by rw [f7.ah _ (by omega) (offC _ (by omega))];exact b6
      have hn7:=h6.fp h7 f7 (by rw [(qx0 ..).1];exact h6.len);simp only [↓qd,qp,aa,reduceIte,reduceEqDiff,qn,q8,fill_d b7];exact out ea hn7 (gi f06 (qO f7)) (by omega) q8
     ·have k13:m.k=13:=by omega
      have et:too=true:=ht.2 k13;subst et;have ea:n.az m=({ n.lost x true with c:=((n.lost x true).c.drop m.line).1 },[⟨5,n.core,m.line,((n.lost x true).c.drop m.line).2.d⟩]):=by
       unfold No.az;rw [qg hn,qg k11,ql k1213,hf];show (if m.k=12 then _ else _)=_;rw [qg k12]
      simp only [↓qd,qp,aa,reduceIte,reduceEqDiff,w53,q0,q3,ldk g6,k12,qi,h6.l2,ldl g6];refine C3.q (PO (M:=M) h6.ca (OA hci) m.line) λ v H7 ⟨hv,h7,f7⟩=>?_;rw [hv];unfold rR;have n7:=f7.next
      have b7:H7.get H5.next=some (OR (ai (n.msg 5 m.line)) qt):=by rw [f7.ah _ (by omega) (offC _ (by omega))];exact b6
      have x7:H7.get H2.next=some (OR (ao x) qr):=by rw [f7.ah _ (by omega) (offC _ (by omega))];exact x6
      have hn7:=h6.fp h7 f7 (by rw [(F0 ..).1];exact h6.len);have s8:=iH x7 (zd _) (zd ((n.lost x true).c.drop m.line).2) (oH _);obtain ⟨H8,e8⟩:∃ X,X=H7.set H2.next (OR (ao ((n.lost x true).c.drop m.line).2) qr):=⟨_,rfl⟩
      rw [<-e8] at s8;have f8:Fr (On H2.next) H7 H8:=by rw [e8];exact (Fr.refl H7).set (W:=On H2.next) (.inl rfl) _
      have x8:H8.get H2.next=some (OR (ao ((n.lost x true).c.drop m.line).2) qr):=by rw [e8,xb]
      have b8:H8.get H5.next=some (OR (ai (n.msg 5 m.line)) qt):=by rw [f8.ah _ (by omega) (λ (q:H5.next=H2.next)=>by omega)];exact b7
      have ld8:Op.aG 8 [.ptr H2.next 4] H8=some (.agg (cJ ((n.lost x true).c.drop m.line).2.d)):=by rw [Ac (qz x8) (by rw [zd];decide),uu]
      have hn8:=hn7.off f8 (λ x (hx:x=H2.next)=>by rw [hx];exact ⟨by have:=h.bk.fr.next;omega,off _ (by omega)⟩);have f78:Fr (fw r b sv bv) H H8:=by rw [e8];exact (gi f06 (qO f7)).set (.inr (by omega)) _
      simp only [↓qd,qp,aa,reduceIte,reduceEqDiff,qn,q6,q8,s8,ld8,fill_d b8];exact out ea hn8 f78 (by have:=f8.next;omega) q8
    by_cases k12:m.k=12
    ·have k13:¬ m.k=13:=by omega
     simp only [↓qd,qp,aa,reduceIte,reduceEqDiff,w41,q7,w49,q0,q3,q6,ldx x4,ldk g4,k13];refine C3.q (Nj (M:=M) h4 x false) λ _ H5 ⟨h5,f5⟩=>?_;have n5:=f5.next
     have g5:H5.get H.next=some (OR (ai m) qt):=by rw [f5.ah _ (by omega) (off _ (by omega))];exact g4
     simp only [↓qd,qp,aa,reduceIte,reduceEqDiff,q0,q3,ldl g5];refine C3.q (Aa (M:=M) h5 5 m.line) λ v H6 ⟨hv,f6⟩=>?_;have em:(n.lost x false).msg 5 m.line=n.msg 5 m.line:=by unfold No.msg;rw [(Cg (n:=n) x false).2.1]
     rw [hv,em];have s6:=iH (qw H6 (OR (ai ⟨0,0,0,.zero⟩) qt)) (xq _) (xq (n.msg 5 m.line)) (vk _);simp only [↓qd,qp,aa,reduceIte,reduceEqDiff,mZ,s6];refine go (too:=false) ⟨λ q=>(by cases q),λ q=>absurd q k13⟩ (h5.em f6) (gi f5 (jN f6)) ?_ ?_ ?_ ?_ ?_
     ·exact q0
     ·exact q3
     ·exact q6
     ·rfl
     ·rfl
    ·have k13:m.k=13:=by omega
     simp only [↓qd,qp,aa,reduceIte,reduceEqDiff,w41,q7,w49,q0,q3,q6,ldx x4,ldk g4,xc k13];refine C3.q (Nj (M:=M) h4 x true) λ _ H5 ⟨h5,f5⟩=>?_;have n5:=f5.next
     have g5:H5.get H.next=some (OR (ai m) qt):=by rw [f5.ah _ (by omega) (off _ (by omega))];exact g4
     simp only [↓qd,qp,aa,reduceIte,reduceEqDiff,q0,q3,ldl g5];refine C3.q (Aa (M:=M) h5 5 m.line) λ v H6 ⟨hv,f6⟩=>?_;have em:(n.lost x true).msg 5 m.line=n.msg 5 m.line:=by unfold No.msg;rw [(Cg (n:=n) x true).2.1]
     rw [hv,em];have s6:=iH (qw H6 (OR (ai ⟨0,0,0,.zero⟩) qt)) (xq _) (xq (n.msg 5 m.line)) (vk _);simp only [↓qd,qp,aa,reduceIte,reduceEqDiff,mZ,s6];refine go (too:=true) ⟨λ _=>k13,λ _=>rfl⟩ (h5.em f6) (gi f5 (jN f6)) ?_ ?_ ?_ ?_ ?_
     ·exact q0
     ·exact q3
     ·exact q6
     ·rfl
     ·rfl
  by_cases k12:m.k=12
  ·simp only [↓qd,qp,aa,reduceIte,reduceEqDiff,w20,ldk g4,k11,w34,xc k12,w40];exact rec41 rfl rfl rfl rfl
  ·have k13:m.k=13:=by omega
   simp only [↓qd,qp,aa,reduceIte,reduceEqDiff,w20,ldk g4,k11,w34,k12,xc k13,w40];exact rec41 rfl rfl rfl rfl
 have k12:¬ m.k=12:=λ q=>k1213 (.inl q);have k13:¬ m.k=13:=λ q=>k1213 (.inr q)
 by_cases k16:m.k=16
 ·have ea:n.az m=({ n with aq:=n.aq.filter (· ≠ m.line) },[]):=by
   unfold No.az;rw [qg hn,qg k11,qg k1213,ql k16]
  rw [ea];have hkl:=h.kl;simp only [↓qd,qp,aa,reduceIte,reduceEqDiff,w20,ldk g4,k11,w34,k12,k13,w40,xc k16,qi,h4.rf];refine C3.q (qz7 (M:=M) (t:=H.next) (line:=m.line) (λ f=>ldl (by rw [f.ah _ (by omega) λ q=>by have:=hbf _ q;omega];exact g4)) h4.bk (by omega)) λ v H5 ⟨hs,f5,w5⟩=>?_;obtain ⟨H6,s6,h6,f6⟩:=h4.Dk hs f5 (λ x q=>.inl (w5 x q));simp only [↓qd,qp,aa,reduceIte,reduceEqDiff,qi,s6];rw [xD,<-h.eq] at h6;exact ⟨⟨_,_,rfl,jJ.nil ..⟩,v,_,h6,gi (jN f04) f6,λ x q=>.inl (w5 x q)⟩
 -- what was asked for
 obtain ⟨H5,s5,h5,f5⟩:=h4.xQ ⟨0,0,0,.zero⟩;have n5:=f5.next
 have g5:H5.get H.next=some (OR (ai m) qt):=by rw [f5.ah _ (by omega) (λ (q:H.next=r)=>by omega)];exact g4
 have f05:Fr (fw r b sv bv) H H5:=gi (jN f04) (DC f5);cases hf:n.c.find m.line with
 | some x' =>
  have ea:n.az m=({ n with out:=⟨0,0,0,.zero⟩,c:=n.c.bH m.line m.d },[n.msg 7 m.line]):=by
   unfold No.az;rw [qg hn,qg k11,qg k1213,qg k16,hf]
  rw [ea];simp only [↓qd,qp,aa,reduceIte,reduceEqDiff,w20,ldk g4,k11,w34,k12,k13,w40,k16,w73,mZ,Br,qi,s5,w75,DX,h5.l2,ldl g5,ldd g5];refine C3.q (qy2 (M:=M) h5.ca hci m.line m.d) λ _ H6 ⟨h6,f6⟩=>?_;have g6:H6.get H.next=some (OR (ai m) qt):=by rw [f6.ah _ (by omega) (offC _ (by omega))];exact g5
  have hn6:=h5.fp h6 f6 (by rw [(qvd ..).1];exact h5.len);simp only [↓qd,qp,aa,reduceIte,reduceEqDiff,ldl g6];refine C3.q (Aa (M:=M) hn6 7 m.line) λ v H7 ⟨hv,f7⟩=>?_;rw [hv];have n6:=f6.next
  have n7:=f7.next
  simp only [↓qd,qp,aa,reduceIte,reduceEqDiff,mZ,sW];exact ⟨⟨_,_,rfl,Fw _ (by omega)⟩,nM.of ((hn6.em f7).em ((Fr.refl _).alloc _)) (gi f05 ((gi (qO f6) (jN f7)).alloc _))⟩
 | none =>
  have ea:n.az m=((No.fill { n with out:=⟨0,0,0,.zero⟩ } m).1,(No.fill { n with out:=⟨0,0,0,.zero⟩ } m).2 ++ [n.msg 7 m.line]):=by
   unfold No.az;rw [qg hn,qg k11,qg k1213,qg k16,hf]
  rw [ea];simp only [↓qd,qp,aa,reduceIte,reduceEqDiff,w20,ldk g4,k11,w34,k12,k13,w40,k16,w73,mZ,Br,qi,s5,w75,JU,w85,ldm g5];refine C3.q (q3y (M:=M) h5 hci hk hu m (by omega)) λ v H6 ⟨hm6,bv',ks',h6,f6,w6⟩=>?_;have n6:=f6.next
  have g6:H6.get H.next=some (OR (ai m) qt):=by rw [f6.ah _ (by omega) (off _ (by omega))];exact g5
  simp only [↓qd,qp,aa,reduceIte,reduceEqDiff,ldl g6];refine C3.q (Aa (M:=M) h6 7 m.line) λ v H7 ⟨hv,f7⟩=>?_;have ec:(No.fill { n with out:=⟨0,0,0,.zero⟩ } m).1.core=n.core:=q5y _ m;have em:(No.fill { n with out:=⟨0,0,0,.zero⟩ } m).1.msg 7 m.line=n.msg 7 m.line:=by unfold No.msg;rw [ec]
  rw [hv,em];simp only [↓qd,qp,aa,reduceIte,reduceEqDiff,mZ,sW];have n7:=f7.next
  refine EO (H:=H5) (m:=n.msg 7 m.line) (hm6.em (f7.alloc _)) (EN _) (by rw [xd];omega) λ v2 H8 hms f8=>?_;simp only [↓qd,qp,aa,reduceIte,reduceEqDiff];have f68:Fr Em H6 H8:=(f7.alloc _).trans f8 λ _ q=>q.elim;exact ⟨⟨_,_,rfl,hms.1,λ q=>by have:=hms.2 q;omega⟩,bv',ks',h6.em f68,gi f05 (gi f6 (jN f68)),λ x q=>(w6 x q).imp id λ w=>by omega⟩
end
end Go.Am
