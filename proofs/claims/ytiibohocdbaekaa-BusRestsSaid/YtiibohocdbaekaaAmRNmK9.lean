/- NmK9: NiE NiF NiG. -/
import Derived.Test.YtiibohocdbaekaaAmRNmK8
set_option linter.unusedVariables false
set_option linter.unusedSimpArgs false
set_option linter.unusedSectionVars false
set_option maxRecDepth 100000
open Nat (reduceEqDiff)
namespace Go.Am
open Go.Proofs Ca
open Lang (ints)
variable {M:aO} [MK M]
def qI (H H':AHeap) (v:AV) (ms:List Mg):Prop:=(v=.nils/\ms=[]) \/ ∃ m a,v=Op.sliceTo 1 1 a/\ms=[m]/\H.next<=a/\a<H'.next/\H'.get a=some (OR (ai m) qk)
theorem qI.ms {H H':AHeap} {v:AV} {ms:List Mg} (h:qI H H' v ms):ir H H' v ms:=by
 rcases h with ⟨rfl,rfl⟩|⟨m,a,rfl,rfl,h1,h2,h3⟩
 ·exact ir.nil ..
 ·exact ⟨dA.sl (e:=qk) xu ⟨a,rfl,h2,by rw [h3];simp⟩,λ _=>h1⟩
theorem qI.one {H H0:AHeap} (m:Mg) (h:H0.next<=H.next):qI H0 (H.alloc (OR (ai m) qk)) (Op.sliceTo 1 1 H.next) [m]:=.inr ⟨m,H.next,rfl,rfl,h,by rw [xn];omega,qx ..⟩
section
variable {H0 H:AHeap} {r b:Nat} {sv bv:AV} {n:No} {ks:List Nat}
theorem cd.AM (h:cd H0 H r b sv bv n ks) {bv':AV} {ks':List Nat} {H1:AHeap} (hs:iT dF H0 H1 bv' ks') (f:Fr (bH bv) H H1) (hf:∀ x,bH bv' x->bH bv x\/H.next<=x) :
 ∃ H2,Op.store 1 [.ptr r 14,bv'] H1=some (.undef,H2)/\cd H0 H2 r b sv bv' { n with au:=ints ks' } ks'/\Fr (eQ r b sv bv) H H2:=by
 have hlb:=h.ca.lt;have hls:aM sv<H.next:=h.ca.sl.lt
 have a1:∀ x,x<H.next -> ¬ bH bv x -> ¬ bH bv' x:=λ x h1 h2 q=>(hf x q).elim h2 λ w=>by omega
 have g1:H1.get r=some (OR (kZ n b bv) FV):=by rw [f.ae _ h.lt h.o1];exact h.row
 have o1:br bv'=true:=by have:=Sl.one hs.sl;exact this
 have hu:AV.cells bv'=[bv']:=by
  rcases hs.own with ⟨rfl,_⟩|⟨b,m,rest,rfl,_⟩<;>rfl
 have st:=po g1 (o:=14) (n:=1) (v:=bv') (by rw [hu];rfl) (by rw [(AE n b bv).2.2.2.2.2.2.2.2];decide) (by rw [hu];simp [nU,o1]);have e:(kZ n b bv).take 14++AV.cells bv'++(kZ n b bv).drop (14+1)=kZ n b bv':=by
  rw [hu];obtain ⟨core,lines,c,⟨k,co,l,⟨d,hd⟩⟩,au,live,code⟩:=n
  match d,hd with
  | [d0,d1,d2,d3,d4,d5,d6,d7],_=>rfl
 rw [e] at st;have f2:Fr (On r) H1 (H1.set r (OR (kZ n b bv') FV)):=(Fr.refl H1).set (W:=On r) (.inl rfl) _;have fn:=f.next
 refine ⟨_,st,⟨xd ..,qn h.lt fn,(h.ca.fr f h.o2 h.o3).fr f2 (λ (q:b=r)=>h.n1 q.symm) (λ (q:aM sv=r)=>h.n2 q.symm),hs.nX f2 (hs.fr.set (.inr h.lr) _) (λ x hx (q:x=r)=>a1 r h.lt h.o1 (q ▸ hx)),rfl,h.lr,h.lb,h.ls,h.n1,h.n2,a1 _ h.lt h.o1,a1 _ hlb h.o2,a1 _ hls h.o3,h.li,h.len⟩,?_⟩;exact (f.mono λ _ _ q=>.inr (.inr q)).trans f2 λ x q=>.inl (.inl q)
theorem sK (ks:List Nat) (x:Nat):ints (ks ++ [x])=ints ks ++ [(x:Int)]:=by simp [ints]
theorem Oj (m:Mg) (d:L8):(ai m).take 3++(AV.agg (cN d)).cells++(ai m).drop (3+8)=ai { m with d:=d }:=by
 obtain ⟨k,co,l,⟨e,he⟩⟩:=m;obtain ⟨d,hd⟩:=d
 match e,he,d,hd with
 | [d0,d1,d2,d3,d4,d5,d6,d7],_,[e0,e1,e2,e3,e4,e5,e6,e7],_=>rfl
theorem r9 (x:En):((aA x).drop 4).take 8=cN x.d:=by
 obtain ⟨line,st,r,w,⟨d,hd⟩,⟨o,ho⟩,u⟩:=x
 match d,hd,o,ho with
 | [d0,d1,d2,d3,d4,d5,d6,d7],_,[e0,e1,e2,e3,e4,e5,e6,e7],_=>rfl
def kD (H0 H:AHeap) (r b:Nat) (sv bv:AV) (a:No × List Mg) (v:AV) (H':AHeap):Prop:=qI H H' v a.2/\mh H0 H r b sv bv a.1 H'
theorem q1p (h:cd H0 H r b sv bv n ks) (hk:n.au.length<=900000) (x:En) (hx:0<=x.line):jv M AR [.ptr r 0,.agg (aA x)] H (kD H0 H r b sv bv (n.gone x)):=by
 refine qtr ?_;obtain ⟨w0,w2,w10⟩:=qts M ⟨none,AR⟩;obtain ⟨H1,e1⟩:∃ X,X=H.alloc (OR (aA x) qt):=⟨_,rfl⟩
 have f1:Fr Em H H1:=by rw [e1];exact (Fr.refl H).alloc _
 have g1:H1.get H.next=some (OR (aA x) qt):=by rw [e1,qx]
 have l0:Op.aa [.ptr H.next 0] H1=some (.int .i64 x.line):=zf (xb g1) 0;have l1:Op.aa [.ptr H.next 1] H1=some (.int .i64 x.st):=zf (xb g1) 1;have h1:=h.em f1;have n1:H.next<H1.next:=by rw [e1,xn];omega
 by_cases q:x.st=2
 case neg =>
  have ea:n.gone x=(n,[]):=by unfold No.gone;rw [qd q]
  rw [ea];simp only [↓qh,xa,reduceIte,reduceEqDiff,w0,xw,<-e1,w2,l1,q];exact ⟨.inl ⟨rfl,rfl⟩,h.same f1⟩
 have ea:n.gone x=({ n with au:=n.au ++ [x.line] },[⟨3,n.core,x.line,x.d⟩]):=by unfold No.gone;rw [qm q]
 rw [ea];obtain ⟨ln,hln⟩:=kj hx;rw [hln] at l0;simp only [↓qh,xa,reduceIte,reduceEqDiff,w0,xw,<-e1,w2,l1,xj q,w10,qf,h1.py,l0];have hkl:=h.kl;refine h1.bk.push (x:=ln) rfl (by omega) (by omega) λ bv' H2 hs f2 hf2=>?_;obtain ⟨H3,s3,h3,f3⟩:=h1.AM hs f2 hf2;have k3:H3.get H.next=some (OR (aA x) qt):=by
  rw [f3.ae _ n1 ?_];exact g1;rintro (q|q|q)
  ·have:=h.lt;omega
  ·have h4:=h.ca.lt;have h5:aM sv<H.next:=h.ca.sl.lt
   exact q.elim (λ q=>by omega) λ q=>by omega
  ·have:=h.bk.fresh _ q;omega
 have n3:H.next<H3.next:=by have:=f3.next;omega
 have l0:Op.aa [.ptr H.next 0] H3=some (.int .i64 (ln:Int)):=by rw [<-hln];exact zf (xb k3) 0
 simp only [↓qh,xa,reduceIte,reduceEqDiff,qf,s3,l0];refine C3.q (wC (M:=M) h3 3 (ln:Int)) λ v H4 ⟨hv,f4⟩=>?_;rw [hv];have k4:H4.get H.next=some (OR (aA x) qt):=by rw [f4.ae _ n3 id];exact k3
 obtain ⟨m,hm⟩:∃ m,m=No.msg { n with au:=ints (ks ++ [ln]) } 3 (ln:Int):=⟨_,rfl⟩
 have hme:({ m with d:=x.d }:Mg)=⟨3,n.core,x.line,x.d⟩:=by rw [hm,hln];rfl
 rw [<-hm];have s5:=iw (qx H4 (OR (ai ⟨0,0,0,.zero⟩) qk)) (xu _) (xu m) (jS _);obtain ⟨H5,e5⟩:∃ X,X=(H4.alloc (OR (ai ⟨0,0,0,.zero⟩) qk)).set H4.next (OR (ai m) qk):=⟨_,rfl⟩
 rw [<-e5] at s5;have f5:Fr Em H4 H5:=by rw [e5];exact wB _ _
 have g5:H5.get H4.next=some (OR (ai m) qk):=by rw [e5,xd]
 have n4:H.next<H4.next:=by have:=f4.next;omega
 have k5:H5.get H.next=some (OR (aA x) qt):=by rw [f5.ae _ n4 id];exact k4
 have ld5:Op.aq 8 [.ptr H.next 4] H5=some (.agg (cN x.d)):=by rw [wF (xb k5) (by rw [ja];decide),r9]
 have s6:=po g5 (o:=3) (n:=8) (v:=.agg (cN x.d)) (by rw [xw];exact iu _) (by rw [xu];decide) (by rw [xw];exact rn _);rw [Oj,hme] at s6;have ld6:=fQ (xd H5 H4.next (OR (ai ⟨3,n.core,x.line,x.d⟩) qk)) (xu _);simp only [↓qh,xa,reduceIte,reduceEqDiff,mZ,s5,ld5,s6,ld6,rB];have n5:H5.next=H4.next+1:=by rw [e5];rfl
 have f6:Fr Em H4 (H5.set H4.next (OR (ai ⟨3,n.core,x.line,x.d⟩) qk)):=f5.set (.inr (qg _)) _;refine ⟨qI.one _ (by rw [F0];omega),bv',ks ++ [ln],?_,?_,?_⟩
 ·have e:({ n with au:=ints (ks ++ [ln]) }:No) = { n with au:=n.au ++ [x.line] }:=by rw [sK,hln,h.eq]
  rw [<-e];exact (h3.em (f4.trans f6 λ _ q=>q.elim)).em ((Fr.refl _).alloc _)
 ·exact ((iB f1).trans f3 λ x q=>.inl q).em ((f4.trans f6 λ _ q=>q.elim).alloc _)
 ·exact λ y hy=>(hf2 y hy).imp id λ w=>by omega
end
end Go.Am
namespace Go.Am
open Go.Proofs Ca
open Lang (ints)
variable {M:aO} [MK M]
theorem pL (off:Nat) (n:Option Nat) (t rest:bW) (x y:List AV):bm (.part off n t rest) (.agg x) (.agg y)=(partAt x off n).bind λ a=>(partAt y off n).bind λ b=>(bm t a b).bind λ q=>cond q (bm rest (.agg x) (.agg y)) (some false):=rfl
theorem qyk (x:List AV) (k:Nat):partAt x k none=nth x k:=rfl
theorem eG {k:Nat} {t:bW} {l l':List AV} {K:IntKind} {a b:Int} {P:Prop} [Decidable P] (h:nth l k=some (.int K a)) (h':nth l' k=some (.int K b)) (hp:bm t (.agg l) (.agg l')=some (decide P)) :
 bm (.part k none .int t) (.agg l) (.agg l')=some (decide (a=b/\P)):=by
 have q:bm .int (.int K a) (.int K b)=some (decide (a=b)):=by
  have e:oa K K=true:=by cases K<;>rfl
  simp only [bm,Aa,e,xe];rfl
 rw [pL,qyk,qyk,h,h',qi,qi,q,qi,hp]
 by_cases e:a=b
 ·simp [e]
 ·simp [e]
abbrev Kj:bW:=.part 0 none .int (.part 1 none .int (.part 2 none .int (.part 3 none .int (.part 4 none .int (.part 5 none .int (.part 6 none .int (.part 7 none .int .nil)))))))
theorem eqL (d e:L8):bm Kj (.agg (cN d)) (.agg (cN e))=some (decide (d=e)):=by
 obtain ⟨d,hd⟩:=d;obtain ⟨e,he⟩:=e
 match d,hd,e,he with
 | [d0,d1,d2,d3,d4,d5,d6,d7],_,[e0,e1,e2,e3,e4,e5,e6,e7],_ =>
  rw [eG (P:=d1=e1/\d2=e2/\d3=e3/\d4=e4/\d5=e5/\d6=e6/\d7=e7/\True) (a:=d0) (b:=e0) (K:=.u64) rfl rfl (eG rfl rfl (eG rfl rfl (eG rfl rfl (eG rfl rfl (eG rfl rfl (eG rfl rfl (eG rfl rfl rfl)))))))];congr 1;exact decide_eq_decide.2 ⟨λ q=>by obtain ⟨a0,a1,a2,a3,a4,a5,a6,a7,-⟩:=q;subst a0 a1 a2 a3 a4 a5 a6 a7;rfl,λ q=>by
   have q:=congrArg L8.l q;injection q with q0 q;injection q with q1 q;injection q with q2 q;injection q with q3 q;injection q with q4 q;injection q with q5 q;injection q with q6 q;injection q with q7 q
   exact ⟨q0,q1,q2,q3,q4,q5,q6,q7,trivial⟩⟩
abbrev MgT:bW:=.part 0 none .int (.part 1 none .int (.part 2 none .int (.part 3 (some 8) Kj .nil)))
theorem eqM (m m':Mg):bm MgT (.agg (ai m)) (.agg (ai m'))=some (decide (m=m')):=by
 have e3:bm (.part 3 (some 8) Kj .nil) (.agg (ai m)) (.agg (ai m'))=some (decide (m.d=m'.d)):=by
  have p:∀ x:Mg,partAt (ai x) 3 (some 8)=some (.agg (cN x.d)):=λ x=>by
   obtain ⟨k,co,l,⟨d,hd⟩⟩:=x
   match d,hd with
   | [d0,d1,d2,d3,d4,d5,d6,d7],_=>rfl
  rw [pL,p,p,qi,qi,eqL,qi];cases decide (m.d=m'.d)<;>rfl
 rw [eG (P:=m.core=m'.core/\m.line=m'.line/\m.d=m'.d) (a:=m.k) (b:=m'.k) (K:=.i64) rfl rfl (eG rfl rfl (eG rfl rfl e3))];congr 1;refine decide_eq_decide.2 ⟨λ q=>?_,λ q=>by rw [q];exact ⟨rfl,rfl,rfl,rfl⟩⟩;obtain ⟨a,b,c,d⟩:=q;cases m;cases m';simp only at a b c d;subst a b c d;rfl
theorem It (m m':Mg) (H:AHeap):Op.eq (.agg MgT) false [.agg (ai m),.agg (ai m')] H=some (.bool (decide (m=m'))):=qV _ _ _ _ _ (eqM m m')
section
variable {H0 H:AHeap} {r b:Nat} {sv bv:AV} {n:No} {ks:List Nat}
theorem q1x (h:cd H0 H r b sv bv n ks) (hk:n.au.length<=900000) (m:Mg) (x:En):jv M EC [.ptr r 0,.agg (ai m),.agg (aA x)] H λ v H'=>v=.bool (decide (n.cM m x))/\Fr Em H H':=by
 refine qo7 ?_;obtain ⟨w0,w2,w41,w12,w18,w28⟩:=qo8 M ⟨none,EC⟩;obtain ⟨H1,e1⟩:∃ X,X=H.alloc (OR (ai m) qk):=⟨_,rfl⟩
 obtain ⟨H2,e2⟩:∃ X,X=H1.alloc (OR (aA x) qt):=⟨_,rfl⟩
 have f1:Fr Em H H1:=by rw [e1];exact (Fr.refl H).alloc _
 have f12:Fr Em H1 H2:=by rw [e2];exact (Fr.refl H1).alloc _
 have f2:Fr Em H H2:=f1.trans f12 λ _ q=>q.elim;have n1:H1.next=H.next+1:=by rw [e1,xn]
 have g1:H2.get H.next=some (OR (ai m) qk):=by rw [f12.ae _ (by omega) id,e1,qx]
 have g2:H2.get H1.next=some (OR (aA x) qt):=by rw [e2,qx]
 have lk0:Op.aa [.ptr H.next 0] H2=some (.int .i64 m.k):=zf (xb g1) 0;have lk2:Op.aa [.ptr H.next 2] H2=some (.int .i64 m.line):=zf (xb g1) 2;have ls:Op.aa [.ptr H1.next 1] H2=some (.int .i64 x.st):=zf (xb g2) 1;have h2:=h.em f2;have d:∀ (P Q:Prop) [Decidable P] [Decidable Q],(P ↔ Q)->AV.bool (decide P)=.bool (decide Q):=λ P Q _ _ q=>by congr 1;exact decide_eq_decide.2 q
 by_cases k11:m.k=11
 ·simp only [↓qh,xa,reduceIte,reduceEqDiff,w0,xw,<-e1,<-e2,w2,lk0,xj k11,ls];exact ⟨by congr 1;simp [No.cM,k11],f2⟩
 by_cases k12:m.k=12
 ·simp only [↓qh,xa,reduceIte,reduceEqDiff,w0,xw,<-e1,<-e2,w2,lk0,k11,ls,w12,xj k12,w18];exact ⟨by congr 1;simp [No.cM,k12],f2⟩
 by_cases k13:m.k=13
 ·simp only [↓qh,xa,reduceIte,reduceEqDiff,w0,xw,<-e1,<-e2,w2,lk0,k11,ls,w12,k12,xj k13,w18];exact ⟨by congr 1;simp [No.cM,k13],f2⟩
 by_cases k14:m.k=14
 ·simp only [↓qh,xa,reduceIte,reduceEqDiff,w0,xw,<-e1,<-e2,w2,lk0,k11,ls,w12,k12,k13,w18,xj k14,qf,h2.lo,lk2];refine C3.q (wC (M:=M) h2 1 m.line) λ v H3 ⟨hv,f3⟩=>?_;rw [hv];simp only [↓qh,xa,reduceIte,reduceEqDiff,(h2.em f3).lo,Jx,It];exact ⟨by congr 1;simp [No.cM,k14],f2.trans f3 λ _ q=>q.elim⟩
 by_cases k15:m.k=15
 ·simp only [↓qh,xa,reduceIte,reduceEqDiff,w0,xw,<-e1,<-e2,w2,lk0,k11,ls,w12,k12,k13,w18,k14,w28,xj k15,qf,h2.lo,lk2];refine C3.q (wC (M:=M) h2 2 m.line) λ v H3 ⟨hv,f3⟩=>?_;rw [hv];simp only [↓qh,xa,reduceIte,reduceEqDiff,(h2.em f3).lo,Jx,It];exact ⟨by congr 1;simp [No.cM,k15],f2.trans f3 λ _ q=>q.elim⟩
 by_cases k16:m.k=16
 ·have hkl:=h.kl;simp only [↓qh,xa,reduceIte,reduceEqDiff,w0,xw,<-e1,<-e2,w2,lk0,k11,ls,w12,k12,k13,w18,k14,w28,k15,xj k16,qf,h2.py,lk2];refine C3.q (qpr (M:=M) h2.bk.sl (by omega) m.line) λ v H3 ⟨hv,hh⟩=>?_;rw [hv,hh];simp only [↓qh,xa,reduceIte,reduceEqDiff];exact ⟨by congr 1;simp [No.cM,k16,h.eq],f2⟩
 ·simp only [↓qh,xa,reduceIte,reduceEqDiff,w0,xw,<-e1,<-e2,w2,lk0,k11,ls,w12,k12,k13,w18,k14,w28,k15,k16,w41];exact ⟨by congr 1;simp [No.cM,k11,k12,k13,k14,k15,k16],f2⟩
theorem L4 (c:Ca) (line st:Int) (d:L8):(c.fill line st d).1.sl.length=c.sl.length/\((c.fill line st d).1.us=c.us\/(c.fill line st d).1.us=c.us+1):=by
 unfold Ca.fill;cases c.pos line with
 | some i=>exact ⟨rfl,.inl rfl⟩
 | none =>
  cases c.room line with
  | none=>exact ⟨rfl,.inl rfl⟩
  | some i=>exact ⟨qz,.inr rfl⟩
theorem sH {lines line st:Int} {c:Ca} {d:L8} (h:CI lines c) (hs:(c.fill line st d).2.1.st ≠ 0):0<=(c.fill line st d).2.1.line:=by
 unfold Ca.fill at hs ⊢;cases hp:c.pos line with
 | some i=>rw [hp] at hs;exact absurd rfl hs
 | none =>
  rw [hp] at hs;cases hr:c.room line with
  | none=>rw [hr] at hs;exact absurd rfl hs
  | some i =>
   rw [hr] at hs;have hs:(c.en i).st ≠ 0:=hs;show 0<=(c.en i).line;rcases jp i c.sl.length with q|q
   ·exact (h.ok i q hs).2.1
   ·rw [N5 q] at hs;exact absurd rfl hs
theorem xM {line st:Int} {c:Ca} {d:L8} (h:(c.fill line st d).2.2=22):(c.fill line st d).1=c:=by
 unfold Ca.fill at h ⊢;cases hp:c.pos line with
 | some i=>rfl
 | none =>
  rw [hp] at h;cases hr:c.room line with
  | none=>rfl
  | some i=>rw [hr] at h;exact absurd h (show ¬ (0:Int)=22 by decide)
theorem qI.from {H H1 H':AHeap} {v:AV} {ms:List Mg} (h:qI H1 H' v ms) (f:H.next<=H1.next):qI H H' v ms:=by
 rcases h with q|⟨m,a,h1,h2,h3,h4,h5⟩
 ·exact .inl q
 ·exact .inr ⟨m,a,h1,h2,xt f h3,h4,h5⟩
theorem mh.from {n':No} {H1 H':AHeap} (f:Fr (eQ r b sv bv) H H1) (h:mh H0 H1 r b sv bv n' H'):mh H0 H r b sv bv n' H':=by
 obtain ⟨bv',ks',h1,h2,h3⟩:=h;have fn:=f.next
 exact ⟨bv',ks',h1,fI f h2,λ x q=>(h3 x q).imp id λ w=>by omega⟩
theorem mh.em {n':No} {H1 H':AHeap} (h:mh H0 H r b sv bv n' H1) (f:Fr Em H1 H'):mh H0 H r b sv bv n' H':=by
 obtain ⟨bv',ks',h1,h2,h3⟩:=h;exact ⟨bv',ks',h1.em f,h2.em f,h3⟩
theorem cd.off {W:Nat->Prop} {H':AHeap} (h:cd H0 H r b sv bv n ks) (f:Fr W H H') (hw:∀ x,W x->H0.next<=x /\ ¬ eQ r b sv bv x):cd H0 H' r b sv bv n ks :=
 ⟨by rw [f.ae _ h.lt λ q=>(hw _ q).2 (.inl rfl)];exact h.row,qn h.lt f.next,h.ca.fr f (λ q=>(hw _ q).2 (.inr (.inl (.inl rfl)))) (λ q=>(hw _ q).2 (.inr (.inl (.inr rfl)))),h.bk.nX f (h.bk.fr.trans f λ x q=>.inr (hw x q).1) (λ x hx q=>(hw x q).2 (.inr (.inr hx))),h.eq,h.lr,h.lb,h.ls,h.n1,h.n2,h.o1,h.o2,h.o3,h.li,h.len⟩
theorem kD.from {a:No × List Mg} {H1 H':AHeap} {v:AV} (f:Fr (eQ r b sv bv) H H1) (h:kD H0 H1 r b sv bv a v H'):kD H0 H r b sv bv a v H':=⟨h.1.from f.next,h.2.from f⟩
theorem q6x (h:cd H0 H r b sv bv n ks) (hci:CI n.lines n.c) (hk:n.au.length<=900000) (hu:n.c.us+1<=1000000) (m:Mg) (hm:0<=m.line):jv M Av [.ptr r 0,.agg (ai m)] H (kD H0 H r b sv bv (n.fill m)):=by
 refine qto ?_;obtain ⟨w0,w4,w10,w12,w20,w28⟩:=qtp M ⟨none,Av⟩;obtain ⟨H1,e1⟩:∃ X,X=H.alloc (OR (ai m) qk):=⟨_,rfl⟩
 have f1:Fr Em H H1:=by rw [e1];exact (Fr.refl H).alloc _
 have n1:H1.next=H.next+1:=by rw [e1,xn]
 have g1:H1.get H.next=some (OR (ai m) qk):=by rw [e1,qx]
 have lk0:Op.aa [.ptr H.next 0] H1=some (.int .i64 m.k):=zf (xb g1) 0;have h1:=h.em f1;have hlr:=h.lt;have hlb:=h.ca.lt;have hls:aM sv<H.next:=h.ca.sl.lt
 have hbf:=h.bk.fresh;have off:∀ y,H.next<=y -> ¬ eQ r b sv bv y:=λ y hy q=>by
  rcases q with q|q|q
  ·omega
  ·exact q.elim (λ q=>by omega) λ q=>by omega
  ·have:=hbf _ q;omega
 -- the line's words
 have ldd:∀ {Hx:AHeap},Hx.get H.next=some (OR (ai m) qk)->Op.aq 8 [.ptr H.next 3] Hx=some (.agg (cN m.d)):=λ g=>by
  rw [wF (xb g) (by rw [xu];decide)];obtain ⟨k,co,l,⟨d,hd⟩⟩:=m
  match d,hd with
  | [d0,d1,d2,d3,d4,d5,d6,d7],_=>rfl
 have ldl:∀ {Hx:AHeap},Hx.get H.next=some (OR (ai m) qk)->Op.aa [.ptr H.next 2] Hx=some (.int .i64 m.line):=λ g=>zf (xb g) 2
 -- what goes is told
 have fin:∀ {n':No} {st:Int} {Hc:AHeap} {t:Nat},cd H0 Hc r b sv bv { n' with c:=(n'.c.fill m.line st m.d).1 } ks->CI n'.lines n'.c->n'.au=n.au->Fr (eQ r b sv bv) H Hc->Hc.get t=some (OR (aA (n'.c.fill m.line st m.d).2.1) qt)->n.fill m=n'.cI m st ->
  ∀ {E:Env},lk E 0=some (.ptr r 0)->lk E 6=some (.ptr t 0)->lk E 4=some .nils->lk E 7=some (.bool (decide ((n'.c.fill m.line st m.d).2.2=0/\(n'.c.fill m.line st m.d).2.1.st ≠ 0))) ->
  W M ⟨none,Av⟩ (jn 20) true (aP M [.tmp 4] (lM (kD H0 H r b sv bv (n.fill m)))) E [] Hc:=by
  intro n' st Hc t hc hci' hb hf hg hn E q0 q6 q4 q7;rw [hn];unfold No.cI
  by_cases q:(n'.c.fill m.line st m.d).2.2=0/\(n'.c.fill m.line st m.d).2.1.st ≠ 0
  ·have e7:lk E 7=some (.bool true):=by rw [q7,DG q]
   rw [qm q];have ld:=fQ (n:=21) hg (ja _);simp only [↓qh,xa,reduceIte,reduceEqDiff,w20,e7,w28,q0,q6,ld];refine C3.q (q1p (M:=M) hc (by show n'.au.length<=_;rw [hb];exact hk) _ (sH hci' q.2)) λ v H2 h2=>?_;simp only [↓qh,xa,reduceIte,reduceEqDiff];exact h2.from hf
  ·have e7:lk E 7=some (.bool false):=by rw [q7,Er q]
   rw [qd q];simp only [↓qh,xa,reduceIte,reduceEqDiff,w20,e7,q4];exact ⟨.inl ⟨rfl,rfl⟩,mh.of hc hf⟩
 -- put in
 have main:∀ {st:Int},st=1\/st=2->n.fill m=n.fZ m st -> ∀ {E:Env},lk E 0=some (.ptr r 0)->lk E 3=some (.ptr H.next 0)->lk E 4=some .nils->lk E 5=some (.int .i64 st)->W M ⟨none,Av⟩ (jn 10) true (aP M [.tmp 4] (lM (kD H0 H r b sv bv (n.fill m)))) E [] H1:=by
  intro st hst hn E q0 q3 q4 q5;simp only [↓qh,xa,reduceIte,reduceEqDiff,w10,q0,q3,q5,qf,h1.l2,ldl g1,ldd g1];refine C3.q (q1n (M:=M) h1.ca hci hu hm hst m.d) λ v H2 ⟨hv,h2,f2⟩=>?_;rw [hv];unfold jD;have k2:H2.get H.next=some (OR (ai m) qk):=by rw [f2.ae _ (by omega) (λ q=>q.elim (λ q=>by omega) λ q=>by omega)];exact g1
  have n2:=f2.next
  have hn2:=h1.eI h2 f2 (by rw [(L4 ..).1];exact h.len);obtain ⟨H3,e3⟩:∃ X,X=(H2.alloc (OR (aA .zero) qt)).set H2.next (OR (aA (n.c.fill m.line st m.d).2.1) qt):=⟨_,rfl⟩
  have f3:Fr Em H2 H3:=by rw [e3];exact wB _ _
  have g3:H3.get H2.next=some (OR (aA (n.c.fill m.line st m.d).2.1) qt):=by rw [e3,xd]
  have n3:H3.next=H2.next+1:=by rw [e3];rfl
  have k3:H3.get H.next=some (OR (ai m) qk):=by rw [f3.ae _ (by omega) id];exact k2
  have hn3:=hn2.em f3;have f03:Fr (eQ r b sv bv) H H3:=fI (fI (iB f1) (pk f2)) (iB f3)
  by_cases q:(n.c.fill m.line st m.d).2.2=22
  case neg =>
   have hn':n.fill m=n.cI m st:=by rw [hn];unfold No.fZ;rw [qd q]
   simp only [↓qh,xa,reduceIte,reduceEqDiff,qp,eZ,fF,<-e3,w12,q];exact fin hn3 hci rfl f03 g3 hn' q0 rfl q4 rfl
  ·have hn':n.fill m=(n.dB 3).cI m st:=by rw [hn];unfold No.fZ;rw [qm q]
   have ec:({ n with c:=(n.c.fill m.line st m.d).1 }:No)=n:=by rw [xM q]
   rw [ec] at hn3;simp only [↓qh,xa,reduceIte,reduceEqDiff,qp,eZ,fF,<-e3,w12,xj q,q0];refine C3.q (AK (M:=M) hn3 3) λ _ H4 ⟨h4,f4⟩=>?_;have k4:H4.get H.next=some (OR (ai m) qk):=by rw [f4.ae _ (by omega) (off _ (qg _))];exact k3
   have g4:H4.get H2.next=some (OR (aA (n.c.fill m.line st m.d).2.1) qt):=by rw [f4.ae _ (by omega) (off _ (by omega))];exact g3
   have n4:=f4.next
   simp only [↓qh,xa,reduceIte,reduceEqDiff,q0,q3,q5,qf,h4.l2,ldl k4,ldd k4];have hci4:CI n.lines (n.dB 3).c:=hci.discard;refine C3.q (q1n (M:=M) h4.ca hci4 hu hm hst m.d) λ v H5 ⟨hv,h5,f5⟩=>?_;rw [hv];unfold jD;have g5:H5.get H2.next=some (OR (aA (n.c.fill m.line st m.d).2.1) qt):=by rw [f5.ae _ (by omega) (λ q=>q.elim (λ q=>by omega) λ q=>by omega)];exact g4
   have s6:=iw g5 (ja _) (ja ((n.dB 3).c.fill m.line st m.d).2.1) (qS _);have hn5:=h4.eI h5 f5 (by rw [(L4 ..).1];exact h4.len);have f6:Fr (On H2.next) H5 (H5.set H2.next (OR (aA ((n.dB 3).c.fill m.line st m.d).2.1) qt)):=(Fr.refl H5).set (W:=On H2.next) (.inl rfl) _;simp only [↓qh,xa,reduceIte,reduceEqDiff,qp,s6];refine fin (n':=n.dB 3) (t:=H2.next) ?_ hci4 rfl ?_ (xd ..) hn' q0 rfl q4 rfl
   ·exact hn5.off f6 (λ x (hx:x=H2.next)=>by rw [hx];exact ⟨by have:=h.bk.fr.next;omega,off _ (by omega)⟩)
   ·exact (fI (fI f03 f4) (pk f5)).set (.inr (by omega)) _
 by_cases k15:m.k=15
 ·simp only [↓qh,xa,reduceIte,reduceEqDiff,w0,xw,<-e1,w4,lk0,xj k15];exact main (.inr rfl) (by unfold No.fill;rw [qm k15]) rfl rfl rfl rfl
 ·simp only [↓qh,xa,reduceIte,reduceEqDiff,w0,xw,<-e1,w4,lk0,k15];exact main (.inl rfl) (by unfold No.fill;rw [qd k15]) rfl rfl rfl rfl
end
end Go.Am
namespace Go.Am
open Go.Proofs Ca
open Lang (ints)
variable {M:aO} [MK M]
theorem q7x {H:AHeap} {e size bytes b n:Nat} {cells:List AV} (h:Sl H size (.slice b 0 n n) n cells) (hn:0<n) {x:AV} {k:Nat} {new:List AV} (hx:Sl H size x k new) (hk:0<k) (hnew:ba new=true) (hs:0<size)
 (hf:(n+k)*bytes<=140737488355328) (hf':n+k<=140737488355328) {K:Bool->AV->AHeap->Prop} {m:Bool}
 (hK:∀ v' H',Own H' e size v' (n+k) (cells++new)->Fr Em H H'->(∀ c,bH v' c->H.next<=c)->K m v' H'):bf m (Op.append e size bytes [.slice b 0 n n,x] H) K:=by
 have hfit:=JO hf hf';have hlen:new.length=k*size:=hx.1;have hs':=zU hs;have h3:Nat.ble (n+k) n=false:=by cases hq:Nat.ble (n+k) n with|false=>rfl|true=>rw [wh] at hq;omega
 have e0:Op.append e size bytes [.slice b 0 n n,x] H=some (cq H e size (n+k) (cells++new) (0,0)):=by
  simp only [Op.append,hx.dS,hx.first,qi,hnew,xe,bY,h3,zd,hfit,yo (show n<=n+k by omega),hs',jc,h.first,jH]
 rw [e0];refine bf.intro rfl (hK _ _ ⟨by rw [qu,h.1,hlen,kn],.inr ⟨H.next,rfl,by rw [xn];omega,?_⟩⟩ ((Fr.refl H).alloc _) λ c q=>by rw [q.2];exact qg _);rw [AHeap.bo,qm rfl]
theorem qI.em {H H1 H':AHeap} {v:AV} {ms:List Mg} (h:qI H H1 v ms) (f:Fr Em H1 H'):qI H H' v ms:=by
 rcases h with q|⟨m,a,h1,h2,h3,h4,h5⟩
 ·exact .inl q
 ·exact .inr ⟨m,a,h1,h2,h3,qn h4 f.next,by rw [f.ae _ h4 id];exact h5⟩
theorem D6 {H H':AHeap} {v a:AV} {ms:List Mg} {m:Mg} (h:qI H H' v ms) (x:dA ai qk 11 H' a [m]) (hl:H.next<=H'.next) {K:Bool->AV->AHeap->Prop}
 (hK:∀ v2 H2,ir H H2 v2 (ms ++ [m])->Fr Em H' H2->K true v2 H2):bf true (Op.append qk 11 88 [v,a] H') K:=by
 have xs:=x.sl xu;have xo:ba ([m].flatMap ai)=true:=by rw [jt,List.flatMap_nil,x9];exact jS m
 rcases h with ⟨rfl,rfl⟩|⟨m0,b,rfl,rfl,h3,h4,h5⟩
 ·refine q4m (Own.nil H' qk 11) xs xo (by decide) (by simp) (by simp) λ v2 H2 o f w=>hK v2 H2 ⟨?_,λ _=>?_⟩ (f.mono λ y _ q=>(q.1 rfl).elim)
  ·have:=Own.sl o;exact this
  ·have hv:v2 ≠ .nils:=λ q=>by
    subst q;have:=Own.sl o;exact absurd this.2 (by intro z;cases z)
   exact (w _ ⟨hv,rfl⟩).elim (λ q=>(q.1 rfl).elim) λ q=>by omega
 ·have x0:ep ai 11 H' (Op.sliceTo 1 1 b) [m0]:=dA.sl (e:=qk) xu ⟨b,rfl,h4,by rw [h5];simp⟩;refine q7x (b:=b) (n:=1) (e:=qk) x0 (by decide) xs (by simp) xo (by decide) (by simp) (by simp) λ v2 H2 o f w=>hK v2 H2 ⟨?_,λ _=>?_⟩ f
  ·have:=Own.sl o;unfold ep;rw [j7];exact this
  ·have hv:v2 ≠ .nils:=λ q=>by
    subst q;have:=Own.sl o;exact absurd this.2 (by intro z;cases z)
   have:=w _ ⟨hv,rfl⟩;omega
section
variable {H0 H:AHeap} {r b:Nat} {sv bv:AV} {n:No} {ks:List Nat}
theorem ur (ks:List Nat) (line:Int):ints (qA ks line)=(ints ks).filter (· ≠ line):=by
 unfold ints qA;rw [List.filter_map];congr 1;refine List.filter_congr λ k _=>?_;show ((k:Int) != line)=decide ((k:Int) ≠ line)
 by_cases q:(k:Int)=line<;>simp [q]
theorem q40 (c:Ca) (line:Int):lX c line=.tuple [.agg (aA ((c.find line).getD .zero)),.bool (c.find line).isSome]:=by
 unfold lX;cases c.find line<;>rfl
theorem KI {x:En} {too:Bool} (h:CI n.lines n.c):CI n.lines (n.lost x too).c:=by
 unfold No.lost;split
 ·split
  ·exact h.discard
  ·exact h.discard
 ·exact h
theorem Ad (x:En) (too:Bool):(n.lost x too).au=n.au/\(n.lost x too).core=n.core/\(n.lost x too).lines=n.lines/\(n.lost x too).c.us=n.c.us:=by
 unfold No.lost;split
 ·split<;>exact ⟨rfl,rfl,rfl,rfl⟩
 ·exact ⟨rfl,rfl,rfl,rfl⟩
theorem Fi (c:Ca) (line:Int):(c.drop line).1.sl.length=c.sl.length/\(c.drop line).1.us=c.us:=by
 unfold Ca.drop;cases c.fJ line 0 with
 | none=>exact ⟨rfl,rfl⟩
 | some i=>exact ⟨qz,rfl⟩
theorem q1a (c:Ca) (line:Int):(c.bI line).1.sl.length=c.sl.length/\(c.bI line).1.us=c.us:=by
 unfold Ca.bI;cases c.fJ line 2 with
 | none=>exact ⟨rfl,rfl⟩
 | some i=>exact ⟨qz,rfl⟩
theorem qyl (c:Ca) (line:Int) (d:L8):(c.bZ line d).sl.length=c.sl.length/\(c.bZ line d).us=c.us:=by
 unfold Ca.bZ;cases c.fJ line 1 with
 | none=>exact ⟨rfl,rfl⟩
 | some i=>exact ⟨qz,rfl⟩
theorem q80 (n:No) (x:En):(n.gone x).1.core=n.core:=by unfold No.gone;split<;>rfl
theorem q8w (n:No) (m:Mg):(n.fill m).1.core=n.core:=by
 have e:∀ (n:No) (st:Int),(n.cI m st).1.core=n.core:=λ n st=>by
  unfold No.cI;split
  ·exact q80 ..
  ·rfl
 unfold No.fill;generalize (if m.k=15 then (2:Int) else 1)=st;unfold No.fZ;split
 ·exact e (n.dB 3) st
 ·exact e n st
def kV (H0 H:AHeap) (r b:Nat) (sv bv:AV) (a:No × List Mg) (v:AV) (H':AHeap):Prop:=(∃ ov e,v=.tuple [ov,e]/\ir H H' ov a.2)/\mh H0 H r b sv bv a.1 H'
theorem q7l (h:cd H0 H r b sv bv n ks) (hci:CI n.lines n.c) (hk:n.au.length<=900000) (hu:n.c.us+1<=1000000) (m:Mg):jv M ke [.ptr r 0,.agg (ai m)] H (kV H0 H r b sv bv (n.av m)):=by
 refine qth ?_;obtain ⟨w0,w2,w10,w12,w20,w73,w34,w75,w40,w85,w41,w49,w53,w61⟩:=qti M ⟨none,ke⟩;obtain ⟨H1,e1⟩:∃ X,X=H.alloc (OR (ai m) qk):=⟨_,rfl⟩
 have f1:Fr Em H H1:=by rw [e1];exact (Fr.refl H).alloc _
 have n1:H1.next=H.next+1:=by rw [e1,xn]
 have g1:H1.get H.next=some (OR (ai m) qk):=by rw [e1,qx]
 have hlr:=h.lt;have hlb:=h.ca.lt;have hls:aM sv<H.next:=h.ca.sl.lt
 have hbf:=h.bk.fresh;have off:∀ y,H.next<=y -> ¬ eQ r b sv bv y:=λ y hy q=>by
  rcases q with q|q|q
  ·omega
  ·exact q.elim (λ q=>by omega) λ q=>by omega
  ·have:=hbf _ q;omega
 have offC:∀ y,H.next<=y -> ¬ iC b sv y:=λ y hy q=>off y hy (.inr (.inl q))
 have ldk:∀ {Hx:AHeap},Hx.get H.next=some (OR (ai m) qk)->Op.aa [.ptr H.next 0] Hx=some (.int .i64 m.k):=λ g=>zf (xb g) 0
 have ldc:∀ {Hx:AHeap},Hx.get H.next=some (OR (ai m) qk)->Op.aa [.ptr H.next 1] Hx=some (.int .i64 m.core):=λ g=>zf (xb g) 1
 have ldl:∀ {Hx:AHeap},Hx.get H.next=some (OR (ai m) qk)->Op.aa [.ptr H.next 2] Hx=some (.int .i64 m.line):=λ g=>zf (xb g) 2
 have ldm:∀ {Hx:AHeap},Hx.get H.next=some (OR (ai m) qk)->Op.aq 11 [.ptr H.next 0] Hx=some (.agg (ai m)):=λ g=>fQ g (xu m)
 have ldd:∀ {Hx:AHeap},Hx.get H.next=some (OR (ai m) qk)->Op.aq 8 [.ptr H.next 3] Hx=some (.agg (cN m.d)):=λ g=>by
  rw [wF (xb g) (by rw [xu];decide)];obtain ⟨k,co,l,⟨d,hd⟩⟩:=m
  match d,hd with
  | [d0,d1,d2,d3,d4,d5,d6,d7],_=>rfl
 have h1:=h.em f1;simp only [↓qh,xa,reduceIte,reduceEqDiff,w0,xw,<-e1,w2,yk,w10,qf,h1.l2,ldl g1];refine C3.q (J9 (M:=M) h1.ca hci m.line) λ v H2 ⟨hv,f2⟩=>?_;rw [hv,q40];obtain ⟨x,hx⟩:∃ x,x=(n.c.find m.line).getD .zero:=⟨_,rfl⟩
 rw [<-hx];obtain ⟨H3,e3⟩:∃ X,X=(H2.alloc (OR (aA .zero) qt)).set H2.next (OR (aA x) qt):=⟨_,rfl⟩
 have f3:Fr Em H2 H3:=by rw [e3];exact wB _ _
 have f03:Fr Em H H3:=(f1.trans f2 λ _ q=>q.elim).trans f3 λ _ q=>q.elim;have n2:=f2.next
 have n3:H3.next=H2.next+1:=by rw [e3];rfl
 have x3:H3.get H2.next=some (OR (aA x) qt):=by rw [e3,xd]
 have g3:H3.get H.next=some (OR (ai m) qk):=by rw [f3.ae _ (by omega) id,f2.ae _ (by omega) id];exact g1
 have h3:=h.em f03;have ldx:∀ {Hx:AHeap},Hx.get H2.next=some (OR (aA x) qt)->Op.aq 21 [.ptr H2.next 0] Hx=some (.agg (aA x)):=λ g=>fQ g (ja x)
 simp only [↓qh,xa,reduceIte,reduceEqDiff,qp,eZ,fF,<-e3]
 -- what is not heard
 have no:∀ {e:Int},(m.core ≠ n.core\/m.line<0\/n.lines<=m.line \/ ¬ n.cM m ((n.c.find m.line).getD .zero)) -> ∀ {H':AHeap},Fr Em H H'->kV H0 H r b sv bv (n.av m) (.tuple [.nils,.int .i64 e]) H':=by
  intro e q H' f;have ea:n.av m=(n,[]):=by unfold No.av;rw [qm q]
  rw [ea];exact ⟨⟨.nils,_,rfl,ir.nil ..⟩,h.same f⟩
 by_cases q1:m.core=n.core
 case neg =>
  simp only [↓qh,xa,reduceIte,reduceEqDiff,w12,ldc g3,qf,h3.l0,q1];exact no (.inl q1) f03
 by_cases q2:m.line<0
 ·simp only [↓qh,xa,reduceIte,reduceEqDiff,w12,ldc g3,qf,h3.l0,xj q1,ldl g3,q2];exact no (.inr (.inl q2)) f03
 by_cases q3:n.lines<=m.line
 ·simp only [↓qh,xa,reduceIte,reduceEqDiff,w12,ldc g3,qf,h3.l0,xj q1,ldl g3,q2,h3.l1,q3];exact no (.inr (.inr (.inl q3))) f03
 simp only [↓qh,xa,reduceIte,reduceEqDiff,w12,ldc g3,qf,h3.l0,xj q1,ldl g3,q2,h3.l1,q3,ldm g3,ldx x3];refine C3.q (q1x (M:=M) h3 hk m x) λ v H4 ⟨hv,f4⟩=>?_;rw [hv];have f04:Fr Em H H4:=f03.trans f4 λ _ q=>q.elim;have n4:=f4.next
 have h4:=h.em f04;have g4:H4.get H.next=some (OR (ai m) qk):=by rw [f4.ae _ (by omega) id];exact g3
 have x4:H4.get H2.next=some (OR (aA x) qt):=by rw [f4.ae _ (by omega) id];exact x3
 by_cases q4:n.cM m x
 case neg =>
  simp only [↓qh,xa,reduceIte,reduceEqDiff,Er q4];exact no (.inr (.inr (.inr (by rw [<-hx];exact q4)))) f04
 have hn:¬ (m.core ≠ n.core\/m.line<0\/n.lines<=m.line \/ ¬ n.cM m ((n.c.find m.line).getD .zero)):=by
  rw [<-hx];rintro (w|w|w|w)
  ·exact w q1
  ·exact q2 w
  ·exact q3 w
  ·exact w q4
 rw [DG q4]
 -- the words that a message has
 have fill_d:∀ {k line:Int} {d:L8} {Hx:AHeap} {a:Nat},Hx.get a=some (OR (ai ⟨k,n.core,line,.zero⟩) qk)->Op.store 8 [.ptr a 3,.agg (cN d)] Hx=some (.undef,Hx.set a (OR (ai ⟨k,n.core,line,d⟩) qk)):=λ {k line d Hx a} g=>by
  have s6:=po g (o:=3) (n:=8) (v:=.agg (cN d)) (by rw [xw];exact iu _) (by rw [xu];decide) (by rw [xw];exact rn _);rw [Oj] at s6;exact s6
 by_cases k11:m.k=11
 ·have ea:n.av m=({ n.lost x true with c:=((n.lost x true).c.drop m.line).1 },[n.msg 4 m.line]):=by
   unfold No.av;rw [qd hn,qm k11,<-hx]
  rw [ea];simp only [↓qh,xa,reduceIte,reduceEqDiff,w20,ldk g4,xj k11,ldx x4];refine C3.q (ME (M:=M) h4 x true) λ _ H5 ⟨h5,f5⟩=>?_;have n5:=f5.next
  have g5:H5.get H.next=some (OR (ai m) qk):=by rw [f5.ae _ (by omega) (off _ (by omega))];exact g4
  simp only [↓qh,xa,reduceIte,reduceEqDiff,qf,h5.l2,ldl g5];refine C3.q (KM (M:=M) h5.ca (KI hci) m.line) λ _ H6 ⟨_,h6,f6⟩=>?_;have g6:H6.get H.next=some (OR (ai m) qk):=by rw [f6.ae _ (by omega) (offC _ (by omega))];exact g5
  have hn6:=h5.eI h6 f6 (by rw [(Fi ..).1];exact h5.len);simp only [↓qh,xa,reduceIte,reduceEqDiff,ldl g6];refine C3.q (wC (M:=M) hn6 4 m.line) λ v H7 ⟨hv,f7⟩=>?_;rw [hv];have n6:=f6.next
  have n7:=f7.next
  have em:No.msg { n.lost x true with c:=((n.lost x true).c.drop m.line).1 } 4 m.line=n.msg 4 m.line:=by unfold No.msg;rw [show (No.core { n.lost x true with c:=((n.lost x true).c.drop m.line).1 })=n.core from (Ad (n:=n) x true).2.1]
  rw [em];simp only [↓qh,xa,reduceIte,reduceEqDiff,mZ,rB];exact ⟨⟨_,_,rfl,Ec _ (by omega)⟩,mh.of ((hn6.em f7).em ((Fr.refl _).alloc _)) (fI (fI (iB f04) f5) ((fI (pk f6) (iB f7)).alloc _))⟩
 by_cases k1213:m.k=12\/m.k=13
 ·have t13:¬ (13:Int)=11:=by decide
  -- a recall
  have rec41:∀ {E:Env},lk E 0=some (.ptr r 0)->lk E 3=some (.ptr H.next 0)->lk E 6=some (.ptr H2.next 0)->lk E 7=some (.bool (n.c.find m.line).isSome) ->
   W M ⟨none,ke⟩ (xh 41) true (aK 0 (ao (W M ⟨none,ke⟩ (xh 73)) (aP M [.tmp 4,.tmp 5] (lM (kV H0 H r b sv bv (n.av m)))))) E [] H4:=by
   intro E q0 q3 q6 q7;cases hf:n.c.find m.line with
   | none =>
    have ea:n.av m=(n,[n.msg 6 m.line]):=by
     unfold No.av;rw [qd hn,qd k11,qm k1213,hf]
    rw [ea];rw [hf] at q7;have q7:lk E 7=some (.bool false):=q7;simp only [↓qh,xa,reduceIte,reduceEqDiff,w41,q7,q0,q3,ldl g4];refine C3.q (wC (M:=M) h4 6 m.line) λ v H5 ⟨hv,f5⟩=>?_;rw [hv];have n5:=f5.next
    simp only [↓qh,xa,reduceIte,reduceEqDiff,mZ,rB];exact ⟨⟨_,_,rfl,Ec _ (by omega)⟩,h.same ((f04.trans f5 λ _ q=>q.elim).alloc _)⟩
   | some x' =>
    have exx:x=x':=by rw [hx,hf];rfl
    subst exx;rw [hf] at q7;have q7:lk E 7=some (.bool true):=q7
    -- behind the loss
    have go:∀ {too:Bool} {H5:AHeap},(too=true ↔ m.k=13)->cd H0 H5 r b sv bv (n.lost x too) ks->Fr (eQ r b sv bv) H4 H5 -> ∀ {E:Env},lk E 0=some (.ptr r 0)->lk E 3=some (.ptr H.next 0)->lk E 6=some (.ptr H2.next 0)->lk E 8=some (.ptr H5.next 0) ->
     ∀ {H6:AHeap},H6=(H5.alloc (OR (ai ⟨0,0,0,.zero⟩) qk)).set H5.next (OR (ai (n.msg 5 m.line)) qk) ->
     W M ⟨none,ke⟩ (xh 53) true (aK 0 (ao (W M ⟨none,ke⟩ (xh 73)) (aP M [.tmp 4,.tmp 5] (lM (kV H0 H r b sv bv (n.av m)))))) E [] H6:=by
     intro too H5 ht h5 f5 E q0 q3 q6 q8 H6 e6;have n5:=f5.next
     have f6:Fr Em H5 H6:=by rw [e6];exact wB _ _
     have n6:H6.next=H5.next+1:=by rw [e6];rfl
     have h6:=h5.em f6;have g5:H5.get H.next=some (OR (ai m) qk):=by rw [f5.ae _ (by omega) (off _ (by omega))];exact g4
     have g6:H6.get H.next=some (OR (ai m) qk):=by rw [f6.ae _ (by omega) id];exact g5
     have x5:H5.get H2.next=some (OR (aA x) qt):=by rw [f5.ae _ (by omega) (off _ (by omega))];exact x4
     have x6:H6.get H2.next=some (OR (aA x) qt):=by rw [f6.ae _ (by omega) id];exact x5
     have b6:H6.get H5.next=some (OR (ai (n.msg 5 m.line)) qk):=by rw [e6,xd]
     have f06:Fr (eQ r b sv bv) H H6:=fI (fI (iB f04) f5) (iB f6)
     -- the answer
     have out:∀ {d:L8} {n':No} {H8:AHeap},n.av m=(n',[⟨5,n.core,m.line,d⟩])->cd H0 H8 r b sv bv n' ks->Fr (eQ r b sv bv) H H8->H6.next<=H8.next -> ∀ {E:Env},lk E 8=some (.ptr H5.next 0) ->
      W M ⟨none,ke⟩ (xh 61) true (aK 0 (ao (W M ⟨none,ke⟩ (xh 73)) (aP M [.tmp 4,.tmp 5] (lM (kV H0 H r b sv bv (n.av m)))))) E [] (H8.set H5.next (OR (ai ⟨5,n.core,m.line,d⟩) qk)):=by
      intro d n' H8 ea h8 f8 n8 E q8;rw [ea];have ld:=fQ (xd H8 H5.next (OR (ai ⟨5,n.core,m.line,d⟩) qk)) (xu _);simp only [↓qh,xa,reduceIte,reduceEqDiff,w61,q8,ld,mZ,rB];have f9:Fr (On H5.next) H8 (H8.set H5.next (OR (ai ⟨5,n.core,m.line,d⟩) qk)):=(Fr.refl H8).set (W:=On H5.next) (.inl rfl) _;have h9:=h8.off f9 (λ x (hx:x=H5.next)=>by rw [hx];exact ⟨by have:=h.bk.fr.next;omega,off _ (by omega)⟩);exact ⟨⟨_,_,rfl,Ec _ (by rw [F0];omega)⟩,mh.of (h9.em ((Fr.refl _).alloc _)) ((f8.set (.inr (by omega)) _).alloc _)⟩
     by_cases k12:m.k=12
     ·have et:too=false:=by cases too with|false=>rfl|true=>have:=ht.1 rfl;omega
      subst et;have ea:n.av m=({ n.lost x false with c:=((n.lost x false).c.bI m.line).1 },[⟨5,n.core,m.line,((n.lost x false).c.bI m.line).2⟩]):=by
       unfold No.av;rw [qd hn,qd k11,qm k1213,hf];show (if m.k=12 then _ else _)=_;rw [qm k12]
      simp only [↓qh,xa,reduceIte,reduceEqDiff,w53,q0,q3,ldk g6,xj k12,qf,h6.l2,ldl g6];refine C3.q (q3f (M:=M) h6.ca (KI hci) m.line) λ v H7 ⟨hv,h7,f7⟩=>?_;rw [hv];unfold mN;have n7:=f7.next
      have b7:H7.get H5.next=some (OR (ai (n.msg 5 m.line)) qk):=by rw [f7.ae _ (by omega) (offC _ (by omega))];exact b6
      have hn7:=h6.eI h7 f7 (by rw [(q1a ..).1];exact h6.len);simp only [↓qh,xa,reduceIte,reduceEqDiff,qp,q8,fill_d b7];exact out ea hn7 (fI f06 (pk f7)) (by omega) q8
     ·have k13:m.k=13:=by omega
      have et:too=true:=ht.2 k13;subst et;have ea:n.av m=({ n.lost x true with c:=((n.lost x true).c.drop m.line).1 },[⟨5,n.core,m.line,((n.lost x true).c.drop m.line).2.d⟩]):=by
       unfold No.av;rw [qd hn,qd k11,qm k1213,hf];show (if m.k=12 then _ else _)=_;rw [qd k12]
      simp only [↓qh,xa,reduceIte,reduceEqDiff,w53,q0,q3,ldk g6,k12,qf,h6.l2,ldl g6];refine C3.q (KM (M:=M) h6.ca (KI hci) m.line) λ v H7 ⟨hv,h7,f7⟩=>?_;rw [hv];unfold pW;have n7:=f7.next
      have b7:H7.get H5.next=some (OR (ai (n.msg 5 m.line)) qk):=by rw [f7.ae _ (by omega) (offC _ (by omega))];exact b6
      have x7:H7.get H2.next=some (OR (aA x) qt):=by rw [f7.ae _ (by omega) (offC _ (by omega))];exact x6
      have hn7:=h6.eI h7 f7 (by rw [(Fi ..).1];exact h6.len);have s8:=iw x7 (ja _) (ja ((n.lost x true).c.drop m.line).2) (qS _);obtain ⟨H8,e8⟩:∃ X,X=H7.set H2.next (OR (aA ((n.lost x true).c.drop m.line).2) qt):=⟨_,rfl⟩
      rw [<-e8] at s8;have f8:Fr (On H2.next) H7 H8:=by rw [e8];exact (Fr.refl H7).set (W:=On H2.next) (.inl rfl) _
      have x8:H8.get H2.next=some (OR (aA ((n.lost x true).c.drop m.line).2) qt):=by rw [e8,xd]
      have b8:H8.get H5.next=some (OR (ai (n.msg 5 m.line)) qk):=by rw [f8.ae _ (by omega) (λ (q:H5.next=H2.next)=>by omega)];exact b7
      have ld8:Op.aq 8 [.ptr H2.next 4] H8=some (.agg (cN ((n.lost x true).c.drop m.line).2.d)):=by rw [wF (xb x8) (by rw [ja];decide),r9]
      have hn8:=hn7.off f8 (λ x (hx:x=H2.next)=>by rw [hx];exact ⟨by have:=h.bk.fr.next;omega,off _ (by omega)⟩);have f78:Fr (eQ r b sv bv) H H8:=by rw [e8];exact (fI f06 (pk f7)).set (.inr (by omega)) _
      simp only [↓qh,xa,reduceIte,reduceEqDiff,qp,q6,q8,s8,ld8,fill_d b8];exact out ea hn8 f78 (by have:=f8.next;omega) q8
    by_cases k12:m.k=12
    ·have k13:¬ m.k=13:=by omega
     simp only [↓qh,xa,reduceIte,reduceEqDiff,w41,q7,w49,q0,q3,q6,ldx x4,ldk g4,k13];refine C3.q (ME (M:=M) h4 x false) λ _ H5 ⟨h5,f5⟩=>?_;have n5:=f5.next
     have g5:H5.get H.next=some (OR (ai m) qk):=by rw [f5.ae _ (by omega) (off _ (by omega))];exact g4
     simp only [↓qh,xa,reduceIte,reduceEqDiff,q0,q3,ldl g5];refine C3.q (wC (M:=M) h5 5 m.line) λ v H6 ⟨hv,f6⟩=>?_;have em:(n.lost x false).msg 5 m.line=n.msg 5 m.line:=by unfold No.msg;rw [(Ad (n:=n) x false).2.1]
     rw [hv,em];have s6:=iw (qx H6 (OR (ai ⟨0,0,0,.zero⟩) qk)) (xu _) (xu (n.msg 5 m.line)) (jS _);simp only [↓qh,xa,reduceIte,reduceEqDiff,mZ,s6];refine go (too:=false) ⟨λ q=>(by cases q),λ q=>absurd q k13⟩ (h5.em f6) (fI f5 (iB f6)) ?_ ?_ ?_ ?_ ?_
     ·exact q0
     ·exact q3
     ·exact q6
     ·rfl
     ·rfl
    ·have k13:m.k=13:=by omega
     simp only [↓qh,xa,reduceIte,reduceEqDiff,w41,q7,w49,q0,q3,q6,ldx x4,ldk g4,xj k13];refine C3.q (ME (M:=M) h4 x true) λ _ H5 ⟨h5,f5⟩=>?_;have n5:=f5.next
     have g5:H5.get H.next=some (OR (ai m) qk):=by rw [f5.ae _ (by omega) (off _ (by omega))];exact g4
     simp only [↓qh,xa,reduceIte,reduceEqDiff,q0,q3,ldl g5];refine C3.q (wC (M:=M) h5 5 m.line) λ v H6 ⟨hv,f6⟩=>?_;have em:(n.lost x true).msg 5 m.line=n.msg 5 m.line:=by unfold No.msg;rw [(Ad (n:=n) x true).2.1]
     rw [hv,em];have s6:=iw (qx H6 (OR (ai ⟨0,0,0,.zero⟩) qk)) (xu _) (xu (n.msg 5 m.line)) (jS _);simp only [↓qh,xa,reduceIte,reduceEqDiff,mZ,s6];refine go (too:=true) ⟨λ _=>k13,λ _=>rfl⟩ (h5.em f6) (fI f5 (iB f6)) ?_ ?_ ?_ ?_ ?_
     ·exact q0
     ·exact q3
     ·exact q6
     ·rfl
     ·rfl
  by_cases k12:m.k=12
  ·simp only [↓qh,xa,reduceIte,reduceEqDiff,w20,ldk g4,k11,w34,xj k12,w40];exact rec41 rfl rfl rfl rfl
  ·have k13:m.k=13:=by omega
   simp only [↓qh,xa,reduceIte,reduceEqDiff,w20,ldk g4,k11,w34,k12,xj k13,w40];exact rec41 rfl rfl rfl rfl
 have k12:¬ m.k=12:=λ q=>k1213 (.inl q);have k13:¬ m.k=13:=λ q=>k1213 (.inr q)
 by_cases k16:m.k=16
 ·have ea:n.av m=({ n with au:=n.au.filter (· ≠ m.line) },[]):=by
   unfold No.av;rw [qd hn,qd k11,qd k1213,qm k16]
  rw [ea];have hkl:=h.kl;simp only [↓qh,xa,reduceIte,reduceEqDiff,w20,ldk g4,k11,w34,k12,k13,w40,xj k16,qf,h4.py];refine C3.q (q3e (M:=M) (t:=H.next) (line:=m.line) (λ f=>ldl (by rw [f.ae _ (by omega) λ q=>by have:=hbf _ q;omega];exact g4)) h4.bk (by omega)) λ v H5 ⟨hs,f5,w5⟩=>?_;obtain ⟨H6,s6,h6,f6⟩:=h4.AM hs f5 (λ x q=>.inl (w5 x q));simp only [↓qh,xa,reduceIte,reduceEqDiff,qf,s6];rw [ur,<-h.eq] at h6;exact ⟨⟨_,_,rfl,ir.nil ..⟩,v,_,h6,fI (iB f04) f6,λ x q=>.inl (w5 x q)⟩
 -- what was asked for
 obtain ⟨H5,s5,h5,f5⟩:=h4.tX ⟨0,0,0,.zero⟩;have n5:=f5.next
 have g5:H5.get H.next=some (OR (ai m) qk):=by rw [f5.ae _ (by omega) (λ (q:H.next=r)=>by omega)];exact g4
 have f05:Fr (eQ r b sv bv) H H5:=fI (iB f04) (Ci f5);cases hf:n.c.find m.line with
 | some x' =>
  have ea:n.av m=({ n with out:=⟨0,0,0,.zero⟩,c:=n.c.bZ m.line m.d },[n.msg 7 m.line]):=by
   unfold No.av;rw [qd hn,qd k11,qd k1213,qd k16,hf]
  rw [ea];simp only [↓qh,xa,reduceIte,reduceEqDiff,w20,ldk g4,k11,w34,k12,k13,w40,k16,w73,mZ,xB,qf,s5,w75,CB,h5.l2,ldl g5,ldd g5];refine C3.q (q2d (M:=M) h5.ca hci m.line m.d) λ _ H6 ⟨h6,f6⟩=>?_;have g6:H6.get H.next=some (OR (ai m) qk):=by rw [f6.ae _ (by omega) (offC _ (by omega))];exact g5
  have hn6:=h5.eI h6 f6 (by rw [(qyl ..).1];exact h5.len);simp only [↓qh,xa,reduceIte,reduceEqDiff,ldl g6];refine C3.q (wC (M:=M) hn6 7 m.line) λ v H7 ⟨hv,f7⟩=>?_;rw [hv];have n6:=f6.next
  have n7:=f7.next
  simp only [↓qh,xa,reduceIte,reduceEqDiff,mZ,rB];exact ⟨⟨_,_,rfl,Ec _ (by omega)⟩,mh.of ((hn6.em f7).em ((Fr.refl _).alloc _)) (fI f05 ((fI (pk f6) (iB f7)).alloc _))⟩
 | none =>
  have ea:n.av m=((No.fill { n with out:=⟨0,0,0,.zero⟩ } m).1,(No.fill { n with out:=⟨0,0,0,.zero⟩ } m).2 ++ [n.msg 7 m.line]):=by
   unfold No.av;rw [qd hn,qd k11,qd k1213,qd k16,hf]
  rw [ea];simp only [↓qh,xa,reduceIte,reduceEqDiff,w20,ldk g4,k11,w34,k12,k13,w40,k16,w73,mZ,xB,qf,s5,w75,GH,w85,ldm g5];refine C3.q (q6x (M:=M) h5 hci hk hu m (by omega)) λ v H6 ⟨hm6,bv',ks',h6,f6,w6⟩=>?_;have n6:=f6.next
  have g6:H6.get H.next=some (OR (ai m) qk):=by rw [f6.ae _ (by omega) (off _ (by omega))];exact g5
  simp only [↓qh,xa,reduceIte,reduceEqDiff,ldl g6];refine C3.q (wC (M:=M) h6 7 m.line) λ v H7 ⟨hv,f7⟩=>?_;have ec:(No.fill { n with out:=⟨0,0,0,.zero⟩ } m).1.core=n.core:=q8w _ m;have em:(No.fill { n with out:=⟨0,0,0,.zero⟩ } m).1.msg 7 m.line=n.msg 7 m.line:=by unfold No.msg;rw [ec]
  rw [hv,em];simp only [↓qh,xa,reduceIte,reduceEqDiff,mZ,rB];have n7:=f7.next
  refine D6 (H:=H5) (m:=n.msg 7 m.line) (hm6.em (f7.alloc _)) (CM _) (by rw [xn];omega) λ v2 H8 hms f8=>?_;simp only [↓qh,xa,reduceIte,reduceEqDiff];have f68:Fr Em H6 H8:=(f7.alloc _).trans f8 λ _ q=>q.elim;exact ⟨⟨_,_,rfl,hms.1,λ q=>by have:=hms.2 q;omega⟩,bv',ks',h6.em f68,fI f05 (fI f6 (iB f68)),λ x q=>(w6 x q).imp id λ w=>by omega⟩
end
end Go.Am
