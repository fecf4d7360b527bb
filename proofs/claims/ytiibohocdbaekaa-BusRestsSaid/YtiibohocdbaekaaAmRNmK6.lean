/- NmK6: NhC NhD NhE. -/
import Derived.Test.YtiibohocdbaekaaAmRNmK5
import Derived.Test.YtiibohocdbaekaaAmRNmK0
set_option linter.unusedVariables false
set_option linter.unusedSimpArgs false
set_option linter.unusedSectionVars false
set_option maxRecDepth 100000
open Nat (reduceEqDiff)
namespace Go.Am
open Go.Proofs Ca
variable {M:aO} [MK M]
theorem G5 (e:En) (k:Nat) (hk:k<8) (y:Int):aA { e with d:=e.d.put k y } = (aA e).set (4+k) (uW y):=by
 obtain ⟨line,st,r,w,⟨d,hd⟩,⟨o,ho⟩,u⟩:=e
 match d,hd,o,ho with
 | [d0,d1,d2,d3,d4,d5,d6,d7],_,[o0,o1,o2,o3,o4,o5,o6,o7],_ =>
  rcases (show k=0\/k=1\/k=2\/k=3\/k=4\/k=5\/k=6\/k=7 by omega) with rfl|rfl|rfl|rfl|rfl|rfl|rfl|rfl<;>rfl
theorem Dz (e:En) (k:Nat) (hk:k<8):(aA e)[4+k]? = some (uW (e.d.get k)):=by
 obtain ⟨line,st,r,w,⟨d,hd⟩,⟨o,ho⟩,u⟩:=e
 match d,hd,o,ho with
 | [d0,d1,d2,d3,d4,d5,d6,d7],_,[o0,o1,o2,o3,o4,o5,o6,o7],_ =>
  rcases (show k=0\/k=1\/k=2\/k=3\/k=4\/k=5\/k=6\/k=7 by omega) with rfl|rfl|rfl|rfl|rfl|rfl|rfl|rfl<;>rfl
theorem Bj (e:En) (x:L8):aA { e with d:=x } = (aA e).take 4++(AV.agg (cN x)).cells++(aA e).drop (4+8):=by
 obtain ⟨line,st,r,w,⟨d,hd⟩,⟨o,ho⟩,u⟩:=e
 match d,hd,o,ho with
 | [d0,d1,d2,d3,d4,d5,d6,d7],_,[o0,o1,o2,o3,o4,o5,o6,o7],_=>rfl
theorem A7 (e:En) (x:L8):aA { e with o:=x } = (aA e).take 12++(AV.agg (cN x)).cells++(aA e).drop (12+8):=by
 obtain ⟨line,st,r,w,⟨d,hd⟩,⟨o,ho⟩,u⟩:=e
 match d,hd,o,ho with
 | [d0,d1,d2,d3,d4,d5,d6,d7],_,[o0,o1,o2,o3,o4,o5,o6,o7],_ =>
  obtain ⟨x,hx⟩:=x
  match x,hx with
  | [x0,x1,x2,x3,x4,x5,x6,x7],_=>rfl
section
variable {H:AHeap} {b:Nat} {sv:AV} {c:Ca} {lines line:Int}
theorem vV {a:Nat} (h:a<1000000):Op.bin .quo [.int .i64 (a:Int),.int .i64 8]=some (.int .i64 ((a / 8:Nat):Int)):=by
 rw [Gv .i64 _ _ (by decide),Int.tdiv_eq_ediv_of_nonneg (by omega),wx (by omega) (by omega)];rfl
theorem G3 {a:Nat} (h:a<1000000):Op.bin .rem [.int .i64 (a:Int),.int .i64 8]=some (.int .i64 ((a % 8:Nat):Int)):=rV (by decide)
theorem ixA (i k:Nat) (hk:k<8):Op.aY 8 1 [.ptr (aM sv) (cu 21 sv i+4),.int .i64 (k:Int)]=some (.ptr (aM sv) (cu 21 sv i+(4+k))):=by
 have:=qyi (len:=8) (size:=1) (b:=aM sv) (o:=cu 21 sv i+4) (k:=.i64) (j:=(k:Int)) (i:=k) rfl hk;rw [this,Nat.mul_one,vl]
theorem D9 {i:Nat} (hi:i<c.sl.length) (e:En):(c.set i e).en i=e:=by rw [og hi,qm rfl]
theorem Jb (c:Ca) (i:Nat) (e e':En):(c.set i e).set i e'=c.set i e':=by unfold Ca.set;simp only [List.set_set]
theorem tj {i:Nat} (hi:i<c.sl.length):(c.use i).en i = { c.en i with u:=c.us+1 }:=by
 show (c.set i { c.en i with u:=c.us+1 }).en i=_;exact D9 hi _
def pB (c:Ca) (a:Nat):AV:=match c.pos ((a / 8:Nat):Int) with
 | none=>.tuple [.int .u64 0,.int .i64 20]
 | some i=>.tuple [.int .u64 ((c.en i).d.get (a % 8)),.int .i64 0]
theorem q2w (hc:cK H b sv c) (hci:CI lines c) (hu:c.us+1<=1000000) {a:Nat} (ha:a<1000000):jv M Bc [.ptr b 0,.int .i64 (a:Int)] H (CaQ H b sv (c.word a).1 (pB c a)):=by
 refine qvv ?_;obtain ⟨w0,w2,w10,w12,w20⟩:=qvw M ⟨none,Bc⟩;have n0:¬ (a:Int)<0:=by omega
 have hk:a % 8<8:=zH _ (by decide);simp only [↓qh,xa,reduceIte,reduceEqDiff,w0,w2,iP,n0,w10,vV ha];refine C3.q (Dt (M:=M) hc hci ((a / 8:Nat):Int) 0) λ v H1 ⟨hv,f1⟩=>?_;rw [hv];have h1:=hc.em f1;unfold yC pB Ca.word;rw [i9];cases hp:c.pos ((a / 8:Nat):Int) with
 | none =>
  have t20:¬ (20:Int)=0:=by decide
  simp only [↓qh,xa,reduceIte,reduceEqDiff,qp,w12,t20];exact ⟨rfl,h1,lA f1⟩
 | some i =>
  obtain ⟨-,hi,-⟩:=hci.aW hp;have t0:=xj (show (0:Int)=0 from rfl);simp only [↓qh,xa,reduceIte,reduceEqDiff,qp,w12,t0,w20];refine C3.q (KS (M:=M) h1 hu hi) λ _ H2 ⟨h2,f2⟩=>?_;have hi2:i<(c.use i).sl.length:=by show i<(c.sl.set i _).length;rw [qz];exact hi
  have ld:Op.aa [.ptr (aM sv) (cu 21 sv i+(4+a % 8))] H2=some (uW ((c.en i).d.get (a % 8))):=by
   rw [h2.ld hi2 (by omega),tj hi,Dz _ _ hk]
  simp only [↓qh,xa,reduceIte,reduceEqDiff,G3 ha,qf,ixA i (a % 8) hk,ld];exact ⟨rfl,h2,nS (lA f1) f2⟩
def HN (c:Ca) (a:Nat):AV:=match c.fJ ((a / 8:Nat):Int) 2 with
 | none=>.int .i64 20
 | some _=>.int .i64 0
theorem q5l (hc:cK H b sv c) (hci:CI lines c) (hu:c.us+1<=1000000) {a:Nat} (ha:a<1000000) (y:Int):jv M BS [.ptr b 0,.int .i64 (a:Int),.int .u64 y] H (CaQ H b sv (c.put a y) (HN c a)):=by
 refine qxi ?_;obtain ⟨w0,w2,w10,w12,w20⟩:=qxj M ⟨none,BS⟩;have n0:¬ (a:Int)<0:=by omega
 have hk:a % 8<8:=zH _ (by decide);simp only [↓qh,xa,reduceIte,reduceEqDiff,w0,w2,iP,n0,w10,vV ha];refine C3.q (Dt (M:=M) hc hci ((a / 8:Nat):Int) 2) λ v H1 ⟨hv,f1⟩=>?_;rw [hv];have h1:=hc.em f1;unfold yC HN Ca.put;cases hp:c.fJ ((a / 8:Nat):Int) 2 with
 | none =>
  have t20:¬ (20:Int)=0:=by decide
  simp only [↓qh,xa,reduceIte,reduceEqDiff,qp,w12,t20];exact ⟨rfl,h1,lA f1⟩
 | some i =>
  obtain ⟨-,hi,-⟩:=hci.aW (pP hp).1;have t0:=xj (show (0:Int)=0 from rfl);simp only [↓qh,xa,reduceIte,reduceEqDiff,qp,w12,t0,w20];refine C3.q (KS (M:=M) h1 hu hi) λ _ H2 ⟨h2,f2⟩=>?_;have hi2:i<(c.use i).sl.length:=by show i<(c.sl.set i _).length;rw [qz];exact hi
  obtain ⟨H3,s3,h3,f3⟩:=h2.b9 hi2 (j:=4+a % 8) (by omega) (u:=.int .u64 y) rfl (e:={ (c.use i).en i with d:=((c.use i).en i).d.put (a % 8) y }) (G5 _ _ hk y);have e:(c.use i).set i { (c.use i).en i with d:=((c.use i).en i).d.put (a % 8) y } = { c with us:=c.us+1,sl:=c.sl.set i { c.en i with u:=c.us+1,d:=(c.en i).d.put (a % 8) y } }:=by
   rw [tj hi];unfold Ca.use Ca.set;simp only [List.set_set]
  rw [e] at h3;simp only [↓qh,xa,reduceIte,reduceEqDiff,G3 ha,qf,ixA i (a % 8) hk,s3];exact ⟨rfl,h3,nS (nS (lA f1) f2) (nX f3)⟩
theorem q1w (hc:cK H b sv c) (hci:CI lines c) (line:Int) (wr:Bool):jv M BK [.ptr b 0,.int .i64 line,.bool wr] H λ _ H'=>cK H' b sv (c.mark line wr)/\Fr (iC b sv) H H':=by
 refine qvs ?_;obtain ⟨w0,w2,w18,w8,w20,w14,w26⟩:=qvt M ⟨none,BK⟩;have t20:¬ (20:Int)=0:=by decide
 have t0:=xj (show (0:Int)=0 from rfl);cases wr with
 | false =>
  simp only [↓qh,xa,reduceIte,reduceEqDiff,w0,w2];refine C3.q (Dt (M:=M) hc hci line 0) λ v H1 ⟨hv,f1⟩=>?_;rw [hv];have h1:=hc.em f1;unfold yC Ca.mark;rw [qd (by decide)];cases hp:c.fJ line 0 with
  | none =>
   simp only [↓qh,xa,reduceIte,reduceEqDiff,qp,w8,t20,w14];exact ⟨h1,lA f1⟩
  | some i =>
   obtain ⟨-,hi,-⟩:=hci.aW (pP hp).1;obtain ⟨H3,s3,h3,f3⟩:=h1.b9 hi (j:=2) (by decide) (u:=.bool true) rfl (e:={ c.en i with r:=true }) rfl;simp only [↓qh,xa,reduceIte,reduceEqDiff,qp,w8,t0,qf,s3,w14];exact ⟨h3,nS (lA f1) (nX f3)⟩
 | true =>
  simp only [↓qh,xa,reduceIte,reduceEqDiff,w0,w2,w18];refine C3.q (Dt (M:=M) hc hci line 2) λ v H1 ⟨hv,f1⟩=>?_;rw [hv];have h1:=hc.em f1;unfold yC Ca.mark;rw [qm rfl];cases hp:c.fJ line 2 with
  | none =>
   simp only [↓qh,xa,reduceIte,reduceEqDiff,qp,w20,t20,w26];exact ⟨h1,lA f1⟩
  | some i =>
   obtain ⟨-,hi,-⟩:=hci.aW (pP hp).1;have l3:Op.aa [.ptr (aM sv) (cu 21 sv i+3)] H1=some (.bool (c.en i).w):=h1.ld hi (by decide);dsimp only;cases hw:(c.en i).w with
   | true =>
    rw [qm rfl];rw [hw] at l3;simp only [↓qh,xa,reduceIte,reduceEqDiff,qp,w20,t0,qf,l3,w26];exact ⟨h1,lA f1⟩
   | false =>
    rw [qd (by decide)];rw [hw] at l3;obtain ⟨H3,s3,h3,f3⟩:=h1.b9 hi (j:=3) (by decide) (u:=.bool true) rfl (e:={ c.en i with w:=true }) rfl;have hi3:i<(c.set i { c.en i with w:=true }).sl.length:=by show i<(c.sl.set i _).length;rw [qz];exact hi
    obtain ⟨H4,s4,h4,f4⟩:=h3.Kc hi3 (j:=12) (n:=8) (u:=.agg (cN (c.en i).d)) (by rw [xw];exact iu _) (by rw [xw];exact rn _) (by decide) (e:={ (c.set i { c.en i with w:=true }).en i with o:=(c.en i).d }) (A7 _ _);rw [D9 hi,Jb] at h4;simp only [↓qh,xa,reduceIte,reduceEqDiff,qp,w20,t0,qf,l3,h1.ldD hi,s3,s4,w26];exact ⟨h4,nS (nS (lA f1) (nX f3)) (nX f4)⟩
def mN (c:Ca) (line:Int):AV:=.tuple [.agg (cN (c.bI line).2),match c.fJ line 2 with|none=>.int .i64 20|some _=>.int .i64 0]
theorem q3f (hc:cK H b sv c) (hci:CI lines c) (line:Int):jv M DE [.ptr b 0,.int .i64 line] H λ v H'=>v=mN c line/\cK H' b sv (c.bI line).1/\Fr (iC b sv) H H':=by
 refine qrk ?_;obtain ⟨w0,w4,w12⟩:=qrl M ⟨none,DE⟩;have t20:¬ (20:Int)=0:=by decide
 have t0:=xj (show (0:Int)=0 from rfl);obtain ⟨H1,e1⟩:∃ X,X=H.alloc (OR (cN .zero) je):=⟨_,rfl⟩
 have f1:Fr Em H H1:=by rw [e1];exact (Fr.refl H).alloc _
 have n1:H1.next=H.next+1:=by rw [e1,xn]
 have g1:H1.get H.next=some (OR (cN .zero) je):=by rw [e1,qx]
 have hlt:=hc.lt;have hsb:aM sv<H.next:=hc.sl.lt
 simp only [↓qh,xa,reduceIte,reduceEqDiff,w0,lZ,<-e1];refine C3.q (Dt (M:=M) (hc.em f1) hci line 2) λ v H2 ⟨hv,f2⟩=>?_;rw [hv];have f12:Fr Em H H2:=f1.trans f2 λ _ q=>q.elim;have h2:=hc.em f12;have g2:H2.get H.next=some (OR (cN .zero) je):=by rw [f2.ae _ (by omega) id];exact g1
 unfold yC mN Ca.bI;cases hp:c.fJ line 2 with
 | none =>
  have st:=iw g2 (iu _) (iu .zero) (rn _);have ld:=fQ (xd H2 H.next (OR (cN .zero) je)) (iu _);have fs:Fr Em H (H2.set H.next (OR (cN .zero) je)):=f12.set (.inr (qg _)) _;simp only [↓qh,xa,reduceIte,reduceEqDiff,qp,w4,t20,lZ,xB,st,ld];exact ⟨hc.em fs,lA fs⟩
 | some i =>
  obtain ⟨-,hi,-⟩:=hci.aW (pP hp).1;obtain ⟨H3,s3,h3,f3⟩:=h2.b9 hi (j:=1) (by decide) (u:=.int .i64 1) rfl (e:={ c.en i with st:=1 }) rfl;have hi3:i<(c.set i { c.en i with st:=1 }).sl.length:=by show i<(c.sl.set i _).length;rw [qz];exact hi
  have l3:=h3.ldD hi3;rw [D9 hi] at l3;have n2:=f2.next
  have g3:H3.get H.next=some (OR (cN .zero) je):=by rw [f3.ae _ (by omega) (λ (q:H.next=aM sv)=>by omega)];exact g2
  have st:=iw g3 (iu _) (iu (c.en i).d) (rn _);have ld:=fQ (xd H3 H.next (OR (cN (c.en i).d) je)) (iu _);have fo:Fr (On H.next) H3 (H3.set H.next (OR (cN (c.en i).d) je)):=(Fr.refl H3).set (W:=On H.next) (.inl rfl) _;simp only [↓qh,xa,reduceIte,reduceEqDiff,qp,w4,t0,w12,qf,s3,l3,st,ld];exact ⟨h3.fr fo (λ (q:b=H.next)=>by omega) (λ (q:aM sv=H.next)=>by omega),(nS (lA f12) (nX f3)).set (.inr (qg _)) _⟩
theorem q2d (hc:cK H b sv c) (hci:CI lines c) (line:Int) (x:L8):jv M D8 [.ptr b 0,.int .i64 line,.agg (cN x)] H λ _ H'=>cK H' b sv (c.bZ line x)/\Fr (iC b sv) H H':=by
 refine qp4 ?_;obtain ⟨w0,w4,w10⟩:=qp5 M ⟨none,D8⟩;have t20:¬ (20:Int)=0:=by decide
 have t0:=xj (show (0:Int)=0 from rfl);obtain ⟨H1,e1⟩:∃ X,X=H.alloc (OR (cN x) je):=⟨_,rfl⟩
 have f1:Fr Em H H1:=by rw [e1];exact (Fr.refl H).alloc _
 have n1:H1.next=H.next+1:=by rw [e1,xn]
 have g1:H1.get H.next=some (OR (cN x) je):=by rw [e1,qx]
 have hlt:=hc.lt;have hsb:aM sv<H.next:=hc.sl.lt
 simp only [↓qh,xa,reduceIte,reduceEqDiff,w0,xw,<-e1];refine C3.q (Dt (M:=M) (hc.em f1) hci line 1) λ v H2 ⟨hv,f2⟩=>?_;rw [hv];have f12:Fr Em H H2:=f1.trans f2 λ _ q=>q.elim;have h2:=hc.em f12;have g2:H2.get H.next=some (OR (cN x) je):=by rw [f2.ae _ (by omega) id];exact g1
 unfold yC Ca.bZ;cases hp:c.fJ line 1 with
 | none =>
  simp only [↓qh,xa,reduceIte,reduceEqDiff,qp,w4,t20,w10];exact ⟨h2,lA f12⟩
 | some i =>
  obtain ⟨-,hi,-⟩:=hci.aW (pP hp).1;obtain ⟨H3,s3,h3,f3⟩:=h2.b9 hi (j:=1) (by decide) (u:=.int .i64 2) rfl (e:={ c.en i with st:=2 }) rfl;have hi3:i<(c.set i { c.en i with st:=2 }).sl.length:=by show i<(c.sl.set i _).length;rw [qz];exact hi
  obtain ⟨H4,s4,h4,f4⟩:=h3.Kc hi3 (j:=4) (n:=8) (u:=.agg (cN x)) (by rw [xw];exact iu _) (by rw [xw];exact rn _) (by decide) (e:={ (c.set i { c.en i with st:=2 }).en i with d:=x }) (Bj _ _);rw [D9 hi,Jb] at h4;have n2:=f2.next
  have g3:H3.get H.next=some (OR (cN x) je):=by rw [f3.ae _ (by omega) (λ (q:H.next=aM sv)=>by omega)];exact g2
  simp only [↓qh,xa,reduceIte,reduceEqDiff,qp,w4,t0,qf,fQ g2 (iu x),s3,fQ g3 (iu x),s4,w10];exact ⟨h4,nS (nS (lA f12) (nX f3)) (nX f4)⟩
def pW (c:Ca) (line:Int):AV:=.tuple [.agg (aA (c.drop line).2),match c.fJ line 0 with|none=>.int .i64 20|some _=>.int .i64 0]
theorem KM (hc:cK H b sv c) (hci:CI lines c) (line:Int):jv M xW [.ptr b 0,.int .i64 line] H λ v H'=>v=pW c line/\cK H' b sv (c.drop line).1/\Fr (iC b sv) H H':=by
 refine qvj ?_;obtain ⟨w0,w4,w12⟩:=qvk M ⟨none,xW⟩;have t20:¬ (20:Int)=0:=by decide
 have t0:=xj (show (0:Int)=0 from rfl);obtain ⟨H1,e1⟩:∃ X,X=H.alloc (OR (aA .zero) qt):=⟨_,rfl⟩
 have f1:Fr Em H H1:=by rw [e1];exact (Fr.refl H).alloc _
 have n1:H1.next=H.next+1:=by rw [e1,xn]
 have g1:H1.get H.next=some (OR (aA .zero) qt):=by rw [e1,qx]
 have hlt:=hc.lt;have hsb:aM sv<H.next:=hc.sl.lt
 simp only [↓qh,xa,reduceIte,reduceEqDiff,w0,eZ,<-e1];refine C3.q (Dt (M:=M) (hc.em f1) hci line 0) λ v H2 ⟨hv,f2⟩=>?_;rw [hv];have f12:Fr Em H H2:=f1.trans f2 λ _ q=>q.elim;have h2:=hc.em f12;have n2:=f2.next
 have g2:H2.get H.next=some (OR (aA .zero) qt):=by rw [f2.ae _ (by omega) id];exact g1
 unfold yC pW Ca.drop;cases hp:c.fJ line 0 with
 | none =>
  have st:=iw g2 (ja _) (ja .zero) (qS _);have ld:=fQ (xd H2 H.next (OR (aA .zero) qt)) (ja _);have fs:Fr Em H (H2.set H.next (OR (aA .zero) qt)):=f12.set (.inr (qg _)) _;simp only [↓qh,xa,reduceIte,reduceEqDiff,qp,w4,t20,eZ,xB,st,ld];exact ⟨hc.em fs,lA fs⟩
 | some i =>
  obtain ⟨-,hi,-⟩:=hci.aW (pP hp).1;obtain ⟨H3,e3⟩:∃ X,X=H2.alloc (OR (aA .zero) qt):=⟨_,rfl⟩
  have f3:Fr Em H2 H3:=by rw [e3];exact (Fr.refl H2).alloc _
  have n3:H3.next=H2.next+1:=by rw [e3,xn]
  have g3:H3.get H2.next=some (OR (aA .zero) qt):=by rw [e3,qx]
  have s4:=iw g3 (ja _) (ja (c.en i)) (qS _);obtain ⟨H4,e4⟩:∃ X,X=H3.set H2.next (OR (aA (c.en i)) qt):=⟨_,rfl⟩
  rw [<-e4] at s4;have f4:Fr (On H2.next) H3 H4:=by rw [e4];exact (Fr.refl H3).set (W:=On H2.next) (.inl rfl) _
  have h4:=(h2.em f3).fr f4 (λ (q:b=H2.next)=>by omega) (λ (q:aM sv=H2.next)=>by omega);obtain ⟨H5,s5,h5,f5⟩:=h4.stE hi .zero;have g5:H5.get H2.next=some (OR (aA (c.en i)) qt):=by rw [f5.ae _ (by rw [e4];show H2.next<H3.next;omega) (λ (q:H2.next=aM sv)=>by omega),e4,xd]
  have l5:=fQ g5 (ja (c.en i));have g5':H5.get H.next=some (OR (aA .zero) qt):=by rw [f5.ae _ (by rw [e4];show H.next<H3.next;omega) (λ (q:H.next=aM sv)=>by omega),f4.ae _ (by omega) (λ (q:H.next=H2.next)=>by omega),f3.ae _ (by omega) id];exact g2
  have s6:=iw g5' (ja _) (ja (c.en i)) (qS _);have ld:=fQ (xd H5 H.next (OR (aA (c.en i)) qt)) (ja _);have fo:Fr (On H.next) H5 (H5.set H.next (OR (aA (c.en i)) qt)):=(Fr.refl H5).set (W:=On H.next) (.inl rfl) _;have f04:Fr (iC b sv) H H4:=(nS (lA f12) (lA f3)).trans f4 λ x (q:x=H2.next)=>.inr (by omega);simp only [↓qh,xa,reduceIte,reduceEqDiff,qp,w4,t0,w12,qf,h2.Ot hi,eZ,<-e3,s4,xB,s5,l5,s6,ld];exact ⟨h5.fr fo (λ (q:b=H.next)=>by omega) (λ (q:aM sv=H.next)=>by omega),(nS f04 (nX f5)).set (.inr (qg _)) _⟩
end
end Go.Am
namespace Go.Am
open Go.Proofs Ca
variable {M:aO} [MK M]
def jU (sv:AV) (o:Option Nat):AV:=match o with
 | none=>.nilp
 | some i=>eA sv i
theorem tJ (sv:AV) (o:Option Nat):br (jU sv o)=true:=by cases o<;>rfl
theorem tL {Hx:AHeap} {t d e:Nat} {x:AV} {o:bN} (g:Hx.get t=some (OR [x] e)) (hd:d ≠ t):Op.aa [.ptr t 0] (Hx.set d o)=some x:=by
 have g':(Hx.set d o).get t=some (OR [x] e):=by rw [wq hd];exact g
 exact zf (xb g') 0
structure MH (c:Ca) (sv:AV) (line:Int) (t u:Nat) (i:Nat) (V:Nat->Prop) (Hx:AHeap):Prop where
 vt:V t
 vu:V u
 g:Hx.get t=some (OR [.nilp] jj)
 gu:Hx.get u=some (OR [jU sv ((c.dT line i).map (c.fr line + ·))] jj)
 lt:t<Hx.next
 K3:u<Hx.next
 no:∀ k,k<i->c.free line k=false
structure Nt (c:Ca) (sv:AV) (line:Int) (t:Nat) (V:Nat->Prop) (Hx:AHeap):Prop where
 vt:V t
 ex:∃ k,k<c.ways/\cr (c.free line) c.ways=some k/\Hx.get t=some (OR [eA sv (c.fr line+k)] jj)
 lt:t<Hx.next
section
variable {H:AHeap} {b:Nat} {sv:AV} {c:Ca} {lines line:Int}
theorem q97 (hc:cK H b sv c) (hci:CI lines c) (hl:0<=line):jv M yQ [.ptr b 0,.int .i64 line] H λ v H'=>v=jU sv (c.room line)/\Fr Em H H':=by
 refine qv0 ?_;obtain ⟨w0,wa,wb,w2,wb9,w3,wb15,w5,w7,w12⟩:=qni M ⟨none,yQ⟩;obtain ⟨H1,e1⟩:∃ X,X=H.alloc (OR [.nilp] jj):=⟨_,rfl⟩
 obtain ⟨H2,e2⟩:∃ X,X=H1.alloc (OR [.nilp] jj):=⟨_,rfl⟩
 have f1:Fr Em H H1:=by rw [e1];exact (Fr.refl H).alloc _
 have f12:Fr Em H1 H2:=by rw [e2];exact (Fr.refl H1).alloc _
 have f2:Fr Em H H2:=f1.trans f12 λ _ q=>q.elim;have n1:H1.next=H.next+1:=by rw [e1,xn]
 have n2:H2.next=H.next+2:=by rw [e2,xn,n1]
 have g1:H2.get H.next=some (OR [.nilp] jj):=by rw [f12.ae _ (by omega) id,e1,qx]
 have g2:H2.get (H.next+1)=some (OR [.nilp] jj):=by rw [e2,<-n1,qx]
 simp only [↓qh,xa,reduceIte,reduceEqDiff,w0,<-e1,w2,w3,<-e2,n1,w5,w7];refine C3.q (q5r (M:=M) b line) λ v H5 ⟨hv,hh⟩=>?_;obtain ⟨H3,e3⟩:∃ X,X=H2.alloc (OR [.ptr b 0] wc):=⟨_,rfl⟩
 obtain ⟨H4,e4⟩:∃ X,X=H3.alloc (OR [.int .i64 line] dF):=⟨_,rfl⟩
 rw [<-e3,<-e4] at hh;rw [hv,hh];have f23:Fr Em H2 H3:=by rw [e3];exact (Fr.refl H2).alloc _
 have f34:Fr Em H3 H4:=by rw [e4];exact (Fr.refl H3).alloc _
 have f24:Fr Em H2 H4:=f23.trans f34 λ _ q=>q.elim;have f4:Fr Em H H4:=f2.trans f24 λ _ q=>q.elim;have n3:H3.next=H.next+3:=by rw [e3,xn,n2]
 have n4:H4.next=H.next+4:=by rw [e4,xn,n3]
 have g3:H4.get H2.next=some (OR [.ptr b 0] wc):=by rw [f34.ae _ (by omega) id,e3,qx]
 have g4:H4.get (H2.next+1)=some (OR [.int .i64 line] dF):=by rw [show H2.next+1=H3.next by omega,e4,qx]
 have hc4:=hc.em f4;have hlt:=hc.lt;have hsb:aM sv<H.next:=hc.sl.lt
 have hset:jP c sv line=(List.range c.ways).map λ k=>[eA sv (c.fr line+k)]:=by unfold jP;rw [qd (by omega)]
 refine fw.iter (fn:=Db) (lp:=C8) (pa:=qlx 0) (pb:=AZ 0) qs6 qkh.1 qkh.2 (by decide) ⟨rfl,sD C8.assign⟩ ⟨rfl,sD C8.body⟩
  (q2l (M:=M) hc4 hci g3 g4 (by omega) (by omega)) (λ i V Hx=>MH c sv line H.next (H.next+1) i V Hx) (λ e V Hx=>e=.ret/\Nt c sv line H.next V Hx) (λ x=>x=H.next\/x=H.next+1) (qg _) ?_ ?_ ?_ ?_ ?_ ?_ ?_ ?_
 ·rintro x ((q|q|q) | q)
  ·exact ⟨by omega,rfl,by omega⟩
  ·exact ⟨by omega,rfl,by omega⟩
  ·exact ⟨by omega,rfl,by omega⟩
  ·exact q.elim
 ·exact λ x hx=>by omega
 ·exact ⟨.inl rfl,.inr rfl,by rw [f24.ae _ (by omega) id];exact g1,by rw [f24.ae _ (by omega) id];exact g2,by omega,by omega,λ k hk=>by omega⟩
 ·exact λ i V Ha Hb h hs hn=>⟨h.vt,h.vu,by rw [hs _ h.vt];exact h.g,by rw [hs _ h.vu];exact h.gu,qn h.lt hn,qn h.K3 hn,h.no⟩
 ·rintro e V Ha Hb ⟨he,h⟩ hs hn;obtain ⟨k,k1,k2,k3⟩:=h.ex;exact ⟨he,h.vt,⟨k,k1,k2,by rw [hs _ h.vt];exact k3⟩,qn h.lt hn⟩
 ·intro L2 i lr lb x hx hL2 V H6 hP hV hf6 hnL hL6 hgL;rw [hset,xm,xf] at hx;obtain ⟨y,hy,rfl⟩:=hx;have hiw:i<c.ways:=by have:=(ql.1 hy).1;rw [yl] at this;exact this
  rw [vv hiw] at hy;injection hy with hy;subst hy
  refine ⟨_,rfl,?_⟩;obtain ⟨-,wa,wb,-,wb9,-,wb15,-⟩:=qni M ⟨some L2,yQ⟩;simp only [↓qh,xa,reduceIte,reduceEqDiff,wa,GS];refine ⟨hgL,?_⟩;have fx:Fr (On L2) H6 (H6.set L2 lb):=(Fr.refl H6).set (W:=On L2) (.inl rfl) _;have gL:(H6.set L2 lb).get L2=some lb:=xd ..;have nL:(H6.set L2 lb).next=H6.next:=rfl
  have hc6:cK H6 b sv c:=hc4.fr hf6 (λ q=>q.elim (λ q=>by omega) id) (λ q=>q.elim (λ q=>by omega) id);have h7:cK (H6.set L2 lb) b sv c:=hc6.fr fx (λ (q:b=L2)=>by omega) (λ (q:aM sv=L2)=>by omega);have hLt:L2 ≠ H.next:=λ q=>hnL (by rw [q];exact hP.vt)
  have hLu:L2 ≠ H.next+1:=λ q=>hnL (by rw [q];exact hP.vu)
  have hgt:(H6.set L2 lb).get H.next=some (OR [.nilp] jj):=by rw [wq hLt];exact hP.g
  have hgu:(H6.set L2 lb).get (H.next+1)=some (OR [jU sv ((c.dT line i).map (c.fr line + ·))] jj):=by rw [wq hLu];exact hP.gu
  generalize H6.set L2 lb=H7 at *;have hi:=hci.fV line hiw;obtain ⟨e,he⟩:∃ e,e=c.en (c.fr line+i):=⟨_,rfl⟩
  have l1:Op.aa [.ptr (aM sv) (cu 21 sv (c.fr line+i)+1)] H7=some (.int .i64 e.st):=by rw [he];exact h7.ld hi (k:=1) (by decide)
  have l2:Op.aa [.ptr (aM sv) (cu 21 sv (c.fr line+i)+2)] H7=some (.bool e.r):=by rw [he];exact h7.ld hi (k:=2) (by decide)
  have l3:Op.aa [.ptr (aM sv) (cu 21 sv (c.fr line+i)+3)] H7=some (.bool e.w):=by rw [he];exact h7.ld hi (k:=3) (by decide)
  have enc20:∀ e:En,(aA e)[20]? = some (.int .i64 e.u):=λ e=>by
   obtain ⟨line,st,r,w,⟨d,hd⟩,⟨o,ho⟩,u⟩:=e
   match d,hd,o,ho with
   | [d0,d1,d2,d3,d4,d5,d6,d7],_,[o0,o1,o2,o3,o4,o5,o6,o7],_=>rfl
  have l20:∀ k,c.fr line+k<c.sl.length->Op.aa [.ptr (aM sv) (cu 21 sv (c.fr line+k)+20)] H7=some (.int .i64 (c.en (c.fr line+k)).u):=λ k hk=>by rw [h7.ld hk (k:=20) (by decide),enc20]
  have hfree:c.free line i=(e.st == 0):=by rw [he];rfl
  have no':e.st ≠ 0 -> ∀ k,k<i+1->c.free line k=false:=λ h0 k hk=>by
   by_cases q:k=i
   ·rw [q,hfree];simp [h0]
   ·exact hP.no k (by omega)
  have lu:Op.aa [.ptr (H.next+1) 0] H7=some (jU sv ((c.dT line i).map (c.fr line + ·))):=zf (xb hgu) 0;have hbe:c.dT line (i+1)=if e.r || e.w then c.dT line i else match c.dT line i with
   | none=>some i
   | some j=>if e.u<(c.en (c.fr line+j)).u then some i else some j:=by rw [he];rfl
  -- it stays as it is
  have stay:e.st ≠ 0->c.dT line (i+1)=c.dT line i->IQ (λ V Hx=>MH c sv line H.next (H.next+1) (i+1) V Hx) (λ e V Hx=>e=.ret/\Nt c sv line H.next V Hx) L2 lb V H6 .normal [] [] H7:=λ h0 hb =>
   ⟨rfl,gL,V,λ b hb=>⟨by rw [nL];exact (hV b hb).1,.inl hb⟩,fx.mono λ x _ q=>.inr q,.inl ⟨rfl,hP.vt,hP.vu,hgt,by rw [hb];exact hgu,by rw [nL];exact hP.lt,by rw [nL];exact hP.K3,no' h0⟩⟩
  -- this one is taken
  obtain ⟨H8,e8⟩:∃ X,X=H7.set (H.next+1) (OR [eA sv (c.fr line+i)] jj):=⟨_,rfl⟩
  have st:=Ge hgu (u:=eA sv (c.fr line+i)) rfl;rw [<-e8] at st;have take:e.st ≠ 0->c.dT line (i+1)=some i->IQ (λ V Hx=>MH c sv line H.next (H.next+1) (i+1) V Hx) (λ e V Hx=>e=.ret/\Nt c sv line H.next V Hx) L2 lb V H6 .normal [] [] H8:=λ h0 hb =>
   ⟨rfl,by rw [e8,wq (vp hLu)];exact gL,V,λ b hb=>⟨by rw [e8];show b<H7.next;rw [nL];exact (hV b hb).1,.inl hb⟩,by rw [e8];exact (fx.mono λ x _ q=>.inr q).set (.inl (.inl hP.vu)) _,.inl ⟨rfl,hP.vt,hP.vu,by rw [e8,wq (by omega)];exact hgt,by rw [e8,xd,hb];rfl,by rw [e8];show H.next<H7.next;rw [nL];exact hP.lt,by rw [e8];show H.next+1<H7.next;rw [nL];exact hP.K3,no' h0⟩⟩
  by_cases q1:e.st=0
  ·have stt:=Ge hgt (u:=eA sv (c.fr line+i)) rfl;simp only [↓qh,xa,reduceIte,reduceEqDiff,wb,qf,l1,xj q1,stt];refine ⟨rfl,?_,V,?_,?_,.inr ⟨trivial,rfl,hP.vt,⟨i,hiw,Fx hiw (by rw [hfree];simp [q1]) hP.no,xd ..⟩,?_⟩⟩
   ·rw [wq (vp hLt)];exact gL
   ·exact λ b hb=>⟨by show b<H7.next;rw [nL];exact (hV b hb).1,.inl hb⟩
   ·exact (fx.mono λ x _ q=>.inr q).set (.inl (.inl hP.vt)) _
   ·show H.next<H7.next;rw [nL];exact hP.lt
  cases hr:e.r with
  | true =>
   rw [hr] at l2;simp only [↓qh,xa,reduceIte,reduceEqDiff,wb,qf,l1,q1,wb9,l2];exact stay q1 (by rw [hbe,hr];rfl)
  | false =>
   rw [hr] at l2;cases hw:e.w with
   | true =>
    rw [hw] at l3;simp only [↓qh,xa,reduceIte,reduceEqDiff,wb,qf,l1,q1,wb9,l2,l3];exact stay q1 (by rw [hbe,hr,hw];rfl)
   | false =>
    rw [hw] at l3;rw [hr,hw] at hbe;cases hb:c.dT line i with
    | none =>
     rw [hb] at lu hbe;have lu:Op.aa [.ptr (H.next+1) 0] H7=some .nilp:=lu;simp only [↓qh,xa,reduceIte,reduceEqDiff,wb,qf,l1,q1,wb9,l2,l3,wb15,lu,Jz,st];exact take q1 hbe
    | some j =>
     rw [hb] at lu hbe;have lu:Op.aa [.ptr (H.next+1) 0] H7=some (eA sv (c.fr line+j)):=lu;have hj:=(J7 hb).1;have a1:=l20 i hi;rw [<-he] at a1;have a2:=l20 j (hci.fV line (by omega))
     by_cases q:e.u<(c.en (c.fr line+j)).u
     ·simp only [↓qh,xa,reduceIte,reduceEqDiff,wb,qf,l1,q1,wb9,l2,l3,wb15,lu,yk,a1,a2,q,st];exact take q1 (by rw [hbe];simp [q])
     ·simp only [↓qh,xa,reduceIte,reduceEqDiff,wb,qf,l1,q1,wb9,l2,l3,wb15,lu,yk,a1,a2,q];exact stay q1 (by rw [hbe,hb];simp [q])
 ·intro d V Hd hd1 hd2 hgd hfd hVd hP;have hno:=hP.no;have hgu:=hP.gu;rw [hset,zb,yl] at hno hgu;have lu:Op.aa [.ptr (H.next+1) 0] Hd=some (jU sv ((c.dT line c.ways).map (c.fr line + ·))):=zf (xb hgu) 0;have st:=Ge hP.g (u:=jU sv ((c.dT line c.ways).map (c.fr line + ·))) (tJ ..);have hdt:d ≠ H.next:=λ q=>by have:=(hVd _ hP.vt).2.2;omega
  have gd:(Hd.set H.next (OR [jU sv ((c.dT line c.ways).map (c.fr line + ·))] jj)).get d=some (.deferred (some [])):=by rw [wq (vp hdt)];exact hgd
  have rd:Op.aa [.ptr H.next 0] ((Hd.set H.next (OR [jU sv ((c.dT line c.ways).map (c.fr line + ·))] jj)).set d (.deferred none))=some (jU sv ((c.dT line c.ways).map (c.fr line + ·))):=tL (xd ..) hdt;have hroom:c.room line=(c.dT line c.ways).map (c.fr line + ·):=by
   unfold Ca.room;rw [Ce hno]
  rw [<-hroom] at lu st gd rd;simp only [↓qh,xa,reduceIte,reduceEqDiff,w12,lu,st,rX,DD,rd];refine ⟨gd,?_⟩;exact (((f4.trans (W':=λ x=>(x=H.next\/x=H.next+1)\/False) hfd λ x q=>q.elim (λ q=>.inr (by omega)) False.elim).set (.inr (by omega)) _).set (.inr (by omega)) _)
 ·rintro e d V Hd hj hd1 hd2 hgd hfd hVd ⟨he,hS⟩;subst he;obtain ⟨k,k1,k2,k3⟩:=hS.ex;have hdt:d ≠ H.next:=λ q=>by have:=(hVd _ hS.vt).2.2;omega
  have rd:Op.aa [.ptr H.next 0] (Hd.set d (.deferred none))=some (eA sv (c.fr line+k)):=tL k3 hdt;have hroom:c.room line=some (c.fr line+k):=by unfold Ca.room;rw [k2]
  simp only [↓qh,xa,reduceIte,reduceEqDiff,rX,DD,rd];refine ⟨hgd,by rw [hroom];rfl,?_⟩;exact ((f4.trans (W':=λ x=>(x=H.next\/x=H.next+1)\/False) hfd λ x q=>q.elim (λ q=>.inr (by omega)) False.elim).set (.inr (by omega)) _)
end
end Go.Am
namespace Go.Am
open Go.Proofs Ca
variable {M:aO} [MK M]
theorem bdE (line st:Int) (x:L8):Op.build (aA .zero) [(0,1),(1,1),(4,8)] [.int .i64 line,.int .i64 st,.agg (cN x)]=some (.agg (aA ⟨line,st,false,false,x,.zero,0⟩)):=by
 obtain ⟨x,hx⟩:=x
 match x,hx with
 | [x0,x1,x2,x3,x4,x5,x6,x7],_=>rfl
def jD (c:Ca) (line st:Int) (x:L8):AV:=.tuple [.agg (aA (c.fill line st x).2.1),.bool (decide ((c.fill line st x).2.2=0/\(c.fill line st x).2.1.st ≠ 0)),.int .i64 (c.fill line st x).2.2]
section
variable {H:AHeap} {b:Nat} {sv:AV} {c:Ca} {lines line:Int}
theorem q1n (hc:cK H b sv c) (hci:CI lines c) (hu:c.us+1<=1000000) (hl:0<=line) {st:Int} (hst:st=1\/st=2) (x:L8) :
 jv M wI [.ptr b 0,.int .i64 line,.int .i64 st,.agg (cN x)] H λ v H'=>v=jD c line st x/\cK H' b sv (c.fill line st x).1/\Fr (iC b sv) H H':=by
 refine qvm ?_;obtain ⟨w0,w2,w23,w16,w25,w33⟩:=qvn M ⟨none,wI⟩;obtain ⟨H1,e1⟩:∃ X,X=H.alloc (OR (cN x) je):=⟨_,rfl⟩
 obtain ⟨H2,e2⟩:∃ X,X=H1.alloc (OR (aA .zero) qt):=⟨_,rfl⟩
 have f1:Fr Em H H1:=by rw [e1];exact (Fr.refl H).alloc _
 have f12:Fr Em H1 H2:=by rw [e2];exact (Fr.refl H1).alloc _
 have f2:Fr Em H H2:=f1.trans f12 λ _ q=>q.elim;have n1:H1.next=H.next+1:=by rw [e1,xn]
 have n2:H2.next=H.next+2:=by rw [e2,xn,n1]
 have g1:H2.get H.next=some (OR (cN x) je):=by rw [f12.ae _ (by omega) id,e1,qx]
 have g2:H2.get (H.next+1)=some (OR (aA .zero) qt):=by rw [e2,<-n1,qx]
 have nl:¬ line<0:=by omega
 have hlt:=hc.lt;have hsb:aM sv<H.next:=hc.sl.lt
 -- an error
 have err:∀ {Hx:AHeap} (k:Int),Fr Em H2 Hx->k ≠ 0->(c.fill line st x).2.2=k->(c.fill line st x).1=c->(c.fill line st x).2.1=.zero ->
  Op.store 21 [.ptr (H.next+1) 0,.agg (aA .zero)] Hx=some (.undef,Hx.set (H.next+1) (OR (aA .zero) qt))/\Op.aq 21 [.ptr (H.next+1) 0] (Hx.set (H.next+1) (OR (aA .zero) qt))=some (.agg (aA .zero)) /\
  (AV.tuple [.agg (aA .zero),.bool false,.int .i64 k]=jD c line st x/\cK (Hx.set (H.next+1) (OR (aA .zero) qt)) b sv (c.fill line st x).1/\Fr (iC b sv) H (Hx.set (H.next+1) (OR (aA .zero) qt))):=by
  intro Hx k f hk h1 h2 h3;have gx:Hx.get (H.next+1)=some (OR (aA .zero) qt):=by rw [f.ae _ (by omega) id];exact g2
  have fs:Fr Em H (Hx.set (H.next+1) (OR (aA .zero) qt)):=(f2.trans f λ _ q=>q.elim).set (.inr (by omega)) _;refine ⟨iw gx (ja _) (ja .zero) (qS _),fQ (xd ..) (ja _),?_,by rw [h2];exact hc.em fs,lA fs⟩;unfold jD;rw [h1,h3];simp [hk]
 have k16:∀ {q:AV},W M ⟨none,wI⟩ (j3 16) true (aK 0 (ao (W M ⟨none,wI⟩ (j3 23)) (aP M [.cC 21 8,.tmp 9,.tmp 10] (lM λ v H'=>v=jD c line st x/\cK H' b sv (c.fill line st x).1/\Fr (iC b sv) H H'))))
  [(21,q),(10,.int .i64 0),(9,.bool false),(8,.ptr (H.next+1) 0),(7,.ptr H.next 0),(0,.ptr b 0),(1,.int .i64 line),(2,.int .i64 st),(3,.agg (cN x))] [] H2:=by
  intro q;simp only [↓qh,xa,reduceIte,reduceEqDiff,w16];refine C3.q (Og (M:=M) (line:=line) (hc.em f2) hci) λ v H3 ⟨hv,f3⟩=>?_;rw [hv];unfold pn;cases hp:c.pos line with
  | some i =>
   obtain ⟨s1,s2,s3⟩:=err 21 f3 (by decide) (by unfold Ca.fill;rw [hp]) (by unfold Ca.fill;rw [hp]) (by unfold Ca.fill;rw [hp]);simp only [↓qh,xa,reduceIte,reduceEqDiff,iP,eZ,xB,s1,s2];exact s3
  | none =>
   simp only [↓qh,xa,reduceIte,reduceEqDiff,nD,w23];have f03:=f2.trans f3 λ _ q=>q.elim;refine C3.q (q97 (M:=M) (hc.em f03) hci hl) λ v H4 ⟨hv,f4⟩=>?_;rw [hv];have f24:=f3.trans f4 λ _ q=>q.elim;cases hr:c.room line with
   | none =>
    obtain ⟨s1,s2,s3⟩:=err 22 f24 (by decide) (by unfold Ca.fill;rw [hp,hr]) (by unfold Ca.fill;rw [hp,hr]) (by unfold Ca.fill;rw [hp,hr]);unfold jU;simp only [↓qh,xa,reduceIte,reduceEqDiff,w25,Jz,eZ,xB,s1,s2];exact s3
   | some i =>
    obtain ⟨k,k1,k2,-⟩:=Jv hr;have hi:i<c.sl.length:=by rw [k2];exact hci.fV line k1
    have f04:=f2.trans f24 λ _ q=>q.elim;have h4:=hc.em f04;have n4:=f24.next
    obtain ⟨H5,e5⟩:∃ X,X=H4.alloc (OR (aA .zero) qt):=⟨_,rfl⟩
    have f5:Fr Em H4 H5:=by rw [e5];exact (Fr.refl H4).alloc _
    have n5:H5.next=H4.next+1:=by rw [e5,xn]
    have g5:H5.get H4.next=some (OR (aA .zero) qt):=by rw [e5,qx]
    have s6:=iw g5 (ja _) (ja (c.en i)) (qS _);obtain ⟨H6,e6⟩:∃ X,X=H5.set H4.next (OR (aA (c.en i)) qt):=⟨_,rfl⟩
    rw [<-e6] at s6;have f6:Fr (On H4.next) H5 H6:=by rw [e6];exact (Fr.refl H5).set (W:=On H4.next) (.inl rfl) _
    have n6:H6.next=H4.next+1:=by rw [e6];exact n5
    have g6:H6.get H4.next=some (OR (aA (c.en i)) qt):=by rw [e6,xd]
    have h6:cK H6 b sv c:=(h4.em f5).fr f6 (λ (q:b=H4.next)=>by omega) (λ (q:aM sv=H4.next)=>by omega);have g6l:H6.get H.next=some (OR (cN x) je):=by rw [f6.ae _ (by omega) (λ (q:H.next=H4.next)=>by omega),f5.ae _ (by omega) id,f24.ae _ (by omega) id];exact g1
    have g6r:H6.get (H.next+1)=some (OR (aA .zero) qt):=by rw [f6.ae _ (by omega) (λ (q:H.next+1=H4.next)=>by omega),f5.ae _ (by omega) id,f24.ae _ (by omega) id];exact g2
    obtain ⟨H7,s7,h7,f7⟩:=h6.stE hi ⟨line,st,false,false,x,.zero,0⟩;have hi7:i<(c.set i ⟨line,st,false,false,x,.zero,0⟩).sl.length:=by show i<(c.sl.set i _).length;rw [qz];exact hi
    have l6:=fQ g6l (iu x);unfold jU;simp only [↓qh,xa,reduceIte,reduceEqDiff,w25,yk,w33,qf,h4.Ot hi,eZ,<-e5,s6,l6,bdE,s7];refine C3.q (KS (M:=M) h7 hu hi7) λ _ H8 ⟨h8,f8⟩=>?_;have f68:Fr (iC b sv) H6 H8:=nS (nX f7) f8;have nW:∀ y,H.next<=y -> ¬ iC b sv y:=λ y hy q=>q.elim (λ q=>by omega) λ q=>by omega
    have g8:H8.get H4.next=some (OR (aA (c.en i)) qt):=by rw [f68.ae _ (by omega) (nW _ (by omega))];exact g6
    have g8r:H8.get (H.next+1)=some (OR (aA .zero) qt):=by rw [f68.ae _ (by omega) (nW _ (by omega))];exact g6r
    have l8:=fQ g8 (ja (c.en i));have l81:Op.aa [.ptr H4.next 1] H8=some (.int .i64 (c.en i).st):=zf (xb g8) 1;have s9:=iw g8r (ja _) (ja (c.en i)) (qS _);have g9:(H8.set (H.next+1) (OR (aA (c.en i)) qt)).get H4.next=some (OR (aA (c.en i)) qt):=by rw [wq (by omega)];exact g8
    have l91:Op.aa [.ptr H4.next 1] (H8.set (H.next+1) (OR (aA (c.en i)) qt))=some (.int .i64 (c.en i).st):=zf (xb g9) 1;have l9:=fQ (xd H8 (H.next+1) (OR (aA (c.en i)) qt)) (ja (c.en i));have ef:c.fill line st x=({ c with us:=c.us+1,sl:=c.sl.set i ⟨line,st,false,false,x,.zero,c.us+1⟩ },c.en i,0):=by unfold Ca.fill;rw [hp,hr]
    have eu:(c.set i ⟨line,st,false,false,x,.zero,0⟩).use i = { c with us:=c.us+1,sl:=c.sl.set i ⟨line,st,false,false,x,.zero,c.us+1⟩ }:=by
     unfold Ca.use;rw [D9 hi];unfold Ca.set;simp only [List.set_set]
    rw [eu] at h8;have fo:Fr (On (H.next+1)) H8 (H8.set (H.next+1) (OR (aA (c.en i)) qt)):=(Fr.refl H8).set (W:=On (H.next+1)) (.inl rfl) _;have f08:Fr (iC b sv) H H8:=nS ((nS (lA f04) (lA f5)).trans f6 λ y (q:y=H4.next)=>.inr (by omega)) f68;have end_:cK (H8.set (H.next+1) (OR (aA (c.en i)) qt)) b sv (c.fill line st x).1/\Fr (iC b sv) H (H8.set (H.next+1) (OR (aA (c.en i)) qt)):=by
     rw [ef];exact ⟨h8.fr fo (λ (q:b=H.next+1)=>by omega) (λ (q:aM sv=H.next+1)=>by omega),f08.set (.inr (by omega)) _⟩
    by_cases h0:(c.en i).st=0
    ·simp only [↓qh,xa,reduceIte,reduceEqDiff,l8,l81,xj h0,s9,l91,l9];refine ⟨?_,end_⟩;unfold jD;rw [ef];simp [h0]
    ·simp only [↓qh,xa,reduceIte,reduceEqDiff,l8,l81,h0,s9,l91,l9];refine ⟨?_,end_⟩;unfold jD;rw [ef];simp [h0]
 rcases hst with rfl|rfl
 ·have t1:=xj (show (1:Int)=1 from rfl);simp only [↓qh,xa,reduceIte,reduceEqDiff,w0,xw,<-e1,n1,eZ,<-e2,w2,yk,nl,t1];exact k16
 ·have t1:¬ (2:Int)=1:=by decide
  have t2:=xj (show (2:Int)=2 from rfl);simp only [↓qh,xa,reduceIte,reduceEqDiff,w0,xw,<-e1,n1,eZ,<-e2,w2,yk,nl,t1,t2];exact k16
end
end Go.Am
