/- NmK6: NhC NhD NhE. -/
import Derived.Test.YtiibohocdbaekaaAmMNmK5
import Derived.Test.YtiibohocdbaekaaAmMNmK0
set_option linter.unusedVariables false
set_option linter.unusedSimpArgs false
set_option linter.unusedSectionVars false
set_option maxRecDepth 100000
open Nat (reduceEqDiff)
namespace Go.Am
open Go.Proofs Ca
variable {M:aL} [MK M]
theorem Hi (e:En) (k:Nat) (hk:k<8) (y:Int):aq { e with d:=e.d.put k y } = (aq e).set (4+k) (uW y):=by
 obtain ⟨line,st,r,w,⟨d,hd⟩,⟨o,ho⟩,u⟩:=e
 match d,hd,o,ho with
 | [d0,d1,d2,d3,d4,d5,d6,d7],_,[o0,o1,o2,o3,o4,o5,o6,o7],_ =>
  rcases (show k=0\/k=1\/k=2\/k=3\/k=4\/k=5\/k=6\/k=7 by omega) with rfl|rfl|rfl|rfl|rfl|rfl|rfl|rfl<;>rfl
theorem EJ (e:En) (k:Nat) (hk:k<8):(aq e)[4+k]? = some (uW (e.d.get k)):=by
 obtain ⟨line,st,r,w,⟨d,hd⟩,⟨o,ho⟩,u⟩:=e
 match d,hd,o,ho with
 | [d0,d1,d2,d3,d4,d5,d6,d7],_,[o0,o1,o2,o3,o4,o5,o6,o7],_ =>
  rcases (show k=0\/k=1\/k=2\/k=3\/k=4\/k=5\/k=6\/k=7 by omega) with rfl|rfl|rfl|rfl|rfl|rfl|rfl|rfl<;>rfl
theorem A1 (e:En) (x:L8):aq { e with d:=x } = (aq e).take 4++(AV.agg (bS x)).cells++(aq e).drop (4+8):=by
 obtain ⟨line,st,r,w,⟨d,hd⟩,⟨o,ho⟩,u⟩:=e
 match d,hd,o,ho with
 | [d0,d1,d2,d3,d4,d5,d6,d7],_,[o0,o1,o2,o3,o4,o5,o6,o7],_=>rfl
theorem AK (e:En) (x:L8):aq { e with o:=x } = (aq e).take 12++(AV.agg (bS x)).cells++(aq e).drop (12+8):=by
 obtain ⟨line,st,r,w,⟨d,hd⟩,⟨o,ho⟩,u⟩:=e
 match d,hd,o,ho with
 | [d0,d1,d2,d3,d4,d5,d6,d7],_,[o0,o1,o2,o3,o4,o5,o6,o7],_ =>
  obtain ⟨x,hx⟩:=x
  match x,hx with
  | [x0,x1,x2,x3,x4,x5,x6,x7],_=>rfl
section
variable {H:AHeap} {b:Nat} {sv:AV} {c:Ca} {lines line:Int}
theorem ra {a:Nat} (h:a<1000000):Op.bin .quo [.int .i64 (a:Int),.int .i64 8]=some (.int .i64 ((a / 8:Nat):Int)):=by
 rw [Hf .i64 _ _ (by decide),Int.tdiv_eq_ediv_of_nonneg (by omega),vl (by omega) (by omega)];rfl
theorem DQ {a:Nat} (h:a<1000000):Op.bin .rem [.int .i64 (a:Int),.int .i64 8]=some (.int .i64 ((a % 8:Nat):Int)):=GZ (by decide)
theorem ixA (i k:Nat) (hk:k<8):Op.aT 8 1 [.ptr (aN sv) (cr 21 sv i+4),.int .i64 (k:Int)]=some (.ptr (aN sv) (cr 21 sv i+(4+k))):=by
 have:=Nu (len:=8) (size:=1) (b:=aN sv) (o:=cr 21 sv i+4) (k:=.i64) (j:=(k:Int)) (i:=k) rfl hk;rw [this,Dm,vh]
theorem Ew {i:Nat} (hi:i<c.sl.length) (e:En):(c.set i e).en i=e:=by rw [o9 hi,qm rfl]
theorem Jk (c:Ca) (i:Nat) (e e':En):(c.set i e).set i e'=c.set i e':=by unfold Ca.set;simp only [List.set_set]
theorem u6 {i:Nat} (hi:i<c.sl.length):(c.use i).en i = { c.en i with u:=c.us+1 }:=by
 show (c.set i { c.en i with u:=c.us+1 }).en i=_;exact Ew hi _
def pT (c:Ca) (a:Nat):AV:=match c.pos ((a / 8:Nat):Int) with
 | none=>.tuple [.int .u64 0,.int .i64 20]
 | some i=>.tuple [.int .u64 ((c.en i).d.get (a % 8)),.int .i64 0]
theorem q23 (hc:cG H b sv c) (hci:CI lines c) (hu:c.us+1<=1000000) {a:Nat} (ha:a<1000000):jx M BV [.ptr b 0,.int .i64 (a:Int)] H (CaQ H b sv (c.word a).1 (pT c a)):=by
 refine qv6 ?_;obtain ⟨w0,w2,w10,w12,w20⟩:=qv7 M ⟨none,BV⟩;have n0:¬ (a:Int)<0:=by omega
 have hk:a % 8<8:=ry _ (by decide);simp only [↓qi,xd,reduceIte,reduceEqDiff,w0,w2,iN,n0,w10,ra ha];refine C3.q (EL (M:=M) hc hci ((a / 8:Nat):Int) 0) λ v H1 ⟨hv,f1⟩=>?_;rw [hv];have h1:=hc.em f1;unfold yU pT Ca.word;rw [jD];cases hp:c.pos ((a / 8:Nat):Int) with
 | none =>
  have t20:¬ (20:Int)=0:=by decide
  simp only [↓qi,xd,reduceIte,reduceEqDiff,qr,w12,t20];exact ⟨rfl,h1,lP f1⟩
 | some i =>
  obtain ⟨-,hi,-⟩:=hci.aV hp;have t0:=xf (show (0:Int)=0 from rfl);simp only [↓qi,xd,reduceIte,reduceEqDiff,qr,w12,t0,w20];refine C3.q (K0 (M:=M) h1 hu hi) λ _ H2 ⟨h2,f2⟩=>?_;have hi2:i<(c.use i).sl.length:=by show i<(c.sl.set i _).length;rw [xc];exact hi
  have ld:Op.aa [.ptr (aN sv) (cr 21 sv i+(4+a % 8))] H2=some (uW ((c.en i).d.get (a % 8))):=by
   rw [h2.ld hi2 (by omega),u6 hi,EJ _ _ hk]
  simp only [↓qi,xd,reduceIte,reduceEqDiff,DQ ha,qg,ixA i (a % 8) hk,ld];exact ⟨rfl,h2,nY (lP f1) f2⟩
def It (c:Ca) (a:Nat):AV:=match c.fE ((a / 8:Nat):Int) 2 with
 | none=>.int .i64 20
 | some _=>.int .i64 0
theorem q5n (hc:cG H b sv c) (hci:CI lines c) (hu:c.us+1<=1000000) {a:Nat} (ha:a<1000000) (y:Int):jx M Bl [.ptr b 0,.int .i64 (a:Int),.int .u64 y] H (CaQ H b sv (c.put a y) (It c a)):=by
 refine qxu ?_;obtain ⟨w0,w2,w10,w12,w20⟩:=qxv M ⟨none,Bl⟩;have n0:¬ (a:Int)<0:=by omega
 have hk:a % 8<8:=ry _ (by decide);simp only [↓qi,xd,reduceIte,reduceEqDiff,w0,w2,iN,n0,w10,ra ha];refine C3.q (EL (M:=M) hc hci ((a / 8:Nat):Int) 2) λ v H1 ⟨hv,f1⟩=>?_;rw [hv];have h1:=hc.em f1;unfold yU It Ca.put;cases hp:c.fE ((a / 8:Nat):Int) 2 with
 | none =>
  have t20:¬ (20:Int)=0:=by decide
  simp only [↓qi,xd,reduceIte,reduceEqDiff,qr,w12,t20];exact ⟨rfl,h1,lP f1⟩
 | some i =>
  obtain ⟨-,hi,-⟩:=hci.aV (pO hp).1;have t0:=xf (show (0:Int)=0 from rfl);simp only [↓qi,xd,reduceIte,reduceEqDiff,qr,w12,t0,w20];refine C3.q (K0 (M:=M) h1 hu hi) λ _ H2 ⟨h2,f2⟩=>?_;have hi2:i<(c.use i).sl.length:=by show i<(c.sl.set i _).length;rw [xc];exact hi
  obtain ⟨H3,s3,h3,f3⟩:=h2.bV hi2 (j:=4+a % 8) (by omega) (u:=.int .u64 y) rfl (e:={ (c.use i).en i with d:=((c.use i).en i).d.put (a % 8) y }) (Hi _ _ hk y);have e:(c.use i).set i { (c.use i).en i with d:=((c.use i).en i).d.put (a % 8) y } = { c with us:=c.us+1,sl:=c.sl.set i { c.en i with u:=c.us+1,d:=(c.en i).d.put (a % 8) y } }:=by
   rw [u6 hi];unfold Ca.use Ca.set;simp only [List.set_set]
  rw [e] at h3;simp only [↓qi,xd,reduceIte,reduceEqDiff,DQ ha,qg,ixA i (a % 8) hk,s3];exact ⟨rfl,h3,nY (nY (lP f1) f2) (nX f3)⟩
theorem q13 (hc:cG H b sv c) (hci:CI lines c) (line:Int) (wr:Bool):jx M BD [.ptr b 0,.int .i64 line,.bool wr] H λ _ H'=>cG H' b sv (c.mark line wr)/\Fr (iy b sv) H H':=by
 refine qv3 ?_;obtain ⟨w0,w2,w18,w8,w20,w14,w26⟩:=qv4 M ⟨none,BD⟩;have t20:¬ (20:Int)=0:=by decide
 have t0:=xf (show (0:Int)=0 from rfl);cases wr with
 | false =>
  simp only [↓qi,xd,reduceIte,reduceEqDiff,w0,w2];refine C3.q (EL (M:=M) hc hci line 0) λ v H1 ⟨hv,f1⟩=>?_;rw [hv];have h1:=hc.em f1;unfold yU Ca.mark;rw [qe (by decide)];cases hp:c.fE line 0 with
  | none =>
   simp only [↓qi,xd,reduceIte,reduceEqDiff,qr,w8,t20,w14];exact ⟨h1,lP f1⟩
  | some i =>
   obtain ⟨-,hi,-⟩:=hci.aV (pO hp).1;obtain ⟨H3,s3,h3,f3⟩:=h1.bV hi (j:=2) (by decide) (u:=.bool true) rfl (e:={ c.en i with r:=true }) rfl;simp only [↓qi,xd,reduceIte,reduceEqDiff,qr,w8,t0,qg,s3,w14];exact ⟨h3,nY (lP f1) (nX f3)⟩
 | true =>
  simp only [↓qi,xd,reduceIte,reduceEqDiff,w0,w2,w18];refine C3.q (EL (M:=M) hc hci line 2) λ v H1 ⟨hv,f1⟩=>?_;rw [hv];have h1:=hc.em f1;unfold yU Ca.mark;rw [qm rfl];cases hp:c.fE line 2 with
  | none =>
   simp only [↓qi,xd,reduceIte,reduceEqDiff,qr,w20,t20,w26];exact ⟨h1,lP f1⟩
  | some i =>
   obtain ⟨-,hi,-⟩:=hci.aV (pO hp).1;have l3:Op.aa [.ptr (aN sv) (cr 21 sv i+3)] H1=some (.bool (c.en i).w):=h1.ld hi (by decide);dsimp only;cases hw:(c.en i).w with
   | true =>
    rw [qm rfl];rw [hw] at l3;simp only [↓qi,xd,reduceIte,reduceEqDiff,qr,w20,t0,qg,l3,w26];exact ⟨h1,lP f1⟩
   | false =>
    rw [qe (by decide)];rw [hw] at l3;obtain ⟨H3,s3,h3,f3⟩:=h1.bV hi (j:=3) (by decide) (u:=.bool true) rfl (e:={ c.en i with w:=true }) rfl;have hi3:i<(c.set i { c.en i with w:=true }).sl.length:=by show i<(c.sl.set i _).length;rw [xc];exact hi
    obtain ⟨H4,s4,h4,f4⟩:=h3.Ka hi3 (j:=12) (n:=8) (u:=.agg (bS (c.en i).d)) (by rw [x9];exact ku _) (by rw [x9];exact nN _) (by decide) (e:={ (c.set i { c.en i with w:=true }).en i with o:=(c.en i).d }) (AK _ _);rw [Ew hi,Jk] at h4;simp only [↓qi,xd,reduceIte,reduceEqDiff,qr,w20,t0,qg,l3,h1.GG hi,s3,s4,w26];exact ⟨h4,nY (nY (lP f1) (nX f3)) (nX f4)⟩
def mN (c:Ca) (line:Int):AV:=.tuple [.agg (bS (c.bD line).2),match c.fE line 2 with|none=>.int .i64 20|some _=>.int .i64 0]
theorem q3l (hc:cG H b sv c) (hci:CI lines c) (line:Int):jx M D6 [.ptr b 0,.int .i64 line] H λ v H'=>v=mN c line/\cG H' b sv (c.bD line).1/\Fr (iy b sv) H H':=by
 refine qrr ?_;obtain ⟨w0,w4,w12⟩:=qrs M ⟨none,D6⟩;have t20:¬ (20:Int)=0:=by decide
 have t0:=xf (show (0:Int)=0 from rfl);obtain ⟨H1,e1⟩:∃ X,X=H.alloc (OR (bS .zero) zf):=⟨_,rfl⟩
 have f1:Fr Em H H1:=by rw [e1];exact (Fr.refl H).alloc _
 have n1:H1.next=H.next+1:=by rw [e1,xp]
 have g1:H1.get H.next=some (OR (bS .zero) zf):=by rw [e1,qy]
 have hlt:=hc.lt;have hsb:aN sv<H.next:=hc.sl.lt
 simp only [↓qi,xd,reduceIte,reduceEqDiff,w0,lZ,<-e1];refine C3.q (EL (M:=M) (hc.em f1) hci line 2) λ v H2 ⟨hv,f2⟩=>?_;rw [hv];have f12:Fr Em H H2:=f1.trans f2 λ _ q=>q.elim;have h2:=hc.em f12;have g2:H2.get H.next=some (OR (bS .zero) zf):=by rw [f2.ae _ (by omega) id];exact g1
 unfold yU mN Ca.bD;cases hp:c.fE line 2 with
 | none =>
  have st:=fG g2 (ku _) (ku .zero) (nN _);have ld:=fm (xe H2 H.next (OR (bS .zero) zf)) (ku _);have fs:Fr Em H (H2.set H.next (OR (bS .zero) zf)):=f12.set (.inr (qh _)) _;simp only [↓qi,xd,reduceIte,reduceEqDiff,qr,w4,t20,lZ,zB,st,ld];exact ⟨hc.em fs,lP fs⟩
 | some i =>
  obtain ⟨-,hi,-⟩:=hci.aV (pO hp).1;obtain ⟨H3,s3,h3,f3⟩:=h2.bV hi (j:=1) (by decide) (u:=.int .i64 1) rfl (e:={ c.en i with st:=1 }) rfl;have hi3:i<(c.set i { c.en i with st:=1 }).sl.length:=by show i<(c.sl.set i _).length;rw [xc];exact hi
  have l3:=h3.GG hi3;rw [Ew hi] at l3;have n2:=f2.next
  have g3:H3.get H.next=some (OR (bS .zero) zf):=by rw [f3.ae _ (by omega) (λ (q:H.next=aN sv)=>by omega)];exact g2
  have st:=fG g3 (ku _) (ku (c.en i).d) (nN _);have ld:=fm (xe H3 H.next (OR (bS (c.en i).d) zf)) (ku _);have fo:Fr (On H.next) H3 (H3.set H.next (OR (bS (c.en i).d) zf)):=(Fr.refl H3).set (W:=On H.next) (.inl rfl) _;simp only [↓qi,xd,reduceIte,reduceEqDiff,qr,w4,t0,w12,qg,s3,l3,st,ld];exact ⟨h3.fr fo (λ (q:b=H.next)=>by omega) (λ (q:aN sv=H.next)=>by omega),(nY (lP f12) (nX f3)).set (.inr (qh _)) _⟩
theorem q2j (hc:cG H b sv c) (hci:CI lines c) (line:Int) (x:L8):jx M Cc [.ptr b 0,.int .i64 line,.agg (bS x)] H λ _ H'=>cG H' b sv (c.bW line x)/\Fr (iy b sv) H H':=by
 refine qqd ?_;obtain ⟨w0,w4,w10⟩:=qqe M ⟨none,Cc⟩;have t20:¬ (20:Int)=0:=by decide
 have t0:=xf (show (0:Int)=0 from rfl);obtain ⟨H1,e1⟩:∃ X,X=H.alloc (OR (bS x) zf):=⟨_,rfl⟩
 have f1:Fr Em H H1:=by rw [e1];exact (Fr.refl H).alloc _
 have n1:H1.next=H.next+1:=by rw [e1,xp]
 have g1:H1.get H.next=some (OR (bS x) zf):=by rw [e1,qy]
 have hlt:=hc.lt;have hsb:aN sv<H.next:=hc.sl.lt
 simp only [↓qi,xd,reduceIte,reduceEqDiff,w0,x9,<-e1];refine C3.q (EL (M:=M) (hc.em f1) hci line 1) λ v H2 ⟨hv,f2⟩=>?_;rw [hv];have f12:Fr Em H H2:=f1.trans f2 λ _ q=>q.elim;have h2:=hc.em f12;have g2:H2.get H.next=some (OR (bS x) zf):=by rw [f2.ae _ (by omega) id];exact g1
 unfold yU Ca.bW;cases hp:c.fE line 1 with
 | none =>
  simp only [↓qi,xd,reduceIte,reduceEqDiff,qr,w4,t20,w10];exact ⟨h2,lP f12⟩
 | some i =>
  obtain ⟨-,hi,-⟩:=hci.aV (pO hp).1;obtain ⟨H3,s3,h3,f3⟩:=h2.bV hi (j:=1) (by decide) (u:=.int .i64 2) rfl (e:={ c.en i with st:=2 }) rfl;have hi3:i<(c.set i { c.en i with st:=2 }).sl.length:=by show i<(c.sl.set i _).length;rw [xc];exact hi
  obtain ⟨H4,s4,h4,f4⟩:=h3.Ka hi3 (j:=4) (n:=8) (u:=.agg (bS x)) (by rw [x9];exact ku _) (by rw [x9];exact nN _) (by decide) (e:={ (c.set i { c.en i with st:=2 }).en i with d:=x }) (A1 _ _);rw [Ew hi,Jk] at h4;have n2:=f2.next
  have g3:H3.get H.next=some (OR (bS x) zf):=by rw [f3.ae _ (by omega) (λ (q:H.next=aN sv)=>by omega)];exact g2
  simp only [↓qi,xd,reduceIte,reduceEqDiff,qr,w4,t0,qg,fm g2 (ku x),s3,fm g3 (ku x),s4,w10];exact ⟨h4,nY (nY (lP f12) (nX f3)) (nX f4)⟩
def pK (c:Ca) (line:Int):AV:=.tuple [.agg (aq (c.drop line).2),match c.fE line 0 with|none=>.int .i64 20|some _=>.int .i64 0]
theorem Mx (hc:cG H b sv c) (hci:CI lines c) (line:Int):jx M Av [.ptr b 0,.int .i64 line] H λ v H'=>v=pK c line/\cG H' b sv (c.drop line).1/\Fr (iy b sv) H H':=by
 refine qvu ?_;obtain ⟨w0,w4,w12⟩:=qvv M ⟨none,Av⟩;have t20:¬ (20:Int)=0:=by decide
 have t0:=xf (show (0:Int)=0 from rfl);obtain ⟨H1,e1⟩:∃ X,X=H.alloc (OR (aq .zero) qt):=⟨_,rfl⟩
 have f1:Fr Em H H1:=by rw [e1];exact (Fr.refl H).alloc _
 have n1:H1.next=H.next+1:=by rw [e1,xp]
 have g1:H1.get H.next=some (OR (aq .zero) qt):=by rw [e1,qy]
 have hlt:=hc.lt;have hsb:aN sv<H.next:=hc.sl.lt
 simp only [↓qi,xd,reduceIte,reduceEqDiff,w0,eZ,<-e1];refine C3.q (EL (M:=M) (hc.em f1) hci line 0) λ v H2 ⟨hv,f2⟩=>?_;rw [hv];have f12:Fr Em H H2:=f1.trans f2 λ _ q=>q.elim;have h2:=hc.em f12;have n2:=f2.next
 have g2:H2.get H.next=some (OR (aq .zero) qt):=by rw [f2.ae _ (by omega) id];exact g1
 unfold yU pK Ca.drop;cases hp:c.fE line 0 with
 | none =>
  have st:=fG g2 (zt _) (zt .zero) (mQ _);have ld:=fm (xe H2 H.next (OR (aq .zero) qt)) (zt _);have fs:Fr Em H (H2.set H.next (OR (aq .zero) qt)):=f12.set (.inr (qh _)) _;simp only [↓qi,xd,reduceIte,reduceEqDiff,qr,w4,t20,eZ,zB,st,ld];exact ⟨hc.em fs,lP fs⟩
 | some i =>
  obtain ⟨-,hi,-⟩:=hci.aV (pO hp).1;obtain ⟨H3,e3⟩:∃ X,X=H2.alloc (OR (aq .zero) qt):=⟨_,rfl⟩
  have f3:Fr Em H2 H3:=by rw [e3];exact (Fr.refl H2).alloc _
  have n3:H3.next=H2.next+1:=by rw [e3,xp]
  have g3:H3.get H2.next=some (OR (aq .zero) qt):=by rw [e3,qy]
  have s4:=fG g3 (zt _) (zt (c.en i)) (mQ _);obtain ⟨H4,e4⟩:∃ X,X=H3.set H2.next (OR (aq (c.en i)) qt):=⟨_,rfl⟩
  rw [<-e4] at s4;have f4:Fr (On H2.next) H3 H4:=by rw [e4];exact (Fr.refl H3).set (W:=On H2.next) (.inl rfl) _
  have h4:=(h2.em f3).fr f4 (λ (q:b=H2.next)=>by omega) (λ (q:aN sv=H2.next)=>by omega);obtain ⟨H5,s5,h5,f5⟩:=h4.stE hi .zero;have g5:H5.get H2.next=some (OR (aq (c.en i)) qt):=by rw [f5.ae _ (by rw [e4];show H2.next<H3.next;omega) (λ (q:H2.next=aN sv)=>by omega),e4,xe]
  have l5:=fm g5 (zt (c.en i));have g5':H5.get H.next=some (OR (aq .zero) qt):=by rw [f5.ae _ (by rw [e4];show H.next<H3.next;omega) (λ (q:H.next=aN sv)=>by omega),f4.ae _ (by omega) (λ (q:H.next=H2.next)=>by omega),f3.ae _ (by omega) id];exact g2
  have s6:=fG g5' (zt _) (zt (c.en i)) (mQ _);have ld:=fm (xe H5 H.next (OR (aq (c.en i)) qt)) (zt _);have fo:Fr (On H.next) H5 (H5.set H.next (OR (aq (c.en i)) qt)):=(Fr.refl H5).set (W:=On H.next) (.inl rfl) _;have f04:Fr (iy b sv) H H4:=(nY (lP f12) (lP f3)).trans f4 λ x (q:x=H2.next)=>.inr (by omega);simp only [↓qi,xd,reduceIte,reduceEqDiff,qr,w4,t0,w12,qg,h2.Mr hi,eZ,<-e3,s4,zB,s5,l5,s6,ld];exact ⟨h5.fr fo (λ (q:b=H.next)=>by omega) (λ (q:aN sv=H.next)=>by omega),(nY f04 (nX f5)).set (.inr (qh _)) _⟩
end
end Go.Am
namespace Go.Am
open Go.Proofs Ca
variable {M:aL} [MK M]
def jR (sv:AV) (o:Option Nat):AV:=match o with
 | none=>.nilp
 | some i=>eA sv i
theorem sD (sv:AV) (o:Option Nat):bn (jR sv o)=true:=by cases o<;>rfl
theorem uX {Hx:AHeap} {t d e:Nat} {x:AV} {o:bK} (g:Hx.get t=some (OR [x] e)) (hd:d ≠ t):Op.aa [.ptr t 0] (Hx.set d o)=some x:=by
 have g':(Hx.set d o).get t=some (OR [x] e):=by rw [vk hd];exact g
 exact ze (xb g') 0
structure NT (c:Ca) (sv:AV) (line:Int) (t u:Nat) (i:Nat) (V:Nat->Prop) (Hx:AHeap):Prop where
 vt:V t
 vu:V u
 g:Hx.get t=some (OR [.nilp] jm)
 gu:Hx.get u=some (OR [jR sv ((c.dU line i).map (c.fr line + ·))] jm)
 lt:t<Hx.next
 Ni:u<Hx.next
 no:∀ k,k<i->c.free line k=false
structure LM (c:Ca) (sv:AV) (line:Int) (t:Nat) (V:Nat->Prop) (Hx:AHeap):Prop where
 vt:V t
 ex:∃ k,k<c.ways/\cq (c.free line) c.ways=some k/\Hx.get t=some (OR [eA sv (c.fr line+k)] jm)
 lt:t<Hx.next
section
variable {H:AHeap} {b:Nat} {sv:AV} {c:Ca} {lines line:Int}
theorem q90 (hc:cG H b sv c) (hci:CI lines c) (hl:0<=line):jx M Ap [.ptr b 0,.int .i64 line] H λ v H'=>v=jR sv (c.room line)/\Fr Em H H':=by
 refine qwb ?_;obtain ⟨w0,wa,wb,w2,wb9,w3,wb15,w5,w7,w12⟩:=qno M ⟨none,Ap⟩;obtain ⟨H1,e1⟩:∃ X,X=H.alloc (OR [.nilp] jm):=⟨_,rfl⟩
 obtain ⟨H2,e2⟩:∃ X,X=H1.alloc (OR [.nilp] jm):=⟨_,rfl⟩
 have f1:Fr Em H H1:=by rw [e1];exact (Fr.refl H).alloc _
 have f12:Fr Em H1 H2:=by rw [e2];exact (Fr.refl H1).alloc _
 have f2:Fr Em H H2:=f1.trans f12 λ _ q=>q.elim;have n1:H1.next=H.next+1:=by rw [e1,xp]
 have n2:H2.next=H.next+2:=by rw [e2,xp,n1]
 have g1:H2.get H.next=some (OR [.nilp] jm):=by rw [f12.ae _ (by omega) id,e1,qy]
 have g2:H2.get (H.next+1)=some (OR [.nilp] jm):=by rw [e2,<-n1,qy]
 simp only [↓qi,xd,reduceIte,reduceEqDiff,w0,<-e1,w2,w3,<-e2,n1,w5,w7];refine C3.q (q5s (M:=M) b line) λ v H5 ⟨hv,hh⟩=>?_;obtain ⟨H3,e3⟩:∃ X,X=H2.alloc (OR [.ptr b 0] vy):=⟨_,rfl⟩
 obtain ⟨H4,e4⟩:∃ X,X=H3.alloc (OR [.int .i64 line] cV):=⟨_,rfl⟩
 rw [<-e3,<-e4] at hh;rw [hv,hh];have f23:Fr Em H2 H3:=by rw [e3];exact (Fr.refl H2).alloc _
 have f34:Fr Em H3 H4:=by rw [e4];exact (Fr.refl H3).alloc _
 have f24:Fr Em H2 H4:=f23.trans f34 λ _ q=>q.elim;have f4:Fr Em H H4:=f2.trans f24 λ _ q=>q.elim;have n3:H3.next=H.next+3:=by rw [e3,xp,n2]
 have n4:H4.next=H.next+4:=by rw [e4,xp,n3]
 have g3:H4.get H2.next=some (OR [.ptr b 0] vy):=by rw [f34.ae _ (by omega) id,e3,qy]
 have g4:H4.get (H2.next+1)=some (OR [.int .i64 line] cV):=by rw [show H2.next+1=H3.next by omega,e4,qy]
 have hc4:=hc.em f4;have hlt:=hc.lt;have hsb:aN sv<H.next:=hc.sl.lt
 have hset:jJ c sv line=(List.range c.ways).map λ k=>[eA sv (c.fr line+k)]:=by unfold jJ;rw [qe (by omega)]
 refine eK.iter (fn:=Dd) (lp:=EH) (pa:=ql7 0) (pb:=A0 0) qth qks.1 qks.2 (by decide) ⟨rfl,p7 EH.assign⟩ ⟨rfl,p7 EH.body⟩
  (q2s (M:=M) hc4 hci g3 g4 (by omega) (by omega)) (λ i V Hx=>NT c sv line H.next (H.next+1) i V Hx) (λ e V Hx=>e=.ret/\LM c sv line H.next V Hx) (λ x=>x=H.next\/x=H.next+1) (qh _) ?_ ?_ ?_ ?_ ?_ ?_ ?_ ?_
 ·rintro x ((q|q|q) | q)
  ·exact ⟨by omega,rfl,by omega⟩
  ·exact ⟨by omega,rfl,by omega⟩
  ·exact ⟨by omega,rfl,by omega⟩
  ·exact q.elim
 ·exact λ x hx=>by omega
 ·exact ⟨.inl rfl,.inr rfl,by rw [f24.ae _ (by omega) id];exact g1,by rw [f24.ae _ (by omega) id];exact g2,by omega,by omega,λ k hk=>by omega⟩
 ·exact λ i V Ha Hb h hs hn=>⟨h.vt,h.vu,by rw [hs _ h.vt];exact h.g,by rw [hs _ h.vu];exact h.gu,qp h.lt hn,qp h.Ni hn,h.no⟩
 ·rintro e V Ha Hb ⟨he,h⟩ hs hn;obtain ⟨k,k1,k2,k3⟩:=h.ex;exact ⟨he,h.vt,⟨k,k1,k2,by rw [hs _ h.vt];exact k3⟩,qp h.lt hn⟩
 ·intro L2 i lr lb x hx hL2 V H6 hP hV hf6 hnL hL6 hgL;rw [hset,xj,xh] at hx;obtain ⟨y,hy,rfl⟩:=hx;have hiw:i<c.ways:=by have:=(qj.1 hy).1;rw [yj] at this;exact this
  rw [vn hiw] at hy;injection hy with hy;subst hy
  refine ⟨_,rfl,?_⟩;obtain ⟨-,wa,wb,-,wb9,-,wb15,-⟩:=qno M ⟨some L2,Ap⟩;simp only [↓qi,xd,reduceIte,reduceEqDiff,wa,Fu];refine ⟨hgL,?_⟩;have fx:Fr (On L2) H6 (H6.set L2 lb):=(Fr.refl H6).set (W:=On L2) (.inl rfl) _;have gL:(H6.set L2 lb).get L2=some lb:=xe ..;have nL:(H6.set L2 lb).next=H6.next:=rfl
  have hc6:cG H6 b sv c:=hc4.fr hf6 (λ q=>q.elim (λ q=>by omega) id) (λ q=>q.elim (λ q=>by omega) id);have h7:cG (H6.set L2 lb) b sv c:=hc6.fr fx (λ (q:b=L2)=>by omega) (λ (q:aN sv=L2)=>by omega);have hLt:L2 ≠ H.next:=λ q=>hnL (by rw [q];exact hP.vt)
  have hLu:L2 ≠ H.next+1:=λ q=>hnL (by rw [q];exact hP.vu)
  have hgt:(H6.set L2 lb).get H.next=some (OR [.nilp] jm):=by rw [vk hLt];exact hP.g
  have hgu:(H6.set L2 lb).get (H.next+1)=some (OR [jR sv ((c.dU line i).map (c.fr line + ·))] jm):=by rw [vk hLu];exact hP.gu
  generalize H6.set L2 lb=H7 at *;have hi:=hci.fR line hiw;obtain ⟨e,he⟩:∃ e,e=c.en (c.fr line+i):=⟨_,rfl⟩
  have l1:Op.aa [.ptr (aN sv) (cr 21 sv (c.fr line+i)+1)] H7=some (.int .i64 e.st):=by rw [he];exact h7.ld hi (k:=1) (by decide)
  have l2:Op.aa [.ptr (aN sv) (cr 21 sv (c.fr line+i)+2)] H7=some (.bool e.r):=by rw [he];exact h7.ld hi (k:=2) (by decide)
  have l3:Op.aa [.ptr (aN sv) (cr 21 sv (c.fr line+i)+3)] H7=some (.bool e.w):=by rw [he];exact h7.ld hi (k:=3) (by decide)
  have enc20:∀ e:En,(aq e)[20]? = some (.int .i64 e.u):=λ e=>by
   obtain ⟨line,st,r,w,⟨d,hd⟩,⟨o,ho⟩,u⟩:=e
   match d,hd,o,ho with
   | [d0,d1,d2,d3,d4,d5,d6,d7],_,[o0,o1,o2,o3,o4,o5,o6,o7],_=>rfl
  have l20:∀ k,c.fr line+k<c.sl.length->Op.aa [.ptr (aN sv) (cr 21 sv (c.fr line+k)+20)] H7=some (.int .i64 (c.en (c.fr line+k)).u):=λ k hk=>by rw [h7.ld hk (k:=20) (by decide),enc20]
  have hfree:c.free line i=(e.st == 0):=by rw [he];rfl
  have no':e.st ≠ 0 -> ∀ k,k<i+1->c.free line k=false:=λ h0 k hk=>by
   by_cases q:k=i
   ·rw [q,hfree];simp [h0]
   ·exact hP.no k (by omega)
  have lu:Op.aa [.ptr (H.next+1) 0] H7=some (jR sv ((c.dU line i).map (c.fr line + ·))):=ze (xb hgu) 0;have hbe:c.dU line (i+1)=if e.r || e.w then c.dU line i else match c.dU line i with
   | none=>some i
   | some j=>if e.u<(c.en (c.fr line+j)).u then some i else some j:=by rw [he];rfl
  -- it stays as it is
  have stay:e.st ≠ 0->c.dU line (i+1)=c.dU line i->IH (λ V Hx=>NT c sv line H.next (H.next+1) (i+1) V Hx) (λ e V Hx=>e=.ret/\LM c sv line H.next V Hx) L2 lb V H6 .normal [] [] H7:=λ h0 hb =>
   ⟨rfl,gL,V,λ b hb=>⟨by rw [nL];exact (hV b hb).1,.inl hb⟩,fx.mono λ x _ q=>.inr q,.inl ⟨rfl,hP.vt,hP.vu,hgt,by rw [hb];exact hgu,by rw [nL];exact hP.lt,by rw [nL];exact hP.Ni,no' h0⟩⟩
  -- this one is taken
  obtain ⟨H8,e8⟩:∃ X,X=H7.set (H.next+1) (OR [eA sv (c.fr line+i)] jm):=⟨_,rfl⟩
  have st:=E6 hgu (u:=eA sv (c.fr line+i)) rfl;rw [<-e8] at st;have take:e.st ≠ 0->c.dU line (i+1)=some i->IH (λ V Hx=>NT c sv line H.next (H.next+1) (i+1) V Hx) (λ e V Hx=>e=.ret/\LM c sv line H.next V Hx) L2 lb V H6 .normal [] [] H8:=λ h0 hb =>
   ⟨rfl,by rw [e8,vk (ve hLu)];exact gL,V,λ b hb=>⟨by rw [e8];show b<H7.next;rw [nL];exact (hV b hb).1,.inl hb⟩,by rw [e8];exact (fx.mono λ x _ q=>.inr q).set (.inl (.inl hP.vu)) _,.inl ⟨rfl,hP.vt,hP.vu,by rw [e8,vk (by omega)];exact hgt,by rw [e8,xe,hb];rfl,by rw [e8];show H.next<H7.next;rw [nL];exact hP.lt,by rw [e8];show H.next+1<H7.next;rw [nL];exact hP.Ni,no' h0⟩⟩
  by_cases q1:e.st=0
  ·have stt:=E6 hgt (u:=eA sv (c.fr line+i)) rfl;simp only [↓qi,xd,reduceIte,reduceEqDiff,wb,qg,l1,xf q1,stt];refine ⟨rfl,?_,V,?_,?_,.inr ⟨trivial,rfl,hP.vt,⟨i,hiw,FX hiw (by rw [hfree];simp [q1]) hP.no,xe ..⟩,?_⟩⟩
   ·rw [vk (ve hLt)];exact gL
   ·exact λ b hb=>⟨by show b<H7.next;rw [nL];exact (hV b hb).1,.inl hb⟩
   ·exact (fx.mono λ x _ q=>.inr q).set (.inl (.inl hP.vt)) _
   ·show H.next<H7.next;rw [nL];exact hP.lt
  cases hr:e.r with
  | true =>
   rw [hr] at l2;simp only [↓qi,xd,reduceIte,reduceEqDiff,wb,qg,l1,q1,wb9,l2];exact stay q1 (by rw [hbe,hr];rfl)
  | false =>
   rw [hr] at l2;cases hw:e.w with
   | true =>
    rw [hw] at l3;simp only [↓qi,xd,reduceIte,reduceEqDiff,wb,qg,l1,q1,wb9,l2,l3];exact stay q1 (by rw [hbe,hr,hw];rfl)
   | false =>
    rw [hw] at l3;rw [hr,hw] at hbe;cases hb:c.dU line i with
    | none =>
     rw [hb] at lu hbe;have lu:Op.aa [.ptr (H.next+1) 0] H7=some .nilp:=lu;simp only [↓qi,xd,reduceIte,reduceEqDiff,wb,qg,l1,q1,wb9,l2,l3,wb15,lu,IX,st];exact take q1 hbe
    | some j =>
     rw [hb] at lu hbe;have lu:Op.aa [.ptr (H.next+1) 0] H7=some (eA sv (c.fr line+j)):=lu;have hj:=(J6 hb).1;have a1:=l20 i hi;rw [<-he] at a1;have a2:=l20 j (hci.fR line (by omega))
     by_cases q:e.u<(c.en (c.fr line+j)).u
     ·simp only [↓qi,xd,reduceIte,reduceEqDiff,wb,qg,l1,q1,wb9,l2,l3,wb15,lu,yh,a1,a2,q,st];exact take q1 (by rw [hbe];simp [q])
     ·simp only [↓qi,xd,reduceIte,reduceEqDiff,wb,qg,l1,q1,wb9,l2,l3,wb15,lu,yh,a1,a2,q];exact stay q1 (by rw [hbe,hb];simp [q])
 ·intro d V Hd hd1 hd2 hgd hfd hVd hP;have hno:=hP.no;have hgu:=hP.gu;rw [hset,zg,yj] at hno hgu;have lu:Op.aa [.ptr (H.next+1) 0] Hd=some (jR sv ((c.dU line c.ways).map (c.fr line + ·))):=ze (xb hgu) 0;have st:=E6 hP.g (u:=jR sv ((c.dU line c.ways).map (c.fr line + ·))) (sD ..);have hdt:d ≠ H.next:=λ q=>by have:=(hVd _ hP.vt).2.2;omega
  have gd:(Hd.set H.next (OR [jR sv ((c.dU line c.ways).map (c.fr line + ·))] jm)).get d=some (.deferred (some [])):=by rw [vk (ve hdt)];exact hgd
  have rd:Op.aa [.ptr H.next 0] ((Hd.set H.next (OR [jR sv ((c.dU line c.ways).map (c.fr line + ·))] jm)).set d (.deferred none))=some (jR sv ((c.dU line c.ways).map (c.fr line + ·))):=uX (xe ..) hdt;have hroom:c.room line=(c.dU line c.ways).map (c.fr line + ·):=by
   unfold Ca.room;rw [CY hno]
  rw [<-hroom] at lu st gd rd;simp only [↓qi,xd,reduceIte,reduceEqDiff,w12,lu,st,pW,AZ,rd];refine ⟨gd,?_⟩;exact (((f4.trans (W':=λ x=>(x=H.next\/x=H.next+1)\/False) hfd λ x q=>q.elim (λ q=>.inr (by omega)) False.elim).set (.inr (by omega)) _).set (.inr (by omega)) _)
 ·rintro e d V Hd hj hd1 hd2 hgd hfd hVd ⟨he,hS⟩;subst he;obtain ⟨k,k1,k2,k3⟩:=hS.ex;have hdt:d ≠ H.next:=λ q=>by have:=(hVd _ hS.vt).2.2;omega
  have rd:Op.aa [.ptr H.next 0] (Hd.set d (.deferred none))=some (eA sv (c.fr line+k)):=uX k3 hdt;have hroom:c.room line=some (c.fr line+k):=by unfold Ca.room;rw [k2]
  simp only [↓qi,xd,reduceIte,reduceEqDiff,pW,AZ,rd];refine ⟨hgd,by rw [hroom];rfl,?_⟩;exact ((f4.trans (W':=λ x=>(x=H.next\/x=H.next+1)\/False) hfd λ x q=>q.elim (λ q=>.inr (by omega)) False.elim).set (.inr (by omega)) _)
end
end Go.Am
namespace Go.Am
open Go.Proofs Ca
variable {M:aL} [MK M]
theorem bdE (line st:Int) (x:L8):Op.build (aq .zero) [(0,1),(1,1),(4,8)] [.int .i64 line,.int .i64 st,.agg (bS x)]=some (.agg (aq ⟨line,st,false,false,x,.zero,0⟩)):=by
 obtain ⟨x,hx⟩:=x
 match x,hx with
 | [x0,x1,x2,x3,x4,x5,x6,x7],_=>rfl
def jC (c:Ca) (line st:Int) (x:L8):AV:=.tuple [.agg (aq (c.fill line st x).2.1),.bool (decide ((c.fill line st x).2.2=0/\(c.fill line st x).2.1.st ≠ 0)),.int .i64 (c.fill line st x).2.2]
section
variable {H:AHeap} {b:Nat} {sv:AV} {c:Ca} {lines line:Int}
theorem q1t (hc:cG H b sv c) (hci:CI lines c) (hu:c.us+1<=1000000) (hl:0<=line) {st:Int} (hst:st=1\/st=2) (x:L8) :
 jx M wH [.ptr b 0,.int .i64 line,.int .i64 st,.agg (bS x)] H λ v H'=>v=jC c line st x/\cG H' b sv (c.fill line st x).1/\Fr (iy b sv) H H':=by
 refine qvx ?_;obtain ⟨w0,w2,w23,w16,w25,w33⟩:=qvy M ⟨none,wH⟩;obtain ⟨H1,e1⟩:∃ X,X=H.alloc (OR (bS x) zf):=⟨_,rfl⟩
 obtain ⟨H2,e2⟩:∃ X,X=H1.alloc (OR (aq .zero) qt):=⟨_,rfl⟩
 have f1:Fr Em H H1:=by rw [e1];exact (Fr.refl H).alloc _
 have f12:Fr Em H1 H2:=by rw [e2];exact (Fr.refl H1).alloc _
 have f2:Fr Em H H2:=f1.trans f12 λ _ q=>q.elim;have n1:H1.next=H.next+1:=by rw [e1,xp]
 have n2:H2.next=H.next+2:=by rw [e2,xp,n1]
 have g1:H2.get H.next=some (OR (bS x) zf):=by rw [f12.ae _ (by omega) id,e1,qy]
 have g2:H2.get (H.next+1)=some (OR (aq .zero) qt):=by rw [e2,<-n1,qy]
 have nl:¬ line<0:=by omega
 have hlt:=hc.lt;have hsb:aN sv<H.next:=hc.sl.lt
 -- an error
 have err:∀ {Hx:AHeap} (k:Int),Fr Em H2 Hx->k ≠ 0->(c.fill line st x).2.2=k->(c.fill line st x).1=c->(c.fill line st x).2.1=.zero ->
  Op.store 21 [.ptr (H.next+1) 0,.agg (aq .zero)] Hx=some (.undef,Hx.set (H.next+1) (OR (aq .zero) qt))/\Op.ao 21 [.ptr (H.next+1) 0] (Hx.set (H.next+1) (OR (aq .zero) qt))=some (.agg (aq .zero)) /\
  (AV.tuple [.agg (aq .zero),.bool false,.int .i64 k]=jC c line st x/\cG (Hx.set (H.next+1) (OR (aq .zero) qt)) b sv (c.fill line st x).1/\Fr (iy b sv) H (Hx.set (H.next+1) (OR (aq .zero) qt))):=by
  intro Hx k f hk h1 h2 h3;have gx:Hx.get (H.next+1)=some (OR (aq .zero) qt):=by rw [f.ae _ (by omega) id];exact g2
  have fs:Fr Em H (Hx.set (H.next+1) (OR (aq .zero) qt)):=(f2.trans f λ _ q=>q.elim).set (.inr (by omega)) _;refine ⟨fG gx (zt _) (zt .zero) (mQ _),fm (xe ..) (zt _),?_,by rw [h2];exact hc.em fs,lP fs⟩;unfold jC;rw [h1,h3];simp [hk]
 have k16:∀ {q:AV},W M ⟨none,wH⟩ (j0 16) true (aF 0 (aj (W M ⟨none,wH⟩ (j0 23)) (aK M [.cz 21 8,.tmp 9,.tmp 10] (kY λ v H'=>v=jC c line st x/\cG H' b sv (c.fill line st x).1/\Fr (iy b sv) H H'))))
  [(21,q),(10,.int .i64 0),(9,.bool false),(8,.ptr (H.next+1) 0),(7,.ptr H.next 0),(0,.ptr b 0),(1,.int .i64 line),(2,.int .i64 st),(3,.agg (bS x))] [] H2:=by
  intro q;simp only [↓qi,xd,reduceIte,reduceEqDiff,w16];refine C3.q (K6 (M:=M) (line:=line) (hc.em f2) hci) λ v H3 ⟨hv,f3⟩=>?_;rw [hv];unfold od;cases hp:c.pos line with
  | some i =>
   obtain ⟨s1,s2,s3⟩:=err 21 f3 (by decide) (by unfold Ca.fill;rw [hp]) (by unfold Ca.fill;rw [hp]) (by unfold Ca.fill;rw [hp]);simp only [↓qi,xd,reduceIte,reduceEqDiff,iN,eZ,zB,s1,s2];exact s3
  | none =>
   simp only [↓qi,xd,reduceIte,reduceEqDiff,nq,w23];have f03:=f2.trans f3 λ _ q=>q.elim;refine C3.q (q90 (M:=M) (hc.em f03) hci hl) λ v H4 ⟨hv,f4⟩=>?_;rw [hv];have f24:=f3.trans f4 λ _ q=>q.elim;cases hr:c.room line with
   | none =>
    obtain ⟨s1,s2,s3⟩:=err 22 f24 (by decide) (by unfold Ca.fill;rw [hp,hr]) (by unfold Ca.fill;rw [hp,hr]) (by unfold Ca.fill;rw [hp,hr]);unfold jR;simp only [↓qi,xd,reduceIte,reduceEqDiff,w25,IX,eZ,zB,s1,s2];exact s3
   | some i =>
    obtain ⟨k,k1,k2,-⟩:=Jc hr;have hi:i<c.sl.length:=by rw [k2];exact hci.fR line k1
    have f04:=f2.trans f24 λ _ q=>q.elim;have h4:=hc.em f04;have n4:=f24.next
    obtain ⟨H5,e5⟩:∃ X,X=H4.alloc (OR (aq .zero) qt):=⟨_,rfl⟩
    have f5:Fr Em H4 H5:=by rw [e5];exact (Fr.refl H4).alloc _
    have n5:H5.next=H4.next+1:=by rw [e5,xp]
    have g5:H5.get H4.next=some (OR (aq .zero) qt):=by rw [e5,qy]
    have s6:=fG g5 (zt _) (zt (c.en i)) (mQ _);obtain ⟨H6,e6⟩:∃ X,X=H5.set H4.next (OR (aq (c.en i)) qt):=⟨_,rfl⟩
    rw [<-e6] at s6;have f6:Fr (On H4.next) H5 H6:=by rw [e6];exact (Fr.refl H5).set (W:=On H4.next) (.inl rfl) _
    have n6:H6.next=H4.next+1:=by rw [e6];exact n5
    have g6:H6.get H4.next=some (OR (aq (c.en i)) qt):=by rw [e6,xe]
    have h6:cG H6 b sv c:=(h4.em f5).fr f6 (λ (q:b=H4.next)=>by omega) (λ (q:aN sv=H4.next)=>by omega);have g6l:H6.get H.next=some (OR (bS x) zf):=by rw [f6.ae _ (by omega) (λ (q:H.next=H4.next)=>by omega),f5.ae _ (by omega) id,f24.ae _ (by omega) id];exact g1
    have g6r:H6.get (H.next+1)=some (OR (aq .zero) qt):=by rw [f6.ae _ (by omega) (λ (q:H.next+1=H4.next)=>by omega),f5.ae _ (by omega) id,f24.ae _ (by omega) id];exact g2
    obtain ⟨H7,s7,h7,f7⟩:=h6.stE hi ⟨line,st,false,false,x,.zero,0⟩;have hi7:i<(c.set i ⟨line,st,false,false,x,.zero,0⟩).sl.length:=by show i<(c.sl.set i _).length;rw [xc];exact hi
    have l6:=fm g6l (ku x);unfold jR;simp only [↓qi,xd,reduceIte,reduceEqDiff,w25,yh,w33,qg,h4.Mr hi,eZ,<-e5,s6,l6,bdE,s7];refine C3.q (K0 (M:=M) h7 hu hi7) λ _ H8 ⟨h8,f8⟩=>?_;have f68:Fr (iy b sv) H6 H8:=nY (nX f7) f8;have nW:∀ y,H.next<=y -> ¬ iy b sv y:=λ y hy q=>q.elim (λ q=>by omega) λ q=>by omega
    have g8:H8.get H4.next=some (OR (aq (c.en i)) qt):=by rw [f68.ae _ (by omega) (nW _ (by omega))];exact g6
    have g8r:H8.get (H.next+1)=some (OR (aq .zero) qt):=by rw [f68.ae _ (by omega) (nW _ (by omega))];exact g6r
    have l8:=fm g8 (zt (c.en i));have l81:Op.aa [.ptr H4.next 1] H8=some (.int .i64 (c.en i).st):=ze (xb g8) 1;have s9:=fG g8r (zt _) (zt (c.en i)) (mQ _);have g9:(H8.set (H.next+1) (OR (aq (c.en i)) qt)).get H4.next=some (OR (aq (c.en i)) qt):=by rw [vk (by omega)];exact g8
    have l91:Op.aa [.ptr H4.next 1] (H8.set (H.next+1) (OR (aq (c.en i)) qt))=some (.int .i64 (c.en i).st):=ze (xb g9) 1;have l9:=fm (xe H8 (H.next+1) (OR (aq (c.en i)) qt)) (zt (c.en i));have ef:c.fill line st x=({ c with us:=c.us+1,sl:=c.sl.set i ⟨line,st,false,false,x,.zero,c.us+1⟩ },c.en i,0):=by unfold Ca.fill;rw [hp,hr]
    have eu:(c.set i ⟨line,st,false,false,x,.zero,0⟩).use i = { c with us:=c.us+1,sl:=c.sl.set i ⟨line,st,false,false,x,.zero,c.us+1⟩ }:=by
     unfold Ca.use;rw [Ew hi];unfold Ca.set;simp only [List.set_set]
    rw [eu] at h8;have fo:Fr (On (H.next+1)) H8 (H8.set (H.next+1) (OR (aq (c.en i)) qt)):=(Fr.refl H8).set (W:=On (H.next+1)) (.inl rfl) _;have f08:Fr (iy b sv) H H8:=nY ((nY (lP f04) (lP f5)).trans f6 λ y (q:y=H4.next)=>.inr (by omega)) f68;have end_:cG (H8.set (H.next+1) (OR (aq (c.en i)) qt)) b sv (c.fill line st x).1/\Fr (iy b sv) H (H8.set (H.next+1) (OR (aq (c.en i)) qt)):=by
     rw [ef];exact ⟨h8.fr fo (λ (q:b=H.next+1)=>by omega) (λ (q:aN sv=H.next+1)=>by omega),f08.set (.inr (by omega)) _⟩
    by_cases h0:(c.en i).st=0
    ·simp only [↓qi,xd,reduceIte,reduceEqDiff,l8,l81,xf h0,s9,l91,l9];refine ⟨?_,end_⟩;unfold jC;rw [ef];simp [h0]
    ·simp only [↓qi,xd,reduceIte,reduceEqDiff,l8,l81,h0,s9,l91,l9];refine ⟨?_,end_⟩;unfold jC;rw [ef];simp [h0]
 rcases hst with rfl|rfl
 ·have t1:=xf (show (1:Int)=1 from rfl);simp only [↓qi,xd,reduceIte,reduceEqDiff,w0,x9,<-e1,n1,eZ,<-e2,w2,yh,nl,t1];exact k16
 ·have t1:¬ (2:Int)=1:=by decide
  have t2:=xf (show (2:Int)=2 from rfl);simp only [↓qi,xd,reduceIte,reduceEqDiff,w0,x9,<-e1,n1,eZ,<-e2,w2,yh,nl,t1,t2];exact k16
end
end Go.Am
