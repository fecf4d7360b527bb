/- NmK6: NhC NhD NhE. -/
import Derived.Test.YtiibohocdbaekaaGreatAmCNmK5
import Derived.Test.YtiibohocdbaekaaGreatAmCNmK0
set_option linter.unusedVariables false
set_option linter.unusedSimpArgs false
set_option linter.unusedSectionVars false
set_option maxRecDepth 100000
open Nat (reduceEqDiff)
namespace Go.Am
open Go.Proofs Ca
variable {M:aA} [MK M]
theorem JS (e:En) (k:Nat) (hk:k<8) (y:Int):ao { e with d:=e.d.put k y } = (ao e).set (4+k) (uW y):=by
 obtain ⟨line,st,r,w,⟨d,hd⟩,⟨o,ho⟩,u⟩:=e
 match d,hd,o,ho with
 | [d0,d1,d2,d3,d4,d5,d6,d7],_,[o0,o1,o2,o3,o4,o5,o6,o7],_ =>
  rcases (show k=0\/k=1\/k=2\/k=3\/k=4\/k=5\/k=6\/k=7 by omega) with rfl|rfl|rfl|rfl|rfl|rfl|rfl|rfl<;>rfl
theorem EW (e:En) (k:Nat) (hk:k<8):(ao e)[4+k]? = some (uW (e.d.get k)):=by
 obtain ⟨line,st,r,w,⟨d,hd⟩,⟨o,ho⟩,u⟩:=e
 match d,hd,o,ho with
 | [d0,d1,d2,d3,d4,d5,d6,d7],_,[o0,o1,o2,o3,o4,o5,o6,o7],_ =>
  rcases (show k=0\/k=1\/k=2\/k=3\/k=4\/k=5\/k=6\/k=7 by omega) with rfl|rfl|rfl|rfl|rfl|rfl|rfl|rfl<;>rfl
theorem CQ (e:En) (x:L8):ao { e with d:=x } = (ao e).take 4++(AV.agg (cJ x)).cells++(ao e).drop (4+8):=by
 obtain ⟨line,st,r,w,⟨d,hd⟩,⟨o,ho⟩,u⟩:=e
 match d,hd,o,ho with
 | [d0,d1,d2,d3,d4,d5,d6,d7],_,[o0,o1,o2,o3,o4,o5,o6,o7],_=>rfl
theorem Db (e:En) (x:L8):ao { e with o:=x } = (ao e).take 12++(AV.agg (cJ x)).cells++(ao e).drop (12+8):=by
 obtain ⟨line,st,r,w,⟨d,hd⟩,⟨o,ho⟩,u⟩:=e
 match d,hd,o,ho with
 | [d0,d1,d2,d3,d4,d5,d6,d7],_,[o0,o1,o2,o3,o4,o5,o6,o7],_ =>
  obtain ⟨x,hx⟩:=x
  match x,hx with
  | [x0,x1,x2,x3,x4,x5,x6,x7],_=>rfl
section
variable {H:AHeap} {b:Nat} {sv:AV} {c:Ca} {lines line:Int}
theorem uh {a:Nat} (h:a<1000000):Op.bin .quo [.int .i64 (a:Int),.int .i64 8]=some (.int .i64 ((a / 8:Nat):Int)):=by
 rw [pk .i64 _ _ (by decide),wx (by omega),xm (by omega) (by omega)];rfl
theorem G8 {a:Nat} (h:a<1000000):Op.bin .rem [.int .i64 (a:Int),.int .i64 8]=some (.int .i64 ((a % 8:Nat):Int)):=tY (by decide)
theorem ixA (i k:Nat) (hk:k<8):Op.bE 8 1 [.ptr (aF sv) (bI 21 sv i+4),.int .i64 (k:Int)]=some (.ptr (aF sv) (bI 21 sv i+(4+k))):=by
 have:=HM (len:=8) (size:=1) (b:=aF sv) (o:=bI 21 sv i+4) (k:=.i64) (j:=(k:Int)) (i:=k) rfl hk;rw [this,A9,kx]
theorem Dw {i:Nat} (hi:i<c.sl.length) (e:En):(c.set i e).en i=e:=by rw [qF hi,ql rfl]
theorem LP (c:Ca) (i:Nat) (e e':En):(c.set i e).set i e'=c.set i e':=by unfold Ca.set;simp only [List.set_set]
theorem tD {i:Nat} (hi:i<c.sl.length):(c.use i).en i = { c.en i with u:=c.us+1 }:=by
 show (c.set i { c.en i with u:=c.us+1 }).en i=_;exact Dw hi _
def rX (c:Ca) (a:Nat):AV:=match c.pos ((a / 8:Nat):Int) with
 | none=>.tuple [.int .u64 0,.int .i64 20]
 | some i=>.tuple [.int .u64 ((c.en i).d.get (a % 8)),.int .i64 0]
theorem qzn (hc:cD H b sv c) (hci:CI lines c) (hu:c.us+1<=1000000) {a:Nat} (ha:a<1000000):zq M OQ [.ptr b 0,.int .i64 (a:Int)] H (CaQ H b sv (c.word a).1 (rX c a)):=by
 refine qsx ?_;obtain ⟨w0,w2,w10,w12,w20⟩:=qsy M ⟨none,OQ⟩;have n0:¬ (a:Int)<0:=by omega
 have hk:a % 8<8:=Nat.mod_lt _ (by decide);simp only [↓qd,qp,aa,reduceIte,reduceEqDiff,w0,w2,kF,n0,w10,uh ha];refine C3.q (Es (M:=M) hc hci ((a / 8:Nat):Int) 0) λ v H1 ⟨hv,f1⟩=>?_;rw [hv];have h1:=hc.em f1;unfold B0 rX Ca.word;rw [lF];cases hp:c.pos ((a / 8:Nat):Int) with
 | none =>
  have t20:¬ (20:Int)=0:=by decide
  simp only [↓qd,qp,aa,reduceIte,reduceEqDiff,qn,w12,t20];exact ⟨rfl,h1,ng f1⟩
 | some i =>
  obtain ⟨-,hi,-⟩:=hci.aN hp;have t0:=xc (show (0:Int)=0 from rfl);simp only [↓qd,qp,aa,reduceIte,reduceEqDiff,qn,w12,t0,w20];refine C3.q (Pt (M:=M) h1 hu hi) λ _ H2 ⟨h2,f2⟩=>?_;have hi2:i<(c.use i).sl.length:=by show i<(c.sl.set i _).length;rw [qv];exact hi
  have ld:Op.ae [.ptr (aF sv) (bI 21 sv i+(4+a % 8))] H2=some (uW ((c.en i).d.get (a % 8))):=by
   rw [h2.ld hi2 (by omega),tD hi,EW _ _ hk]
  simp only [↓qd,qp,aa,reduceIte,reduceEqDiff,G8 ha,qi,ixA i (a % 8) hk,ld];exact ⟨rfl,h2,pJ (ng f1) f2⟩
def HP (c:Ca) (a:Nat):AV:=match c.gq ((a / 8:Nat):Int) 2 with
 | none=>.int .i64 20
 | some _=>.int .i64 0
theorem q2h (hc:cD H b sv c) (hci:CI lines c) (hu:c.us+1<=1000000) {a:Nat} (ha:a<1000000) (y:Int):zq M Pb [.ptr b 0,.int .i64 (a:Int),.int .u64 y] H (CaQ H b sv (c.put a y) (HP c a)):=by
 refine qud ?_;obtain ⟨w0,w2,w10,w12,w20⟩:=que M ⟨none,Pb⟩;have n0:¬ (a:Int)<0:=by omega
 have hk:a % 8<8:=Nat.mod_lt _ (by decide);simp only [↓qd,qp,aa,reduceIte,reduceEqDiff,w0,w2,kF,n0,w10,uh ha];refine C3.q (Es (M:=M) hc hci ((a / 8:Nat):Int) 2) λ v H1 ⟨hv,f1⟩=>?_;rw [hv];have h1:=hc.em f1;unfold B0 HP Ca.put;cases hp:c.gq ((a / 8:Nat):Int) 2 with
 | none =>
  have t20:¬ (20:Int)=0:=by decide
  simp only [↓qd,qp,aa,reduceIte,reduceEqDiff,qn,w12,t20];exact ⟨rfl,h1,ng f1⟩
 | some i =>
  obtain ⟨-,hi,-⟩:=hci.aN (rL hp).1;have t0:=xc (show (0:Int)=0 from rfl);simp only [↓qd,qp,aa,reduceIte,reduceEqDiff,qn,w12,t0,w20];refine C3.q (Pt (M:=M) h1 hu hi) λ _ H2 ⟨h2,f2⟩=>?_;have hi2:i<(c.use i).sl.length:=by show i<(c.sl.set i _).length;rw [qv];exact hi
  obtain ⟨H3,s3,h3,f3⟩:=h2.bS hi2 (j:=4+a % 8) (by omega) (u:=.int .u64 y) rfl (e:={ (c.use i).en i with d:=((c.use i).en i).d.put (a % 8) y }) (JS _ _ hk y);have e:(c.use i).set i { (c.use i).en i with d:=((c.use i).en i).d.put (a % 8) y } = { c with us:=c.us+1,sl:=c.sl.set i { c.en i with u:=c.us+1,d:=(c.en i).d.put (a % 8) y } }:=by
   rw [tD hi];unfold Ca.use Ca.set;simp only [List.set_set]
  rw [e] at h3;simp only [↓qd,qp,aa,reduceIte,reduceEqDiff,G8 ha,qi,ixA i (a % 8) hk,s3];exact ⟨rfl,h3,pJ (pJ (ng f1) f2) (pM f3)⟩
theorem qyn (hc:cD H b sv c) (hci:CI lines c) (line:Int) (wr:Bool):zq M Pl [.ptr b 0,.int .i64 line,.bool wr] H λ _ H'=>cD H' b sv (c.mark line wr)/\Fr (jB b sv) H H':=by
 refine qsv ?_;obtain ⟨w0,w2,w18,w8,w20,w14,w26⟩:=qsw M ⟨none,Pl⟩;have t20:¬ (20:Int)=0:=by decide
 have t0:=xc (show (0:Int)=0 from rfl);cases wr with
 | false =>
  simp only [↓qd,qp,aa,reduceIte,reduceEqDiff,w0,w2];refine C3.q (Es (M:=M) hc hci line 0) λ v H1 ⟨hv,f1⟩=>?_;rw [hv];have h1:=hc.em f1;unfold B0 Ca.mark;rw [qg (by decide)];cases hp:c.gq line 0 with
  | none =>
   simp only [↓qd,qp,aa,reduceIte,reduceEqDiff,qn,w8,t20,w14];exact ⟨h1,ng f1⟩
  | some i =>
   obtain ⟨-,hi,-⟩:=hci.aN (rL hp).1;obtain ⟨H3,s3,h3,f3⟩:=h1.bS hi (j:=2) (by decide) (u:=.bool true) rfl (e:={ c.en i with r:=true }) rfl;simp only [↓qd,qp,aa,reduceIte,reduceEqDiff,qn,w8,t0,qi,s3,w14];exact ⟨h3,pJ (ng f1) (pM f3)⟩
 | true =>
  simp only [↓qd,qp,aa,reduceIte,reduceEqDiff,w0,w2,w18];refine C3.q (Es (M:=M) hc hci line 2) λ v H1 ⟨hv,f1⟩=>?_;rw [hv];have h1:=hc.em f1;unfold B0 Ca.mark;rw [ql rfl];cases hp:c.gq line 2 with
  | none =>
   simp only [↓qd,qp,aa,reduceIte,reduceEqDiff,qn,w20,t20,w26];exact ⟨h1,ng f1⟩
  | some i =>
   obtain ⟨-,hi,-⟩:=hci.aN (rL hp).1;have l3:Op.ae [.ptr (aF sv) (bI 21 sv i+3)] H1=some (.bool (c.en i).w):=h1.ld hi (by decide);dsimp only;cases hw:(c.en i).w with
   | true =>
    rw [ql rfl];rw [hw] at l3;simp only [↓qd,qp,aa,reduceIte,reduceEqDiff,qn,w20,t0,qi,l3,w26];exact ⟨h1,ng f1⟩
   | false =>
    rw [qg (by decide)];rw [hw] at l3;obtain ⟨H3,s3,h3,f3⟩:=h1.bS hi (j:=3) (by decide) (u:=.bool true) rfl (e:={ c.en i with w:=true }) rfl;have hi3:i<(c.set i { c.en i with w:=true }).sl.length:=by show i<(c.sl.set i _).length;rw [qv];exact hi
    obtain ⟨H4,s4,h4,f4⟩:=h3.LJ hi3 (j:=12) (n:=8) (u:=.agg (cJ (c.en i).d)) (by rw [xk];exact vf _) (by rw [xk];exact tq _) (by decide) (e:={ (c.set i { c.en i with w:=true }).en i with o:=(c.en i).d }) (Db _ _);rw [Dw hi,LP] at h4;simp only [↓qd,qp,aa,reduceIte,reduceEqDiff,qn,w20,t0,qi,l3,h1.ldD hi,s3,s4,w26];exact ⟨h4,pJ (pJ (ng f1) (pM f3)) (pM f4)⟩
def oq (c:Ca) (line:Int):AV:=.tuple [.agg (cJ (c.bq line).2),match c.gq line 2 with|none=>.int .i64 20|some _=>.int .i64 0]
theorem qz8 (hc:cD H b sv c) (hci:CI lines c) (line:Int):zq M N8 [.ptr b 0,.int .i64 line] H λ v H'=>v=oq c line/\cD H' b sv (c.bq line).1/\Fr (jB b sv) H H':=by
 refine qoh ?_;obtain ⟨w0,w4,w12⟩:=qoi M ⟨none,N8⟩;have t20:¬ (20:Int)=0:=by decide
 have t0:=xc (show (0:Int)=0 from rfl);obtain ⟨H1,e1⟩:∃ X,X=H.alloc (OR (cJ .zero) j0):=⟨_,rfl⟩
 have f1:Fr Em H H1:=by rw [e1];exact (Fr.refl H).alloc _
 have n1:H1.next=H.next+1:=by rw [e1,xd]
 have g1:H1.get H.next=some (OR (cJ .zero) j0):=by rw [e1,qw]
 have hlt:=hc.lt;have hsb:aF sv<H.next:=hc.sl.lt
 simp only [↓qd,qp,aa,reduceIte,reduceEqDiff,w0,lZ,<-e1];refine C3.q (Es (M:=M) (hc.em f1) hci line 2) λ v H2 ⟨hv,f2⟩=>?_;rw [hv];have f12:Fr Em H H2:=f1.trans f2 λ _ q=>q.elim;have h2:=hc.em f12;have g2:H2.get H.next=some (OR (cJ .zero) j0):=by rw [f2.ah _ (by omega) id];exact g1
 unfold B0 oq Ca.bq;cases hp:c.gq line 2 with
 | none =>
  have st:=iH g2 (vf _) (vf .zero) (tq _);have ld:=fU (xb H2 H.next (OR (cJ .zero) j0)) (vf _);have fs:Fr Em H (H2.set H.next (OR (cJ .zero) j0)):=f12.set (.inr (qf _)) _;simp only [↓qd,qp,aa,reduceIte,reduceEqDiff,qn,w4,t20,lZ,Br,st,ld];exact ⟨hc.em fs,ng fs⟩
 | some i =>
  obtain ⟨-,hi,-⟩:=hci.aN (rL hp).1;obtain ⟨H3,s3,h3,f3⟩:=h2.bS hi (j:=1) (by decide) (u:=.int .i64 1) rfl (e:={ c.en i with st:=1 }) rfl;have hi3:i<(c.set i { c.en i with st:=1 }).sl.length:=by show i<(c.sl.set i _).length;rw [qv];exact hi
  have l3:=h3.ldD hi3;rw [Dw hi] at l3;have n2:=f2.next
  have g3:H3.get H.next=some (OR (cJ .zero) j0):=by rw [f3.ah _ (by omega) (λ (q:H.next=aF sv)=>by omega)];exact g2
  have st:=iH g3 (vf _) (vf (c.en i).d) (tq _);have ld:=fU (xb H3 H.next (OR (cJ (c.en i).d) j0)) (vf _);have fo:Fr (On H.next) H3 (H3.set H.next (OR (cJ (c.en i).d) j0)):=(Fr.refl H3).set (W:=On H.next) (.inl rfl) _;simp only [↓qd,qp,aa,reduceIte,reduceEqDiff,qn,w4,t0,w12,qi,s3,l3,st,ld];exact ⟨h3.fr fo (λ (q:b=H.next)=>by omega) (λ (q:aF sv=H.next)=>by omega),(pJ (ng f12) (pM f3)).set (.inr (qf _)) _⟩
theorem qy2 (hc:cD H b sv c) (hci:CI lines c) (line:Int) (x:L8):zq M N6 [.ptr b 0,.int .i64 line,.agg (cJ x)] H λ _ H'=>cD H' b sv (c.bH line x)/\Fr (jB b sv) H H':=by
 refine qm7 ?_;obtain ⟨w0,w4,w10⟩:=qm8 M ⟨none,N6⟩;have t20:¬ (20:Int)=0:=by decide
 have t0:=xc (show (0:Int)=0 from rfl);obtain ⟨H1,e1⟩:∃ X,X=H.alloc (OR (cJ x) j0):=⟨_,rfl⟩
 have f1:Fr Em H H1:=by rw [e1];exact (Fr.refl H).alloc _
 have n1:H1.next=H.next+1:=by rw [e1,xd]
 have g1:H1.get H.next=some (OR (cJ x) j0):=by rw [e1,qw]
 have hlt:=hc.lt;have hsb:aF sv<H.next:=hc.sl.lt
 simp only [↓qd,qp,aa,reduceIte,reduceEqDiff,w0,xk,<-e1];refine C3.q (Es (M:=M) (hc.em f1) hci line 1) λ v H2 ⟨hv,f2⟩=>?_;rw [hv];have f12:Fr Em H H2:=f1.trans f2 λ _ q=>q.elim;have h2:=hc.em f12;have g2:H2.get H.next=some (OR (cJ x) j0):=by rw [f2.ah _ (by omega) id];exact g1
 unfold B0 Ca.bH;cases hp:c.gq line 1 with
 | none =>
  simp only [↓qd,qp,aa,reduceIte,reduceEqDiff,qn,w4,t20,w10];exact ⟨h2,ng f12⟩
 | some i =>
  obtain ⟨-,hi,-⟩:=hci.aN (rL hp).1;obtain ⟨H3,s3,h3,f3⟩:=h2.bS hi (j:=1) (by decide) (u:=.int .i64 2) rfl (e:={ c.en i with st:=2 }) rfl;have hi3:i<(c.set i { c.en i with st:=2 }).sl.length:=by show i<(c.sl.set i _).length;rw [qv];exact hi
  obtain ⟨H4,s4,h4,f4⟩:=h3.LJ hi3 (j:=4) (n:=8) (u:=.agg (cJ x)) (by rw [xk];exact vf _) (by rw [xk];exact tq _) (by decide) (e:={ (c.set i { c.en i with st:=2 }).en i with d:=x }) (CQ _ _);rw [Dw hi,LP] at h4;have n2:=f2.next
  have g3:H3.get H.next=some (OR (cJ x) j0):=by rw [f3.ah _ (by omega) (λ (q:H.next=aF sv)=>by omega)];exact g2
  simp only [↓qd,qp,aa,reduceIte,reduceEqDiff,qn,w4,t0,qi,fU g2 (vf x),s3,fU g3 (vf x),s4,w10];exact ⟨h4,pJ (pJ (ng f12) (pM f3)) (pM f4)⟩
def rR (c:Ca) (line:Int):AV:=.tuple [.agg (ao (c.drop line).2),match c.gq line 0 with|none=>.int .i64 20|some _=>.int .i64 0]
theorem PO (hc:cD H b sv c) (hci:CI lines c) (line:Int):zq M Mz [.ptr b 0,.int .i64 line] H λ v H'=>v=rR c line/\cD H' b sv (c.drop line).1/\Fr (jB b sv) H H':=by
 refine qsp ?_;obtain ⟨w0,w4,w12⟩:=qsq M ⟨none,Mz⟩;have t20:¬ (20:Int)=0:=by decide
 have t0:=xc (show (0:Int)=0 from rfl);obtain ⟨H1,e1⟩:∃ X,X=H.alloc (OR (ao .zero) qr):=⟨_,rfl⟩
 have f1:Fr Em H H1:=by rw [e1];exact (Fr.refl H).alloc _
 have n1:H1.next=H.next+1:=by rw [e1,xd]
 have g1:H1.get H.next=some (OR (ao .zero) qr):=by rw [e1,qw]
 have hlt:=hc.lt;have hsb:aF sv<H.next:=hc.sl.lt
 simp only [↓qd,qp,aa,reduceIte,reduceEqDiff,w0,eZ,<-e1];refine C3.q (Es (M:=M) (hc.em f1) hci line 0) λ v H2 ⟨hv,f2⟩=>?_;rw [hv];have f12:Fr Em H H2:=f1.trans f2 λ _ q=>q.elim;have h2:=hc.em f12;have n2:=f2.next
 have g2:H2.get H.next=some (OR (ao .zero) qr):=by rw [f2.ah _ (by omega) id];exact g1
 unfold B0 rR Ca.drop;cases hp:c.gq line 0 with
 | none =>
  have st:=iH g2 (zd _) (zd .zero) (oH _);have ld:=fU (xb H2 H.next (OR (ao .zero) qr)) (zd _);have fs:Fr Em H (H2.set H.next (OR (ao .zero) qr)):=f12.set (.inr (qf _)) _;simp only [↓qd,qp,aa,reduceIte,reduceEqDiff,qn,w4,t20,eZ,Br,st,ld];exact ⟨hc.em fs,ng fs⟩
 | some i =>
  obtain ⟨-,hi,-⟩:=hci.aN (rL hp).1;obtain ⟨H3,e3⟩:∃ X,X=H2.alloc (OR (ao .zero) qr):=⟨_,rfl⟩
  have f3:Fr Em H2 H3:=by rw [e3];exact (Fr.refl H2).alloc _
  have n3:H3.next=H2.next+1:=by rw [e3,xd]
  have g3:H3.get H2.next=some (OR (ao .zero) qr):=by rw [e3,qw]
  have s4:=iH g3 (zd _) (zd (c.en i)) (oH _);obtain ⟨H4,e4⟩:∃ X,X=H3.set H2.next (OR (ao (c.en i)) qr):=⟨_,rfl⟩
  rw [<-e4] at s4;have f4:Fr (On H2.next) H3 H4:=by rw [e4];exact (Fr.refl H3).set (W:=On H2.next) (.inl rfl) _
  have h4:=(h2.em f3).fr f4 (λ (q:b=H2.next)=>by omega) (λ (q:aF sv=H2.next)=>by omega);obtain ⟨H5,s5,h5,f5⟩:=h4.stE hi .zero;have g5:H5.get H2.next=some (OR (ao (c.en i)) qr):=by rw [f5.ah _ (by rw [e4];show H2.next<H3.next;omega) (λ (q:H2.next=aF sv)=>by omega),e4,xb]
  have l5:=fU g5 (zd (c.en i));have g5':H5.get H.next=some (OR (ao .zero) qr):=by rw [f5.ah _ (by rw [e4];show H.next<H3.next;omega) (λ (q:H.next=aF sv)=>by omega),f4.ah _ (by omega) (λ (q:H.next=H2.next)=>by omega),f3.ah _ (by omega) id];exact g2
  have s6:=iH g5' (zd _) (zd (c.en i)) (oH _);have ld:=fU (xb H5 H.next (OR (ao (c.en i)) qr)) (zd _);have fo:Fr (On H.next) H5 (H5.set H.next (OR (ao (c.en i)) qr)):=(Fr.refl H5).set (W:=On H.next) (.inl rfl) _;have f04:Fr (jB b sv) H H4:=(pJ (ng f12) (ng f3)).trans f4 λ x (q:x=H2.next)=>.inr (by omega);simp only [↓qd,qp,aa,reduceIte,reduceEqDiff,qn,w4,t0,w12,qi,h2.KS hi,eZ,<-e3,s4,Br,s5,l5,s6,ld];exact ⟨h5.fr fo (λ (q:b=H.next)=>by omega) (λ (q:aF sv=H.next)=>by omega),(pJ f04 (pM f5)).set (.inr (qf _)) _⟩
end
end Go.Am
namespace Go.Am
open Go.Proofs Ca
variable {M:aA} [MK M]
def lI (sv:AV) (o:Option Nat):AV:=match o with
 | none=>.nilp
 | some i=>eA sv i
theorem u6 (sv:AV) (o:Option Nat):aT (lI sv o)=true:=by cases o<;>rfl
theorem yO {Hx:AHeap} {t d e:Nat} {x:AV} {o:bm} (g:Hx.get t=some (OR [x] e)) (hd:d ≠ t):Op.ae [.ptr t 0] (Hx.set d o)=some x:=by
 have g':(Hx.set d o).get t=some (OR [x] e):=by rw [yb hd];exact g
 exact xp (qz g') 0
structure Ou (c:Ca) (sv:AV) (line:Int) (t u:Nat) (i:Nat) (V:Nat->Prop) (Hx:AHeap):Prop where
 vt:V t
 vu:V u
 g:Hx.get t=some (OR [.nilp] js)
 gu:Hx.get u=some (OR [lI sv ((c.eE line i).map (c.fr line + ·))] js)
 lt:t<Hx.next
 Mo:u<Hx.next
 no:∀ k,k<i->c.free line k=false
structure Pw (c:Ca) (sv:AV) (line:Int) (t:Nat) (V:Nat->Prop) (Hx:AHeap):Prop where
 vt:V t
 ex:∃ k,k<c.ways/\b9 (c.free line) c.ways=some k/\Hx.get t=some (OR [eA sv (c.fr line+k)] js)
 lt:t<Hx.next
section
variable {H:AHeap} {b:Nat} {sv:AV} {c:Ca} {lines line:Int}
theorem q7a (hc:cD H b sv c) (hci:CI lines c) (hl:0<=line):zq M FK [.ptr b 0,.int .i64 line] H λ v H'=>v=lI sv (c.room line)/\Fr Em H H':=by
 refine qs3 ?_;obtain ⟨w0,wa,wb,w2,wb9,w3,wb15,w5,w7,w12⟩:=qky M ⟨none,FK⟩;obtain ⟨H1,e1⟩:∃ X,X=H.alloc (OR [.nilp] js):=⟨_,rfl⟩
 obtain ⟨H2,e2⟩:∃ X,X=H1.alloc (OR [.nilp] js):=⟨_,rfl⟩
 have f1:Fr Em H H1:=by rw [e1];exact (Fr.refl H).alloc _
 have f12:Fr Em H1 H2:=by rw [e2];exact (Fr.refl H1).alloc _
 have f2:Fr Em H H2:=f1.trans f12 λ _ q=>q.elim;have n1:H1.next=H.next+1:=by rw [e1,xd]
 have n2:H2.next=H.next+2:=by rw [e2,xd,n1]
 have g1:H2.get H.next=some (OR [.nilp] js):=by rw [f12.ah _ (by omega) id,e1,qw]
 have g2:H2.get (H.next+1)=some (OR [.nilp] js):=by rw [e2,<-n1,qw]
 simp only [↓qd,qp,aa,reduceIte,reduceEqDiff,w0,<-e1,w2,w3,<-e2,n1,w5,w7];refine C3.q (q2m (M:=M) b line) λ v H5 ⟨hv,hh⟩=>?_;obtain ⟨H3,e3⟩:∃ X,X=H2.alloc (OR [.ptr b 0] yo):=⟨_,rfl⟩
 obtain ⟨H4,e4⟩:∃ X,X=H3.alloc (OR [.int .i64 line] eM):=⟨_,rfl⟩
 rw [<-e3,<-e4] at hh;rw [hv,hh];have f23:Fr Em H2 H3:=by rw [e3];exact (Fr.refl H2).alloc _
 have f34:Fr Em H3 H4:=by rw [e4];exact (Fr.refl H3).alloc _
 have f24:Fr Em H2 H4:=f23.trans f34 λ _ q=>q.elim;have f4:Fr Em H H4:=f2.trans f24 λ _ q=>q.elim;have n3:H3.next=H.next+3:=by rw [e3,xd,n2]
 have n4:H4.next=H.next+4:=by rw [e4,xd,n3]
 have g3:H4.get H2.next=some (OR [.ptr b 0] yo):=by rw [f34.ah _ (by omega) id,e3,qw]
 have g4:H4.get (H2.next+1)=some (OR [.int .i64 line] eM):=by rw [show H2.next+1=H3.next by omega,e4,qw]
 have hc4:=hc.em f4;have hlt:=hc.lt;have hsb:aF sv<H.next:=hc.sl.lt
 have hset:lJ c sv line=(List.range c.ways).map λ k=>[eA sv (c.fr line+k)]:=by unfold lJ;rw [qg (by omega)]
 refine gN.iter (fn:=J6) (lp:=Ji) (pa:=N7 0) (pb:=Oc 0) qpw qit.1 qit.2 (by decide) qol qom
  (qzc (M:=M) hc4 hci g3 g4 (by omega) (by omega)) (λ i V Hx=>Ou c sv line H.next (H.next+1) i V Hx) (λ e V Hx=>e=.ret/\Pw c sv line H.next V Hx) (λ x=>x=H.next\/x=H.next+1) (qf _) ?_ ?_ ?_ ?_ ?_ ?_ ?_ ?_
 ·rintro x ((q|q|q) | q)
  ·exact ⟨by omega,rfl,by omega⟩
  ·exact ⟨by omega,rfl,by omega⟩
  ·exact ⟨by omega,rfl,by omega⟩
  ·exact q.elim
 ·exact λ x hx=>by omega
 ·exact ⟨.inl rfl,.inr rfl,by rw [f24.ah _ (by omega) id];exact g1,by rw [f24.ah _ (by omega) id];exact g2,by omega,by omega,λ k hk=>by omega⟩
 ·exact λ i V Ha Hb h hs hn=>⟨h.vt,h.vu,by rw [hs _ h.vt];exact h.g,by rw [hs _ h.vu];exact h.gu,qk h.lt hn,qk h.Mo hn,h.no⟩
 ·rintro e V Ha Hb ⟨he,h⟩ hs hn;obtain ⟨k,k1,k2,k3⟩:=h.ex;exact ⟨he,h.vt,⟨k,k1,k2,by rw [hs _ h.vt];exact k3⟩,qk h.lt hn⟩
 ·intro L2 i lr lb x hx hL2 V H6 hP hV hf6 hnL hL6 hgL;rw [hset,xg,xe] at hx;obtain ⟨y,hy,rfl⟩:=hx;have hiw:i<c.ways:=by have:=(qe.1 hy).1;rw [jq] at this;exact this
  rw [ku hiw] at hy;injection hy with hy;subst hy
  refine ⟨_,rfl,?_⟩;obtain ⟨-,wa,wb,-,wb9,-,wb15,-⟩:=qky M ⟨some L2,FK⟩;simp only [↓qd,qp,aa,reduceIte,reduceEqDiff,wa,EK];refine ⟨hgL,?_⟩;have fx:Fr (On L2) H6 (H6.set L2 lb):=(Fr.refl H6).set (W:=On L2) (.inl rfl) _;have gL:(H6.set L2 lb).get L2=some lb:=xb ..;have nL:(H6.set L2 lb).next=H6.next:=rfl
  have hc6:cD H6 b sv c:=hc4.fr hf6 (λ q=>q.elim (λ q=>by omega) id) (λ q=>q.elim (λ q=>by omega) id);have h7:cD (H6.set L2 lb) b sv c:=hc6.fr fx (λ (q:b=L2)=>by omega) (λ (q:aF sv=L2)=>by omega);have hLt:L2 ≠ H.next:=λ q=>hnL (by rw [q];exact hP.vt)
  have hLu:L2 ≠ H.next+1:=λ q=>hnL (by rw [q];exact hP.vu)
  have hgt:(H6.set L2 lb).get H.next=some (OR [.nilp] js):=by rw [yb hLt];exact hP.g
  have hgu:(H6.set L2 lb).get (H.next+1)=some (OR [lI sv ((c.eE line i).map (c.fr line + ·))] js):=by rw [yb hLu];exact hP.gu
  generalize H6.set L2 lb=H7 at *;have hi:=hci.gk line hiw;obtain ⟨e,he⟩:∃ e,e=c.en (c.fr line+i):=⟨_,rfl⟩
  have l1:Op.ae [.ptr (aF sv) (bI 21 sv (c.fr line+i)+1)] H7=some (.int .i64 e.st):=by rw [he];exact h7.ld hi (k:=1) (by decide)
  have l2:Op.ae [.ptr (aF sv) (bI 21 sv (c.fr line+i)+2)] H7=some (.bool e.r):=by rw [he];exact h7.ld hi (k:=2) (by decide)
  have l3:Op.ae [.ptr (aF sv) (bI 21 sv (c.fr line+i)+3)] H7=some (.bool e.w):=by rw [he];exact h7.ld hi (k:=3) (by decide)
  have enc20:∀ e:En,(ao e)[20]? = some (.int .i64 e.u):=λ e=>by
   obtain ⟨line,st,r,w,⟨d,hd⟩,⟨o,ho⟩,u⟩:=e
   match d,hd,o,ho with
   | [d0,d1,d2,d3,d4,d5,d6,d7],_,[o0,o1,o2,o3,o4,o5,o6,o7],_=>rfl
  have l20:∀ k,c.fr line+k<c.sl.length->Op.ae [.ptr (aF sv) (bI 21 sv (c.fr line+k)+20)] H7=some (.int .i64 (c.en (c.fr line+k)).u):=λ k hk=>by rw [h7.ld hk (k:=20) (by decide),enc20]
  have hfree:c.free line i=(e.st == 0):=by rw [he];rfl
  have no':e.st ≠ 0 -> ∀ k,k<i+1->c.free line k=false:=λ h0 k hk=>by
   by_cases q:k=i
   ·rw [q,hfree];simp [h0]
   ·exact hP.no k (by omega)
  have lu:Op.ae [.ptr (H.next+1) 0] H7=some (lI sv ((c.eE line i).map (c.fr line + ·))):=xp (qz hgu) 0;have hbe:c.eE line (i+1)=if e.r || e.w then c.eE line i else match c.eE line i with
   | none=>some i
   | some j=>if e.u<(c.en (c.fr line+j)).u then some i else some j:=by rw [he];rfl
  -- it stays as it is
  have stay:e.st ≠ 0->c.eE line (i+1)=c.eE line i->IE (λ V Hx=>Ou c sv line H.next (H.next+1) (i+1) V Hx) (λ e V Hx=>e=.ret/\Pw c sv line H.next V Hx) L2 lb V H6 .normal [] [] H7:=λ h0 hb =>
   ⟨rfl,gL,V,λ b hb=>⟨by rw [nL];exact (hV b hb).1,.inl hb⟩,fx.mono λ x _ q=>.inr q,.inl ⟨rfl,hP.vt,hP.vu,hgt,by rw [hb];exact hgu,by rw [nL];exact hP.lt,by rw [nL];exact hP.Mo,no' h0⟩⟩
  -- this one is taken
  obtain ⟨H8,e8⟩:∃ X,X=H7.set (H.next+1) (OR [eA sv (c.fr line+i)] js):=⟨_,rfl⟩
  have st:=tj hgu (u:=eA sv (c.fr line+i)) rfl;rw [<-e8] at st;have take:e.st ≠ 0->c.eE line (i+1)=some i->IE (λ V Hx=>Ou c sv line H.next (H.next+1) (i+1) V Hx) (λ e V Hx=>e=.ret/\Pw c sv line H.next V Hx) L2 lb V H6 .normal [] [] H8:=λ h0 hb =>
   ⟨rfl,by rw [e8,yb (yt hLu)];exact gL,V,λ b hb=>⟨by rw [e8];show b<H7.next;rw [nL];exact (hV b hb).1,.inl hb⟩,by rw [e8];exact (fx.mono λ x _ q=>.inr q).set (.inl (.inl hP.vu)) _,.inl ⟨rfl,hP.vt,hP.vu,by rw [e8,yb (by omega)];exact hgt,by rw [e8,xb,hb];rfl,by rw [e8];show H.next<H7.next;rw [nL];exact hP.lt,by rw [e8];show H.next+1<H7.next;rw [nL];exact hP.Mo,no' h0⟩⟩
  by_cases q1:e.st=0
  ·have stt:=tj hgt (u:=eA sv (c.fr line+i)) rfl;simp only [↓qd,qp,aa,reduceIte,reduceEqDiff,wb,qi,l1,xc q1,stt];refine ⟨rfl,?_,V,?_,?_,.inr ⟨trivial,rfl,hP.vt,⟨i,hiw,GC hiw (by rw [hfree];simp [q1]) hP.no,xb ..⟩,?_⟩⟩
   ·rw [yb (yt hLt)];exact gL
   ·exact λ b hb=>⟨by show b<H7.next;rw [nL];exact (hV b hb).1,.inl hb⟩
   ·exact (fx.mono λ x _ q=>.inr q).set (.inl (.inl hP.vt)) _
   ·show H.next<H7.next;rw [nL];exact hP.lt
  cases hr:e.r with
  | true =>
   rw [hr] at l2;simp only [↓qd,qp,aa,reduceIte,reduceEqDiff,wb,qi,l1,q1,wb9,l2];exact stay q1 (by rw [hbe,hr];rfl)
  | false =>
   rw [hr] at l2;cases hw:e.w with
   | true =>
    rw [hw] at l3;simp only [↓qd,qp,aa,reduceIte,reduceEqDiff,wb,qi,l1,q1,wb9,l2,l3];exact stay q1 (by rw [hbe,hr,hw];rfl)
   | false =>
    rw [hw] at l3;rw [hr,hw] at hbe;cases hb:c.eE line i with
    | none =>
     rw [hb] at lu hbe;have lu:Op.ae [.ptr (H.next+1) 0] H7=some .nilp:=lu;simp only [↓qd,qp,aa,reduceIte,reduceEqDiff,wb,qi,l1,q1,wb9,l2,l3,wb15,lu,Kd,st];exact take q1 hbe
    | some j =>
     rw [hb] at lu hbe;have lu:Op.ae [.ptr (H.next+1) 0] H7=some (eA sv (c.fr line+j)):=lu;have hj:=(LI hb).1;have a1:=l20 i hi;rw [<-he] at a1;have a2:=l20 j (hci.gk line (by omega))
     by_cases q:e.u<(c.en (c.fr line+j)).u
     ·simp only [↓qd,qp,aa,reduceIte,reduceEqDiff,wb,qi,l1,q1,wb9,l2,l3,wb15,lu,kv,a1,a2,q,st];exact take q1 (by rw [hbe];simp [q])
     ·simp only [↓qd,qp,aa,reduceIte,reduceEqDiff,wb,qi,l1,q1,wb9,l2,l3,wb15,lu,kv,a1,a2,q];exact stay q1 (by rw [hbe,hb];simp [q])
 ·intro d V Hd hd1 hd2 hgd hfd hVd hP;have hno:=hP.no;have hgu:=hP.gu;rw [hset,xu,jq] at hno hgu;have lu:Op.ae [.ptr (H.next+1) 0] Hd=some (lI sv ((c.eE line c.ways).map (c.fr line + ·))):=xp (qz hgu) 0;have st:=tj hP.g (u:=lI sv ((c.eE line c.ways).map (c.fr line + ·))) (u6 ..);have hdt:d ≠ H.next:=λ q=>by have:=(hVd _ hP.vt).2.2;omega
  have gd:(Hd.set H.next (OR [lI sv ((c.eE line c.ways).map (c.fr line + ·))] js)).get d=some (.deferred (some [])):=by rw [yb (yt hdt)];exact hgd
  have rd:Op.ae [.ptr H.next 0] ((Hd.set H.next (OR [lI sv ((c.eE line c.ways).map (c.fr line + ·))] js)).set d (.deferred none))=some (lI sv ((c.eE line c.ways).map (c.fr line + ·))):=yO (xb ..) hdt;have hroom:c.room line=(c.eE line c.ways).map (c.fr line + ·):=by
   unfold Ca.room;rw [Eg hno]
  rw [<-hroom] at lu st gd rd;simp only [↓qd,qp,aa,reduceIte,reduceEqDiff,w12,lu,st,vL,zX,rd];refine ⟨gd,?_⟩;exact (((f4.trans (W':=λ x=>(x=H.next\/x=H.next+1)\/False) hfd λ x q=>q.elim (λ q=>.inr (by omega)) False.elim).set (.inr (by omega)) _).set (.inr (by omega)) _)
 ·rintro e d V Hd hj hd1 hd2 hgd hfd hVd ⟨he,hS⟩;subst he;obtain ⟨k,k1,k2,k3⟩:=hS.ex;have hdt:d ≠ H.next:=λ q=>by have:=(hVd _ hS.vt).2.2;omega
  have rd:Op.ae [.ptr H.next 0] (Hd.set d (.deferred none))=some (eA sv (c.fr line+k)):=yO k3 hdt;have hroom:c.room line=some (c.fr line+k):=by unfold Ca.room;rw [k2]
  simp only [↓qd,qp,aa,reduceIte,reduceEqDiff,vL,zX,rd];refine ⟨hgd,by rw [hroom];rfl,?_⟩;exact ((f4.trans (W':=λ x=>(x=H.next\/x=H.next+1)\/False) hfd λ x q=>q.elim (λ q=>.inr (by omega)) False.elim).set (.inr (by omega)) _)
end
end Go.Am
namespace Go.Am
open Go.Proofs Ca
variable {M:aA} [MK M]
theorem bdE (line st:Int) (x:L8):Op.build (ao .zero) [(0,1),(1,1),(4,8)] [.int .i64 line,.int .i64 st,.agg (cJ x)]=some (.agg (ao ⟨line,st,false,false,x,.zero,0⟩)):=by
 obtain ⟨x,hx⟩:=x
 match x,hx with
 | [x0,x1,x2,x3,x4,x5,x6,x7],_=>rfl
def kU (c:Ca) (line st:Int) (x:L8):AV:=.tuple [.agg (ao (c.fill line st x).2.1),.bool (decide ((c.fill line st x).2.2=0/\(c.fill line st x).2.1.st ≠ 0)),.int .i64 (c.fill line st x).2.2]
section
variable {H:AHeap} {b:Nat} {sv:AV} {c:Ca} {lines line:Int}
theorem qyb (hc:cD H b sv c) (hci:CI lines c) (hu:c.us+1<=1000000) (hl:0<=line) {st:Int} (hst:st=1\/st=2) (x:L8) :
 zq M GB [.ptr b 0,.int .i64 line,.int .i64 st,.agg (cJ x)] H λ v H'=>v=kU c line st x/\cD H' b sv (c.fill line st x).1/\Fr (jB b sv) H H':=by
 refine qsr ?_;obtain ⟨w0,w2,w23,w16,w25,w33⟩:=qss M ⟨none,GB⟩;obtain ⟨H1,e1⟩:∃ X,X=H.alloc (OR (cJ x) j0):=⟨_,rfl⟩
 obtain ⟨H2,e2⟩:∃ X,X=H1.alloc (OR (ao .zero) qr):=⟨_,rfl⟩
 have f1:Fr Em H H1:=by rw [e1];exact (Fr.refl H).alloc _
 have f12:Fr Em H1 H2:=by rw [e2];exact (Fr.refl H1).alloc _
 have f2:Fr Em H H2:=f1.trans f12 λ _ q=>q.elim;have n1:H1.next=H.next+1:=by rw [e1,xd]
 have n2:H2.next=H.next+2:=by rw [e2,xd,n1]
 have g1:H2.get H.next=some (OR (cJ x) j0):=by rw [f12.ah _ (by omega) id,e1,qw]
 have g2:H2.get (H.next+1)=some (OR (ao .zero) qr):=by rw [e2,<-n1,qw]
 have nl:¬ line<0:=by omega
 have hlt:=hc.lt;have hsb:aF sv<H.next:=hc.sl.lt
 -- an error
 have err:∀ {Hx:AHeap} (k:Int),Fr Em H2 Hx->k ≠ 0->(c.fill line st x).2.2=k->(c.fill line st x).1=c->(c.fill line st x).2.1=.zero ->
  Op.store 21 [.ptr (H.next+1) 0,.agg (ao .zero)] Hx=some (.undef,Hx.set (H.next+1) (OR (ao .zero) qr))/\Op.aG 21 [.ptr (H.next+1) 0] (Hx.set (H.next+1) (OR (ao .zero) qr))=some (.agg (ao .zero)) /\
  (AV.tuple [.agg (ao .zero),.bool false,.int .i64 k]=kU c line st x/\cD (Hx.set (H.next+1) (OR (ao .zero) qr)) b sv (c.fill line st x).1/\Fr (jB b sv) H (Hx.set (H.next+1) (OR (ao .zero) qr))):=by
  intro Hx k f hk h1 h2 h3;have gx:Hx.get (H.next+1)=some (OR (ao .zero) qr):=by rw [f.ah _ (by omega) id];exact g2
  have fs:Fr Em H (Hx.set (H.next+1) (OR (ao .zero) qr)):=(f2.trans f λ _ q=>q.elim).set (.inr (by omega)) _;refine ⟨iH gx (zd _) (zd .zero) (oH _),fU (xb ..) (zd _),?_,by rw [h2];exact hc.em fs,ng fs⟩;unfold kU;rw [h1,h3];simp [hk]
 have k16:∀ {q:AV},W M ⟨none,GB⟩ (qkw 16) true (cw 0 (cT (W M ⟨none,GB⟩ (qkw 23)) (c6 M [.dB 21 8,.tmp 9,.tmp 10] (kO λ v H'=>v=kU c line st x/\cD H' b sv (c.fill line st x).1/\Fr (jB b sv) H H'))))
  [(21,q),(10,.int .i64 0),(9,.bool false),(8,.ptr (H.next+1) 0),(7,.ptr H.next 0),(0,.ptr b 0),(1,.int .i64 line),(2,.int .i64 st),(3,.agg (cJ x))] [] H2:=by
  intro q;simp only [↓qd,qp,aa,reduceIte,reduceEqDiff,w16];refine C3.q (Qi (M:=M) (line:=line) (hc.em f2) hci) λ v H3 ⟨hv,f3⟩=>?_;rw [hv];unfold qR;cases hp:c.pos line with
  | some i =>
   obtain ⟨s1,s2,s3⟩:=err 21 f3 (by decide) (by unfold Ca.fill;rw [hp]) (by unfold Ca.fill;rw [hp]) (by unfold Ca.fill;rw [hp]);simp only [↓qd,qp,aa,reduceIte,reduceEqDiff,kF,eZ,Br,s1,s2];exact s3
  | none =>
   simp only [↓qd,qp,aa,reduceIte,reduceEqDiff,oR,w23];have f03:=f2.trans f3 λ _ q=>q.elim;refine C3.q (q7a (M:=M) (hc.em f03) hci hl) λ v H4 ⟨hv,f4⟩=>?_;rw [hv];have f24:=f3.trans f4 λ _ q=>q.elim;cases hr:c.room line with
   | none =>
    obtain ⟨s1,s2,s3⟩:=err 22 f24 (by decide) (by unfold Ca.fill;rw [hp,hr]) (by unfold Ca.fill;rw [hp,hr]) (by unfold Ca.fill;rw [hp,hr]);unfold lI;simp only [↓qd,qp,aa,reduceIte,reduceEqDiff,w25,Kd,eZ,Br,s1,s2];exact s3
   | some i =>
    obtain ⟨k,k1,k2,-⟩:=LL hr;have hi:i<c.sl.length:=by rw [k2];exact hci.gk line k1
    have f04:=f2.trans f24 λ _ q=>q.elim;have h4:=hc.em f04;have n4:=f24.next
    obtain ⟨H5,e5⟩:∃ X,X=H4.alloc (OR (ao .zero) qr):=⟨_,rfl⟩
    have f5:Fr Em H4 H5:=by rw [e5];exact (Fr.refl H4).alloc _
    have n5:H5.next=H4.next+1:=by rw [e5,xd]
    have g5:H5.get H4.next=some (OR (ao .zero) qr):=by rw [e5,qw]
    have s6:=iH g5 (zd _) (zd (c.en i)) (oH _);obtain ⟨H6,e6⟩:∃ X,X=H5.set H4.next (OR (ao (c.en i)) qr):=⟨_,rfl⟩
    rw [<-e6] at s6;have f6:Fr (On H4.next) H5 H6:=by rw [e6];exact (Fr.refl H5).set (W:=On H4.next) (.inl rfl) _
    have n6:H6.next=H4.next+1:=by rw [e6];exact n5
    have g6:H6.get H4.next=some (OR (ao (c.en i)) qr):=by rw [e6,xb]
    have h6:cD H6 b sv c:=(h4.em f5).fr f6 (λ (q:b=H4.next)=>by omega) (λ (q:aF sv=H4.next)=>by omega);have g6l:H6.get H.next=some (OR (cJ x) j0):=by rw [f6.ah _ (by omega) (λ (q:H.next=H4.next)=>by omega),f5.ah _ (by omega) id,f24.ah _ (by omega) id];exact g1
    have g6r:H6.get (H.next+1)=some (OR (ao .zero) qr):=by rw [f6.ah _ (by omega) (λ (q:H.next+1=H4.next)=>by omega),f5.ah _ (by omega) id,f24.ah _ (by omega) id];exact g2
    obtain ⟨H7,s7,h7,f7⟩:=h6.stE hi ⟨line,st,false,false,x,.zero,0⟩;have hi7:i<(c.set i ⟨line,st,false,false,x,.zero,0⟩).sl.length:=by show i<(c.sl.set i _).length;rw [qv];exact hi
    have l6:=fU g6l (vf x);unfold lI;simp only [↓qd,qp,aa,reduceIte,reduceEqDiff,w25,kv,w33,qi,h4.KS hi,eZ,<-e5,s6,l6,bdE,s7];refine C3.q (Pt (M:=M) h7 hu hi7) λ _ H8 ⟨h8,f8⟩=>?_;have f68:Fr (jB b sv) H6 H8:=pJ (pM f7) f8;have nW:∀ y,H.next<=y -> ¬ jB b sv y:=λ y hy q=>q.elim (λ q=>by omega) λ q=>by omega
    have g8:H8.get H4.next=some (OR (ao (c.en i)) qr):=by rw [f68.ah _ (by omega) (nW _ (by omega))];exact g6
    have g8r:H8.get (H.next+1)=some (OR (ao .zero) qr):=by rw [f68.ah _ (by omega) (nW _ (by omega))];exact g6r
    have l8:=fU g8 (zd (c.en i));have l81:Op.ae [.ptr H4.next 1] H8=some (.int .i64 (c.en i).st):=xp (qz g8) 1;have s9:=iH g8r (zd _) (zd (c.en i)) (oH _);have g9:(H8.set (H.next+1) (OR (ao (c.en i)) qr)).get H4.next=some (OR (ao (c.en i)) qr):=by rw [yb (by omega)];exact g8
    have l91:Op.ae [.ptr H4.next 1] (H8.set (H.next+1) (OR (ao (c.en i)) qr))=some (.int .i64 (c.en i).st):=xp (qz g9) 1;have l9:=fU (xb H8 (H.next+1) (OR (ao (c.en i)) qr)) (zd (c.en i));have ef:c.fill line st x=({ c with us:=c.us+1,sl:=c.sl.set i ⟨line,st,false,false,x,.zero,c.us+1⟩ },c.en i,0):=by unfold Ca.fill;rw [hp,hr]
    have eu:(c.set i ⟨line,st,false,false,x,.zero,0⟩).use i = { c with us:=c.us+1,sl:=c.sl.set i ⟨line,st,false,false,x,.zero,c.us+1⟩ }:=by
     unfold Ca.use;rw [Dw hi];unfold Ca.set;simp only [List.set_set]
    rw [eu] at h8;have fo:Fr (On (H.next+1)) H8 (H8.set (H.next+1) (OR (ao (c.en i)) qr)):=(Fr.refl H8).set (W:=On (H.next+1)) (.inl rfl) _;have f08:Fr (jB b sv) H H8:=pJ ((pJ (ng f04) (ng f5)).trans f6 λ y (q:y=H4.next)=>.inr (by omega)) f68;have end_:cD (H8.set (H.next+1) (OR (ao (c.en i)) qr)) b sv (c.fill line st x).1/\Fr (jB b sv) H (H8.set (H.next+1) (OR (ao (c.en i)) qr)):=by
     rw [ef];exact ⟨h8.fr fo (λ (q:b=H.next+1)=>by omega) (λ (q:aF sv=H.next+1)=>by omega),f08.set (.inr (by omega)) _⟩
    by_cases h0:(c.en i).st=0
    ·simp only [↓qd,qp,aa,reduceIte,reduceEqDiff,l8,l81,xc h0,s9,l91,l9];refine ⟨?_,end_⟩;unfold kU;rw [ef];simp [h0]
    ·simp only [↓qd,qp,aa,reduceIte,reduceEqDiff,l8,l81,h0,s9,l91,l9];refine ⟨?_,end_⟩;unfold kU;rw [ef];simp [h0]
 rcases hst with rfl|rfl
 ·have t1:=xc (show (1:Int)=1 from rfl);simp only [↓qd,qp,aa,reduceIte,reduceEqDiff,w0,xk,<-e1,n1,eZ,<-e2,w2,kv,nl,t1];exact k16
 ·have t1:¬ (2:Int)=1:=by decide
  have t2:=xc (show (2:Int)=2 from rfl);simp only [↓qd,qp,aa,reduceIte,reduceEqDiff,w0,xk,<-e1,n1,eZ,<-e2,w2,kv,nl,t1,t2];exact k16
end
end Go.Am
