/- NmK6: NhC NhD NhE. -/
import Derived.Test.YtiibohocdbaekaaAmKNmK5
import Derived.Test.YtiibohocdbaekaaAmKNmK0
set_option linter.unusedVariables false
set_option linter.unusedSimpArgs false
set_option linter.unusedSectionVars false
set_option maxRecDepth 100000
open Nat (reduceEqDiff)
namespace Go.Am
open Go.Proofs Ca
variable {M:aM} [MK M]
theorem IB (e:En) (k:Nat) (hk:k<8) (y:Int):av { e with d:=e.d.put k y } = (av e).set (4+k) (uW y):=by
 obtain ⟨line,st,r,w,⟨d,hd⟩,⟨o,ho⟩,u⟩:=e
 match d,hd,o,ho with
 | [d0,d1,d2,d3,d4,d5,d6,d7],_,[o0,o1,o2,o3,o4,o5,o6,o7],_ =>
  rcases (show k=0\/k=1\/k=2\/k=3\/k=4\/k=5\/k=6\/k=7 by omega) with rfl|rfl|rfl|rfl|rfl|rfl|rfl|rfl<;>rfl
theorem BV (e:En) (k:Nat) (hk:k<8):(av e)[4+k]? = some (uW (e.d.get k)):=by
 obtain ⟨line,st,r,w,⟨d,hd⟩,⟨o,ho⟩,u⟩:=e
 match d,hd,o,ho with
 | [d0,d1,d2,d3,d4,d5,d6,d7],_,[o0,o1,o2,o3,o4,o5,o6,o7],_ =>
  rcases (show k=0\/k=1\/k=2\/k=3\/k=4\/k=5\/k=6\/k=7 by omega) with rfl|rfl|rfl|rfl|rfl|rfl|rfl|rfl<;>rfl
theorem BE (e:En) (x:L8):av { e with d:=x } = (av e).take 4++(AV.agg (cK x)).cells++(av e).drop (4+8):=by
 obtain ⟨line,st,r,w,⟨d,hd⟩,⟨o,ho⟩,u⟩:=e
 match d,hd,o,ho with
 | [d0,d1,d2,d3,d4,d5,d6,d7],_,[o0,o1,o2,o3,o4,o5,o6,o7],_=>rfl
theorem A8 (e:En) (x:L8):av { e with o:=x } = (av e).take 12++(AV.agg (cK x)).cells++(av e).drop (12+8):=by
 obtain ⟨line,st,r,w,⟨d,hd⟩,⟨o,ho⟩,u⟩:=e
 match d,hd,o,ho with
 | [d0,d1,d2,d3,d4,d5,d6,d7],_,[o0,o1,o2,o3,o4,o5,o6,o7],_ =>
  obtain ⟨x,hx⟩:=x
  match x,hx with
  | [x0,x1,x2,x3,x4,x5,x6,x7],_=>rfl
section
variable {H:AHeap} {b:Nat} {sv:AV} {c:Ca} {lines line:Int}
theorem ux {a:Nat} (h:a<1000000):Op.bin .quo [.int .i64 (a:Int),.int .i64 8]=some (.int .i64 ((a / 8:Nat):Int)):=by
 rw [Hg .i64 _ _ (by decide),Int.tdiv_eq_ediv_of_nonneg (by omega),yw (by omega) (by omega)];rfl
theorem Hv {a:Nat} (h:a<1000000):Op.bin .rem [.int .i64 (a:Int),.int .i64 8]=some (.int .i64 ((a % 8:Nat):Int)):=GU (by decide)
theorem ixA (i k:Nat) (hk:k<8):Op.aX 8 1 [.ptr (aO sv) (cm 21 sv i+4),.int .i64 (k:Int)]=some (.ptr (aO sv) (cm 21 sv i+(4+k))):=by
 have:=qzv (len:=8) (size:=1) (b:=aO sv) (o:=cm 21 sv i+4) (k:=.i64) (j:=(k:Int)) (i:=k) rfl hk;rw [this,Nat.mul_one,vj]
theorem DU {i:Nat} (hi:i<c.sl.length) (e:En):(c.set i e).en i=e:=by rw [oe hi,qr rfl]
theorem JY (c:Ca) (i:Nat) (e e':En):(c.set i e).set i e'=c.set i e':=by unfold Ca.set;simp only [List.set_set]
theorem uY {i:Nat} (hi:i<c.sl.length):(c.use i).en i = { c.en i with u:=c.us+1 }:=by
 show (c.set i { c.en i with u:=c.us+1 }).en i=_;exact DU hi _
def pY (c:Ca) (a:Nat):AV:=match c.pos ((a / 8:Nat):Int) with
 | none=>.tuple [.int .u64 0,.int .i64 20]
 | some i=>.tuple [.int .u64 ((c.en i).d.get (a % 8)),.int .i64 0]
theorem q4c (hc:cF H b sv c) (hci:CI lines c) (hu:c.us+1<=1000000) {a:Nat} (ha:a<1000000):jm M Be [.ptr b 0,.int .i64 (a:Int)] H (CaQ H b sv (c.word a).1 (pY c a)):=by
 refine qw2 ?_;obtain ⟨w0,w2,w10,w12,w20⟩:=qw3 M ⟨none,Be⟩;have n0:¬ (a:Int)<0:=by omega
 have hk:a % 8<8:=Nat.mod_lt _ (by decide);simp only [↓qg,xb,reduceIte,reduceEqDiff,w0,w2,fA,n0,w10,ux ha];refine C3.q (D2 (M:=M) hc hci ((a / 8:Nat):Int) 0) λ v H1 ⟨hv,f1⟩=>?_;rw [hv];have h1:=hc.em f1;unfold xL pY Ca.word;rw [jF];cases hp:c.pos ((a / 8:Nat):Int) with
 | none =>
  have t20:¬ (20:Int)=0:=by decide
  simp only [↓qg,xb,reduceIte,reduceEqDiff,qt,w12,t20];exact ⟨rfl,h1,lM f1⟩
 | some i =>
  obtain ⟨-,hi,-⟩:=hci.aW hp;have t0:=xf (show (0:Int)=0 from rfl);simp only [↓qg,xb,reduceIte,reduceEqDiff,qt,w12,t0,w20];refine C3.q (MY (M:=M) h1 hu hi) λ _ H2 ⟨h2,f2⟩=>?_;have hi2:i<(c.use i).sl.length:=by show i<(c.sl.set i _).length;rw [xd];exact hi
  have ld:Op.aa [.ptr (aO sv) (cm 21 sv i+(4+a % 8))] H2=some (uW ((c.en i).d.get (a % 8))):=by
   rw [h2.ld hi2 (by omega),uY hi,BV _ _ hk]
  simp only [↓qg,xb,reduceIte,reduceEqDiff,Hv ha,qh,ixA i (a % 8) hk,ld];exact ⟨rfl,h2,od (lM f1) f2⟩
def Im (c:Ca) (a:Nat):AV:=match c.fP ((a / 8:Nat):Int) 2 with
 | none=>.int .i64 20
 | some _=>.int .i64 0
theorem q6z (hc:cF H b sv c) (hci:CI lines c) (hu:c.us+1<=1000000) {a:Nat} (ha:a<1000000) (y:Int):jm M BN [.ptr b 0,.int .i64 (a:Int),.int .u64 y] H (CaQ H b sv (c.put a y) (Im c a)):=by
 refine qyr ?_;obtain ⟨w0,w2,w10,w12,w20⟩:=qys M ⟨none,BN⟩;have n0:¬ (a:Int)<0:=by omega
 have hk:a % 8<8:=Nat.mod_lt _ (by decide);simp only [↓qg,xb,reduceIte,reduceEqDiff,w0,w2,fA,n0,w10,ux ha];refine C3.q (D2 (M:=M) hc hci ((a / 8:Nat):Int) 2) λ v H1 ⟨hv,f1⟩=>?_;rw [hv];have h1:=hc.em f1;unfold xL Im Ca.put;cases hp:c.fP ((a / 8:Nat):Int) 2 with
 | none =>
  have t20:¬ (20:Int)=0:=by decide
  simp only [↓qg,xb,reduceIte,reduceEqDiff,qt,w12,t20];exact ⟨rfl,h1,lM f1⟩
 | some i =>
  obtain ⟨-,hi,-⟩:=hci.aW (pZ hp).1;have t0:=xf (show (0:Int)=0 from rfl);simp only [↓qg,xb,reduceIte,reduceEqDiff,qt,w12,t0,w20];refine C3.q (MY (M:=M) h1 hu hi) λ _ H2 ⟨h2,f2⟩=>?_;have hi2:i<(c.use i).sl.length:=by show i<(c.sl.set i _).length;rw [xd];exact hi
  obtain ⟨H3,s3,h3,f3⟩:=h2.bU hi2 (j:=4+a % 8) (by omega) (u:=.int .u64 y) rfl (e:={ (c.use i).en i with d:=((c.use i).en i).d.put (a % 8) y }) (IB _ _ hk y);have e:(c.use i).set i { (c.use i).en i with d:=((c.use i).en i).d.put (a % 8) y } = { c with us:=c.us+1,sl:=c.sl.set i { c.en i with u:=c.us+1,d:=(c.en i).d.put (a % 8) y } }:=by
   rw [uY hi];unfold Ca.use Ca.set;simp only [List.set_set]
  rw [e] at h3;simp only [↓qg,xb,reduceIte,reduceEqDiff,Hv ha,qh,ixA i (a % 8) hk,s3];exact ⟨rfl,h3,od (od (lM f1) f2) (nY f3)⟩
theorem q3d (hc:cF H b sv c) (hci:CI lines c) (line:Int) (wr:Bool):jm M BG [.ptr b 0,.int .i64 line,.bool wr] H λ _ H'=>cF H' b sv (c.mark line wr)/\Fr (iG b sv) H H':=by
 refine qwz ?_;obtain ⟨w0,w2,w18,w8,w20,w14,w26⟩:=qw0 M ⟨none,BG⟩;have t20:¬ (20:Int)=0:=by decide
 have t0:=xf (show (0:Int)=0 from rfl);cases wr with
 | false =>
  simp only [↓qg,xb,reduceIte,reduceEqDiff,w0,w2];refine C3.q (D2 (M:=M) hc hci line 0) λ v H1 ⟨hv,f1⟩=>?_;rw [hv];have h1:=hc.em f1;unfold xL Ca.mark;rw [qf (by decide)];cases hp:c.fP line 0 with
  | none =>
   simp only [↓qg,xb,reduceIte,reduceEqDiff,qt,w8,t20,w14];exact ⟨h1,lM f1⟩
  | some i =>
   obtain ⟨-,hi,-⟩:=hci.aW (pZ hp).1;obtain ⟨H3,s3,h3,f3⟩:=h1.bU hi (j:=2) (by decide) (u:=.bool true) rfl (e:={ c.en i with r:=true }) rfl;simp only [↓qg,xb,reduceIte,reduceEqDiff,qt,w8,t0,qh,s3,w14];exact ⟨h3,od (lM f1) (nY f3)⟩
 | true =>
  simp only [↓qg,xb,reduceIte,reduceEqDiff,w0,w2,w18];refine C3.q (D2 (M:=M) hc hci line 2) λ v H1 ⟨hv,f1⟩=>?_;rw [hv];have h1:=hc.em f1;unfold xL Ca.mark;rw [qr rfl];cases hp:c.fP line 2 with
  | none =>
   simp only [↓qg,xb,reduceIte,reduceEqDiff,qt,w20,t20,w26];exact ⟨h1,lM f1⟩
  | some i =>
   obtain ⟨-,hi,-⟩:=hci.aW (pZ hp).1;have l3:Op.aa [.ptr (aO sv) (cm 21 sv i+3)] H1=some (.bool (c.en i).w):=h1.ld hi (by decide);dsimp only;cases hw:(c.en i).w with
   | true =>
    rw [qr rfl];rw [hw] at l3;simp only [↓qg,xb,reduceIte,reduceEqDiff,qt,w20,t0,qh,l3,w26];exact ⟨h1,lM f1⟩
   | false =>
    rw [qf (by decide)];rw [hw] at l3;obtain ⟨H3,s3,h3,f3⟩:=h1.bU hi (j:=3) (by decide) (u:=.bool true) rfl (e:={ c.en i with w:=true }) rfl;have hi3:i<(c.set i { c.en i with w:=true }).sl.length:=by show i<(c.sl.set i _).length;rw [xd];exact hi
    obtain ⟨H4,s4,h4,f4⟩:=h3.IU hi3 (j:=12) (n:=8) (u:=.agg (cK (c.en i).d)) (by rw [xx];exact iu _) (by rw [xx];exact rh _) (by decide) (e:={ (c.set i { c.en i with w:=true }).en i with o:=(c.en i).d }) (A8 _ _);rw [DU hi,JY] at h4;simp only [↓qg,xb,reduceIte,reduceEqDiff,qt,w20,t0,qh,l3,h1.ldD hi,s3,s4,w26];exact ⟨h4,od (od (lM f1) (nY f3)) (nY f4)⟩
def mB (c:Ca) (line:Int):AV:=.tuple [.agg (cK (c.bF line).2),match c.fP line 2 with|none=>.int .i64 20|some _=>.int .i64 0]
theorem q4w (hc:cF H b sv c) (hci:CI lines c) (line:Int):jm M DI [.ptr b 0,.int .i64 line] H λ v H'=>v=mB c line/\cF H' b sv (c.bF line).1/\Fr (iG b sv) H H':=by
 refine qsu ?_;obtain ⟨w0,w4,w12⟩:=qsv M ⟨none,DI⟩;have t20:¬ (20:Int)=0:=by decide
 have t0:=xf (show (0:Int)=0 from rfl);obtain ⟨H1,e1⟩:∃ X,X=H.alloc (OR (cK .zero) jf):=⟨_,rfl⟩
 have f1:Fr Em H H1:=by rw [e1];exact (Fr.refl H).alloc _
 have n1:H1.next=H.next+1:=by rw [e1,xl]
 have g1:H1.get H.next=some (OR (cK .zero) jf):=by rw [e1,qz]
 have hlt:=hc.lt;have hsb:aO sv<H.next:=hc.sl.lt
 simp only [↓qg,xb,reduceIte,reduceEqDiff,w0,lZ,<-e1];refine C3.q (D2 (M:=M) (hc.em f1) hci line 2) λ v H2 ⟨hv,f2⟩=>?_;rw [hv];have f12:Fr Em H H2:=f1.trans f2 λ _ q=>q.elim;have h2:=hc.em f12;have g2:H2.get H.next=some (OR (cK .zero) jf):=by rw [f2.ae _ (by omega) id];exact g1
 unfold xL mB Ca.bF;cases hp:c.fP line 2 with
 | none =>
  have st:=gY g2 (iu _) (iu .zero) (rh _);have ld:=fH (xe H2 H.next (OR (cK .zero) jf)) (iu _);have fs:Fr Em H (H2.set H.next (OR (cK .zero) jf)):=f12.set (.inr (qi _)) _;simp only [↓qg,xb,reduceIte,reduceEqDiff,qt,w4,t20,lZ,xP,st,ld];exact ⟨hc.em fs,lM fs⟩
 | some i =>
  obtain ⟨-,hi,-⟩:=hci.aW (pZ hp).1;obtain ⟨H3,s3,h3,f3⟩:=h2.bU hi (j:=1) (by decide) (u:=.int .i64 1) rfl (e:={ c.en i with st:=1 }) rfl;have hi3:i<(c.set i { c.en i with st:=1 }).sl.length:=by show i<(c.sl.set i _).length;rw [xd];exact hi
  have l3:=h3.ldD hi3;rw [DU hi] at l3;have n2:=f2.next
  have g3:H3.get H.next=some (OR (cK .zero) jf):=by rw [f3.ae _ (by omega) (λ (q:H.next=aO sv)=>by omega)];exact g2
  have st:=gY g3 (iu _) (iu (c.en i).d) (rh _);have ld:=fH (xe H3 H.next (OR (cK (c.en i).d) jf)) (iu _);have fo:Fr (On H.next) H3 (H3.set H.next (OR (cK (c.en i).d) jf)):=(Fr.refl H3).set (W:=On H.next) (.inl rfl) _;simp only [↓qg,xb,reduceIte,reduceEqDiff,qt,w4,t0,w12,qh,s3,l3,st,ld];exact ⟨h3.fr fo (λ (q:b=H.next)=>by omega) (λ (q:aO sv=H.next)=>by omega),(od (lM f12) (nY f3)).set (.inr (qi _)) _⟩
theorem q3t (hc:cF H b sv c) (hci:CI lines c) (line:Int) (x:L8):jm M Cq [.ptr b 0,.int .i64 line,.agg (cK x)] H λ _ H'=>cF H' b sv (c.bW line x)/\Fr (iG b sv) H H':=by
 refine qra ?_;obtain ⟨w0,w4,w10⟩:=qrb M ⟨none,Cq⟩;have t20:¬ (20:Int)=0:=by decide
 have t0:=xf (show (0:Int)=0 from rfl);obtain ⟨H1,e1⟩:∃ X,X=H.alloc (OR (cK x) jf):=⟨_,rfl⟩
 have f1:Fr Em H H1:=by rw [e1];exact (Fr.refl H).alloc _
 have n1:H1.next=H.next+1:=by rw [e1,xl]
 have g1:H1.get H.next=some (OR (cK x) jf):=by rw [e1,qz]
 have hlt:=hc.lt;have hsb:aO sv<H.next:=hc.sl.lt
 simp only [↓qg,xb,reduceIte,reduceEqDiff,w0,xx,<-e1];refine C3.q (D2 (M:=M) (hc.em f1) hci line 1) λ v H2 ⟨hv,f2⟩=>?_;rw [hv];have f12:Fr Em H H2:=f1.trans f2 λ _ q=>q.elim;have h2:=hc.em f12;have g2:H2.get H.next=some (OR (cK x) jf):=by rw [f2.ae _ (by omega) id];exact g1
 unfold xL Ca.bW;cases hp:c.fP line 1 with
 | none =>
  simp only [↓qg,xb,reduceIte,reduceEqDiff,qt,w4,t20,w10];exact ⟨h2,lM f12⟩
 | some i =>
  obtain ⟨-,hi,-⟩:=hci.aW (pZ hp).1;obtain ⟨H3,s3,h3,f3⟩:=h2.bU hi (j:=1) (by decide) (u:=.int .i64 2) rfl (e:={ c.en i with st:=2 }) rfl;have hi3:i<(c.set i { c.en i with st:=2 }).sl.length:=by show i<(c.sl.set i _).length;rw [xd];exact hi
  obtain ⟨H4,s4,h4,f4⟩:=h3.IU hi3 (j:=4) (n:=8) (u:=.agg (cK x)) (by rw [xx];exact iu _) (by rw [xx];exact rh _) (by decide) (e:={ (c.set i { c.en i with st:=2 }).en i with d:=x }) (BE _ _);rw [DU hi,JY] at h4;have n2:=f2.next
  have g3:H3.get H.next=some (OR (cK x) jf):=by rw [f3.ae _ (by omega) (λ (q:H.next=aO sv)=>by omega)];exact g2
  simp only [↓qg,xb,reduceIte,reduceEqDiff,qt,w4,t0,qh,fH g2 (iu x),s3,fH g3 (iu x),s4,w10];exact ⟨h4,od (od (lM f12) (nY f3)) (nY f4)⟩
def pM (c:Ca) (line:Int):AV:=.tuple [.agg (av (c.drop line).2),match c.fP line 0 with|none=>.int .i64 20|some _=>.int .i64 0]
theorem M7 (hc:cF H b sv c) (hci:CI lines c) (line:Int):jm M xI [.ptr b 0,.int .i64 line] H λ v H'=>v=pM c line/\cF H' b sv (c.drop line).1/\Fr (iG b sv) H H':=by
 refine qwq ?_;obtain ⟨w0,w4,w12⟩:=qwr M ⟨none,xI⟩;have t20:¬ (20:Int)=0:=by decide
 have t0:=xf (show (0:Int)=0 from rfl);obtain ⟨H1,e1⟩:∃ X,X=H.alloc (OR (av .zero) qu):=⟨_,rfl⟩
 have f1:Fr Em H H1:=by rw [e1];exact (Fr.refl H).alloc _
 have n1:H1.next=H.next+1:=by rw [e1,xl]
 have g1:H1.get H.next=some (OR (av .zero) qu):=by rw [e1,qz]
 have hlt:=hc.lt;have hsb:aO sv<H.next:=hc.sl.lt
 simp only [↓qg,xb,reduceIte,reduceEqDiff,w0,eZ,<-e1];refine C3.q (D2 (M:=M) (hc.em f1) hci line 0) λ v H2 ⟨hv,f2⟩=>?_;rw [hv];have f12:Fr Em H H2:=f1.trans f2 λ _ q=>q.elim;have h2:=hc.em f12;have n2:=f2.next
 have g2:H2.get H.next=some (OR (av .zero) qu):=by rw [f2.ae _ (by omega) id];exact g1
 unfold xL pM Ca.drop;cases hp:c.fP line 0 with
 | none =>
  have st:=gY g2 (zn _) (zn .zero) (mU _);have ld:=fH (xe H2 H.next (OR (av .zero) qu)) (zn _);have fs:Fr Em H (H2.set H.next (OR (av .zero) qu)):=f12.set (.inr (qi _)) _;simp only [↓qg,xb,reduceIte,reduceEqDiff,qt,w4,t20,eZ,xP,st,ld];exact ⟨hc.em fs,lM fs⟩
 | some i =>
  obtain ⟨-,hi,-⟩:=hci.aW (pZ hp).1;obtain ⟨H3,e3⟩:∃ X,X=H2.alloc (OR (av .zero) qu):=⟨_,rfl⟩
  have f3:Fr Em H2 H3:=by rw [e3];exact (Fr.refl H2).alloc _
  have n3:H3.next=H2.next+1:=by rw [e3,xl]
  have g3:H3.get H2.next=some (OR (av .zero) qu):=by rw [e3,qz]
  have s4:=gY g3 (zn _) (zn (c.en i)) (mU _);obtain ⟨H4,e4⟩:∃ X,X=H3.set H2.next (OR (av (c.en i)) qu):=⟨_,rfl⟩
  rw [<-e4] at s4;have f4:Fr (On H2.next) H3 H4:=by rw [e4];exact (Fr.refl H3).set (W:=On H2.next) (.inl rfl) _
  have h4:=(h2.em f3).fr f4 (λ (q:b=H2.next)=>by omega) (λ (q:aO sv=H2.next)=>by omega);obtain ⟨H5,s5,h5,f5⟩:=h4.stE hi .zero;have g5:H5.get H2.next=some (OR (av (c.en i)) qu):=by rw [f5.ae _ (by rw [e4];show H2.next<H3.next;omega) (λ (q:H2.next=aO sv)=>by omega),e4,xe]
  have l5:=fH g5 (zn (c.en i));have g5':H5.get H.next=some (OR (av .zero) qu):=by rw [f5.ae _ (by rw [e4];show H.next<H3.next;omega) (λ (q:H.next=aO sv)=>by omega),f4.ae _ (by omega) (λ (q:H.next=H2.next)=>by omega),f3.ae _ (by omega) id];exact g2
  have s6:=gY g5' (zn _) (zn (c.en i)) (mU _);have ld:=fH (xe H5 H.next (OR (av (c.en i)) qu)) (zn _);have fo:Fr (On H.next) H5 (H5.set H.next (OR (av (c.en i)) qu)):=(Fr.refl H5).set (W:=On H.next) (.inl rfl) _;have f04:Fr (iG b sv) H H4:=(od (lM f12) (lM f3)).trans f4 λ x (q:x=H2.next)=>.inr (by omega);simp only [↓qg,xb,reduceIte,reduceEqDiff,qt,w4,t0,w12,qh,h2.Kk hi,eZ,<-e3,s4,xP,s5,l5,s6,ld];exact ⟨h5.fr fo (λ (q:b=H.next)=>by omega) (λ (q:aO sv=H.next)=>by omega),(od f04 (nY f5)).set (.inr (qi _)) _⟩
end
end Go.Am
namespace Go.Am
open Go.Proofs Ca
variable {M:aM} [MK M]
def kA (sv:AV) (o:Option Nat):AV:=match o with
 | none=>.nilp
 | some i=>eA sv i
theorem uj (sv:AV) (o:Option Nat):bm (kA sv o)=true:=by cases o<;>rfl
theorem tt {Hx:AHeap} {t d e:Nat} {x:AV} {o:bL} (g:Hx.get t=some (OR [x] e)) (hd:d ≠ t):Op.aa [.ptr t 0] (Hx.set d o)=some x:=by
 have g':(Hx.set d o).get t=some (OR [x] e):=by rw [ww hd];exact g
 exact ze (xc g') 0
structure LX (c:Ca) (sv:AV) (line:Int) (t u:Nat) (i:Nat) (V:Nat->Prop) (Hx:AHeap):Prop where
 vt:V t
 vu:V u
 g:Hx.get t=some (OR [.nilp] jk)
 gu:Hx.get u=some (OR [kA sv ((c.dW line i).map (c.fr line + ·))] jk)
 lt:t<Hx.next
 Nr:u<Hx.next
 no:∀ k,k<i->c.free line k=false
structure Mx (c:Ca) (sv:AV) (line:Int) (t:Nat) (V:Nat->Prop) (Hx:AHeap):Prop where
 vt:V t
 ex:∃ k,k<c.ways/\cr (c.free line) c.ways=some k/\Hx.get t=some (OR [eA sv (c.fr line+k)] jk)
 lt:t<Hx.next
section
variable {H:AHeap} {b:Nat} {sv:AV} {c:Ca} {lines line:Int}
theorem xbj (hc:cF H b sv c) (hci:CI lines c) (hl:0<=line):jm M zD [.ptr b 0,.int .i64 line] H λ v H'=>v=kA sv (c.room line)/\Fr Em H H':=by
 refine qw7 ?_;obtain ⟨w0,wa,wb,w2,wb9,w3,wb15,w5,w7,w12⟩:=qof M ⟨none,zD⟩;obtain ⟨H1,e1⟩:∃ X,X=H.alloc (OR [.nilp] jk):=⟨_,rfl⟩
 obtain ⟨H2,e2⟩:∃ X,X=H1.alloc (OR [.nilp] jk):=⟨_,rfl⟩
 have f1:Fr Em H H1:=by rw [e1];exact (Fr.refl H).alloc _
 have f12:Fr Em H1 H2:=by rw [e2];exact (Fr.refl H1).alloc _
 have f2:Fr Em H H2:=f1.trans f12 λ _ q=>q.elim;have n1:H1.next=H.next+1:=by rw [e1,xl]
 have n2:H2.next=H.next+2:=by rw [e2,xl,n1]
 have g1:H2.get H.next=some (OR [.nilp] jk):=by rw [f12.ae _ (by omega) id,e1,qz]
 have g2:H2.get (H.next+1)=some (OR [.nilp] jk):=by rw [e2,<-n1,qz]
 simp only [↓qg,xb,reduceIte,reduceEqDiff,w0,<-e1,w2,w3,<-e2,n1,w5,w7];refine C3.q (q64 (M:=M) b line) λ v H5 ⟨hv,hh⟩=>?_;obtain ⟨H3,e3⟩:∃ X,X=H2.alloc (OR [.ptr b 0] vx):=⟨_,rfl⟩
 obtain ⟨H4,e4⟩:∃ X,X=H3.alloc (OR [.int .i64 line] cJ):=⟨_,rfl⟩
 rw [<-e3,<-e4] at hh;rw [hv,hh];have f23:Fr Em H2 H3:=by rw [e3];exact (Fr.refl H2).alloc _
 have f34:Fr Em H3 H4:=by rw [e4];exact (Fr.refl H3).alloc _
 have f24:Fr Em H2 H4:=f23.trans f34 λ _ q=>q.elim;have f4:Fr Em H H4:=f2.trans f24 λ _ q=>q.elim;have n3:H3.next=H.next+3:=by rw [e3,xl,n2]
 have n4:H4.next=H.next+4:=by rw [e4,xl,n3]
 have g3:H4.get H2.next=some (OR [.ptr b 0] vx):=by rw [f34.ae _ (by omega) id,e3,qz]
 have g4:H4.get (H2.next+1)=some (OR [.int .i64 line] cJ):=by rw [show H2.next+1=H3.next by omega,e4,qz]
 have hc4:=hc.em f4;have hlt:=hc.lt;have hsb:aO sv<H.next:=hc.sl.lt
 have hset:jY c sv line=(List.range c.ways).map λ k=>[eA sv (c.fr line+k)]:=by unfold jY;rw [qf (by omega)]
 refine eS.iter (fn:=B0) (lp:=Ch) (pa:=qmr 0) (pb:=A0 0) qud qld.1 qld.2 (by decide) ⟨rfl,rb Ch.assign⟩ ⟨rfl,rb Ch.body⟩
  (q31 (M:=M) hc4 hci g3 g4 (by omega) (by omega)) (λ i V Hx=>LX c sv line H.next (H.next+1) i V Hx) (λ e V Hx=>e=.ret/\Mx c sv line H.next V Hx) (λ x=>x=H.next\/x=H.next+1) (qi _) ?_ ?_ ?_ ?_ ?_ ?_ ?_ ?_
 ·rintro x ((q|q|q) | q)
  ·exact ⟨by omega,rfl,by omega⟩
  ·exact ⟨by omega,rfl,by omega⟩
  ·exact ⟨by omega,rfl,by omega⟩
  ·exact q.elim
 ·exact λ x hx=>by omega
 ·exact ⟨.inl rfl,.inr rfl,by rw [f24.ae _ (by omega) id];exact g1,by rw [f24.ae _ (by omega) id];exact g2,by omega,by omega,λ k hk=>by omega⟩
 ·exact λ i V Ha Hb h hs hn=>⟨h.vt,h.vu,by rw [hs _ h.vt];exact h.g,by rw [hs _ h.vu];exact h.gu,qp h.lt hn,qp h.Nr hn,h.no⟩
 ·rintro e V Ha Hb ⟨he,h⟩ hs hn;obtain ⟨k,k1,k2,k3⟩:=h.ex;exact ⟨he,h.vt,⟨k,k1,k2,by rw [hs _ h.vt];exact k3⟩,qp h.lt hn⟩
 ·intro L2 i lr lb x hx hL2 V H6 hP hV hf6 hnL hL6 hgL;rw [hset,xn,xg] at hx;obtain ⟨y,hy,rfl⟩:=hx;have hiw:i<c.ways:=by have:=(qm.1 hy).1;rw [yj] at this;exact this
  rw [vn hiw] at hy;injection hy with hy;subst hy
  refine ⟨_,rfl,?_⟩;obtain ⟨-,wa,wb,-,wb9,-,wb15,-⟩:=qof M ⟨some L2,zD⟩;simp only [↓qg,xb,reduceIte,reduceEqDiff,wa,Fc];refine ⟨hgL,?_⟩;have fx:Fr (On L2) H6 (H6.set L2 lb):=(Fr.refl H6).set (W:=On L2) (.inl rfl) _;have gL:(H6.set L2 lb).get L2=some lb:=xe ..;have nL:(H6.set L2 lb).next=H6.next:=rfl
  have hc6:cF H6 b sv c:=hc4.fr hf6 (λ q=>q.elim (λ q=>by omega) id) (λ q=>q.elim (λ q=>by omega) id);have h7:cF (H6.set L2 lb) b sv c:=hc6.fr fx (λ (q:b=L2)=>by omega) (λ (q:aO sv=L2)=>by omega);have hLt:L2 ≠ H.next:=λ q=>hnL (by rw [q];exact hP.vt)
  have hLu:L2 ≠ H.next+1:=λ q=>hnL (by rw [q];exact hP.vu)
  have hgt:(H6.set L2 lb).get H.next=some (OR [.nilp] jk):=by rw [ww hLt];exact hP.g
  have hgu:(H6.set L2 lb).get (H.next+1)=some (OR [kA sv ((c.dW line i).map (c.fr line + ·))] jk):=by rw [ww hLu];exact hP.gu
  generalize H6.set L2 lb=H7 at *;have hi:=hci.gk line hiw;obtain ⟨e,he⟩:∃ e,e=c.en (c.fr line+i):=⟨_,rfl⟩
  have l1:Op.aa [.ptr (aO sv) (cm 21 sv (c.fr line+i)+1)] H7=some (.int .i64 e.st):=by rw [he];exact h7.ld hi (k:=1) (by decide)
  have l2:Op.aa [.ptr (aO sv) (cm 21 sv (c.fr line+i)+2)] H7=some (.bool e.r):=by rw [he];exact h7.ld hi (k:=2) (by decide)
  have l3:Op.aa [.ptr (aO sv) (cm 21 sv (c.fr line+i)+3)] H7=some (.bool e.w):=by rw [he];exact h7.ld hi (k:=3) (by decide)
  have enc20:∀ e:En,(av e)[20]? = some (.int .i64 e.u):=λ e=>by
   obtain ⟨line,st,r,w,⟨d,hd⟩,⟨o,ho⟩,u⟩:=e
   match d,hd,o,ho with
   | [d0,d1,d2,d3,d4,d5,d6,d7],_,[o0,o1,o2,o3,o4,o5,o6,o7],_=>rfl
  have l20:∀ k,c.fr line+k<c.sl.length->Op.aa [.ptr (aO sv) (cm 21 sv (c.fr line+k)+20)] H7=some (.int .i64 (c.en (c.fr line+k)).u):=λ k hk=>by rw [h7.ld hk (k:=20) (by decide),enc20]
  have hfree:c.free line i=(e.st == 0):=by rw [he];rfl
  have no':e.st ≠ 0 -> ∀ k,k<i+1->c.free line k=false:=λ h0 k hk=>by
   by_cases q:k=i
   ·rw [q,hfree];simp [h0]
   ·exact hP.no k (by omega)
  have lu:Op.aa [.ptr (H.next+1) 0] H7=some (kA sv ((c.dW line i).map (c.fr line + ·))):=ze (xc hgu) 0;have hbe:c.dW line (i+1)=if e.r || e.w then c.dW line i else match c.dW line i with
   | none=>some i
   | some j=>if e.u<(c.en (c.fr line+j)).u then some i else some j:=by rw [he];rfl
  -- it stays as it is
  have stay:e.st ≠ 0->c.dW line (i+1)=c.dW line i->HU (λ V Hx=>LX c sv line H.next (H.next+1) (i+1) V Hx) (λ e V Hx=>e=.ret/\Mx c sv line H.next V Hx) L2 lb V H6 .normal [] [] H7:=λ h0 hb =>
   ⟨rfl,gL,V,λ b hb=>⟨by rw [nL];exact (hV b hb).1,.inl hb⟩,fx.mono λ x _ q=>.inr q,.inl ⟨rfl,hP.vt,hP.vu,hgt,by rw [hb];exact hgu,by rw [nL];exact hP.lt,by rw [nL];exact hP.Nr,no' h0⟩⟩
  -- this one is taken
  obtain ⟨H8,e8⟩:∃ X,X=H7.set (H.next+1) (OR [eA sv (c.fr line+i)] jk):=⟨_,rfl⟩
  have st:=FQ hgu (u:=eA sv (c.fr line+i)) rfl;rw [<-e8] at st;have take:e.st ≠ 0->c.dW line (i+1)=some i->HU (λ V Hx=>LX c sv line H.next (H.next+1) (i+1) V Hx) (λ e V Hx=>e=.ret/\Mx c sv line H.next V Hx) L2 lb V H6 .normal [] [] H8:=λ h0 hb =>
   ⟨rfl,by rw [e8,ww (wh hLu)];exact gL,V,λ b hb=>⟨by rw [e8];show b<H7.next;rw [nL];exact (hV b hb).1,.inl hb⟩,by rw [e8];exact (fx.mono λ x _ q=>.inr q).set (.inl (.inl hP.vu)) _,.inl ⟨rfl,hP.vt,hP.vu,by rw [e8,ww (by omega)];exact hgt,by rw [e8,xe,hb];rfl,by rw [e8];show H.next<H7.next;rw [nL];exact hP.lt,by rw [e8];show H.next+1<H7.next;rw [nL];exact hP.Nr,no' h0⟩⟩
  by_cases q1:e.st=0
  ·have stt:=FQ hgt (u:=eA sv (c.fr line+i)) rfl;simp only [↓qg,xb,reduceIte,reduceEqDiff,wb,qh,l1,xf q1,stt];refine ⟨rfl,?_,V,?_,?_,.inr ⟨trivial,rfl,hP.vt,⟨i,hiw,E4 hiw (by rw [hfree];simp [q1]) hP.no,xe ..⟩,?_⟩⟩
   ·rw [ww (wh hLt)];exact gL
   ·exact λ b hb=>⟨by show b<H7.next;rw [nL];exact (hV b hb).1,.inl hb⟩
   ·exact (fx.mono λ x _ q=>.inr q).set (.inl (.inl hP.vt)) _
   ·show H.next<H7.next;rw [nL];exact hP.lt
  cases hr:e.r with
  | true =>
   rw [hr] at l2;simp only [↓qg,xb,reduceIte,reduceEqDiff,wb,qh,l1,q1,wb9,l2];exact stay q1 (by rw [hbe,hr];rfl)
  | false =>
   rw [hr] at l2;cases hw:e.w with
   | true =>
    rw [hw] at l3;simp only [↓qg,xb,reduceIte,reduceEqDiff,wb,qh,l1,q1,wb9,l2,l3];exact stay q1 (by rw [hbe,hr,hw];rfl)
   | false =>
    rw [hw] at l3;rw [hr,hw] at hbe;cases hb:c.dW line i with
    | none =>
     rw [hb] at lu hbe;have lu:Op.aa [.ptr (H.next+1) 0] H7=some .nilp:=lu;simp only [↓qg,xb,reduceIte,reduceEqDiff,wb,qh,l1,q1,wb9,l2,l3,wb15,lu,IQ,st];exact take q1 hbe
    | some j =>
     rw [hb] at lu hbe;have lu:Op.aa [.ptr (H.next+1) 0] H7=some (eA sv (c.fr line+j)):=lu;have hj:=(JR hb).1;have a1:=l20 i hi;rw [<-he] at a1;have a2:=l20 j (hci.gk line (by omega))
     by_cases q:e.u<(c.en (c.fr line+j)).u
     ·simp only [↓qg,xb,reduceIte,reduceEqDiff,wb,qh,l1,q1,wb9,l2,l3,wb15,lu,yh,a1,a2,q,st];exact take q1 (by rw [hbe];simp [q])
     ·simp only [↓qg,xb,reduceIte,reduceEqDiff,wb,qh,l1,q1,wb9,l2,l3,wb15,lu,yh,a1,a2,q];exact stay q1 (by rw [hbe,hb];simp [q])
 ·intro d V Hd hd1 hd2 hgd hfd hVd hP;have hno:=hP.no;have hgu:=hP.gu;rw [hset,zd,yj] at hno hgu;have lu:Op.aa [.ptr (H.next+1) 0] Hd=some (kA sv ((c.dW line c.ways).map (c.fr line + ·))):=ze (xc hgu) 0;have st:=FQ hP.g (u:=kA sv ((c.dW line c.ways).map (c.fr line + ·))) (uj ..);have hdt:d ≠ H.next:=λ q=>by have:=(hVd _ hP.vt).2.2;omega
  have gd:(Hd.set H.next (OR [kA sv ((c.dW line c.ways).map (c.fr line + ·))] jk)).get d=some (.deferred (some [])):=by rw [ww (wh hdt)];exact hgd
  have rd:Op.aa [.ptr H.next 0] ((Hd.set H.next (OR [kA sv ((c.dW line c.ways).map (c.fr line + ·))] jk)).set d (.deferred none))=some (kA sv ((c.dW line c.ways).map (c.fr line + ·))):=tt (xe ..) hdt;have hroom:c.room line=(c.dW line c.ways).map (c.fr line + ·):=by
   unfold Ca.room;rw [DG hno]
  rw [<-hroom] at lu st gd rd;simp only [↓qg,xb,reduceIte,reduceEqDiff,w12,lu,st,uV,Ba,rd];refine ⟨gd,?_⟩;exact (((f4.trans (W':=λ x=>(x=H.next\/x=H.next+1)\/False) hfd λ x q=>q.elim (λ q=>.inr (by omega)) False.elim).set (.inr (by omega)) _).set (.inr (by omega)) _)
 ·rintro e d V Hd hj hd1 hd2 hgd hfd hVd ⟨he,hS⟩;subst he;obtain ⟨k,k1,k2,k3⟩:=hS.ex;have hdt:d ≠ H.next:=λ q=>by have:=(hVd _ hS.vt).2.2;omega
  have rd:Op.aa [.ptr H.next 0] (Hd.set d (.deferred none))=some (eA sv (c.fr line+k)):=tt k3 hdt;have hroom:c.room line=some (c.fr line+k):=by unfold Ca.room;rw [k2]
  simp only [↓qg,xb,reduceIte,reduceEqDiff,uV,Ba,rd];refine ⟨hgd,by rw [hroom];rfl,?_⟩;exact ((f4.trans (W':=λ x=>(x=H.next\/x=H.next+1)\/False) hfd λ x q=>q.elim (λ q=>.inr (by omega)) False.elim).set (.inr (by omega)) _)
end
end Go.Am
namespace Go.Am
open Go.Proofs Ca
variable {M:aM} [MK M]
theorem bdE (line st:Int) (x:L8):Op.build (av .zero) [(0,1),(1,1),(4,8)] [.int .i64 line,.int .i64 st,.agg (cK x)]=some (.agg (av ⟨line,st,false,false,x,.zero,0⟩)):=by
 obtain ⟨x,hx⟩:=x
 match x,hx with
 | [x0,x1,x2,x3,x4,x5,x6,x7],_=>rfl
def jD (c:Ca) (line st:Int) (x:L8):AV:=.tuple [.agg (av (c.fill line st x).2.1),.bool (decide ((c.fill line st x).2.2=0/\(c.fill line st x).2.1.st ≠ 0)),.int .i64 (c.fill line st x).2.2]
section
variable {H:AHeap} {b:Nat} {sv:AV} {c:Ca} {lines line:Int}
theorem q21 (hc:cF H b sv c) (hci:CI lines c) (hu:c.us+1<=1000000) (hl:0<=line) {st:Int} (hst:st=1\/st=2) (x:L8) :
 jm M wV [.ptr b 0,.int .i64 line,.int .i64 st,.agg (cK x)] H λ v H'=>v=jD c line st x/\cF H' b sv (c.fill line st x).1/\Fr (iG b sv) H H':=by
 refine qwt ?_;obtain ⟨w0,w2,w23,w16,w25,w33⟩:=qwu M ⟨none,wV⟩;obtain ⟨H1,e1⟩:∃ X,X=H.alloc (OR (cK x) jf):=⟨_,rfl⟩
 obtain ⟨H2,e2⟩:∃ X,X=H1.alloc (OR (av .zero) qu):=⟨_,rfl⟩
 have f1:Fr Em H H1:=by rw [e1];exact (Fr.refl H).alloc _
 have f12:Fr Em H1 H2:=by rw [e2];exact (Fr.refl H1).alloc _
 have f2:Fr Em H H2:=f1.trans f12 λ _ q=>q.elim;have n1:H1.next=H.next+1:=by rw [e1,xl]
 have n2:H2.next=H.next+2:=by rw [e2,xl,n1]
 have g1:H2.get H.next=some (OR (cK x) jf):=by rw [f12.ae _ (by omega) id,e1,qz]
 have g2:H2.get (H.next+1)=some (OR (av .zero) qu):=by rw [e2,<-n1,qz]
 have nl:¬ line<0:=by omega
 have hlt:=hc.lt;have hsb:aO sv<H.next:=hc.sl.lt
 -- an error
 have err:∀ {Hx:AHeap} (k:Int),Fr Em H2 Hx->k ≠ 0->(c.fill line st x).2.2=k->(c.fill line st x).1=c->(c.fill line st x).2.1=.zero ->
  Op.store 21 [.ptr (H.next+1) 0,.agg (av .zero)] Hx=some (.undef,Hx.set (H.next+1) (OR (av .zero) qu))/\Op.ao 21 [.ptr (H.next+1) 0] (Hx.set (H.next+1) (OR (av .zero) qu))=some (.agg (av .zero)) /\
  (AV.tuple [.agg (av .zero),.bool false,.int .i64 k]=jD c line st x/\cF (Hx.set (H.next+1) (OR (av .zero) qu)) b sv (c.fill line st x).1/\Fr (iG b sv) H (Hx.set (H.next+1) (OR (av .zero) qu))):=by
  intro Hx k f hk h1 h2 h3;have gx:Hx.get (H.next+1)=some (OR (av .zero) qu):=by rw [f.ae _ (by omega) id];exact g2
  have fs:Fr Em H (Hx.set (H.next+1) (OR (av .zero) qu)):=(f2.trans f λ _ q=>q.elim).set (.inr (by omega)) _;refine ⟨gY gx (zn _) (zn .zero) (mU _),fH (xe ..) (zn _),?_,by rw [h2];exact hc.em fs,lM fs⟩;unfold jD;rw [h1,h3];simp [hk]
 have k16:∀ {q:AV},W M ⟨none,wV⟩ (j2 16) true (aI 0 (ak (W M ⟨none,wV⟩ (j2 23)) (aL M [.cz 21 8,.tmp 9,.tmp 10] (lF λ v H'=>v=jD c line st x/\cF H' b sv (c.fill line st x).1/\Fr (iG b sv) H H'))))
  [(21,q),(10,.int .i64 0),(9,.bool false),(8,.ptr (H.next+1) 0),(7,.ptr H.next 0),(0,.ptr b 0),(1,.int .i64 line),(2,.int .i64 st),(3,.agg (cK x))] [] H2:=by
  intro q;simp only [↓qg,xb,reduceIte,reduceEqDiff,w16];refine C3.q (K7 (M:=M) (line:=line) (hc.em f2) hci) λ v H3 ⟨hv,f3⟩=>?_;rw [hv];unfold ou;cases hp:c.pos line with
  | some i =>
   obtain ⟨s1,s2,s3⟩:=err 21 f3 (by decide) (by unfold Ca.fill;rw [hp]) (by unfold Ca.fill;rw [hp]) (by unfold Ca.fill;rw [hp]);simp only [↓qg,xb,reduceIte,reduceEqDiff,fA,eZ,xP,s1,s2];exact s3
  | none =>
   simp only [↓qg,xb,reduceIte,reduceEqDiff,nD,w23];have f03:=f2.trans f3 λ _ q=>q.elim;refine C3.q (xbj (M:=M) (hc.em f03) hci hl) λ v H4 ⟨hv,f4⟩=>?_;rw [hv];have f24:=f3.trans f4 λ _ q=>q.elim;cases hr:c.room line with
   | none =>
    obtain ⟨s1,s2,s3⟩:=err 22 f24 (by decide) (by unfold Ca.fill;rw [hp,hr]) (by unfold Ca.fill;rw [hp,hr]) (by unfold Ca.fill;rw [hp,hr]);unfold kA;simp only [↓qg,xb,reduceIte,reduceEqDiff,w25,IQ,eZ,xP,s1,s2];exact s3
   | some i =>
    obtain ⟨k,k1,k2,-⟩:=JW hr;have hi:i<c.sl.length:=by rw [k2];exact hci.gk line k1
    have f04:=f2.trans f24 λ _ q=>q.elim;have h4:=hc.em f04;have n4:=f24.next
    obtain ⟨H5,e5⟩:∃ X,X=H4.alloc (OR (av .zero) qu):=⟨_,rfl⟩
    have f5:Fr Em H4 H5:=by rw [e5];exact (Fr.refl H4).alloc _
    have n5:H5.next=H4.next+1:=by rw [e5,xl]
    have g5:H5.get H4.next=some (OR (av .zero) qu):=by rw [e5,qz]
    have s6:=gY g5 (zn _) (zn (c.en i)) (mU _);obtain ⟨H6,e6⟩:∃ X,X=H5.set H4.next (OR (av (c.en i)) qu):=⟨_,rfl⟩
    rw [<-e6] at s6;have f6:Fr (On H4.next) H5 H6:=by rw [e6];exact (Fr.refl H5).set (W:=On H4.next) (.inl rfl) _
    have n6:H6.next=H4.next+1:=by rw [e6];exact n5
    have g6:H6.get H4.next=some (OR (av (c.en i)) qu):=by rw [e6,xe]
    have h6:cF H6 b sv c:=(h4.em f5).fr f6 (λ (q:b=H4.next)=>by omega) (λ (q:aO sv=H4.next)=>by omega);have g6l:H6.get H.next=some (OR (cK x) jf):=by rw [f6.ae _ (by omega) (λ (q:H.next=H4.next)=>by omega),f5.ae _ (by omega) id,f24.ae _ (by omega) id];exact g1
    have g6r:H6.get (H.next+1)=some (OR (av .zero) qu):=by rw [f6.ae _ (by omega) (λ (q:H.next+1=H4.next)=>by omega),f5.ae _ (by omega) id,f24.ae _ (by omega) id];exact g2
    obtain ⟨H7,s7,h7,f7⟩:=h6.stE hi ⟨line,st,false,false,x,.zero,0⟩;have hi7:i<(c.set i ⟨line,st,false,false,x,.zero,0⟩).sl.length:=by show i<(c.sl.set i _).length;rw [xd];exact hi
    have l6:=fH g6l (iu x);unfold kA;simp only [↓qg,xb,reduceIte,reduceEqDiff,w25,yh,w33,qh,h4.Kk hi,eZ,<-e5,s6,l6,bdE,s7];refine C3.q (MY (M:=M) h7 hu hi7) λ _ H8 ⟨h8,f8⟩=>?_;have f68:Fr (iG b sv) H6 H8:=od (nY f7) f8;have nW:∀ y,H.next<=y -> ¬ iG b sv y:=λ y hy q=>q.elim (λ q=>by omega) λ q=>by omega
    have g8:H8.get H4.next=some (OR (av (c.en i)) qu):=by rw [f68.ae _ (by omega) (nW _ (by omega))];exact g6
    have g8r:H8.get (H.next+1)=some (OR (av .zero) qu):=by rw [f68.ae _ (by omega) (nW _ (by omega))];exact g6r
    have l8:=fH g8 (zn (c.en i));have l81:Op.aa [.ptr H4.next 1] H8=some (.int .i64 (c.en i).st):=ze (xc g8) 1;have s9:=gY g8r (zn _) (zn (c.en i)) (mU _);have g9:(H8.set (H.next+1) (OR (av (c.en i)) qu)).get H4.next=some (OR (av (c.en i)) qu):=by rw [ww (by omega)];exact g8
    have l91:Op.aa [.ptr H4.next 1] (H8.set (H.next+1) (OR (av (c.en i)) qu))=some (.int .i64 (c.en i).st):=ze (xc g9) 1;have l9:=fH (xe H8 (H.next+1) (OR (av (c.en i)) qu)) (zn (c.en i));have ef:c.fill line st x=({ c with us:=c.us+1,sl:=c.sl.set i ⟨line,st,false,false,x,.zero,c.us+1⟩ },c.en i,0):=by unfold Ca.fill;rw [hp,hr]
    have eu:(c.set i ⟨line,st,false,false,x,.zero,0⟩).use i = { c with us:=c.us+1,sl:=c.sl.set i ⟨line,st,false,false,x,.zero,c.us+1⟩ }:=by
     unfold Ca.use;rw [DU hi];unfold Ca.set;simp only [List.set_set]
    rw [eu] at h8;have fo:Fr (On (H.next+1)) H8 (H8.set (H.next+1) (OR (av (c.en i)) qu)):=(Fr.refl H8).set (W:=On (H.next+1)) (.inl rfl) _;have f08:Fr (iG b sv) H H8:=od ((od (lM f04) (lM f5)).trans f6 λ y (q:y=H4.next)=>.inr (by omega)) f68;have end_:cF (H8.set (H.next+1) (OR (av (c.en i)) qu)) b sv (c.fill line st x).1/\Fr (iG b sv) H (H8.set (H.next+1) (OR (av (c.en i)) qu)):=by
     rw [ef];exact ⟨h8.fr fo (λ (q:b=H.next+1)=>by omega) (λ (q:aO sv=H.next+1)=>by omega),f08.set (.inr (by omega)) _⟩
    by_cases h0:(c.en i).st=0
    ·simp only [↓qg,xb,reduceIte,reduceEqDiff,l8,l81,xf h0,s9,l91,l9];refine ⟨?_,end_⟩;unfold jD;rw [ef];simp [h0]
    ·simp only [↓qg,xb,reduceIte,reduceEqDiff,l8,l81,h0,s9,l91,l9];refine ⟨?_,end_⟩;unfold jD;rw [ef];simp [h0]
 rcases hst with rfl|rfl
 ·have t1:=xf (show (1:Int)=1 from rfl);simp only [↓qg,xb,reduceIte,reduceEqDiff,w0,xx,<-e1,n1,eZ,<-e2,w2,yh,nl,t1];exact k16
 ·have t1:¬ (2:Int)=1:=by decide
  have t2:=xf (show (2:Int)=2 from rfl);simp only [↓qg,xb,reduceIte,reduceEqDiff,w0,xx,<-e1,n1,eZ,<-e2,w2,yh,nl,t1,t2];exact k16
end
end Go.Am
