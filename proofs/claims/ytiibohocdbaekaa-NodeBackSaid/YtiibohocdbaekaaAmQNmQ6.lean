/- NmQ6: NhC NhD NhE. -/
import Derived.Test.YtiibohocdbaekaaAmQNmQ5
import Derived.Test.YtiibohocdbaekaaAmQNmQ0
set_option linter.unusedVariables false
set_option linter.unusedSimpArgs false
set_option linter.unusedSectionVars false
set_option maxRecDepth 100000
namespace Go.Am
open Go.Proofs Ca
variable {M:Mac} [MK M]
theorem enc_d (e:En) (k:Nat) (hk:k<8) (y:Int):encE { e with d:=e.d.put k y } = (encE e).set (4+k) (uW y):=by
 obtain ⟨line,st,r,w,⟨d,hd⟩,⟨o,ho⟩,u⟩:=e
 match d,hd,o,ho with
 | [d0,d1,d2,d3,d4,d5,d6,d7],_,[o0,o1,o2,o3,o4,o5,o6,o7],_ =>
  rcases (show k=0\/k=1\/k=2\/k=3\/k=4\/k=5\/k=6\/k=7 by omega) with rfl|rfl|rfl|rfl|rfl|rfl|rfl|rfl<;>rfl
theorem enc_at (e:En) (k:Nat) (hk:k<8):(encE e)[4+k]? = some (uW (e.d.get k)):=by
 obtain ⟨line,st,r,w,⟨d,hd⟩,⟨o,ho⟩,u⟩:=e
 match d,hd,o,ho with
 | [d0,d1,d2,d3,d4,d5,d6,d7],_,[o0,o1,o2,o3,o4,o5,o6,o7],_ =>
  rcases (show k=0\/k=1\/k=2\/k=3\/k=4\/k=5\/k=6\/k=7 by omega) with rfl|rfl|rfl|rfl|rfl|rfl|rfl|rfl<;>rfl
theorem enc_D (e:En) (x:L8):encE { e with d:=x } = (encE e).take 4++(AV.agg (enL x)).cells++(encE e).drop (4+8):=by
 obtain ⟨line,st,r,w,⟨d,hd⟩,⟨o,ho⟩,u⟩:=e
 match d,hd,o,ho with
 | [d0,d1,d2,d3,d4,d5,d6,d7],_,[o0,o1,o2,o3,o4,o5,o6,o7],_=>rfl
theorem enc_O (e:En) (x:L8):encE { e with o:=x } = (encE e).take 12++(AV.agg (enL x)).cells++(encE e).drop (12+8):=by
 obtain ⟨line,st,r,w,⟨d,hd⟩,⟨o,ho⟩,u⟩:=e
 match d,hd,o,ho with
 | [d0,d1,d2,d3,d4,d5,d6,d7],_,[o0,o1,o2,o3,o4,o5,o6,o7],_ =>
  obtain ⟨x,hx⟩:=x
  match x,hx with
  | [x0,x1,x2,x3,x4,x5,x6,x7],_=>rfl
section
variable {H:AHeap} {b:Nat} {sv:AV} {c:Ca} {lines line:Int}
theorem quo8 {a:Nat} (h:a<1000000):Op.bin .quo [.int .i64 (a:Int),.int .i64 8]=some (.int .i64 ((a / 8:Nat):Int)):=by
 rw [o_quo .i64 _ _ (by decide),qbu (by omega),xr (by omega) (by omega)];rfl
theorem rem8 {a:Nat} (h:a<1000000):Op.bin .rem [.int .i64 (a:Int),.int .i64 8]=some (.int .i64 ((a % 8:Nat):Int)):=n_rem (by decide)
theorem ixA (i k:Nat) (hk:k<8):Op.indexArr 8 1 [.ptr (slB sv) (slO 21 sv i+4),.int .i64 (k:Int)]=some (.ptr (slB sv) (slO 21 sv i+(4+k))):=by
 have:=q4d (len:=8) (size:=1) (b:=slB sv) (o:=slO 21 sv i+4) (k:=.i64) (j:=(k:Int)) (i:=k) rfl hk
 rw [this,qc2,yj]
theorem qlj {i:Nat} (hi:i<c.sl.length) (e:En):(c.set i e).en i=e:=by rw [qg8 hi,xc rfl]
theorem qyo (c:Ca) (i:Nat) (e e':En):(c.set i e).set i e'=c.set i e':=by unfold Ca.set;simp only [List.set_set]
theorem use_en {i:Nat} (hi:i<c.sl.length):(c.use i).en i = { c.en i with u:=c.us+1 }:=by
 show (c.set i { c.en i with u:=c.us+1 }).en i=_
 exact qlj hi _
def wordV (c:Ca) (a:Nat):AV:=match c.pos ((a / 8:Nat):Int) with
 | none=>.tuple [.int .u64 0,.int .i64 20]
 | some i=>.tuple [.int .u64 ((c.en i).d.get (a % 8)),.int .i64 0]
theorem q0r (hc:CaR H b sv c) (hci:CI lines c) (hu:c.us+1<=1000000) {a:Nat} (ha:a<1000000):yf M qb8 [.ptr b 0,.int .i64 (a:Int)] H (CaQ H b sv (c.word a).1 (wordV c a)):=by
 refine qt4 ?_
 obtain ⟨w0,w2,w10,w12,w20⟩:=qt5 M ⟨none,qb8⟩
 have n0:¬ (a:Int)<0:=by omega
 have hk:a % 8<8:=qhc _ (by decide)
 simp only [↓qj,xh,reduceIte,Nat.reduceEqDiff,w0,w2,ptr_nil',n0,w10,quo8 ha]
 refine C3.q (qoi (M:=M) hc hci ((a / 8:Nat):Int) 0) fun v H1 ⟨hv,f1⟩=>?_
 rw [hv]
 have h1:=hc.em f1
 unfold inV wordV Ca.word
 rw [inS_0]
 cases hp:c.pos ((a / 8:Nat):Int) with
 | none =>
  have t20:¬ (20:Int)=0:=by decide
  simp only [↓qj,xh,reduceIte,Nat.reduceEqDiff,xa,w12,t20]
  exact ⟨rfl,h1,frE f1⟩
 | some i =>
  obtain ⟨-,hi,-⟩:=hci.pos_some hp
  have t0:=ja (show (0:Int)=0 from rfl)
  simp only [↓qj,xh,reduceIte,Nat.reduceEqDiff,xa,w12,t0,w20]
  refine C3.q (qyu (M:=M) h1 hu hi) fun _ H2 ⟨h2,f2⟩=>?_
  have hi2:i<(c.use i).sl.length:=by show i<(c.sl.set i _).length;rw [qt];exact hi
  have ld:Op.load1 [.ptr (slB sv) (slO 21 sv i+(4+a % 8))] H2=some (uW ((c.en i).d.get (a % 8))):=by
   rw [h2.ld hi2 (by omega),use_en hi,enc_at _ _ hk]
  simp only [↓qj,xh,reduceIte,Nat.reduceEqDiff,rem8 ha,qn,ixA i (a % 8) hk,ld]
  exact ⟨rfl,h2,frT (frE f1) f2⟩
def putV (c:Ca) (a:Nat):AV:=match c.inS ((a / 8:Nat):Int) 2 with
 | none=>.int .i64 20
 | some _=>.int .i64 0
theorem q20 (hc:CaR H b sv c) (hci:CI lines c) (hu:c.us+1<=1000000) {a:Nat} (ha:a<1000000) (y:Int):yf M qcu [.ptr b 0,.int .i64 (a:Int),.int .u64 y] H (CaQ H b sv (c.put a y) (putV c a)):=by
 refine qvt ?_
 obtain ⟨w0,w2,w10,w12,w20⟩:=qvu M ⟨none,qcu⟩
 have n0:¬ (a:Int)<0:=by omega
 have hk:a % 8<8:=qhc _ (by decide)
 simp only [↓qj,xh,reduceIte,Nat.reduceEqDiff,w0,w2,ptr_nil',n0,w10,quo8 ha]
 refine C3.q (qoi (M:=M) hc hci ((a / 8:Nat):Int) 2) fun v H1 ⟨hv,f1⟩=>?_
 rw [hv]
 have h1:=hc.em f1
 unfold inV putV Ca.put
 cases hp:c.inS ((a / 8:Nat):Int) 2 with
 | none =>
  have t20:¬ (20:Int)=0:=by decide
  simp only [↓qj,xh,reduceIte,Nat.reduceEqDiff,xa,w12,t20]
  exact ⟨rfl,h1,frE f1⟩
 | some i =>
  obtain ⟨-,hi,-⟩:=hci.pos_some (qe4 hp).1
  have t0:=ja (show (0:Int)=0 from rfl)
  simp only [↓qj,xh,reduceIte,Nat.reduceEqDiff,xa,w12,t0,w20]
  refine C3.q (qyu (M:=M) h1 hu hi) fun _ H2 ⟨h2,f2⟩=>?_
  have hi2:i<(c.use i).sl.length:=by show i<(c.sl.set i _).length;rw [qt];exact hi
  obtain ⟨H3,s3,h3,f3⟩:=h2.st1 hi2 (j:=4+a % 8) (by omega) (u:=.int .u64 y) rfl (e:={ (c.use i).en i with d:=((c.use i).en i).d.put (a % 8) y }) (enc_d _ _ hk y)
  have e:(c.use i).set i { (c.use i).en i with d:=((c.use i).en i).d.put (a % 8) y } = { c with us:=c.us+1,sl:=c.sl.set i { c.en i with u:=c.us+1,d:=(c.en i).d.put (a % 8) y } }:=by
   rw [use_en hi]
   unfold Ca.use Ca.set
   simp only [List.set_set]
  rw [e] at h3
  simp only [↓qj,xh,reduceIte,Nat.reduceEqDiff,rem8 ha,qn,ixA i (a % 8) hk,s3]
  exact ⟨rfl,h3,frT (frT (frE f1) f2) (frW f3)⟩
theorem qzs (hc:CaR H b sv c) (hci:CI lines c) (line:Int) (wr:Bool):yf M qb7 [.ptr b 0,.int .i64 line,.bool wr] H fun _ H'=>CaR H' b sv (c.mark line wr)/\Fr (CaW b sv) H H':=by
 refine qt1 ?_
 obtain ⟨w0,w2,w18,w8,w20,w14,w26⟩:=qt2 M ⟨none,qb7⟩
 have t20:¬ (20:Int)=0:=by decide
 have t0:=ja (show (0:Int)=0 from rfl)
 cases wr with
 | false =>
  simp only [↓qj,xh,reduceIte,Nat.reduceEqDiff,w0,w2]
  refine C3.q (qoi (M:=M) hc hci line 0) fun v H1 ⟨hv,f1⟩=>?_
  rw [hv]
  have h1:=hc.em f1
  unfold inV Ca.mark
  rw [qo (by decide)]
  cases hp:c.inS line 0 with
  | none =>
   simp only [↓qj,xh,reduceIte,Nat.reduceEqDiff,xa,w8,t20,w14]
   exact ⟨h1,frE f1⟩
  | some i =>
   obtain ⟨-,hi,-⟩:=hci.pos_some (qe4 hp).1
   obtain ⟨H3,s3,h3,f3⟩:=h1.st1 hi (j:=2) (by decide) (u:=.bool true) rfl (e:={ c.en i with r:=true }) rfl
   simp only [↓qj,xh,reduceIte,Nat.reduceEqDiff,xa,w8,t0,qn,s3,w14]
   exact ⟨h3,frT (frE f1) (frW f3)⟩
 | true =>
  simp only [↓qj,xh,reduceIte,Nat.reduceEqDiff,w0,w2,w18]
  refine C3.q (qoi (M:=M) hc hci line 2) fun v H1 ⟨hv,f1⟩=>?_
  rw [hv]
  have h1:=hc.em f1
  unfold inV Ca.mark
  rw [xc rfl]
  cases hp:c.inS line 2 with
  | none =>
   simp only [↓qj,xh,reduceIte,Nat.reduceEqDiff,xa,w20,t20,w26]
   exact ⟨h1,frE f1⟩
  | some i =>
   obtain ⟨-,hi,-⟩:=hci.pos_some (qe4 hp).1
   have l3:Op.load1 [.ptr (slB sv) (slO 21 sv i+3)] H1=some (.bool (c.en i).w):=h1.ld hi (by decide)
   dsimp only
   cases hw:(c.en i).w with
   | true =>
    rw [xc rfl]
    rw [hw] at l3
    simp only [↓qj,xh,reduceIte,Nat.reduceEqDiff,xa,w20,t0,qn,l3,w26]
    exact ⟨h1,frE f1⟩
   | false =>
    rw [qo (by decide)]
    rw [hw] at l3
    obtain ⟨H3,s3,h3,f3⟩:=h1.st1 hi (j:=3) (by decide) (u:=.bool true) rfl (e:={ c.en i with w:=true }) rfl
    have hi3:i<(c.set i { c.en i with w:=true }).sl.length:=by show i<(c.sl.set i _).length;rw [qt];exact hi
    obtain ⟨H4,s4,h4,f4⟩:=h3.stP hi3 (j:=12) (n:=8) (u:=.agg (enL (c.en i).d)) (by rw [xx];exact qez _) (by rw [xx];exact qmo _) (by decide) (e:={ (c.set i { c.en i with w:=true }).en i with o:=(c.en i).d }) (enc_O _ _)
    rw [qlj hi,qyo] at h4
    simp only [↓qj,xh,reduceIte,Nat.reduceEqDiff,xa,w20,t0,qn,l3,h1.ldD hi,s3,s4,w26]
    exact ⟨h4,frT (frT (frE f1) (frW f3)) (frW f4)⟩
def demoteV (c:Ca) (line:Int):AV:=.tuple [.agg (enL (c.demote line).2),match c.inS line 2 with|none=>.int .i64 20|some _=>.int .i64 0]
theorem q02 (hc:CaR H b sv c) (hci:CI lines c) (line:Int):yf M qbx [.ptr b 0,.int .i64 line] H fun v H'=>v=demoteV c line/\CaR H' b sv (c.demote line).1/\Fr (CaW b sv) H H':=by
 refine qqa ?_
 obtain ⟨w0,w4,w12⟩:=qqb M ⟨none,qbx⟩
 have t20:¬ (20:Int)=0:=by decide
 have t0:=ja (show (0:Int)=0 from rfl)
 obtain ⟨H1,e1⟩:∃ X,X=H.alloc (OR (enL .zero) qad):=⟨_,rfl⟩
 have f1:Fr Em H H1:=by rw [e1];exact (Fr.refl H).alloc _
 have n1:H1.next=H.next+1:=by rw [e1,za]
 have g1:H1.get H.next=some (OR (enL .zero) qad):=by rw [e1,xg]
 have hlt:=hc.lt
 have hsb:slB sv<H.next:=hc.sl.lt
 simp only [↓qj,xh,reduceIte,Nat.reduceEqDiff,w0,lZ,<-e1]
 refine C3.q (qoi (M:=M) (hc.em f1) hci line 2) fun v H2 ⟨hv,f2⟩=>?_
 rw [hv]
 have f12:Fr Em H H2:=f1.trans f2 fun _ q=>q.elim
 have h2:=hc.em f12
 have g2:H2.get H.next=some (OR (enL .zero) qad):=by rw [f2.keep _ (by omega) id];exact g1
 unfold inV demoteV Ca.demote
 cases hp:c.inS line 2 with
 | none =>
  have st:=stN g2 (qez _) (qez .zero) (qmo _)
  have ld:=ldN (xj H2 H.next (OR (enL .zero) qad)) (qez _)
  have fs:Fr Em H (H2.set H.next (OR (enL .zero) qad)):=f12.set (.inr (qe _)) _
  simp only [↓qj,xh,reduceIte,Nat.reduceEqDiff,xa,w4,t20,lZ,bd0,st,ld]
  exact ⟨hc.em fs,frE fs⟩
 | some i =>
  obtain ⟨-,hi,-⟩:=hci.pos_some (qe4 hp).1
  obtain ⟨H3,s3,h3,f3⟩:=h2.st1 hi (j:=1) (by decide) (u:=.int .i64 1) rfl (e:={ c.en i with st:=1 }) rfl
  have hi3:i<(c.set i { c.en i with st:=1 }).sl.length:=by show i<(c.sl.set i _).length;rw [qt];exact hi
  have l3:=h3.ldD hi3
  rw [qlj hi] at l3
  have n2:=f2.next
  have g3:H3.get H.next=some (OR (enL .zero) qad):=by rw [f3.keep _ (by omega) (fun (q:H.next=slB sv)=>by omega)];exact g2
  have st:=stN g3 (qez _) (qez (c.en i).d) (qmo _)
  have ld:=ldN (xj H3 H.next (OR (enL (c.en i).d) qad)) (qez _)
  have fo:Fr (On H.next) H3 (H3.set H.next (OR (enL (c.en i).d) qad)):=(Fr.refl H3).set (W:=On H.next) (.inl rfl) _
  simp only [↓qj,xh,reduceIte,Nat.reduceEqDiff,xa,w4,t0,w12,qn,s3,l3,st,ld]
  exact ⟨h3.fr fo (fun (q:b=H.next)=>by omega) (fun (q:slB sv=H.next)=>by omega),(frT (frE f12) (frW f3)).set (.inr (qe _)) _⟩
theorem qz8 (hc:CaR H b sv c) (hci:CI lines c) (line:Int) (x:L8):yf M qa8 [.ptr b 0,.int .i64 line,.agg (enL x)] H fun _ H'=>CaR H' b sv (c.promote line x)/\Fr (CaW b sv) H H':=by
 refine qpa ?_
 obtain ⟨w0,w4,w10⟩:=qpb M ⟨none,qa8⟩
 have t20:¬ (20:Int)=0:=by decide
 have t0:=ja (show (0:Int)=0 from rfl)
 obtain ⟨H1,e1⟩:∃ X,X=H.alloc (OR (enL x) qad):=⟨_,rfl⟩
 have f1:Fr Em H H1:=by rw [e1];exact (Fr.refl H).alloc _
 have n1:H1.next=H.next+1:=by rw [e1,za]
 have g1:H1.get H.next=some (OR (enL x) qad):=by rw [e1,xg]
 have hlt:=hc.lt
 have hsb:slB sv<H.next:=hc.sl.lt
 simp only [↓qj,xh,reduceIte,Nat.reduceEqDiff,w0,xx,<-e1]
 refine C3.q (qoi (M:=M) (hc.em f1) hci line 1) fun v H2 ⟨hv,f2⟩=>?_
 rw [hv]
 have f12:Fr Em H H2:=f1.trans f2 fun _ q=>q.elim
 have h2:=hc.em f12
 have g2:H2.get H.next=some (OR (enL x) qad):=by rw [f2.keep _ (by omega) id];exact g1
 unfold inV Ca.promote
 cases hp:c.inS line 1 with
 | none =>
  simp only [↓qj,xh,reduceIte,Nat.reduceEqDiff,xa,w4,t20,w10]
  exact ⟨h2,frE f12⟩
 | some i =>
  obtain ⟨-,hi,-⟩:=hci.pos_some (qe4 hp).1
  obtain ⟨H3,s3,h3,f3⟩:=h2.st1 hi (j:=1) (by decide) (u:=.int .i64 2) rfl (e:={ c.en i with st:=2 }) rfl
  have hi3:i<(c.set i { c.en i with st:=2 }).sl.length:=by show i<(c.sl.set i _).length;rw [qt];exact hi
  obtain ⟨H4,s4,h4,f4⟩:=h3.stP hi3 (j:=4) (n:=8) (u:=.agg (enL x)) (by rw [xx];exact qez _) (by rw [xx];exact qmo _) (by decide) (e:={ (c.set i { c.en i with st:=2 }).en i with d:=x }) (enc_D _ _)
  rw [qlj hi,qyo] at h4
  have n2:=f2.next
  have g3:H3.get H.next=some (OR (enL x) qad):=by rw [f3.keep _ (by omega) (fun (q:H.next=slB sv)=>by omega)];exact g2
  simp only [↓qj,xh,reduceIte,Nat.reduceEqDiff,xa,w4,t0,qn,ldN g2 (qez x),s3,ldN g3 (qez x),s4,w10]
  exact ⟨h4,frT (frT (frE f12) (frW f3)) (frW f4)⟩
def dropV (c:Ca) (line:Int):AV:=.tuple [.agg (encE (c.drop line).2),match c.inS line 0 with|none=>.int .i64 20|some _=>.int .i64 0]
theorem qtc (hc:CaR H b sv c) (hci:CI lines c) (line:Int):yf M qa7 [.ptr b 0,.int .i64 line] H fun v H'=>v=dropV c line/\CaR H' b sv (c.drop line).1/\Fr (CaW b sv) H H':=by
 refine qts ?_
 obtain ⟨w0,w4,w12⟩:=qtt M ⟨none,qa7⟩
 have t20:¬ (20:Int)=0:=by decide
 have t0:=ja (show (0:Int)=0 from rfl)
 obtain ⟨H1,e1⟩:∃ X,X=H.alloc (OR (encE .zero) qk):=⟨_,rfl⟩
 have f1:Fr Em H H1:=by rw [e1];exact (Fr.refl H).alloc _
 have n1:H1.next=H.next+1:=by rw [e1,za]
 have g1:H1.get H.next=some (OR (encE .zero) qk):=by rw [e1,xg]
 have hlt:=hc.lt
 have hsb:slB sv<H.next:=hc.sl.lt
 simp only [↓qj,xh,reduceIte,Nat.reduceEqDiff,w0,eZ,<-e1]
 refine C3.q (qoi (M:=M) (hc.em f1) hci line 0) fun v H2 ⟨hv,f2⟩=>?_
 rw [hv]
 have f12:Fr Em H H2:=f1.trans f2 fun _ q=>q.elim
 have h2:=hc.em f12
 have n2:=f2.next
 have g2:H2.get H.next=some (OR (encE .zero) qk):=by rw [f2.keep _ (by omega) id];exact g1
 unfold inV dropV Ca.drop
 cases hp:c.inS line 0 with
 | none =>
  have st:=stN g2 (x9 _) (x9 .zero) (qdp _)
  have ld:=ldN (xj H2 H.next (OR (encE .zero) qk)) (x9 _)
  have fs:Fr Em H (H2.set H.next (OR (encE .zero) qk)):=f12.set (.inr (qe _)) _
  simp only [↓qj,xh,reduceIte,Nat.reduceEqDiff,xa,w4,t20,eZ,bd0,st,ld]
  exact ⟨hc.em fs,frE fs⟩
 | some i =>
  obtain ⟨-,hi,-⟩:=hci.pos_some (qe4 hp).1
  obtain ⟨H3,e3⟩:∃ X,X=H2.alloc (OR (encE .zero) qk):=⟨_,rfl⟩
  have f3:Fr Em H2 H3:=by rw [e3];exact (Fr.refl H2).alloc _
  have n3:H3.next=H2.next+1:=by rw [e3,za]
  have g3:H3.get H2.next=some (OR (encE .zero) qk):=by rw [e3,xg]
  have s4:=stN g3 (x9 _) (x9 (c.en i)) (qdp _)
  obtain ⟨H4,e4⟩:∃ X,X=H3.set H2.next (OR (encE (c.en i)) qk):=⟨_,rfl⟩
  rw [<-e4] at s4
  have f4:Fr (On H2.next) H3 H4:=by rw [e4];exact (Fr.refl H3).set (W:=On H2.next) (.inl rfl) _
  have h4:=(h2.em f3).fr f4 (fun (q:b=H2.next)=>by omega) (fun (q:slB sv=H2.next)=>by omega)
  obtain ⟨H5,s5,h5,f5⟩:=h4.stE hi .zero
  have g5:H5.get H2.next=some (OR (encE (c.en i)) qk):=by rw [f5.keep _ (by rw [e4];show H2.next<H3.next;omega) (fun (q:H2.next=slB sv)=>by omega),e4,xj]
  have l5:=ldN g5 (x9 (c.en i))
  have g5':H5.get H.next=some (OR (encE .zero) qk):=by rw [f5.keep _ (by rw [e4];show H.next<H3.next;omega) (fun (q:H.next=slB sv)=>by omega),f4.keep _ (by omega) (fun (q:H.next=H2.next)=>by omega),f3.keep _ (by omega) id];exact g2
  have s6:=stN g5' (x9 _) (x9 (c.en i)) (qdp _)
  have ld:=ldN (xj H5 H.next (OR (encE (c.en i)) qk)) (x9 _)
  have fo:Fr (On H.next) H5 (H5.set H.next (OR (encE (c.en i)) qk)):=(Fr.refl H5).set (W:=On H.next) (.inl rfl) _
  have f04:Fr (CaW b sv) H H4:=(frT (frE f12) (frE f3)).trans f4 fun x (q:x=H2.next)=>.inr (by omega)
  simp only [↓qj,xh,reduceIte,Nat.reduceEqDiff,xa,w4,t0,w12,qn,h2.ldE hi,eZ,<-e3,s4,bd0,s5,l5,s6,ld]
  exact ⟨h5.fr fo (fun (q:b=H.next)=>by omega) (fun (q:slB sv=H.next)=>by omega),(frT f04 (frW f5)).set (.inr (qe _)) _⟩
end
end Go.Am
namespace Go.Am
open Go.Proofs Ca
variable {M:Mac} [MK M]
def optA (sv:AV) (o:Option Nat):AV:=match o with
 | none=>.nilp
 | some i=>eA sv i
theorem optA_one (sv:AV) (o:Option Nat):oneCell (optA sv o)=true:=by cases o<;>rfl
theorem ld_off {Hx:AHeap} {t d e:Nat} {x:AV} {o:AObj} (g:Hx.get t=some (OR [x] e)) (hd:d ≠ t):Op.load1 [.ptr t 0] (Hx.set d o)=some x:=by
 have g':(Hx.set d o).get t=some (OR [x] e):=by rw [qae hd];exact g
 exact zw (xd g') 0
structure RmI (c:Ca) (sv:AV) (line:Int) (t u:Nat) (i:Nat) (V:Nat->Prop) (Hx:AHeap):Prop where
 vt:V t
 vu:V u
 g:Hx.get t=some (OR [.nilp] jk)
 gu:Hx.get u=some (OR [optA sv ((c.best line i).map (c.fr line + ·))] jk)
 lt:t<Hx.next
 ltu:u<Hx.next
 no:∀ k,k<i->c.free line k=false
structure RmS (c:Ca) (sv:AV) (line:Int) (t:Nat) (V:Nat->Prop) (Hx:AHeap):Prop where
 vt:V t
 ex:∃ k,k<c.ways/\firstN (c.free line) c.ways=some k/\Hx.get t=some (OR [eA sv (c.fr line+k)] jk)
 lt:t<Hx.next
section
variable {H:AHeap} {b:Nat} {sv:AV} {c:Ca} {lines line:Int}
theorem q6n (hc:CaR H b sv c) (hci:CI lines c) (hl:0<=line):yf M qba [.ptr b 0,.int .i64 line] H fun v H'=>v=optA sv (c.room line)/\Fr Em H H':=by
 refine qt9 ?_
 obtain ⟨w0,wa,wb,w2,wb9,w3,wb15,w5,w7,w12⟩:=qm6 M ⟨none,qba⟩
 obtain ⟨H1,e1⟩:∃ X,X=H.alloc (OR [.nilp] jk):=⟨_,rfl⟩
 obtain ⟨H2,e2⟩:∃ X,X=H1.alloc (OR [.nilp] jk):=⟨_,rfl⟩
 have f1:Fr Em H H1:=by rw [e1];exact (Fr.refl H).alloc _
 have f12:Fr Em H1 H2:=by rw [e2];exact (Fr.refl H1).alloc _
 have f2:Fr Em H H2:=f1.trans f12 fun _ q=>q.elim
 have n1:H1.next=H.next+1:=by rw [e1,za]
 have n2:H2.next=H.next+2:=by rw [e2,za,n1]
 have g1:H2.get H.next=some (OR [.nilp] jk):=by rw [f12.keep _ (by omega) id,e1,xg]
 have g2:H2.get (H.next+1)=some (OR [.nilp] jk):=by rw [e2,<-n1,xg]
 simp only [↓qj,xh,reduceIte,Nat.reduceEqDiff,w0,<-e1,w2,w3,<-e2,n1,w5,w7]
 refine C3.q (q25 (M:=M) b line) fun v H5 ⟨hv,hh⟩=>?_
 obtain ⟨H3,e3⟩:∃ X,X=H2.alloc (OR [.ptr b 0] yi):=⟨_,rfl⟩
 obtain ⟨H4,e4⟩:∃ X,X=H3.alloc (OR [.int .i64 line] T_int):=⟨_,rfl⟩
 rw [<-e3,<-e4] at hh
 rw [hv,hh]
 have f23:Fr Em H2 H3:=by rw [e3];exact (Fr.refl H2).alloc _
 have f34:Fr Em H3 H4:=by rw [e4];exact (Fr.refl H3).alloc _
 have f24:Fr Em H2 H4:=f23.trans f34 fun _ q=>q.elim
 have f4:Fr Em H H4:=f2.trans f24 fun _ q=>q.elim
 have n3:H3.next=H.next+3:=by rw [e3,za,n2]
 have n4:H4.next=H.next+4:=by rw [e4,za,n3]
 have g3:H4.get H2.next=some (OR [.ptr b 0] yi):=by rw [f34.keep _ (by omega) id,e3,xg]
 have g4:H4.get (H2.next+1)=some (OR [.int .i64 line] T_int):=by rw [show H2.next+1=H3.next by omega,e4,xg]
 have hc4:=hc.em f4
 have hlt:=hc.lt
 have hsb:slB sv<H.next:=hc.sl.lt
 have hset:setL c sv line=(List.range c.ways).map fun k=>[eA sv (c.fr line+k)]:=by unfold setL;rw [qo (by omega)]
 refine RNG3.iter (fn:=qc9) (lp:=qcl) (pa:=qlw 0) (pb:=qbq 0) qro qkq.1 qkq.2 (by decide) ⟨rfl,qeb qcl.assign⟩ ⟨rfl,qeb qcl.body⟩
  (q0k (M:=M) hc4 hci g3 g4 (by omega) (by omega)) (fun i V Hx=>RmI c sv line H.next (H.next+1) i V Hx) (fun e V Hx=>e=.ret/\RmS c sv line H.next V Hx) (fun x=>x=H.next\/x=H.next+1) (qe _) ?_ ?_ ?_ ?_ ?_ ?_ ?_ ?_
 ·rintro x ((q|q|q) | q)
  ·exact ⟨by omega,rfl,by omega⟩
  ·exact ⟨by omega,rfl,by omega⟩
  ·exact ⟨by omega,rfl,by omega⟩
  ·exact q.elim
 ·exact fun x hx=>by omega
 ·exact ⟨.inl rfl,.inr rfl,by rw [f24.keep _ (by omega) id];exact g1,by rw [f24.keep _ (by omega) id];exact g2,by omega,by omega,fun k hk=>by omega⟩
 ·exact fun i V Ha Hb h hs hn=>⟨h.vt,h.vu,by rw [hs _ h.vt];exact h.g,by rw [hs _ h.vu];exact h.gu,ql h.lt hn,ql h.ltu hn,h.no⟩
 ·rintro e V Ha Hb ⟨he,h⟩ hs hn
  obtain ⟨k,k1,k2,k3⟩:=h.ex
  exact ⟨he,h.vt,⟨k,k1,k2,by rw [hs _ h.vt];exact k3⟩,ql h.lt hn⟩
 ·intro L2 i lr lb x hx hL2 V H6 hP hV hf6 hnL hL6 hgL
  rw [hset,xf,qv] at hx
  obtain ⟨y,hy,rfl⟩:=hx
  have hiw:i<c.ways:=by have:=(qi.1 hy).1;rw [qcx] at this;exact this
  rw [vo hiw] at hy;injection hy with hy;subst hy
  refine ⟨_,rfl,?_⟩
  obtain ⟨-,wa,wb,-,wb9,-,wb15,-⟩:=qm6 M ⟨some L2,qba⟩
  simp only [↓qj,xh,reduceIte,Nat.reduceEqDiff,wa,qin]
  refine ⟨hgL,?_⟩
  have fx:Fr (On L2) H6 (H6.set L2 lb):=(Fr.refl H6).set (W:=On L2) (.inl rfl) _
  have gL:(H6.set L2 lb).get L2=some lb:=xj ..
  have nL:(H6.set L2 lb).next=H6.next:=rfl
  have hc6:CaR H6 b sv c:=hc4.fr hf6 (fun q=>q.elim (fun q=>by omega) id) (fun q=>q.elim (fun q=>by omega) id)
  have h7:CaR (H6.set L2 lb) b sv c:=hc6.fr fx (fun (q:b=L2)=>by omega) (fun (q:slB sv=L2)=>by omega)
  have hLt:L2 ≠ H.next:=fun q=>hnL (by rw [q];exact hP.vt)
  have hLu:L2 ≠ H.next+1:=fun q=>hnL (by rw [q];exact hP.vu)
  have hgt:(H6.set L2 lb).get H.next=some (OR [.nilp] jk):=by rw [qae hLt];exact hP.g
  have hgu:(H6.set L2 lb).get (H.next+1)=some (OR [optA sv ((c.best line i).map (c.fr line + ·))] jk):=by rw [qae hLu];exact hP.gu
  generalize H6.set L2 lb=H7 at *
  have hi:=hci.fr_lt line hiw
  obtain ⟨e,he⟩:∃ e,e=c.en (c.fr line+i):=⟨_,rfl⟩
  have l1:Op.load1 [.ptr (slB sv) (slO 21 sv (c.fr line+i)+1)] H7=some (.int .i64 e.st):=by rw [he];exact h7.ld hi (k:=1) (by decide)
  have l2:Op.load1 [.ptr (slB sv) (slO 21 sv (c.fr line+i)+2)] H7=some (.bool e.r):=by rw [he];exact h7.ld hi (k:=2) (by decide)
  have l3:Op.load1 [.ptr (slB sv) (slO 21 sv (c.fr line+i)+3)] H7=some (.bool e.w):=by rw [he];exact h7.ld hi (k:=3) (by decide)
  have enc20:∀ e:En,(encE e)[20]? = some (.int .i64 e.u):=fun e=>by
   obtain ⟨line,st,r,w,⟨d,hd⟩,⟨o,ho⟩,u⟩:=e
   match d,hd,o,ho with
   | [d0,d1,d2,d3,d4,d5,d6,d7],_,[o0,o1,o2,o3,o4,o5,o6,o7],_=>rfl
  have l20:∀ k,c.fr line+k<c.sl.length->Op.load1 [.ptr (slB sv) (slO 21 sv (c.fr line+k)+20)] H7=some (.int .i64 (c.en (c.fr line+k)).u):=fun k hk=>by rw [h7.ld hk (k:=20) (by decide),enc20]
  have hfree:c.free line i=(e.st == 0):=by rw [he];rfl
  have no':e.st ≠ 0 -> ∀ k,k<i+1->c.free line k=false:=fun h0 k hk=>by
   by_cases q:k=i
   ·rw [q,hfree];simp [h0]
   ·exact hP.no k (by omega)
  have lu:Op.load1 [.ptr (H.next+1) 0] H7=some (optA sv ((c.best line i).map (c.fr line + ·))):=zw (xd hgu) 0
  have hbe:c.best line (i+1)=if e.r || e.w then c.best line i else match c.best line i with
   | none=>some i
   | some j=>if e.u<(c.en (c.fr line+j)).u then some i else some j:=by rw [he];rfl
  -- it stays as it is
  have stay:e.st ≠ 0->c.best line (i+1)=c.best line i->BD3 (fun V Hx=>RmI c sv line H.next (H.next+1) (i+1) V Hx) (fun e V Hx=>e=.ret/\RmS c sv line H.next V Hx) L2 lb V H6 .normal [] [] H7:=fun h0 hb =>
   ⟨rfl,gL,V,fun b hb=>⟨by rw [nL];exact (hV b hb).1,.inl hb⟩,fx.mono fun x _ q=>.inr q,.inl ⟨rfl,hP.vt,hP.vu,hgt,by rw [hb];exact hgu,by rw [nL];exact hP.lt,by rw [nL];exact hP.ltu,no' h0⟩⟩
  -- this one is taken
  obtain ⟨H8,e8⟩:∃ X,X=H7.set (H.next+1) (OR [eA sv (c.fr line+i)] jk):=⟨_,rfl⟩
  have st:=qee hgu (u:=eA sv (c.fr line+i)) rfl
  rw [<-e8] at st
  have take:e.st ≠ 0->c.best line (i+1)=some i->BD3 (fun V Hx=>RmI c sv line H.next (H.next+1) (i+1) V Hx) (fun e V Hx=>e=.ret/\RmS c sv line H.next V Hx) L2 lb V H6 .normal [] [] H8:=fun h0 hb =>
   ⟨rfl,by rw [e8,qae (Ne.symm hLu)];exact gL,V,fun b hb=>⟨by rw [e8];show b<H7.next;rw [nL];exact (hV b hb).1,.inl hb⟩,by rw [e8];exact (fx.mono fun x _ q=>.inr q).set (.inl (.inl hP.vu)) _,.inl ⟨rfl,hP.vt,hP.vu,by rw [e8,qae (by omega)];exact hgt,by rw [e8,xj,hb];rfl,by rw [e8];show H.next<H7.next;rw [nL];exact hP.lt,by rw [e8];show H.next+1<H7.next;rw [nL];exact hP.ltu,no' h0⟩⟩
  by_cases q1:e.st=0
  ·have stt:=qee hgt (u:=eA sv (c.fr line+i)) rfl
   simp only [↓qj,xh,reduceIte,Nat.reduceEqDiff,wb,qn,l1,ja q1,stt]
   refine ⟨rfl,?_,V,?_,?_,.inr ⟨trivial,rfl,hP.vt,⟨i,hiw,qhl hiw (by rw [hfree];simp [q1]) hP.no,xj ..⟩,?_⟩⟩
   ·rw [qae (Ne.symm hLt)];exact gL
   ·exact fun b hb=>⟨by show b<H7.next;rw [nL];exact (hV b hb).1,.inl hb⟩
   ·exact (fx.mono fun x _ q=>.inr q).set (.inl (.inl hP.vt)) _
   ·show H.next<H7.next;rw [nL];exact hP.lt
  cases hr:e.r with
  | true =>
   rw [hr] at l2
   simp only [↓qj,xh,reduceIte,Nat.reduceEqDiff,wb,qn,l1,q1,wb9,l2]
   exact stay q1 (by rw [hbe,hr];rfl)
  | false =>
   rw [hr] at l2
   cases hw:e.w with
   | true =>
    rw [hw] at l3
    simp only [↓qj,xh,reduceIte,Nat.reduceEqDiff,wb,qn,l1,q1,wb9,l2,l3]
    exact stay q1 (by rw [hbe,hr,hw];rfl)
   | false =>
    rw [hw] at l3
    rw [hr,hw] at hbe
    cases hb:c.best line i with
    | none =>
     rw [hb] at lu hbe
     have lu:Op.load1 [.ptr (H.next+1) 0] H7=some .nilp:=lu
     simp only [↓qj,xh,reduceIte,Nat.reduceEqDiff,wb,qn,l1,q1,wb9,l2,l3,wb15,lu,qx5,st]
     exact take q1 hbe
    | some j =>
     rw [hb] at lu hbe
     have lu:Op.load1 [.ptr (H.next+1) 0] H7=some (eA sv (c.fr line+j)):=lu
     have hj:=(qxe hb).1
     have a1:=l20 i hi
     rw [<-he] at a1
     have a2:=l20 j (hci.fr_lt line (by omega))
     by_cases q:e.u<(c.en (c.fr line+j)).u
     ·simp only [↓qj,xh,reduceIte,Nat.reduceEqDiff,wb,qn,l1,q1,wb9,l2,l3,wb15,lu,qau,a1,a2,q,st]
      exact take q1 (by rw [hbe];simp [q])
     ·simp only [↓qj,xh,reduceIte,Nat.reduceEqDiff,wb,qn,l1,q1,wb9,l2,l3,wb15,lu,qau,a1,a2,q]
      exact stay q1 (by rw [hbe,hb];simp [q])
 ·intro d V Hd hd1 hd2 hgd hfd hVd hP
  have hno:=hP.no
  have hgu:=hP.gu
  rw [hset,zd,qcx] at hno hgu
  have lu:Op.load1 [.ptr (H.next+1) 0] Hd=some (optA sv ((c.best line c.ways).map (c.fr line + ·))):=zw (xd hgu) 0
  have st:=qee hP.g (u:=optA sv ((c.best line c.ways).map (c.fr line + ·))) (optA_one ..)
  have hdt:d ≠ H.next:=fun q=>by have:=(hVd _ hP.vt).2.2;omega
  have gd:(Hd.set H.next (OR [optA sv ((c.best line c.ways).map (c.fr line + ·))] jk)).get d=some (.deferred (some [])):=by rw [qae (Ne.symm hdt)];exact hgd
  have rd:Op.load1 [.ptr H.next 0] ((Hd.set H.next (OR [optA sv ((c.best line c.ways).map (c.fr line + ·))] jk)).set d (.deferred none))=some (optA sv ((c.best line c.ways).map (c.fr line + ·))):=ld_off (xj ..) hdt
  have hroom:c.room line=(c.best line c.ways).map (c.fr line + ·):=by
   unfold Ca.room;rw [qhk hno]
  rw [<-hroom] at lu st gd rd
  simp only [↓qj,xh,reduceIte,Nat.reduceEqDiff,w12,lu,st,SCP_r,qh1,rd]
  refine ⟨gd,?_⟩
  exact (((f4.trans (W':=fun x=>(x=H.next\/x=H.next+1)\/False) hfd fun x q=>q.elim (fun q=>.inr (by omega)) False.elim).set (.inr (by omega)) _).set (.inr (by omega)) _)
 ·rintro e d V Hd hj hd1 hd2 hgd hfd hVd ⟨he,hS⟩
  subst he
  obtain ⟨k,k1,k2,k3⟩:=hS.ex
  have hdt:d ≠ H.next:=fun q=>by have:=(hVd _ hS.vt).2.2;omega
  have rd:Op.load1 [.ptr H.next 0] (Hd.set d (.deferred none))=some (eA sv (c.fr line+k)):=ld_off k3 hdt
  have hroom:c.room line=some (c.fr line+k):=by unfold Ca.room;rw [k2]
  simp only [↓qj,xh,reduceIte,Nat.reduceEqDiff,SCP_r,qh1,rd]
  refine ⟨hgd,by rw [hroom];rfl,?_⟩
  exact ((f4.trans (W':=fun x=>(x=H.next\/x=H.next+1)\/False) hfd fun x q=>q.elim (fun q=>.inr (by omega)) False.elim).set (.inr (by omega)) _)
end
end Go.Am
namespace Go.Am
open Go.Proofs Ca
variable {M:Mac} [MK M]
theorem bdE (line st:Int) (x:L8):Op.build (encE .zero) [(0,1),(1,1),(4,8)] [.int .i64 line,.int .i64 st,.agg (enL x)]=some (.agg (encE ⟨line,st,false,false,x,.zero,0⟩)):=by
 obtain ⟨x,hx⟩:=x
 match x,hx with
 | [x0,x1,x2,x3,x4,x5,x6,x7],_=>rfl
def fillV (c:Ca) (line st:Int) (x:L8):AV:=.tuple [.agg (encE (c.fill line st x).2.1),.bool (decide ((c.fill line st x).2.2=0/\(c.fill line st x).2.1.st ≠ 0)),.int .i64 (c.fill line st x).2.2]
section
variable {H:AHeap} {b:Nat} {sv:AV} {c:Ca} {lines line:Int}
theorem qzd (hc:CaR H b sv c) (hci:CI lines c) (hu:c.us+1<=1000000) (hl:0<=line) {st:Int} (hst:st=1\/st=2) (x:L8) :
 yf M qah [.ptr b 0,.int .i64 line,.int .i64 st,.agg (enL x)] H fun v H'=>v=fillV c line st x/\CaR H' b sv (c.fill line st x).1/\Fr (CaW b sv) H H':=by
 refine qtv ?_
 obtain ⟨w0,w2,w23,w16,w25,w33⟩:=qtw M ⟨none,qah⟩
 obtain ⟨H1,e1⟩:∃ X,X=H.alloc (OR (enL x) qad):=⟨_,rfl⟩
 obtain ⟨H2,e2⟩:∃ X,X=H1.alloc (OR (encE .zero) qk):=⟨_,rfl⟩
 have f1:Fr Em H H1:=by rw [e1];exact (Fr.refl H).alloc _
 have f12:Fr Em H1 H2:=by rw [e2];exact (Fr.refl H1).alloc _
 have f2:Fr Em H H2:=f1.trans f12 fun _ q=>q.elim
 have n1:H1.next=H.next+1:=by rw [e1,za]
 have n2:H2.next=H.next+2:=by rw [e2,za,n1]
 have g1:H2.get H.next=some (OR (enL x) qad):=by rw [f12.keep _ (by omega) id,e1,xg]
 have g2:H2.get (H.next+1)=some (OR (encE .zero) qk):=by rw [e2,<-n1,xg]
 have nl:¬ line<0:=by omega
 have hlt:=hc.lt
 have hsb:slB sv<H.next:=hc.sl.lt
 -- an error
 have err:∀ {Hx:AHeap} (k:Int),Fr Em H2 Hx->k ≠ 0->(c.fill line st x).2.2=k->(c.fill line st x).1=c->(c.fill line st x).2.1=.zero ->
  Op.store 21 [.ptr (H.next+1) 0,.agg (encE .zero)] Hx=some (.undef,Hx.set (H.next+1) (OR (encE .zero) qk))/\Op.loadN 21 [.ptr (H.next+1) 0] (Hx.set (H.next+1) (OR (encE .zero) qk))=some (.agg (encE .zero)) /\
  (AV.tuple [.agg (encE .zero),.bool false,.int .i64 k]=fillV c line st x/\CaR (Hx.set (H.next+1) (OR (encE .zero) qk)) b sv (c.fill line st x).1/\Fr (CaW b sv) H (Hx.set (H.next+1) (OR (encE .zero) qk))):=by
  intro Hx k f hk h1 h2 h3
  have gx:Hx.get (H.next+1)=some (OR (encE .zero) qk):=by rw [f.keep _ (by omega) id];exact g2
  have fs:Fr Em H (Hx.set (H.next+1) (OR (encE .zero) qk)):=(f2.trans f fun _ q=>q.elim).set (.inr (by omega)) _
  refine ⟨stN gx (x9 _) (x9 .zero) (qdp _),ldN (xj ..) (x9 _),?_,by rw [h2];exact hc.em fs,frE fs⟩
  unfold fillV
  rw [h1,h3]
  simp [hk]
 have k16:∀ {q:AV},W M ⟨none,qah⟩ (jz 16) true (BLK3 0 (SEQ3 (W M ⟨none,qah⟩ (jz 23)) (FIN3 M [.cellN 21 8,.tmp 9,.tmp 10] (RT3 fun v H'=>v=fillV c line st x/\CaR H' b sv (c.fill line st x).1/\Fr (CaW b sv) H H'))))
  [(21,q),(10,.int .i64 0),(9,.bool false),(8,.ptr (H.next+1) 0),(7,.ptr H.next 0),(0,.ptr b 0),(1,.int .i64 line),(2,.int .i64 st),(3,.agg (enL x))] [] H2:=by
  intro q
  simp only [↓qj,xh,reduceIte,Nat.reduceEqDiff,w16]
  refine C3.q (q0z (M:=M) (line:=line) (hc.em f2) hci) fun v H3 ⟨hv,f3⟩=>?_
  rw [hv]
  unfold posV
  cases hp:c.pos line with
  | some i =>
   obtain ⟨s1,s2,s3⟩:=err 21 f3 (by decide) (by unfold Ca.fill;rw [hp]) (by unfold Ca.fill;rw [hp]) (by unfold Ca.fill;rw [hp])
   simp only [↓qj,xh,reduceIte,Nat.reduceEqDiff,ptr_nil',eZ,bd0,s1,s2]
   exact s3
  | none =>
   simp only [↓qj,xh,reduceIte,Nat.reduceEqDiff,nil_nil',w23]
   have f03:=f2.trans f3 fun _ q=>q.elim
   refine C3.q (q6n (M:=M) (hc.em f03) hci hl) fun v H4 ⟨hv,f4⟩=>?_
   rw [hv]
   have f24:=f3.trans f4 fun _ q=>q.elim
   cases hr:c.room line with
   | none =>
    obtain ⟨s1,s2,s3⟩:=err 22 f24 (by decide) (by unfold Ca.fill;rw [hp,hr]) (by unfold Ca.fill;rw [hp,hr]) (by unfold Ca.fill;rw [hp,hr])
    unfold optA
    simp only [↓qj,xh,reduceIte,Nat.reduceEqDiff,w25,qx5,eZ,bd0,s1,s2]
    exact s3
   | some i =>
    obtain ⟨k,k1,k2,-⟩:=qvb hr
    have hi:i<c.sl.length:=by rw [k2];exact hci.fr_lt line k1
    have f04:=f2.trans f24 fun _ q=>q.elim
    have h4:=hc.em f04
    have n4:=f24.next
    obtain ⟨H5,e5⟩:∃ X,X=H4.alloc (OR (encE .zero) qk):=⟨_,rfl⟩
    have f5:Fr Em H4 H5:=by rw [e5];exact (Fr.refl H4).alloc _
    have n5:H5.next=H4.next+1:=by rw [e5,za]
    have g5:H5.get H4.next=some (OR (encE .zero) qk):=by rw [e5,xg]
    have s6:=stN g5 (x9 _) (x9 (c.en i)) (qdp _)
    obtain ⟨H6,e6⟩:∃ X,X=H5.set H4.next (OR (encE (c.en i)) qk):=⟨_,rfl⟩
    rw [<-e6] at s6
    have f6:Fr (On H4.next) H5 H6:=by rw [e6];exact (Fr.refl H5).set (W:=On H4.next) (.inl rfl) _
    have n6:H6.next=H4.next+1:=by rw [e6];exact n5
    have g6:H6.get H4.next=some (OR (encE (c.en i)) qk):=by rw [e6,xj]
    have h6:CaR H6 b sv c:=(h4.em f5).fr f6 (fun (q:b=H4.next)=>by omega) (fun (q:slB sv=H4.next)=>by omega)
    have g6l:H6.get H.next=some (OR (enL x) qad):=by rw [f6.keep _ (by omega) (fun (q:H.next=H4.next)=>by omega),f5.keep _ (by omega) id,f24.keep _ (by omega) id];exact g1
    have g6r:H6.get (H.next+1)=some (OR (encE .zero) qk):=by rw [f6.keep _ (by omega) (fun (q:H.next+1=H4.next)=>by omega),f5.keep _ (by omega) id,f24.keep _ (by omega) id];exact g2
    obtain ⟨H7,s7,h7,f7⟩:=h6.stE hi ⟨line,st,false,false,x,.zero,0⟩
    have hi7:i<(c.set i ⟨line,st,false,false,x,.zero,0⟩).sl.length:=by show i<(c.sl.set i _).length;rw [qt];exact hi
    have l6:=ldN g6l (qez x)
    unfold optA
    simp only [↓qj,xh,reduceIte,Nat.reduceEqDiff,w25,qau,w33,qn,h4.ldE hi,eZ,<-e5,s6,l6,bdE,s7]
    refine C3.q (qyu (M:=M) h7 hu hi7) fun _ H8 ⟨h8,f8⟩=>?_
    have f68:Fr (CaW b sv) H6 H8:=frT (frW f7) f8
    have nW:∀ y,H.next<=y -> ¬ CaW b sv y:=fun y hy q=>q.elim (fun q=>by omega) fun q=>by omega
    have g8:H8.get H4.next=some (OR (encE (c.en i)) qk):=by rw [f68.keep _ (by omega) (nW _ (by omega))];exact g6
    have g8r:H8.get (H.next+1)=some (OR (encE .zero) qk):=by rw [f68.keep _ (by omega) (nW _ (by omega))];exact g6r
    have l8:=ldN g8 (x9 (c.en i))
    have l81:Op.load1 [.ptr H4.next 1] H8=some (.int .i64 (c.en i).st):=zw (xd g8) 1
    have s9:=stN g8r (x9 _) (x9 (c.en i)) (qdp _)
    have g9:(H8.set (H.next+1) (OR (encE (c.en i)) qk)).get H4.next=some (OR (encE (c.en i)) qk):=by rw [qae (by omega)];exact g8
    have l91:Op.load1 [.ptr H4.next 1] (H8.set (H.next+1) (OR (encE (c.en i)) qk))=some (.int .i64 (c.en i).st):=zw (xd g9) 1
    have l9:=ldN (xj H8 (H.next+1) (OR (encE (c.en i)) qk)) (x9 (c.en i))
    have ef:c.fill line st x=({ c with us:=c.us+1,sl:=c.sl.set i ⟨line,st,false,false,x,.zero,c.us+1⟩ },c.en i,0):=by unfold Ca.fill;rw [hp,hr]
    have eu:(c.set i ⟨line,st,false,false,x,.zero,0⟩).use i = { c with us:=c.us+1,sl:=c.sl.set i ⟨line,st,false,false,x,.zero,c.us+1⟩ }:=by
     unfold Ca.use
     rw [qlj hi]
     unfold Ca.set
     simp only [List.set_set]
    rw [eu] at h8
    have fo:Fr (On (H.next+1)) H8 (H8.set (H.next+1) (OR (encE (c.en i)) qk)):=(Fr.refl H8).set (W:=On (H.next+1)) (.inl rfl) _
    have f08:Fr (CaW b sv) H H8:=frT ((frT (frE f04) (frE f5)).trans f6 fun y (q:y=H4.next)=>.inr (by omega)) f68
    have end_:CaR (H8.set (H.next+1) (OR (encE (c.en i)) qk)) b sv (c.fill line st x).1/\Fr (CaW b sv) H (H8.set (H.next+1) (OR (encE (c.en i)) qk)):=by
     rw [ef]
     exact ⟨h8.fr fo (fun (q:b=H.next+1)=>by omega) (fun (q:slB sv=H.next+1)=>by omega),f08.set (.inr (by omega)) _⟩
    by_cases h0:(c.en i).st=0
    ·simp only [↓qj,xh,reduceIte,Nat.reduceEqDiff,l8,l81,ja h0,s9,l91,l9]
     refine ⟨?_,end_⟩
     unfold fillV;rw [ef];simp [h0]
    ·simp only [↓qj,xh,reduceIte,Nat.reduceEqDiff,l8,l81,h0,s9,l91,l9]
     refine ⟨?_,end_⟩
     unfold fillV;rw [ef];simp [h0]
 rcases hst with rfl|rfl
 ·have t1:=ja (show (1:Int)=1 from rfl)
  simp only [↓qj,xh,reduceIte,Nat.reduceEqDiff,w0,xx,<-e1,n1,eZ,<-e2,w2,qau,nl,t1]
  exact k16
 ·have t1:¬ (2:Int)=1:=by decide
  have t2:=ja (show (2:Int)=2 from rfl)
  simp only [↓qj,xh,reduceIte,Nat.reduceEqDiff,w0,xx,<-e1,n1,eZ,<-e2,w2,qau,nl,t1,t2]
  exact k16
end
end Go.Am
