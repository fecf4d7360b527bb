/- NmKa: NiH NiK. -/
import Derived.Test.YtiibohocdbaekaaAmMNmK9
set_option linter.unusedVariables false
set_option linter.unusedSimpArgs false
set_option linter.unusedSectionVars false
set_option maxRecDepth 100000
open Nat (reduceEqDiff)
namespace Go.Am
open Go.Proofs Ca
open Lang (ints)
variable {M:aL} [MK M]
section
variable {H0 H:AHeap} {r b:Nat} {sv bv:AV} {n:No} {ks:List Nat}
theorem uY {lines line:Int} {c:Ca} (h:CI lines c):0<=(c.drop line).2.line:=by
 unfold Ca.drop;cases hp:c.fE line 0 with
 | none=>exact Int.le_refl _
 | some i =>
  rw [jD] at hp;obtain ⟨h0,hi,hv,hl,-⟩:=h.aV hp;show 0<=(c.en i).line;rw [hl];exact h0
theorem q7n (h:bY H0 H r b sv bv n ks) (hci:CI n.lines n.c) (hk:n.au.length<=900000) (line:Int):jx M BU [.ptr r 0,.int .i64 line] H (kP H0 H r b sv bv (n.aO line)):=by
 refine qtm ?_;obtain ⟨w0,w2,w17,w19,w27,w33⟩:=qtn M ⟨none,BU⟩
 by_cases q1:line<0
 ·have ea:n.aO line=(n,[]):=by unfold No.aO;rw [qm (.inl q1)]
  rw [ea];simp only [↓qi,xd,reduceIte,reduceEqDiff,w0,w2,yh,q1];exact ⟨⟨.nils,_,rfl,ir.nil ..⟩,h.same (Fr.refl _)⟩
 by_cases q2:n.lines<=line
 ·have ea:n.aO line=(n,[]):=by unfold No.aO;rw [qm (.inr q2)]
  rw [ea];simp only [↓qi,xd,reduceIte,reduceEqDiff,w0,w2,yh,q1,qg,h.l1,q2];exact ⟨⟨.nils,_,rfl,ir.nil ..⟩,h.same (Fr.refl _)⟩
 have hn:¬ (line<0\/n.lines<=line):=λ q=>q.elim q1 q2;simp only [↓qi,xd,reduceIte,reduceEqDiff,w0,w2,yh,q1,qg,h.l1,q2,w17,h.l2];refine C3.q (Iz (M:=M) h.ca hci line) λ v H1 ⟨hv,f1⟩=>?_;rw [hv,q4z];have n1:=f1.next
 cases hf:n.c.find line with
 | none =>
  have ea:n.aO line=(n,[]):=by unfold No.aO;rw [qe hn,hf]
  rw [ea];have fb:Fr Em H ((H1.alloc (OR (aq .zero) qt)).set H1.next (OR (aq .zero) qt)):=f1.trans (wE _ _) λ _ q=>q.elim;simp only [↓qi,xd,reduceIte,reduceEqDiff,qr,Option.getD_none,II,eZ,ft,w19];exact ⟨⟨.nils,_,rfl,ir.nil ..⟩,h.same fb⟩
 | some x =>
  obtain ⟨n',en⟩:∃ n',n'=(if x.r || x.w then n.dv 4 else n):=⟨_,rfl⟩
  have ea:n.aO line=No.gone { n' with c:=(n'.c.drop line).1 } (n'.c.drop line).2:=by
   unfold No.aO;rw [qe hn,hf,en]
  rw [ea];obtain ⟨H2,e2⟩:∃ X,X=(H1.alloc (OR (aq .zero) qt)).set H1.next (OR (aq x) qt):=⟨_,rfl⟩
  have f2:Fr Em H1 H2:=by rw [e2];exact wE _ _
  have f02:Fr Em H H2:=f1.trans f2 λ _ q=>q.elim;have n2:H2.next=H1.next+1:=by rw [e2];rfl
  have g2:H2.get H1.next=some (OR (aq x) qt):=by rw [e2,xe]
  have h2:=h.em f02;have lr:Op.aa [.ptr H1.next 2] H2=some (.bool x.r):=ze (xb g2) 2;have lw:Op.aa [.ptr H1.next 3] H2=some (.bool x.w):=ze (xb g2) 3;have hlr:=h.lt;have hlb:=h.ca.lt;have hls:aN sv<H.next:=h.ca.sl.lt
  have hbf:=h.bk.fresh;have off:∀ y,H.next<=y -> ¬ eM r b sv bv y:=λ y hy q=>by
   rcases q with q|q|q
   ·omega
   ·exact q.elim (λ q=>by omega) λ q=>by omega
   ·have:=hbf _ q;omega
  -- behind the loss
  have fin:∀ {Hc:AHeap},bY H0 Hc r b sv bv n' ks->CI n.lines n'.c->n'.au=n.au->Fr (eM r b sv bv) H2 Hc -> ∀ {E:Env},lk E 0=some (.ptr r 0)->lk E 1=some (.int .i64 line)->lk E 6=some (.ptr H1.next 0) ->
   W M ⟨none,BU⟩ (jp 33) true (aK M [.tmp 4,.tmp 5] (kY (kP H0 H r b sv bv (No.gone { n' with c:=(n'.c.drop line).1 } (n'.c.drop line).2)))) E [] Hc:=by
   intro Hc hc hci' hb hfc E q0 q1 q6;simp only [↓qi,xd,reduceIte,reduceEqDiff,w33,q0,q1,q6,qg,hc.l2];refine C3.q (Mx (M:=M) hc.ca hci' line) λ v H4 ⟨hv,h4,f4⟩=>?_;rw [hv];unfold pK;have n4:=f4.next
   have nc:=hfc.next
   have gc:Hc.get H1.next=some (OR (aq x) qt):=by rw [hfc.ae _ (by omega) (off _ (by omega))];exact g2
   have g4:H4.get H1.next=some (OR (aq x) qt):=by rw [f4.ae _ (by omega) (λ q=>off H1.next (by omega) (.inr (.inl q)))];exact gc
   have s5:=fG g4 (zt _) (zt (n'.c.drop line).2) (mQ _);have ld5:=fm (xe H4 H1.next (OR (aq (n'.c.drop line).2) qt)) (zt _);have f5:Fr (On H1.next) H4 (H4.set H1.next (OR (aq (n'.c.drop line).2) qt)):=(Fr.refl H4).set (W:=On H1.next) (.inl rfl) _;have hn4:=hc.eG h4 f4 (by rw [(FA ..).1];exact hc.len);have hn5:=hn4.off f5 (λ x (hx:x=H1.next)=>by rw [hx];exact ⟨by have:=h.bk.fr.next;omega,off _ (by omega)⟩);have f05:Fr (eM r b sv bv) H (H4.set H1.next (OR (aq (n'.c.drop line).2) qt)):=(fp (fp (iz f02) hfc) (oK f4)).set (.inr (by omega)) _;simp only [↓qi,xd,reduceIte,reduceEqDiff,qr,q6,q0,s5,ld5];refine C3.q (q1v (M:=M) hn5 (by show n'.au.length<=_;rw [hb];exact hk) _ (uY hci')) λ v H6 ⟨hm,ht⟩=>?_;simp only [↓qi,xd,reduceIte,reduceEqDiff];exact ⟨⟨_,_,rfl,(hm.from f05.next).ms⟩,ht.from f05⟩
  cases hr:x.r with
  | true =>
   rw [hr] at lr en;have en:n'=n.dv 4:=en;simp only [↓qi,xd,reduceIte,reduceEqDiff,qr,xZ,Cd,eZ,ft,<-e2,w19,w27,lr];refine C3.q (BA (M:=M) h2 4) λ _ H3 ⟨h3,f3⟩=>?_;simp only [↓qi,xd,reduceIte,reduceEqDiff];refine fin (by rw [en];exact h3) (by rw [en];exact hci.discard) (by rw [en];rfl) f3 ?_ ?_ ?_
   ·rfl
   ·rfl
   ·rfl
  | false =>
   rw [hr] at lr;cases hw:x.w with
   | true =>
    rw [hr,hw] at en;rw [hw] at lw;have en:n'=n.dv 4:=en;simp only [↓qi,xd,reduceIte,reduceEqDiff,qr,xZ,Cd,eZ,ft,<-e2,w19,w27,lr,lw];refine C3.q (BA (M:=M) h2 4) λ _ H3 ⟨h3,f3⟩=>?_;simp only [↓qi,xd,reduceIte,reduceEqDiff];refine fin (by rw [en];exact h3) (by rw [en];exact hci.discard) (by rw [en];rfl) f3 ?_ ?_ ?_
    ·rfl
    ·rfl
    ·rfl
   | false =>
    rw [hr,hw] at en;rw [hw] at lw;have en:n'=n:=en;simp only [↓qi,xd,reduceIte,reduceEqDiff,qr,xZ,Cd,eZ,ft,<-e2,w19,w27,lr,lw];refine fin (by rw [en];exact h2) (by rw [en];exact hci) (by rw [en]) (Fr.refl _) ?_ ?_ ?_
    ·rfl
    ·rfl
    ·rfl
end
end Go.Am
namespace Go.Am
open Go.Proofs Ca
open Lang (ints)
variable {M:aL} [MK M]
structure Bd (n n':No):Prop where
 bk:n'.au.length<=n.au.length+1
 us:n'.c.us<=n.c.us+2
section
variable {n:No}
theorem q80 (n:No) (x:En):(n.gone x).1.au.length<=n.au.length+1/\(n.gone x).1.c=n.c:=by
 unfold No.gone;split
 ·exact ⟨by show (n.au ++ [x.line]).length<=_;rw [qx];exact qh _,rfl⟩
 ·exact ⟨ki _,rfl⟩
theorem q4w (n:No) (m:Mg) (st:Int):(n.cE m st).1.au.length<=n.au.length+1/\(n.cE m st).1.c.us<=n.c.us+1:=by
 have h:=(M6 n.c m.line st m.d).2;unfold No.cE;split
 ·obtain ⟨a,b⟩:=q80 { n with c:=(n.c.fill m.line st m.d).1 } (n.c.fill m.line st m.d).2.1;exact ⟨a,by rw [b];show (n.c.fill m.line st m.d).1.us<=_;omega⟩
 ·exact ⟨ki _,by show (n.c.fill m.line st m.d).1.us<=_;omega⟩
theorem An (n:No) (m:Mg):Bd n (n.fill m).1:=by
 unfold No.fill;generalize (if m.k=15 then (2:Int) else 1)=st;unfold No.fU;split
 ·obtain ⟨a,b⟩:=q4w (n.dv 3) m st;have e:(n.dv 3).c.us=n.c.us:=rfl;exact ⟨a,by omega⟩
 ·obtain ⟨a,b⟩:=q4w n m st;exact ⟨a,by omega⟩
theorem Bd.refl (n:No):Bd n n:=⟨by omega,by omega⟩
theorem MG (n:No) (k line:Int):Bd n (n.ask k line).1:=by
 unfold No.ask;split
 ·exact Bd.refl n
 ·exact ⟨ki _,by show n.c.us<=_;omega⟩
theorem Ao (n:No) (m:Mg):Bd n (n.az m).1:=by
 unfold No.az;split
 ·exact Bd.refl n
 split
 ·exact ⟨by show (n.lost _ true).au.length<=_;rw [(Ax _ true).1];omega,by show (Ca.drop _ _).1.us<=_;rw [(FA ..).2,(Ax _ true).2.2.2];omega⟩
 split
 ·cases n.c.find m.line with
  | none=>exact Bd.refl n
  | some x =>
   show Bd n (Prod.fst (if m.k=12 then _ else _));split
   ·exact ⟨by show (n.lost _ false).au.length<=_;rw [(Ax _ false).1];omega,by show (Ca.bD _ _).1.us<=_;rw [(q1h ..).2,(Ax _ false).2.2.2];omega⟩
   ·exact ⟨by show (n.lost _ true).au.length<=_;rw [(Ax _ true).1];omega,by show (Ca.drop _ _).1.us<=_;rw [(FA ..).2,(Ax _ true).2.2.2];omega⟩
 split
 ·exact ⟨by show (n.au.filter _).length<=_;have:=List.length_filter_le (λ x=>decide (x ≠ m.line)) n.au;omega,by show n.c.us<=_;omega⟩
 ·cases n.c.find m.line with
  | some x=>exact ⟨ki _,by show (n.c.bW m.line m.d).us<=_;rw [(qyu ..).2];omega⟩
  | none =>
   obtain ⟨a,b⟩:=An { n with out:=⟨0,0,0,.zero⟩ } m;exact ⟨a,b⟩
theorem xE (n:No) (line:Int):Bd n (n.aO line).1:=by
 unfold No.aO;split
 ·exact Bd.refl n
 ·cases n.c.find line with
  | none=>exact Bd.refl n
  | some x =>
   have e:∀ n':No,n'.au=n.au->n'.c.us=n.c.us->Bd n (No.gone { n' with c:=(n'.c.drop line).1 } (n'.c.drop line).2).1:=λ n' e1 e2=>by
    obtain ⟨a,b⟩:=q80 { n' with c:=(n'.c.drop line).1 } (n'.c.drop line).2;refine ⟨by rw [<-e1];exact a,?_⟩;rw [b];show (n'.c.drop line).1.us<=_;rw [(FA ..).2,e2];omega
   show Bd n (No.gone _ _).1
   by_cases q:(x.r || x.w)=true
   ·simp only [qm q];exact e (n.dv 4) rfl rfl
   ·simp only [qe q];exact e n rfl rfl
theorem Ak (n:No) (a:Int):Bd n (n.load a).1:=by
 unfold No.load;split
 ·cases n.c.find (No.ln a) with
  | none=>exact MG ..
  | some x =>
   refine ⟨ki _,?_⟩;show ((if n.live=true then n.c.mark (No.ln a) false else n.c).word a.toNat).1.us<=_;have h1:=(HG (if n.live=true then n.c.mark (No.ln a) false else n.c) a.toNat).2;have h2:(if n.live=true then n.c.mark (No.ln a) false else n.c).us=n.c.us:=by split;exact (Jb ..).1;rfl
   omega
 ·exact Bd.refl n
theorem vM (n:No) (a y:Int):Bd n (n.store a y).1:=by
 unfold No.store;split
 ·split
  ·refine ⟨ki _,?_⟩;show ((if n.live=true then n.c.mark (No.ln a) true else n.c).put a.toNat y).us<=_;have h1:=(Jn (if n.live=true then n.c.mark (No.ln a) true else n.c) a.toNat y).2;have h2:(if n.live=true then n.c.mark (No.ln a) true else n.c).us=n.c.us:=by split;exact (Jb ..).1;rfl
   omega
  ·exact MG ..
 ·exact Bd.refl n
theorem EI (n:No) (a o y:Int):Bd n (n.dP a o y).1:=by
 unfold No.dP;split
 ·split
  ·exact Bd.refl n
  ·split
   ·refine ⟨ki _,?_⟩;have h1:=(HG n.c a.toNat).2;show (if (n.c.word a.toNat).2.getD 0=o then (n.c.word a.toNat).1.put a.toNat y else (n.c.word a.toNat).1).us<=_;split
    ·have h2:=(Jn (n.c.word a.toNat).1 a.toNat y).2;omega
    ·omega
   ·exact MG ..
 ·exact Bd.refl n
end
def gD (core lines s w:Int):No:=⟨core,lines,ic s.toNat w.toNat,⟨0,0,0,.zero⟩,[],false,0⟩
def oY (core lines cores s w:Int):Prop:=lV s w/\0<=core/\core<cores/\cores<=4/\2<=lines/\lines<=64
theorem sM {core lines cores s w:Int} (h:oY core lines cores s w):(gD core lines s w).NI:=by
 obtain ⟨⟨a,b,c,d⟩,-⟩:=h;exact ⟨vJ lines (by omega) (by omega),λ _=>q31 s.toNat w.toNat⟩
def cB (lines cores s w:Int):List AV:=[.int .i64 lines,.int .i64 cores,.int .i64 s,.int .i64 w]
theorem KA (core lines:Int) (b:Nat) (s w:Int):Op.build [.int .i64 0,.int .i64 0,.nilp,.int .i64 0,.int .i64 0,.int .i64 0,.int .u64 0,.int .u64 0,.int .u64 0,.int .u64 0,.int .u64 0,.int .u64 0,.int .u64 0,.int .u64 0,.nils,.bool false,.int .i64 0] [(0,1),(1,1),(2,1)] [.int .i64 core,.int .i64 lines,.ptr b 0]=some (.agg (kX (gD core lines s w) b .nils)):=rfl
def uf (H:AHeap) (core lines cores s w:Int) (v:AV) (H':AHeap):Prop:=(¬ oY core lines cores s w/\v=.tuple [.nilp,.int .i64 2]/\Fr Em H H')\/oY core lines cores s w /\ ∃ r b sv,v=.tuple [.ptr r 0,.int .i64 0]/\bY H H' r b sv .nils (gD core lines s w) []
theorem q2e {H:AHeap} (core lines cores s w:Int):jx M Ek [.int .i64 core,.agg (cB lines cores s w)] H (uf H core lines cores s w):=by
 refine q62 ?_;obtain ⟨w0,w4,w12⟩:=q63 M ⟨none,Ek⟩;obtain ⟨H1,e1⟩:∃ X,X=H.alloc (OR (cB lines cores s w) vx):=⟨_,rfl⟩
 have f1:Fr Em H H1:=by rw [e1];exact (Fr.refl H).alloc _
 have n1:H1.next=H.next+1:=by rw [e1,xp]
 have g1:H1.get H.next=some (OR (cB lines cores s w) vx):=by rw [e1,qy]
 have l2:Op.aa [.ptr H.next 2] H1=some (.int .i64 s):=ze (xb g1) 2;have l3:Op.aa [.ptr H.next 3] H1=some (.int .i64 w):=ze (xb g1) 3;simp only [↓qi,xd,reduceIte,reduceEqDiff,w0,x9,<-e1,l2,l3];refine C3.q (q6t (M:=M) s w) λ v H2 ⟨f2,hv⟩=>?_;have g2:H2.get H.next=some (OR (cB lines cores s w) vx):=by rw [f2.ae _ (by omega) id];exact g1
 have l0:Op.aa [.ptr H.next 0] H2=some (.int .i64 lines):=ze (xb g2) 0;have l1:Op.aa [.ptr H.next 1] H2=some (.int .i64 cores):=ze (xb g2) 1;have f02:Fr Em H H2:=f1.trans f2 λ _ q=>q.elim;have t2:¬ (2:Int)=0:=by decide
 have t0:=xf (show (0:Int)=0 from rfl);rcases hv with ⟨hn,hv⟩|⟨ho,b,sv,hv,hc,hb,hs⟩
 ·rw [hv];simp only [↓qi,xd,reduceIte,reduceEqDiff,qr,w4,t2];exact .inl ⟨λ q=>hn q.1,rfl,f02⟩
 rw [hv]
 by_cases q1:core<0
 ·simp only [↓qi,xd,reduceIte,reduceEqDiff,qr,w4,t0,q1];exact .inl ⟨λ q=>by have:=q.2.1;omega,rfl,f02⟩
 by_cases q2:cores<=core
 ·simp only [↓qi,xd,reduceIte,reduceEqDiff,qr,w4,t0,q1,l1,q2];exact .inl ⟨λ q=>by have:=q.2.2.1;omega,rfl,f02⟩
 by_cases q3:4<cores
 ·simp only [↓qi,xd,reduceIte,reduceEqDiff,qr,w4,t0,q1,l1,q2,q3];exact .inl ⟨λ q=>by have:=q.2.2.2.1;omega,rfl,f02⟩
 by_cases q4:lines<2
 ·simp only [↓qi,xd,reduceIte,reduceEqDiff,qr,w4,t0,q1,l1,q2,q3,l0,q4];exact .inl ⟨λ q=>by have:=q.2.2.2.2.1;omega,rfl,f02⟩
 by_cases q5:64<lines
 ·simp only [↓qi,xd,reduceIte,reduceEqDiff,qr,w4,t0,q1,l1,q2,q3,l0,q4,q5];exact .inl ⟨λ q=>by have:=q.2.2.2.2.2;omega,rfl,f02⟩
 obtain ⟨H3,e3⟩:∃ X,X=H2.alloc (OR (kX (gD core lines s w) b .nils) FW):=⟨_,rfl⟩
 have f3:Fr Em H2 H3:=by rw [e3];exact (Fr.refl H2).alloc _
 simp only [↓qi,xd,reduceIte,reduceEqDiff,qr,w4,t0,q1,l1,q2,q3,l0,q4,q5,w12,KA core lines b s w,x9,<-e3];have hlt:=hc.lt;have hsl:aN sv<H2.next:=hc.sl.lt
 refine .inr ⟨⟨ho,by omega,by omega,by omega,by omega,by omega⟩,H2.next,b,sv,rfl,⟨by rw [e3,qy],by rw [e3,xp];omega,hc.em f3,⟨.inl ⟨rfl,rfl⟩,f02.trans f3 λ _ q=>q.elim⟩,rfl,f02.next,by omega,by omega,by omega,by omega,λ q=>q.1 rfl,λ q=>q.1 rfl,λ q=>q.1 rfl,⟨by show 2<=lines;omega,by show lines<=64;omega⟩,?_⟩⟩;show (List.replicate (s.toNat*w.toNat) En.zero).length<=40;rw [zj];obtain ⟨a,b,c,d⟩:=ho;have:=Nat.mul_le_mul (show s.toNat<=8 by omega) (show w.toNat<=4 by omega);omega
end Go.Am
