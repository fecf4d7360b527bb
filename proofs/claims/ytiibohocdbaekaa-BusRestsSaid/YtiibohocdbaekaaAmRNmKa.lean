/- NmKa: NiH NiK. -/
import Derived.Test.YtiibohocdbaekaaAmRNmK9
set_option linter.unusedVariables false
set_option linter.unusedSimpArgs false
set_option linter.unusedSectionVars false
set_option maxRecDepth 100000
open Nat (reduceEqDiff)
namespace Go.Am
open Go.Proofs Ca
open Lang (ints)
variable {M:aO} [MK M]
section
variable {H0 H:AHeap} {r b:Nat} {sv bv:AV} {n:No} {ks:List Nat}
theorem uo {lines line:Int} {c:Ca} (h:CI lines c):0<=(c.drop line).2.line:=by
 unfold Ca.drop;cases hp:c.fJ line 0 with
 | none=>exact Int.le_refl _
 | some i =>
  rw [i9] at hp;obtain ⟨h0,hi,hv,hl,-⟩:=h.aW hp;show 0<=(c.en i).line;rw [hl];exact h0
theorem q7k (h:cd H0 H r b sv bv n ks) (hci:CI n.lines n.c) (hk:n.au.length<=900000) (line:Int):jv M BQ [.ptr r 0,.int .i64 line] H (kV H0 H r b sv bv (n.aQ line)):=by
 refine qte ?_;obtain ⟨w0,w2,w17,w19,w27,w33⟩:=qtf M ⟨none,BQ⟩
 by_cases q1:line<0
 ·have ea:n.aQ line=(n,[]):=by unfold No.aQ;rw [qm (.inl q1)]
  rw [ea];simp only [↓qh,xa,reduceIte,reduceEqDiff,w0,w2,yk,q1];exact ⟨⟨.nils,_,rfl,ir.nil ..⟩,h.same (Fr.refl _)⟩
 by_cases q2:n.lines<=line
 ·have ea:n.aQ line=(n,[]):=by unfold No.aQ;rw [qm (.inr q2)]
  rw [ea];simp only [↓qh,xa,reduceIte,reduceEqDiff,w0,w2,yk,q1,qf,h.l1,q2];exact ⟨⟨.nils,_,rfl,ir.nil ..⟩,h.same (Fr.refl _)⟩
 have hn:¬ (line<0\/n.lines<=line):=λ q=>q.elim q1 q2;simp only [↓qh,xa,reduceIte,reduceEqDiff,w0,w2,yk,q1,qf,h.l1,q2,w17,h.l2];refine C3.q (J9 (M:=M) h.ca hci line) λ v H1 ⟨hv,f1⟩=>?_;rw [hv,q40];have n1:=f1.next
 cases hf:n.c.find line with
 | none =>
  have ea:n.aQ line=(n,[]):=by unfold No.aQ;rw [qd hn,hf]
  rw [ea];have fb:Fr Em H ((H1.alloc (OR (aA .zero) qt)).set H1.next (OR (aA .zero) qt)):=f1.trans (wB _ _) λ _ q=>q.elim;simp only [↓qh,xa,reduceIte,reduceEqDiff,qp,Option.getD_none,GH,eZ,fF,w19];exact ⟨⟨.nils,_,rfl,ir.nil ..⟩,h.same fb⟩
 | some x =>
  obtain ⟨n',en⟩:∃ n',n'=(if x.r || x.w then n.dB 4 else n):=⟨_,rfl⟩
  have ea:n.aQ line=No.gone { n' with c:=(n'.c.drop line).1 } (n'.c.drop line).2:=by
   unfold No.aQ;rw [qd hn,hf,en]
  rw [ea];obtain ⟨H2,e2⟩:∃ X,X=(H1.alloc (OR (aA .zero) qt)).set H1.next (OR (aA x) qt):=⟨_,rfl⟩
  have f2:Fr Em H1 H2:=by rw [e2];exact wB _ _
  have f02:Fr Em H H2:=f1.trans f2 λ _ q=>q.elim;have n2:H2.next=H1.next+1:=by rw [e2];rfl
  have g2:H2.get H1.next=some (OR (aA x) qt):=by rw [e2,xd]
  have h2:=h.em f02;have lr:Op.aa [.ptr H1.next 2] H2=some (.bool x.r):=zf (xb g2) 2;have lw:Op.aa [.ptr H1.next 3] H2=some (.bool x.w):=zf (xb g2) 3;have hlr:=h.lt;have hlb:=h.ca.lt;have hls:aM sv<H.next:=h.ca.sl.lt
  have hbf:=h.bk.fresh;have off:∀ y,H.next<=y -> ¬ eQ r b sv bv y:=λ y hy q=>by
   rcases q with q|q|q
   ·omega
   ·exact q.elim (λ q=>by omega) λ q=>by omega
   ·have:=hbf _ q;omega
  -- behind the loss
  have fin:∀ {Hc:AHeap},cd H0 Hc r b sv bv n' ks->CI n.lines n'.c->n'.au=n.au->Fr (eQ r b sv bv) H2 Hc -> ∀ {E:Env},lk E 0=some (.ptr r 0)->lk E 1=some (.int .i64 line)->lk E 6=some (.ptr H1.next 0) ->
   W M ⟨none,BQ⟩ (jm 33) true (aP M [.tmp 4,.tmp 5] (lM (kV H0 H r b sv bv (No.gone { n' with c:=(n'.c.drop line).1 } (n'.c.drop line).2)))) E [] Hc:=by
   intro Hc hc hci' hb hfc E q0 q1 q6;simp only [↓qh,xa,reduceIte,reduceEqDiff,w33,q0,q1,q6,qf,hc.l2];refine C3.q (KM (M:=M) hc.ca hci' line) λ v H4 ⟨hv,h4,f4⟩=>?_;rw [hv];unfold pW;have n4:=f4.next
   have nc:=hfc.next
   have gc:Hc.get H1.next=some (OR (aA x) qt):=by rw [hfc.ae _ (by omega) (off _ (by omega))];exact g2
   have g4:H4.get H1.next=some (OR (aA x) qt):=by rw [f4.ae _ (by omega) (λ q=>off H1.next (by omega) (.inr (.inl q)))];exact gc
   have s5:=iw g4 (ja _) (ja (n'.c.drop line).2) (qS _);have ld5:=fQ (xd H4 H1.next (OR (aA (n'.c.drop line).2) qt)) (ja _);have f5:Fr (On H1.next) H4 (H4.set H1.next (OR (aA (n'.c.drop line).2) qt)):=(Fr.refl H4).set (W:=On H1.next) (.inl rfl) _;have hn4:=hc.eI h4 f4 (by rw [(Fi ..).1];exact hc.len);have hn5:=hn4.off f5 (λ x (hx:x=H1.next)=>by rw [hx];exact ⟨by have:=h.bk.fr.next;omega,off _ (by omega)⟩);have f05:Fr (eQ r b sv bv) H (H4.set H1.next (OR (aA (n'.c.drop line).2) qt)):=(fI (fI (iB f02) hfc) (pk f4)).set (.inr (by omega)) _;simp only [↓qh,xa,reduceIte,reduceEqDiff,qp,q6,q0,s5,ld5];refine C3.q (q1p (M:=M) hn5 (by show n'.au.length<=_;rw [hb];exact hk) _ (uo hci')) λ v H6 ⟨hm,ht⟩=>?_;simp only [↓qh,xa,reduceIte,reduceEqDiff];exact ⟨⟨_,_,rfl,(hm.from f05.next).ms⟩,ht.from f05⟩
  cases hr:x.r with
  | true =>
   rw [hr] at lr en;have en:n'=n.dB 4:=en;simp only [↓qh,xa,reduceIte,reduceEqDiff,qp,yF,CB,eZ,fF,<-e2,w19,w27,lr];refine C3.q (AK (M:=M) h2 4) λ _ H3 ⟨h3,f3⟩=>?_;simp only [↓qh,xa,reduceIte,reduceEqDiff];refine fin (by rw [en];exact h3) (by rw [en];exact hci.discard) (by rw [en];rfl) f3 ?_ ?_ ?_
   ·rfl
   ·rfl
   ·rfl
  | false =>
   rw [hr] at lr;cases hw:x.w with
   | true =>
    rw [hr,hw] at en;rw [hw] at lw;have en:n'=n.dB 4:=en;simp only [↓qh,xa,reduceIte,reduceEqDiff,qp,yF,CB,eZ,fF,<-e2,w19,w27,lr,lw];refine C3.q (AK (M:=M) h2 4) λ _ H3 ⟨h3,f3⟩=>?_;simp only [↓qh,xa,reduceIte,reduceEqDiff];refine fin (by rw [en];exact h3) (by rw [en];exact hci.discard) (by rw [en];rfl) f3 ?_ ?_ ?_
    ·rfl
    ·rfl
    ·rfl
   | false =>
    rw [hr,hw] at en;rw [hw] at lw;have en:n'=n:=en;simp only [↓qh,xa,reduceIte,reduceEqDiff,qp,yF,CB,eZ,fF,<-e2,w19,w27,lr,lw];refine fin (by rw [en];exact h2) (by rw [en];exact hci) (by rw [en]) (Fr.refl _) ?_ ?_ ?_
    ·rfl
    ·rfl
    ·rfl
end
end Go.Am
namespace Go.Am
open Go.Proofs Ca
open Lang (ints)
variable {M:aO} [MK M]
structure Bd (n n':No):Prop where
 bk:n'.au.length<=n.au.length+1
 us:n'.c.us<=n.c.us+2
section
variable {n:No}
theorem q8z (n:No) (x:En):(n.gone x).1.au.length<=n.au.length+1/\(n.gone x).1.c=n.c:=by
 unfold No.gone;split
 ·exact ⟨by show (n.au ++ [x.line]).length<=_;rw [qu];exact qg _,rfl⟩
 ·exact ⟨ko _,rfl⟩
theorem q4x (n:No) (m:Mg) (st:Int):(n.cI m st).1.au.length<=n.au.length+1/\(n.cI m st).1.c.us<=n.c.us+1:=by
 have h:=(L4 n.c m.line st m.d).2;unfold No.cI;split
 ·obtain ⟨a,b⟩:=q8z { n with c:=(n.c.fill m.line st m.d).1 } (n.c.fill m.line st m.d).2.1;exact ⟨a,by rw [b];show (n.c.fill m.line st m.d).1.us<=_;omega⟩
 ·exact ⟨ko _,by show (n.c.fill m.line st m.d).1.us<=_;omega⟩
theorem zF (n:No) (m:Mg):Bd n (n.fill m).1:=by
 unfold No.fill;generalize (if m.k=15 then (2:Int) else 1)=st;unfold No.fZ;split
 ·obtain ⟨a,b⟩:=q4x (n.dB 3) m st;have e:(n.dB 3).c.us=n.c.us:=rfl;exact ⟨a,by omega⟩
 ·obtain ⟨a,b⟩:=q4x n m st;exact ⟨a,by omega⟩
theorem Bd.refl (n:No):Bd n n:=⟨by omega,by omega⟩
theorem LW (n:No) (k line:Int):Bd n (n.ask k line).1:=by
 unfold No.ask;split
 ·exact Bd.refl n
 ·exact ⟨ko _,by show n.c.us<=_;omega⟩
theorem zQ (n:No) (m:Mg):Bd n (n.av m).1:=by
 unfold No.av;split
 ·exact Bd.refl n
 split
 ·exact ⟨by show (n.lost _ true).au.length<=_;rw [(Ad _ true).1];omega,by show (Ca.drop _ _).1.us<=_;rw [(Fi ..).2,(Ad _ true).2.2.2];omega⟩
 split
 ·cases n.c.find m.line with
  | none=>exact Bd.refl n
  | some x =>
   show Bd n (Prod.fst (if m.k=12 then _ else _));split
   ·exact ⟨by show (n.lost _ false).au.length<=_;rw [(Ad _ false).1];omega,by show (Ca.bI _ _).1.us<=_;rw [(q1a ..).2,(Ad _ false).2.2.2];omega⟩
   ·exact ⟨by show (n.lost _ true).au.length<=_;rw [(Ad _ true).1];omega,by show (Ca.drop _ _).1.us<=_;rw [(Fi ..).2,(Ad _ true).2.2.2];omega⟩
 split
 ·exact ⟨by show (n.au.filter _).length<=_;have:=List.length_filter_le (λ x=>decide (x ≠ m.line)) n.au;omega,by show n.c.us<=_;omega⟩
 ·cases n.c.find m.line with
  | some x=>exact ⟨ko _,by show (n.c.bZ m.line m.d).us<=_;rw [(qyl ..).2];omega⟩
  | none =>
   obtain ⟨a,b⟩:=zF { n with out:=⟨0,0,0,.zero⟩ } m;exact ⟨a,b⟩
theorem Ao (n:No) (line:Int):Bd n (n.aQ line).1:=by
 unfold No.aQ;split
 ·exact Bd.refl n
 ·cases n.c.find line with
  | none=>exact Bd.refl n
  | some x =>
   have e:∀ n':No,n'.au=n.au->n'.c.us=n.c.us->Bd n (No.gone { n' with c:=(n'.c.drop line).1 } (n'.c.drop line).2).1:=λ n' e1 e2=>by
    obtain ⟨a,b⟩:=q8z { n' with c:=(n'.c.drop line).1 } (n'.c.drop line).2;refine ⟨by rw [<-e1];exact a,?_⟩;rw [b];show (n'.c.drop line).1.us<=_;rw [(Fi ..).2,e2];omega
   show Bd n (No.gone _ _).1
   by_cases q:(x.r || x.w)=true
   ·simp only [qm q];exact e (n.dB 4) rfl rfl
   ·simp only [qd q];exact e n rfl rfl
theorem zS (n:No) (a:Int):Bd n (n.load a).1:=by
 unfold No.load;split
 ·cases n.c.find (No.ln a) with
  | none=>exact LW ..
  | some x =>
   refine ⟨ko _,?_⟩;show ((if n.live=true then n.c.mark (No.ln a) false else n.c).word a.toNat).1.us<=_;have h1:=(Is (if n.live=true then n.c.mark (No.ln a) false else n.c) a.toNat).2;have h2:(if n.live=true then n.c.mark (No.ln a) false else n.c).us=n.c.us:=by split;exact (JC ..).1;rfl
   omega
 ·exact Bd.refl n
theorem tf (n:No) (a y:Int):Bd n (n.store a y).1:=by
 unfold No.store;split
 ·split
  ·refine ⟨ko _,?_⟩;show ((if n.live=true then n.c.mark (No.ln a) true else n.c).put a.toNat y).us<=_;have h1:=(Ka (if n.live=true then n.c.mark (No.ln a) true else n.c) a.toNat y).2;have h2:(if n.live=true then n.c.mark (No.ln a) true else n.c).us=n.c.us:=by split;exact (JC ..).1;rfl
   omega
  ·exact LW ..
 ·exact Bd.refl n
theorem EF (n:No) (a o y:Int):Bd n (n.eD a o y).1:=by
 unfold No.eD;split
 ·split
  ·exact Bd.refl n
  ·split
   ·refine ⟨ko _,?_⟩;have h1:=(Is n.c a.toNat).2;show (if (n.c.word a.toNat).2.getD 0=o then (n.c.word a.toNat).1.put a.toNat y else (n.c.word a.toNat).1).us<=_;split
    ·have h2:=(Ka (n.c.word a.toNat).1 a.toNat y).2;omega
    ·omega
   ·exact LW ..
 ·exact Bd.refl n
end
def gg (core lines s w:Int):No:=⟨core,lines,gZ s.toNat w.toNat,⟨0,0,0,.zero⟩,[],false,0⟩
def oH (core lines cores s w:Int):Prop:=mn s w/\0<=core/\core<cores/\cores<=4/\2<=lines/\lines<=64
theorem uF {core lines cores s w:Int} (h:oH core lines cores s w):(gg core lines s w).NI:=by
 obtain ⟨⟨a,b,c,d⟩,-⟩:=h;exact ⟨uz lines (by omega) (by omega),λ _=>q3v s.toNat w.toNat⟩
def cA (lines cores s w:Int):List AV:=[.int .i64 lines,.int .i64 cores,.int .i64 s,.int .i64 w]
theorem L3 (core lines:Int) (b:Nat) (s w:Int):Op.build [.int .i64 0,.int .i64 0,.nilp,.int .i64 0,.int .i64 0,.int .i64 0,.int .u64 0,.int .u64 0,.int .u64 0,.int .u64 0,.int .u64 0,.int .u64 0,.int .u64 0,.int .u64 0,.nils,.bool false,.int .i64 0] [(0,1),(1,1),(2,1)] [.int .i64 core,.int .i64 lines,.ptr b 0]=some (.agg (kZ (gg core lines s w) b .nils)):=rfl
def sZ (H:AHeap) (core lines cores s w:Int) (v:AV) (H':AHeap):Prop:=(¬ oH core lines cores s w/\v=.tuple [.nilp,.int .i64 2]/\Fr Em H H')\/oH core lines cores s w /\ ∃ r b sv,v=.tuple [.ptr r 0,.int .i64 0]/\cd H H' r b sv .nils (gg core lines s w) []
theorem q18 {H:AHeap} (core lines cores s w:Int):jv M Dq [.int .i64 core,.agg (cA lines cores s w)] H (sZ H core lines cores s w):=by
 refine q6z ?_;obtain ⟨w0,w4,w12⟩:=q60 M ⟨none,Dq⟩;obtain ⟨H1,e1⟩:∃ X,X=H.alloc (OR (cA lines cores s w) vh):=⟨_,rfl⟩
 have f1:Fr Em H H1:=by rw [e1];exact (Fr.refl H).alloc _
 have n1:H1.next=H.next+1:=by rw [e1,xn]
 have g1:H1.get H.next=some (OR (cA lines cores s w) vh):=by rw [e1,qx]
 have l2:Op.aa [.ptr H.next 2] H1=some (.int .i64 s):=zf (xb g1) 2;have l3:Op.aa [.ptr H.next 3] H1=some (.int .i64 w):=zf (xb g1) 3;simp only [↓qh,xa,reduceIte,reduceEqDiff,w0,xw,<-e1,l2,l3];refine C3.q (q6r (M:=M) s w) λ v H2 ⟨f2,hv⟩=>?_;have g2:H2.get H.next=some (OR (cA lines cores s w) vh):=by rw [f2.ae _ (by omega) id];exact g1
 have l0:Op.aa [.ptr H.next 0] H2=some (.int .i64 lines):=zf (xb g2) 0;have l1:Op.aa [.ptr H.next 1] H2=some (.int .i64 cores):=zf (xb g2) 1;have f02:Fr Em H H2:=f1.trans f2 λ _ q=>q.elim;have t2:¬ (2:Int)=0:=by decide
 have t0:=xj (show (0:Int)=0 from rfl);rcases hv with ⟨hn,hv⟩|⟨ho,b,sv,hv,hc,hb,hs⟩
 ·rw [hv];simp only [↓qh,xa,reduceIte,reduceEqDiff,qp,w4,t2];exact .inl ⟨λ q=>hn q.1,rfl,f02⟩
 rw [hv]
 by_cases q1:core<0
 ·simp only [↓qh,xa,reduceIte,reduceEqDiff,qp,w4,t0,q1];exact .inl ⟨λ q=>by have:=q.2.1;omega,rfl,f02⟩
 by_cases q2:cores<=core
 ·simp only [↓qh,xa,reduceIte,reduceEqDiff,qp,w4,t0,q1,l1,q2];exact .inl ⟨λ q=>by have:=q.2.2.1;omega,rfl,f02⟩
 by_cases q3:4<cores
 ·simp only [↓qh,xa,reduceIte,reduceEqDiff,qp,w4,t0,q1,l1,q2,q3];exact .inl ⟨λ q=>by have:=q.2.2.2.1;omega,rfl,f02⟩
 by_cases q4:lines<2
 ·simp only [↓qh,xa,reduceIte,reduceEqDiff,qp,w4,t0,q1,l1,q2,q3,l0,q4];exact .inl ⟨λ q=>by have:=q.2.2.2.2.1;omega,rfl,f02⟩
 by_cases q5:64<lines
 ·simp only [↓qh,xa,reduceIte,reduceEqDiff,qp,w4,t0,q1,l1,q2,q3,l0,q4,q5];exact .inl ⟨λ q=>by have:=q.2.2.2.2.2;omega,rfl,f02⟩
 obtain ⟨H3,e3⟩:∃ X,X=H2.alloc (OR (kZ (gg core lines s w) b .nils) FV):=⟨_,rfl⟩
 have f3:Fr Em H2 H3:=by rw [e3];exact (Fr.refl H2).alloc _
 simp only [↓qh,xa,reduceIte,reduceEqDiff,qp,w4,t0,q1,l1,q2,q3,l0,q4,q5,w12,L3 core lines b s w,xw,<-e3];have hlt:=hc.lt;have hsl:aM sv<H2.next:=hc.sl.lt
 refine .inr ⟨⟨ho,by omega,by omega,by omega,by omega,by omega⟩,H2.next,b,sv,rfl,⟨by rw [e3,qx],by rw [e3,xn];omega,hc.em f3,⟨.inl ⟨rfl,rfl⟩,f02.trans f3 λ _ q=>q.elim⟩,rfl,f02.next,by omega,by omega,by omega,by omega,λ q=>q.1 rfl,λ q=>q.1 rfl,λ q=>q.1 rfl,⟨by show 2<=lines;omega,by show lines<=64;omega⟩,?_⟩⟩;show (List.replicate (s.toNat*w.toNat) En.zero).length<=40;rw [za];obtain ⟨a,b,c,d⟩:=ho;have:=Nat.mul_le_mul (show s.toNat<=8 by omega) (show w.toNat<=4 by omega);omega
end Go.Am
