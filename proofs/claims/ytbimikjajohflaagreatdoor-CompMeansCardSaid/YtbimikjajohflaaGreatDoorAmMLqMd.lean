/- LqMd: IsA IsB. -/
import Derived.Test.YtbimikjajohflaaGreatDoorAmMCodeMQ
import Derived.Test.YtbimikjajohflaaGreatDoorAmMLqMa
import Derived.Test.YtbimikjajohflaaGreatDoorAmMLqM0
set_option linter.unusedVariables false
set_option linter.unusedSimpArgs false
set_option linter.unusedSectionVars false
set_option maxRecDepth 100000
open Nat (reduceEqDiff)
namespace Go.Am
open Lang Go.Proofs
variable {M:aO} [MK M]
def II (op:Nat):List UInt8:=match op with
 | 1=>[104,97,108,116]
 | 2=>[115,101,116]
 | 3=>[109,111,118]
 | 4=>[97,100,100]
 | 5=>[115,117,98]
 | 6=>[109,117,108]
 | 7=>[97,110,100]
 | 8=>[120,111,114]
 | 9=>[115,104,108]
 | 10=>[115,104,114]
 | 11=>[108,111,97,100]
 | 12=>[115,116,111,114,101]
 | 13=>[106,117,109,112]
 | 14=>[101,113]
 | 15=>[110,101]
 | 16=>[108,116]
 | 17=>[98,101,103,105,110]
 | 18=>[101,110,100]
 | _=>[]
def pn:List AV:=(List.range 19).flatMap λ k=>[.str (II k),.str (gJ k)]
def xD (H:AHeap):Prop:=H.bz BD=some pn/\BD<H.next
theorem xD.em {H H':AHeap} (h:xD H) (f:Fr Em H H'):xD H':=⟨(f.cells h.2 id).trans h.1,qe h.2 f.next⟩
theorem sR:∀ k:Nat,k<19->pn[k*2+1]? = some (.str (gJ k))
 | 0,_=>rfl
 | 1,_=>rfl
 | 2,_=>rfl
 | 3,_=>rfl
 | 4,_=>rfl
 | 5,_=>rfl
 | 6,_=>rfl
 | 7,_=>rfl
 | 8,_=>rfl
 | 9,_=>rfl
 | 10,_=>rfl
 | 11,_=>rfl
 | 12,_=>rfl
 | 13,_=>rfl
 | 14,_=>rfl
 | 15,_=>rfl
 | 16,_=>rfl
 | 17,_=>rfl
 | 18,_=>rfl
 | k+19,h=>absurd h (by omega)
def gn (i:bB):List AV:=[.int .i64 i.op,.int .i64 i.a,.int .i64 i.b,.int .i64 i.c,.int .i64 i.mA]
def jB (op:Int):Prop:=1<=op/\op<=18
instance (op:Int):Decidable (jB op):=inferInstanceAs (Decidable (_/\_))
theorem xbp {H:AHeap} (hs:xD H) (op:Int):ye M Dw [.int .i64 op] H λ v H'=>v=.tuple [.str (if jB op then gJ op.toNat else []),.bool (decide (jB op))]/\H'=H:=by
 refine q67 ?_;obtain ⟨w0,w2,w10⟩:=q68 M ⟨none,Dw⟩
 by_cases h1:op<1
 ·have hn:¬ jB op:=λ q=>by have:=q.1;omega
  simp only [↓qh,qq,reduceIte,reduceEqDiff,w0,w2,h1,qc hn,jf hn]
 by_cases h2:(19:Int)<=op
 ·have hn:¬ jB op:=λ q=>by have:=q.2;omega
  simp only [↓qh,qq,reduceIte,reduceEqDiff,w0,w2,h1,h2,qc hn,jf hn]
 have hy:jB op:=⟨by omega,by omega⟩
 have ix:Op.bp 19 2 [.ptr BD 0,.int .i64 op]=some (.ptr BD (0+op.toNat*2)):=by
  simp only [Op.bp];rw [xZ (i:=op.toNat) (by omega) (by omega)];rfl
 have ld:Op.aa [.ptr BD (op.toNat*2+1)] H=some (.str (gJ op.toNat)):=by
  rw [j8 hs.1];exact sR op.toNat (by omega)
 simp only [↓qh,qq,reduceIte,reduceEqDiff,w0,w2,h1,h2,w10,ix,ld,qk hy,jd hy]
theorem wW {x c:UInt8} (h:¬ x=c):yF x c=false:=by
 cases q:yF x c with
 | false=>rfl
 | true=>exact (h (by simpa [yF,<-UInt8.toNat_inj] using q)).elim
theorem q4u (c:UInt8):∀ (s:List UInt8) (k:Nat),(∃ i:Nat,zJ c s k=some i/\c ∈ s)\/zJ c s k=none/\c ∉ s:=by
 intro s
 induction s with
 | nil=>intro k;exact .inr ⟨rfl,by simp⟩
 | cons x s ih =>
  intro k
  by_cases h:x=c
  ·subst h;exact .inl ⟨k,by simp [zJ,yF],by simp⟩
  ·rcases ih (k+1) with ⟨i,h1,h3⟩|⟨h1,h2⟩
   ·exact .inl ⟨i,by simp [zJ,wW h,h1],by simp [h3]⟩
   ·exact .inr ⟨by simp [zJ,wW h,h1],by simp [h2,Ne.symm h]⟩
theorem zU {s:List UInt8} {c:UInt8} {H:AHeap}:ye M GJ [.str s,.int .u8 c.toNat] H λ v H'=>H'=H /\ ∃ z:Int,v=.int .i64 z/\(c ∈ s->0<=z)/\(c ∉ s->z = -1):=by
 refine qth ?_;simp only [↓qh,qq,reduceIte,reduceEqDiff,qti];refine C3.q (R:=λ v H'=>H'=H /\ ∃ z:Int,v=.int .i64 z/\(c ∈ s->0<=z)/\(c ∉ s->z = -1)) ?_ λ v H' ⟨hh,z,hv,h1,h2⟩=>?_
 ·refine qjd ?_;rcases q4u c s 0 with ⟨i,h1,h3⟩|⟨h1,h2⟩
  ·have e:Op.bV [.str s,.int .u8 c.toNat]=some (.int .i64 (i:Nat)):=by
    simp only [Op.bV,yB,UInt8.ofNat_toNat,h1];rfl
   simp only [↓qh,qq,reduceIte,reduceEqDiff,qer,e];exact ⟨_,rfl,λ _=>by omega,λ q=>(q h3).elim⟩
  ·have e:Op.bV [.str s,.int .u8 c.toNat]=some (.int .i64 (-1)):=by
    simp only [Op.bV,yB,UInt8.ofNat_toNat,h1];rfl
   simp only [↓qh,qq,reduceIte,reduceEqDiff,qer,e];exact ⟨_,rfl,λ q=>(h2 q).elim,λ _=>rfl⟩
 ·subst hv;subst hh;simp only [↓qh,qq,reduceIte,reduceEqDiff];exact ⟨z,rfl,h1,h2⟩
theorem q93 {H:AHeap} (hs:xD H) (i:bB):ye M Ew [.agg (gn i)] H λ v H'=>v=.bool (decide i.eE)/\Fr Em H H':=by
 refine q64 ?_;obtain ⟨w0,w4,w27,w9,w15,w26⟩:=q65 M ⟨none,Ew⟩;obtain ⟨H1,e1⟩:∃ X,X=H.alloc (OR (gn i) z6):=⟨_,rfl⟩
 have f1:Fr Em H H1:=by rw [e1];exact (Fr.refl H).alloc _
 have g1:H1.get H.next=some (OR (gn i) z6):=by rw [e1,qp]
 have ld:∀ k,Op.aa [.ptr H.next k] H1=(gn i)[k]?:=λ k=>j8 (qy g1) k;have l0:Op.aa [.ptr H.next 0] H1=some (.int .i64 i.op):=ld 0;have l1:Op.aa [.ptr H.next 1] H1=some (.int .i64 i.a):=ld 1;have l2:Op.aa [.ptr H.next 2] H1=some (.int .i64 i.b):=ld 2;have l3:Op.aa [.ptr H.next 3] H1=some (.int .i64 i.c):=ld 3;have bd:Op.build [.int .i64 0,.int .i64 0,.int .i64 0] [(0,1),(1,1),(2,1)] [.int .i64 i.a,.int .i64 i.b,.int .i64 i.c]=some (.agg [.int .i64 i.a,.int .i64 i.b,.int .i64 i.c]):=rfl;have ca:AV.cells (.agg (gn i))=gn i:=z7 _;simp only [↓qh,qq,reduceIte,reduceEqDiff,w0,ca,<-e1,l0];refine C3.q (xbp (M:=M) (hs.em f1) i.op) λ v H2 ⟨hv,hh⟩=>?_;subst hv;subst hh;obtain ⟨nm,hnm⟩:∃ nm,nm=(if jB i.op then gJ i.op.toNat else []):=⟨_,rfl⟩
 rw [<-hnm];simp only [↓qh,qq,reduceIte,reduceEqDiff,zo,w4,l1,l2,l3,bd]
 let ok:Nat->Prop:=λ j=>match j with
  | 0=>65 ∈ nm->0<=i.a/\i.a<8
  | 1=>66 ∈ nm->0<=i.b/\i.b<8
  | _=>67 ∈ nm->0<=i.c/\i.c<8
 have hleg:i.eE ↔ jB i.op/\ok 0/\ok 1/\ok 2:=by
  constructor
  ·intro q;have hy:jB i.op:=⟨q.1,q.2.1⟩
   rw [qk hy] at hnm;subst hnm;exact ⟨hy,q.2.2.1,q.2.2.2.1,q.2.2.2.2⟩
  ·intro ⟨hy,q0,q1,q2⟩;rw [qk hy] at hnm;subst hnm;exact ⟨hy.1,hy.2,q0,q1,q2⟩
 have x0:Op.eH 3 1 none [.agg [.int .i64 i.a,.int .i64 i.b,.int .i64 i.c],.int .i64 0]=some (.int .i64 i.a):=rfl;have x1:Op.eH 3 1 none [.agg [.int .i64 i.a,.int .i64 i.b,.int .i64 i.c],.int .i64 1]=some (.int .i64 i.b):=rfl;have x2:Op.eH 3 1 none [.agg [.int .i64 i.a,.int .i64 i.b,.int .i64 i.c],.int .i64 2]=some (.int .i64 i.c):=rfl;have y0:Op.aY [.str [65,66,67],.int .i64 0]=some (.int .u8 ((65:UInt8).toNat:Nat)):=rfl;have y1:Op.aY [.str [65,66,67],.int .i64 1]=some (.int .u8 ((66:UInt8).toNat:Nat)):=rfl;have y2:Op.aY [.str [65,66,67],.int .i64 2]=some (.int .u8 ((67:UInt8).toNat:Nat)):=rfl;have b1:ae .i64 (0+1)=1:=by decide +kernel
 have b2:ae .i64 (1+1)=2:=by decide +kernel
 have b3:ae .i64 (2+1)=3:=by decide +kernel
 have no:∀ {k:Nat},k<3 -> ¬ ok k->decide i.eE=false:=λ {k} hk q=>jf λ w=>by
  obtain ⟨_,q0,q1,q2⟩:=hleg.1 w;rcases (show k=0\/k=1\/k=2 by omega) with rfl|rfl|rfl
  ·exact q q0
  ·exact q q1
  ·exact q q2
 refine bS.intro (λ n E Hx=>∃ k:Nat,E=[(20,.int .i64 (k:Nat)),(19,.agg [.int .i64 i.a,.int .i64 i.b,.int .i64 i.c]),(4,.bool (decide (jB i.op))),(3,.str nm)]/\n=3-k/\k<=3/\Hx=H2 /\ ∀ j,j<k->ok j) ?_ ?_
 ·exact ⟨_,_,⟨0,rfl,rfl,ja _,rfl,λ j hj=>by omega⟩,by simp only [↓qh,qq,reduceIte,reduceEqDiff]⟩
 rintro n E Hx ⟨k,rfl,rfl,hk,rfl,hok⟩;rcases kg k 3 with hk3|hk3
 ·have q1:(k:Int)<3:=by omega
  obtain ⟨c,nk,hx,hy,hokk⟩:∃ (c:UInt8) (nk:Int),Op.eH 3 1 none [.agg [.int .i64 i.a,.int .i64 i.b,.int .i64 i.c],.int .i64 (k:Nat)]=some (.int .i64 nk)/\Op.aY [.str [65,66,67],.int .i64 (k:Nat)]=some (.int .u8 (c.toNat:Nat))/\(ok k ↔ (c ∈ nm->0<=nk/\nk<8)):=by
   rcases (show k=0\/k=1\/k=2 by omega) with rfl|rfl|rfl
   ·exact ⟨65,i.a,x0,y0,zg⟩
   ·exact ⟨66,i.b,x1,y1,zg⟩
   ·exact ⟨67,i.c,x2,y2,zg⟩
  have wk:ae .i64 ((k:Int)+1)=((k+1:Nat):Int):=by rw [zk (by omega) (by omega)];omega
  have go:ok k -> ∀ j,j<k+1->ok j:=λ q j hj=>by
   rcases kg j k with w|w
   ·exact hok j w
   ·rw [show j=k by omega];exact q
  simp only [↓qh,qq,reduceIte,reduceEqDiff,w9,q1,w15,hx,hy];refine C3.q (zU (M:=M)) λ v Hy ⟨hh,z,hv,z1,z2⟩=>?_;subst hv;subst hh
  by_cases hc:c ∈ nm
  ·have hz:(0:Int)<=z:=z1 hc
   by_cases n1:nk<0
   ·have:=no hk3 λ q=>by have:=(hokk.1 q hc).1;omega
    simp only [↓qh,qq,reduceIte,reduceEqDiff,hz,n1,this];exact f1
   by_cases n2:(8:Int)<=nk
   ·have:=no hk3 λ q=>by have:=(hokk.1 q hc).2;omega
    simp only [↓qh,qq,reduceIte,reduceEqDiff,hz,n1,n2,this];exact f1
   simp only [↓qh,qq,reduceIte,reduceEqDiff,hz,n1,n2,w26,wk];exact ⟨_,_,⟨k+1,rfl,rfl,by omega,go (hokk.2 λ _=>⟨by omega,by omega⟩)⟩,by simp only [↓qh,qq,reduceIte,reduceEqDiff],by omega⟩
  ·have hz:¬ (0:Int)<=z:=by rw [z2 hc];decide
   simp only [↓qh,qq,reduceIte,reduceEqDiff,hz,w26,wk];exact ⟨_,_,⟨k+1,rfl,rfl,by omega,go (hokk.2 λ q=>(hc q).elim)⟩,by simp only [↓qh,qq,reduceIte,reduceEqDiff],by omega⟩
 ·have q1:¬ (k:Int)<3:=by omega
  have:decide (jB i.op)=decide i.eE:=by
   have e:i.eE ↔ jB i.op:=⟨λ q=>(hleg.1 q).1,λ q=>hleg.2 ⟨q,hok 0 (by omega),hok 1 (by omega),hok 2 (by omega)⟩⟩
   by_cases q:jB i.op
   ·rw [jd q,jd (e.2 q)]
   ·rw [jf q,jf λ w=>q (e.1 w)]
  simp only [↓qh,qq,reduceIte,reduceEqDiff,w9,q1,reduceCtorEq,w27,this];exact f1
end Go.Am
namespace Go.Am
open Lang Go.Proofs
variable {M:aO} [MK M]
def uC (x:Int):AV:=.int .u64 x
def bD (f:i7):List AV:=[.int .i64 f.kind,.int .i64 f.next,.int .i64 f.mq,.int .u64 f.value,.int .u64 f.addr]
def lZ (x:Int):Prop:=0<=x/\x<18446744073709551616
theorem MZ (n:Int):jH n<8:=by
 unfold jH;rw [BitVec.toNat_and];exact Nat.lt_of_le_of_lt Nat.and_le_right (by decide)
theorem IJ {rs:List Int} (h:rs.length=8) (n:Int):(rs.map uC)[jH n]? = some (.int .u64 (rg rs n)):=by
 have hl:=MZ n;rw [xj,za (by omega)];simp only [rg,yf,za (show jH n<rs.length by omega)];rfl
theorem J1 {rs:List Int} (h:rs.length=8) (hr:∀ x ∈ rs,lZ x) (n:Int):lZ (rg rs n):=by
 have hl:=MZ n;simp only [rg,yf,za (show jH n<rs.length by omega)];exact hr _ (List.getElem_mem _)
theorem Af {x:Int} (hx:lZ x) (n:Nat):x.fdiv (2 ^ n)=ae .u64 (x / 2 ^ n):=by
 obtain ⟨h0,h1⟩:=hx;have hp:(0:Int)<2 ^ n:=Int.pow_pos (by decide);rw [K3 _ (Int.le_of_lt hp),ww (Int.ediv_nonneg h0 (Int.le_of_lt hp))];exact Int.lt_of_le_of_lt (Int.ediv_le_self _ h0) h1
theorem bdL (k n r d:Int):Op.build [.int .i64 0,.int .i64 0,.int .i64 0,.int .u64 0,.int .u64 0] [(0,1),(1,1),(2,1),(4,1)] [.int .i64 k,.int .i64 n,.int .i64 r,.int .u64 d]=some (.agg (bD ⟨k,n,r,0,d⟩)):=rfl
theorem Pa (k n v d:Int):Op.build [.int .i64 0,.int .i64 0,.int .i64 0,.int .u64 0,.int .u64 0] [(0,1),(1,1),(3,1),(4,1)] [.int .i64 k,.int .i64 n,.int .u64 v,.int .u64 d]=some (.agg (bD ⟨k,n,0,v,d⟩)):=rfl
theorem BF {H:AHeap} {b:Nat} {x f:i7} (h:H.get b=some (OR (bD x) xp)):Op.store 5 [.ptr b 0,.agg (bD f)] H=some (.undef,H.set b (OR (bD f) xp)):=by
 rw [y9 (o:=0) (n:=5) (v:=.agg (bD f)) h rfl (by simp [bD]) rfl];rfl
theorem JO {H:AHeap} {b:Nat} {x:i7} (h:H.get b=some (OR (bD x) xp)):Op.au 5 [.ptr b 0] H=some (.agg (bD x)):=by
 rw [mg (c:=bD x) (qy h) (by simp [bD])];rfl
theorem og:Op.build (bD fS) [] []=some (.agg (bD fS)):=rfl
theorem ud (k n:Int):Op.build (bD fS) [(0,1),(1,1)] [.int .i64 k,.int .i64 n]=some (.agg (bD ⟨k,n,0,0,0⟩)):=rfl
theorem IY (k n r v:Int):Op.build (bD fS) [(0,1),(1,1),(2,1),(3,1)] [.int .i64 k,.int .i64 n,.int .i64 r,.int .u64 v]=some (.agg (bD ⟨k,n,r,v,0⟩)):=rfl
theorem jM:[AV.int .i64 0,.int .i64 0,.int .i64 0,.int .u64 0,.int .u64 0]=bD fS:=rfl
structure qG (i:bB) (rs:List Int) (pc:Int) (b:Nat) (H:AHeap):Prop where
 gi:H.get b=some (OR (gn i) z6)
 gr:H.get (b+1)=some (OR (rs.map uC) cQ)
 gp:H.get (b+2)=some (OR [.int .i64 pc] bu)
 ge:H.get (b+3)=some (OR (bD fS) xp)
 lt:b+3<H.next
section
variable {i:bB} {rs:List Int} {pc:Int} {b:Nat} {H H':AHeap}
theorem qG.em (h:qG i rs pc b H) (f:Fr Em H H'):qG i rs pc b H':=by
 have hl:=h.lt;exact ⟨by rw [f.aj _ (by omega) id];exact h.gi,by rw [f.aj _ (by omega) id];exact h.gr,by rw [f.aj _ (by omega) id];exact h.gp,by rw [f.aj _ (by omega) id];exact h.ge,qe hl f.next⟩
theorem qG.li (h:qG i rs pc b H) (k:Nat):Op.aa [.ptr b k] H=(gn i)[k]?:=j8 (qy h.gi) k
theorem qG.lp (h:qG i rs pc b H):Op.aa [.ptr (b+2) 0] H=some (.int .i64 pc):=j8 (qy h.gp) 0
theorem A1 (h:qG i rs pc b H) (hp:0<=pc/\pc<1024) (v:Int):ye M Cp [.int .u64 v,.ptr (b+2) 0,.ptr b 0] H λ w H'=>w=.agg (bD ⟨1,pc+1,i.a,v,0⟩)/\Fr Em H H':=by
 refine xax ?_;obtain ⟨H1,e1⟩:∃ X,X=H.alloc (OR (bD fS) xp):=⟨_,rfl⟩
 have f1:Fr Em H H1:=by rw [e1];exact (Fr.refl H).alloc _
 have g1:H1.get H.next=some (OR (bD fS) xp):=by rw [e1,qp]
 have h1:=h.em f1;have l1:Op.aa [.ptr b 1] H1=some (.int .i64 i.a):=h1.li 1;have wp:ae .i64 (pc+1)=pc+1:=zk (by omega) (by omega);have f2:Fr Em H (H1.set H.next (OR (bD ⟨1,pc+1,i.a,v,0⟩) xp)):=f1.set (.inr (qf _)) _;have ld:=JO (xd H1 H.next (OR (bD ⟨1,pc+1,i.a,v,0⟩) xp));simp only [↓qh,qq,reduceIte,reduceEqDiff,xay,jM,<-e1,h1.lp,wp,l1,IY,BF g1,ld];exact f2
theorem P0 (h:qG i rs pc b H) (hp:0<=pc/\pc<1024) (k:Int):ye M Bv [.int .i64 k,.ptr (b+2) 0] H λ w H'=>w=.agg (bD ⟨k,pc+1,0,0,0⟩)/\Fr Em H H':=by
 refine xa3 ?_;obtain ⟨H1,e1⟩:∃ X,X=H.alloc (OR (bD fS) xp):=⟨_,rfl⟩
 have f1:Fr Em H H1:=by rw [e1];exact (Fr.refl H).alloc _
 have g1:H1.get H.next=some (OR (bD fS) xp):=by rw [e1,qp]
 have h1:=h.em f1;have wp:ae .i64 (pc+1)=pc+1:=zk (by omega) (by omega);have f2:Fr Em H (H1.set H.next (OR (bD ⟨k,pc+1,0,0,0⟩) xp)):=f1.set (.inr (qf _)) _;have ld:=JO (xd H1 H.next (OR (bD ⟨k,pc+1,0,0,0⟩) xp));simp only [↓qh,qq,reduceIte,reduceEqDiff,xa4,jM,<-e1,h1.lp,wp,ud,BF g1,ld];exact f2
theorem Lq (h:qG i rs pc b H) (hp:0<=pc/\pc<1024) (q:Bool):ye M AB [.bool q,.ptr (b+2) 0,.ptr b 0] H λ w H'=>w=.agg (bD (dW i pc q))/\Fr Em H H':=by
 refine xa0 ?_;obtain ⟨w0,w2,w10,w18⟩:=xa1 M ⟨none,AB⟩;obtain ⟨H1,e1⟩:∃ X,X=H.alloc (OR (bD fS) xp):=⟨_,rfl⟩
 have f1:Fr Em H H1:=by rw [e1];exact (Fr.refl H).alloc _
 have g1:H1.get H.next=some (OR (bD fS) xp):=by rw [e1,qp]
 have h1:=h.em f1;have wp:ae .i64 (pc+1)=pc+1:=zk (by omega) (by omega);have l4:Op.aa [.ptr b 4] H1=some (.int .i64 i.mA):=h1.li 4;have f2:∀ f,Fr Em H (H1.set H.next (OR (bD f) xp)):=λ f=>f1.set (.inr (qf _)) _;have ld:∀ f,Op.au 5 [.ptr H.next 0] (H1.set H.next (OR (bD f) xp))=some (.agg (bD f)):=λ f=>JO (xd H1 H.next (OR (bD f) xp));cases q with
 | false =>
  simp only [↓qh,qq,reduceIte,reduceEqDiff,w0,jM,<-e1,w2,h1.lp,wp,ud,BF g1,ld];exact ⟨rfl,f2 _⟩
 | true =>
  by_cases c1:i.mA<0
  ·simp only [↓qh,qq,reduceIte,reduceEqDiff,w0,jM,<-e1,w2,w10,l4,c1,og,BF g1,ld];exact ⟨by unfold dW;rw [qk rfl,qk (.inl c1)],f2 _⟩
  by_cases c2:(1024:Int)<i.mA
  ·simp only [↓qh,qq,reduceIte,reduceEqDiff,w0,jM,<-e1,w2,w10,l4,c1,c2,og,BF g1,ld];exact ⟨by unfold dW;rw [qk rfl,qk (.inr c2)],f2 _⟩
  simp only [↓qh,qq,reduceIte,reduceEqDiff,w0,jM,<-e1,w2,w10,l4,c1,c2,w18,ud,BF g1,ld];exact ⟨by unfold dW;rw [qk rfl,qc (λ q=>q.elim c1 c2)],f2 _⟩
theorem MC (h:qG i rs pc b H) (h8:rs.length=8) (n:Int):ye M BX [.int .i64 n,.ptr (b+1) 0] H λ w H'=>w=.int .u64 (rg rs n)/\H'=H:=by
 refine xa6 ?_;have hl:=MZ n;have an:Op.bin .and [.int .i64 n,.int .i64 7]=some (.int .i64 ((jH n:Nat):Int)):=by
  show some (AV.int .i64 (ae .i64 ((jH n:Nat):Int)))=_;rw [zk (by omega) (by omega)]
 have ix:Op.bp 8 1 [.ptr (b+1) 0,.int .i64 ((jH n:Nat):Int)]=some (.ptr (b+1) (jH n)):=by
  simp only [Op.bp];rw [xZ (i:=jH n) rfl hl];simp
 have ld:Op.aa [.ptr (b+1) (jH n)] H=some (.int .u64 (rg rs n)):=by rw [j8 (qy h.gr)];exact IJ h8 n
 simp only [↓qh,qq,reduceIte,reduceEqDiff,xa7,an,ix,ld]
end
theorem Aq {H:AHeap} (hs:xD H) {i:bB} {rs:List Int} {pc:Int} (h8:rs.length=8) (hr:∀ x ∈ rs,lZ x):ye M DZ [.agg (gn i),.agg (rs.map uC),.int .i64 pc] H λ v H'=>v=.agg (bD (i.bZ rs pc))/\Fr Em H H':=by
 refine sT ?_;obtain ⟨w0,w2,w10,w14,w18,w22,w129,w38,w50,w62,w74,w86,w98,w110,w122⟩:=sM M ⟨none,DZ⟩;obtain ⟨H1,e1⟩:∃ X,X=H.alloc (OR (gn i) z6):=⟨_,rfl⟩
 obtain ⟨H2,e2⟩:∃ X,X=H1.alloc (OR (rs.map uC) cQ):=⟨_,rfl⟩
 obtain ⟨H3,e3⟩:∃ X,X=H2.alloc (OR [.int .i64 pc] bu):=⟨_,rfl⟩
 obtain ⟨H4,e4⟩:∃ X,X=H3.alloc (OR (bD fS) xp):=⟨_,rfl⟩
 have n1:H1.next=H.next+1:=by rw [e1,xk]
 have n2:H2.next=H.next+2:=by rw [e2,xk,n1]
 have n3:H3.next=H.next+3:=by rw [e3,xk,n2]
 have n4:H4.next=H.next+4:=by rw [e4,xk,n3]
 have f1:Fr Em H H1:=by rw [e1];exact (Fr.refl H).alloc _
 have f12:Fr Em H1 H2:=by rw [e2];exact (Fr.refl H1).alloc _
 have f23:Fr Em H2 H3:=by rw [e3];exact (Fr.refl H2).alloc _
 have f34:Fr Em H3 H4:=by rw [e4];exact (Fr.refl H3).alloc _
 have f4:Fr Em H H4:=((f1.trans f12 λ _ q=>q.elim).trans f23 λ _ q=>q.elim).trans f34 λ _ q=>q.elim;have hM:qG i rs pc H.next H4:=by
  refine ⟨?_,?_,?_,?_,by omega⟩
  ·rw [f34.aj _ (by omega) id,f23.aj _ (by omega) id,f12.aj _ (by omega) id,e1,qp]
  ·rw [f34.aj _ (by omega) id,f23.aj _ (by omega) id,e2,<-n1,qp]
  ·rw [f34.aj _ (by omega) id,e3,<-n2,qp]
  ·rw [e4,<-n3,qp]
 have c1:AV.cells (.agg (gn i))=gn i:=z7 _;have c2:AV.cells (.agg (rs.map uC))=rs.map uC:=z7 _;have c3:AV.cells (.int .i64 pc)=[.int .i64 pc]:=rfl;simp only [↓qh,qq,reduceIte,reduceEqDiff,w0,c1,<-e1,c2,<-e2,c3,<-e3,jM,<-e4,n1,n2,n3,w2];have li:Op.au 5 [.ptr H.next 0] H4=some (.agg (gn i)):=by rw [mg (c:=gn i) (qy hM.gi) (by simp [gn])];rfl
 simp only [↓qh,qq,reduceIte,reduceEqDiff,li];refine C3.q (q93 (M:=M) (hs.em f4) i) λ v H5 ⟨hv,f5⟩=>?_;subst hv;have hM5:=hM.em f5;have f05:=f4.trans f5 λ _ q=>q.elim
 -- the end
 have fin:∀ {Hx:AHeap},qG i rs pc H.next Hx->Fr Em H Hx->(∀ f,Op.store 5 [.ptr (H.next+3) 0,.agg (bD f)] Hx=some (.undef,Hx.set (H.next+3) (OR (bD f) xp)))/\(∀ f,Op.au 5 [.ptr (H.next+3) 0] (Hx.set (H.next+3) (OR (bD f) xp))=some (.agg (bD f))) /\ ∀ f,Fr Em H (Hx.set (H.next+3) (OR (bD f) xp)):=λ {Hx} hx fx =>
  ⟨λ f=>BF hx.ge,λ f=>JO (xd Hx (H.next+3) (OR (bD f) xp)),λ f=>fx.set (.inr (by omega)) _⟩
 by_cases hb:¬ i.eE\/pc<0\/1024<=pc
 ·have hd:i.bZ rs pc=fS:=by unfold bB.bZ;rw [qk hb]
  rw [hd];obtain ⟨st,ld,ff⟩:=fin hM5 f05
  by_cases q1:i.eE
  ·by_cases q2:pc<0
   ·simp only [↓qh,qq,reduceIte,reduceEqDiff,jd q1,hM5.lp,q2,og,st,ld];exact ff _
   ·have q3:(1024:Int)<=pc:=by rcases hb with q|q|q;exact (q q1).elim;omega;exact q
    simp only [↓qh,qq,reduceIte,reduceEqDiff,jd q1,hM5.lp,q2,q3,og,st,ld];exact ff _
  ·simp only [↓qh,qq,reduceIte,reduceEqDiff,jf q1,og,st,ld];exact ff _
 have hleg:i.eE:=Fv.1 λ q=>hb (.inl q);have q2:¬ pc<0:=λ q=>hb (.inr (.inl q));have q3:¬ (1024:Int)<=pc:=λ q=>hb (.inr (.inr q));have hp:0<=pc/\pc<1024:=⟨by omega,by omega⟩
 have wp:ae .i64 (pc+1)=pc+1:=zk (by omega) (by omega);have mk1:Op.bm Cp 0 [.ptr (H.next+2) 0,.ptr H.next 0]=some (.fn (.func Cp) [] [.ptr (H.next+2) 0,.ptr H.next 0]):=rfl;have mk2:Op.bm AB 0 [.ptr (H.next+2) 0,.ptr H.next 0]=some (.fn (.func AB) [] [.ptr (H.next+2) 0,.ptr H.next 0]):=rfl;have mk3:Op.bm Bv 0 [.ptr (H.next+2) 0]=some (.fn (.func Bv) [] [.ptr (H.next+2) 0]):=rfl;have mk4:Op.bm BX 0 [.ptr (H.next+1) 0]=some (.fn (.func BX) [] [.ptr (H.next+1) 0]):=rfl;have k1:Op.aa [.ptr H.next 1] H5=some (.int .i64 i.a):=hM5.li 1;have k2:Op.aa [.ptr H.next 2] H5=some (.int .i64 i.b):=hM5.li 2;have k3:Op.aa [.ptr H.next 3] H5=some (.int .i64 i.c):=hM5.li 3;have k4:Op.aa [.ptr H.next 4] H5=some (.int .i64 i.mA):=hM5.li 4;have k0:Op.aa [.ptr H.next 0] H5=some (.int .i64 i.op):=hM5.li 0;simp only [↓qh,qq,reduceIte,reduceEqDiff,jd hleg,hM5.lp,q2,q3,w10,mk1,mk2,w14,mk3,mk4,w18,k1,k2,k3];refine C3.q (MC (M:=M) hM5 h8 i.a) λ v H6 ⟨hv,hh⟩=>?_;subst hv;subst hh;simp only [↓qh,qq,reduceIte,reduceEqDiff,k2,k3,KG];refine C3.q (MC (M:=M) hM5 h8 i.b) λ v H6 ⟨hv,hh⟩=>?_;subst hv;subst hh;simp only [↓qh,qq,reduceIte,reduceEqDiff,k3,KG];refine C3.q (MC (M:=M) hM5 h8 i.c) λ v H6 ⟨hv,hh⟩=>?_;subst hv;subst hh;have ra:=J1 h8 hr i.a;have rb:=J1 h8 hr i.b;have rc:=J1 h8 hr i.c;simp only [↓qh,qq,reduceIte,reduceEqDiff,k4,w22,k0];have hop:1<=i.op/\i.op<=18:=⟨hleg.1,hleg.2.1⟩
 -- what is told
 have dd:∀ {f:i7} {Hx:AHeap},f=i.bZ rs pc->Fr Em H Hx->AV.agg (bD f)=.agg (bD (i.bZ rs pc))/\Fr Em H Hx:=λ e q=>⟨by rw [e],q⟩
 have cases18:i.op=1\/i.op=2\/i.op=3\/i.op=4\/i.op=5\/i.op=6\/i.op=7\/i.op=8\/i.op=9\/i.op=10\/i.op=11\/i.op=12\/i.op=13\/i.op=14\/i.op=15\/i.op=16\/i.op=17\/i.op=18:=by omega
 have cl:∀ {x:AV} {f:i7} {Hx:AHeap},x=.agg (bD f)->Fr Em H6 Hx->qG i rs pc H.next Hx/\Fr Em H Hx:=λ _ q=>⟨hM5.em q,f05.trans q λ _ w=>w.elim⟩
 rcases cases18 with o|o|o|o|o|o|o|o|o|o|o|o|o|o|o|o|o|o
 ·simp only [↓qh,qq,reduceIte,reduceEqDiff,o,Int.reduceEq,nq];refine C3.q (P0 (M:=M) hM5 hp 7) λ v H7 ⟨hv,f7⟩=>?_;subst hv;have f07:=f05.trans f7 λ _ w=>w.elim;obtain ⟨st,ld,ff⟩:=fin (hM5.em f7) f07;simp only [↓qh,qq,reduceIte,reduceEqDiff,st,ld];refine dd ?_ (ff _);unfold bB.bZ;rw [qc hb];simp [o]
 ·simp only [↓qh,qq,reduceIte,reduceEqDiff,o,Int.reduceEq,nq,k4];refine C3.q (A1 (M:=M) hM5 hp (ae .u64 i.mA)) λ v H7 ⟨hv,f7⟩=>?_;subst hv;have f07:=f05.trans f7 λ _ w=>w.elim;obtain ⟨st,ld,ff⟩:=fin (hM5.em f7) f07;simp only [↓qh,qq,reduceIte,reduceEqDiff,st,ld];refine dd ?_ (ff _);unfold bB.bZ;rw [qc hb];simp [o]
 ·simp only [↓qh,qq,reduceIte,reduceEqDiff,o,Int.reduceEq,nq,w38];refine C3.q (A1 (M:=M) hM5 hp (rg rs i.b)) λ v H7 ⟨hv,f7⟩=>?_;subst hv;have f07:=f05.trans f7 λ _ w=>w.elim;obtain ⟨st,ld,ff⟩:=fin (hM5.em f7) f07;simp only [↓qh,qq,reduceIte,reduceEqDiff,st,ld];refine dd ?_ (ff _);unfold bB.bZ;rw [qc hb];simp [o]
 ·simp only [↓qh,qq,reduceIte,reduceEqDiff,o,Int.reduceEq,nq,w38];refine C3.q (A1 (M:=M) hM5 hp _) λ v H7 ⟨hv,f7⟩=>?_;subst hv;have f07:=f05.trans f7 λ _ w=>w.elim;obtain ⟨st,ld,ff⟩:=fin (hM5.em f7) f07;simp only [↓qh,qq,reduceIte,reduceEqDiff,st,ld];refine dd ?_ (ff _);unfold bB.bZ;rw [qc hb];simp [o,jX]
 ·simp only [↓qh,qq,reduceIte,reduceEqDiff,o,Int.reduceEq,nq,w38,w50];refine C3.q (A1 (M:=M) hM5 hp _) λ v H7 ⟨hv,f7⟩=>?_;subst hv;have f07:=f05.trans f7 λ _ w=>w.elim;obtain ⟨st,ld,ff⟩:=fin (hM5.em f7) f07;simp only [↓qh,qq,reduceIte,reduceEqDiff,st,ld];refine dd ?_ (ff _);unfold bB.bZ;rw [qc hb];simp [o,jX]
 ·simp only [↓qh,qq,reduceIte,reduceEqDiff,o,Int.reduceEq,nq,w38,w50];refine C3.q (A1 (M:=M) hM5 hp _) λ v H7 ⟨hv,f7⟩=>?_;subst hv;have f07:=f05.trans f7 λ _ w=>w.elim;obtain ⟨st,ld,ff⟩:=fin (hM5.em f7) f07;simp only [↓qh,qq,reduceIte,reduceEqDiff,st,ld];refine dd ?_ (ff _);unfold bB.bZ;rw [qc hb];simp [o,jX]
 ·have q:Op.bin .and [.int .u64 (rg rs i.b),.int .u64 (rg rs i.c)]=some (.int .u64 (jX 7 (rg rs i.b) (rg rs i.c))):=rfl;simp only [↓qh,qq,reduceIte,reduceEqDiff,o,Int.reduceEq,nq,w38,w50,w62,q];refine C3.q (A1 (M:=M) hM5 hp _) λ v H7 ⟨hv,f7⟩=>?_;subst hv;have f07:=f05.trans f7 λ _ w=>w.elim;obtain ⟨st,ld,ff⟩:=fin (hM5.em f7) f07;simp only [↓qh,qq,reduceIte,reduceEqDiff,st,ld];refine dd ?_ (ff _);unfold bB.bZ;rw [qc hb];simp [o]
 ·have q:Op.bin .xor [.int .u64 (rg rs i.b),.int .u64 (rg rs i.c)]=some (.int .u64 (jX 8 (rg rs i.b) (rg rs i.c))):=rfl;simp only [↓qh,qq,reduceIte,reduceEqDiff,o,Int.reduceEq,nq,w38,w50,w62,q];refine C3.q (A1 (M:=M) hM5 hp _) λ v H7 ⟨hv,f7⟩=>?_;subst hv;have f07:=f05.trans f7 λ _ w=>w.elim;obtain ⟨st,ld,ff⟩:=fin (hM5.em f7) f07;simp only [↓qh,qq,reduceIte,reduceEqDiff,st,ld];refine dd ?_ (ff _);unfold bB.bZ;rw [qc hb];simp [o]
 ·have q:Op.bin .rem [.int .u64 (rg rs i.c),.int .u64 64]=some (.int .u64 (((rg rs i.c % 64).toNat:Nat):Int)):=by
   rw [qO .u64 _ _ (by decide),FJ rc.1];congr 2;omega
  have q2:=BQ .u64 .u64 (rg rs i.b) (rg rs i.c % 64).toNat;rw [show IntKind.u64.bits=64 from rfl,show min (rg rs i.c % 64).toNat 64=(rg rs i.c % 64).toNat by omega] at q2;simp only [↓qh,qq,reduceIte,reduceEqDiff,o,Int.reduceEq,nq,w38,w50,w62,w74,q,q2];refine C3.q (A1 (M:=M) hM5 hp _) λ v H7 ⟨hv,f7⟩=>?_;subst hv;have f07:=f05.trans f7 λ _ w=>w.elim;obtain ⟨st,ld,ff⟩:=fin (hM5.em f7) f07;simp only [↓qh,qq,reduceIte,reduceEqDiff,st,ld];refine dd ?_ (ff _);unfold bB.bZ;rw [qc hb];simp [o,jX]
 ·have q:Op.bin .rem [.int .u64 (rg rs i.c),.int .u64 64]=some (.int .u64 (((rg rs i.c % 64).toNat:Nat):Int)):=by
   rw [qO .u64 _ _ (by decide),FJ rc.1];congr 2;omega
  have q2:=pO .u64 .u64 (rg rs i.b) (rg rs i.c % 64).toNat;rw [show IntKind.u64.bits=64 from rfl,show min (rg rs i.c % 64).toNat 64=(rg rs i.c % 64).toNat by omega,Af rb] at q2;simp only [↓qh,qq,reduceIte,reduceEqDiff,o,Int.reduceEq,nq,w38,w50,w62,w74,q,q2];refine C3.q (A1 (M:=M) hM5 hp _) λ v H7 ⟨hv,f7⟩=>?_;subst hv;have f07:=f05.trans f7 λ _ w=>w.elim;obtain ⟨st,ld,ff⟩:=fin (hM5.em f7) f07;simp only [↓qh,qq,reduceIte,reduceEqDiff,st,ld];refine dd ?_ (ff _);unfold bB.bZ;rw [qc hb];simp [o,jX]
 ·obtain ⟨st,ld,ff⟩:=fin hM5 f05;simp only [↓qh,qq,reduceIte,reduceEqDiff,o,Int.reduceEq,nq,w38,w50,w62,w74,w86,hM5.lp,wp,k1,bdL,st,ld];refine dd ?_ (ff _);unfold bB.bZ;rw [qc hb];simp [o]
 ·obtain ⟨st,ld,ff⟩:=fin hM5 f05;simp only [↓qh,qq,reduceIte,reduceEqDiff,o,Int.reduceEq,nq,w38,w50,w62,w74,w86,hM5.lp,wp,Pa,st,ld];refine dd ?_ (ff _);unfold bB.bZ;rw [qc hb];simp [o]
 ·simp only [↓qh,qq,reduceIte,reduceEqDiff,o,Int.reduceEq,nq,w38,w50,w62,w74,w86,w98];refine C3.q (Lq (M:=M) hM5 hp true) λ v H7 ⟨hv,f7⟩=>?_;subst hv;have f07:=f05.trans f7 λ _ w=>w.elim;obtain ⟨st,ld,ff⟩:=fin (hM5.em f7) f07;simp only [↓qh,qq,reduceIte,reduceEqDiff,st,ld];refine dd ?_ (ff _);unfold bB.bZ;rw [qc hb];simp [o]
 ·simp only [↓qh,qq,reduceIte,reduceEqDiff,o,Int.reduceEq,nq,w38,w50,w62,w74,w86,w98];refine C3.q (Lq (M:=M) hM5 hp (decide (rg rs i.a=rg rs i.b))) λ v H7 ⟨hv,f7⟩=>?_;subst hv;have f07:=f05.trans f7 λ _ w=>w.elim;obtain ⟨st,ld,ff⟩:=fin (hM5.em f7) f07;simp only [↓qh,qq,reduceIte,reduceEqDiff,st,ld];refine dd ?_ (ff _);unfold bB.bZ;rw [qc hb];simp [o]
 ·simp only [↓qh,qq,reduceIte,reduceEqDiff,o,Int.reduceEq,nq,w38,w50,w62,w74,w86,w98,w110];refine C3.q (Lq (M:=M) hM5 hp (decide (rg rs i.a ≠ rg rs i.b))) λ v H7 ⟨hv,f7⟩=>?_;subst hv;have f07:=f05.trans f7 λ _ w=>w.elim;obtain ⟨st,ld,ff⟩:=fin (hM5.em f7) f07;simp only [↓qh,qq,reduceIte,reduceEqDiff,st,ld];refine dd ?_ (ff _);unfold bB.bZ;rw [qc hb];simp [o]
 ·simp only [↓qh,qq,reduceIte,reduceEqDiff,o,Int.reduceEq,nq,w38,w50,w62,w74,w86,w98,w110];refine C3.q (Lq (M:=M) hM5 hp (decide (rg rs i.a<rg rs i.b))) λ v H7 ⟨hv,f7⟩=>?_;subst hv;have f07:=f05.trans f7 λ _ w=>w.elim;obtain ⟨st,ld,ff⟩:=fin (hM5.em f7) f07;simp only [↓qh,qq,reduceIte,reduceEqDiff,st,ld];refine dd ?_ (ff _);unfold bB.bZ;rw [qc hb];simp [o]
 ·simp only [↓qh,qq,reduceIte,reduceEqDiff,o,Int.reduceEq,nq,w38,w50,w62,w74,w86,w98,w110,w122];refine C3.q (P0 (M:=M) hM5 hp 5) λ v H7 ⟨hv,f7⟩=>?_;subst hv;have f07:=f05.trans f7 λ _ w=>w.elim;obtain ⟨st,ld,ff⟩:=fin (hM5.em f7) f07;simp only [↓qh,qq,reduceIte,reduceEqDiff,st,ld];refine dd ?_ (ff _);unfold bB.bZ;rw [qc hb];simp [o]
 ·simp only [↓qh,qq,reduceIte,reduceEqDiff,o,Int.reduceEq,nq,w38,w50,w62,w74,w86,w98,w110,w122,w129];refine C3.q (P0 (M:=M) hM5 hp 6) λ v H7 ⟨hv,f7⟩=>?_;subst hv;have f07:=f05.trans f7 λ _ w=>w.elim;obtain ⟨st,ld,ff⟩:=fin (hM5.em f7) f07;simp only [↓qh,qq,reduceIte,reduceEqDiff,st,ld];refine dd ?_ (ff _);unfold bB.bZ;rw [qc hb];simp [o]
end Go.Am
