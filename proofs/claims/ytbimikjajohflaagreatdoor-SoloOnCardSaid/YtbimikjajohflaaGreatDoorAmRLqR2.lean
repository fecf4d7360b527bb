/- LqR2: IsA IsB. -/
import Derived.Test.YtbimikjajohflaaGreatDoorAmRCodeR
import Derived.Test.YtbimikjajohflaaGreatDoorAmRLqR1
import Derived.Test.YtbimikjajohflaaGreatDoorAmRLqR0
set_option linter.unusedVariables false
set_option linter.unusedSimpArgs false
set_option linter.unusedSectionVars false
set_option maxRecDepth 100000
namespace Go.Am
open Lang Go.Proofs
variable {M:Mac} [MK M]
def insWd (op:Nat):List UInt8:=match op with
 | 1=>[104,97,108,116]
 | 2=>[115,101,116]
 | 3=>[109,111,118]
 | 4=>[97,100,100]
 | 5=>[115,117,98]
 | 6=>[109,117,108]
 | 7=>[97,110,100]
 | 8=>[120,111,114]
 | 9=>[115,104,108]
 | 10=>[115,104,114]
 | 11=>[108,111,97,100]
 | 12=>[115,116,111,114,101]
 | 13=>[106,117,109,112]
 | 14=>[101,113]
 | 15=>[110,101]
 | 16=>[108,116]
 | 17=>[98,101,103,105,110]
 | 18=>[101,110,100]
 | _=>[]
def shapeC:List AV:=(List.range 19).flatMap fun k=>[.str (insWd k),.str (insNm k)]
def ShT (H:AHeap):Prop:=H.cellsAt vp=some shapeC/\vp<H.next
theorem ShT.em {H H':AHeap} (h:ShT H) (f:Fr Em H H'):ShT H':=⟨(f.cells h.2 id).trans h.1,qf h.2 f.next⟩
theorem shape_at:∀ k:Nat,k<19->shapeC[k*2+1]? = some (.str (insNm k))
 | 0,_=>rfl
 | 1,_=>rfl
 | 2,_=>rfl
 | 3,_=>rfl
 | 4,_=>rfl
 | 5,_=>rfl
 | 6,_=>rfl
 | 7,_=>rfl
 | 8,_=>rfl
 | 9,_=>rfl
 | 10,_=>rfl
 | 11,_=>rfl
 | 12,_=>rfl
 | 13,_=>rfl
 | 14,_=>rfl
 | 15,_=>rfl
 | 16,_=>rfl
 | 17,_=>rfl
 | 18,_=>rfl
 | k+19,h=>absurd h (by omega)
def insC (i:Ins):List AV:=[.int .i64 i.op,.int .i64 i.a,.int .i64 i.b,.int .i64 i.c,.int .i64 i.imm]
def isOp (op:Int):Prop:=1<=op/\op<=18
instance (op:Int):Decidable (isOp op):=inferInstanceAs (Decidable (_/\_))
theorem qsg {H:AHeap} (hs:ShT H) (op:Int):vg M qa5 [.int .i64 op] H fun v H'=>v=.tuple [.str (if isOp op then insNm op.toNat else []),.bool (decide (isOp op))]/\H'=H:=by
 refine qpo ?_
 obtain ⟨w0,w2,w10⟩:=qpp M ⟨none,qa5⟩
 by_cases h1:op<1
 ·have hn:¬ isOp op:=fun q=>by have:=q.1;omega
  simp only [↓qq,ze,reduceIte,Nat.reduceEqDiff,w0,w2,h1,qe hn,zm hn]
 by_cases h2:(19:Int)<=op
 ·have hn:¬ isOp op:=fun q=>by have:=q.2;omega
  simp only [↓qq,ze,reduceIte,Nat.reduceEqDiff,w0,w2,h1,h2,qe hn,zm hn]
 have hy:isOp op:=⟨by omega,by omega⟩
 have ix:Op.indexArr 19 2 [.ptr vp 0,.int .i64 op]=some (.ptr vp (0+op.toNat*2)):=by
  simp only [Op.indexArr]
  rw [qc1 (i:=op.toNat) (by omega) (by omega)];rfl
 have ld:Op.load1 [.ptr vp (op.toNat*2+1)] H=some (.str (insNm op.toNat)):=by
  rw [ye hs.1];exact shape_at op.toNat (by omega)
 simp only [↓qq,ze,reduceIte,Nat.reduceEqDiff,w0,w2,h1,h2,w10,ix,ld,qh hy,zh hy]
theorem eqB_no {x c:UInt8} (h:¬ x=c):eqB x c=false:=by
 cases q:eqB x c with
 | false=>rfl
 | true=>exact (h (by simpa [eqB,<-UInt8.toNat_inj] using q)).elim
theorem qnq (c:UInt8):∀ (s:List UInt8) (k:Nat),(∃ i:Nat,qcr c s k=some i/\c ∈ s)\/qcr c s k=none/\c ∉ s:=by
 intro s
 induction s with
 | nil=>intro k;exact .inr ⟨rfl,by simp⟩
 | cons x s ih =>
  intro k
  by_cases h:x=c
  ·subst h
   exact .inl ⟨k,by simp [qcr,eqB],by simp⟩
  ·rcases ih (k+1) with ⟨i,h1,h3⟩|⟨h1,h2⟩
   ·exact .inl ⟨i,by simp [qcr,eqB_no h,h1],by simp [h3]⟩
   ·exact .inr ⟨by simp [qcr,eqB_no h,h1],by simp [h2,Ne.symm h]⟩
theorem ib_spec {s:List UInt8} {c:UInt8} {H:AHeap}:vg M kr [.str s,.int .u8 c.toNat] H fun v H'=>H'=H /\ ∃ z:Int,v=.int .i64 z/\(c ∈ s->0<=z)/\(c ∉ s->z = -1):=by
 refine qgl ?_
 simp only [↓qq,ze,reduceIte,Nat.reduceEqDiff,qgm]
 refine C3.q (R:=fun v H'=>H'=H /\ ∃ z:Int,v=.int .i64 z/\(c ∈ s->0<=z)/\(c ∉ s->z = -1)) ?_ fun v H' ⟨hh,z,hv,h1,h2⟩=>?_
 ·refine qbw ?_
  rcases qnq c s 0 with ⟨i,h1,h3⟩|⟨h1,h2⟩
  ·have e:Op.indexByteString [.str s,.int .u8 c.toNat]=some (.int .i64 (i:Nat)):=by
    simp only [Op.indexByteString,qal,UInt8.ofNat_toNat,h1];rfl
   simp only [↓qq,ze,reduceIte,Nat.reduceEqDiff,yz,e]
   exact ⟨_,rfl,fun _=>by omega,fun q=>(q h3).elim⟩
  ·have e:Op.indexByteString [.str s,.int .u8 c.toNat]=some (.int .i64 (-1)):=by
    simp only [Op.indexByteString,qal,UInt8.ofNat_toNat,h1];rfl
   simp only [↓qq,ze,reduceIte,Nat.reduceEqDiff,yz,e]
   exact ⟨_,rfl,fun q=>(h2 q).elim,fun _=>rfl⟩
 ·subst hv;subst hh
  simp only [↓qq,ze,reduceIte,Nat.reduceEqDiff]
  exact ⟨z,rfl,h1,h2⟩
theorem qrg {H:AHeap} (hs:ShT H) (i:Ins):vg M qa4 [.agg (insC i)] H fun v H'=>v=.bool (decide i.legal)/\Fr Em H H':=by
 refine qpl ?_
 obtain ⟨w0,w4,w27,w9,w15,w26⟩:=qpm M ⟨none,qa4⟩
 obtain ⟨H1,e1⟩:∃ X,X=H.alloc (OR (insC i) qb1):=⟨_,rfl⟩
 have f1:Fr Em H H1:=by rw [e1];exact (Fr.refl H).alloc _
 have g1:H1.get H.next=some (OR (insC i) qb1):=by rw [e1,xa]
 have ld:∀ k,Op.load1 [.ptr H.next k] H1=(insC i)[k]?:=fun k=>ye (xm g1) k
 have l0:Op.load1 [.ptr H.next 0] H1=some (.int .i64 i.op):=ld 0
 have l1:Op.load1 [.ptr H.next 1] H1=some (.int .i64 i.a):=ld 1
 have l2:Op.load1 [.ptr H.next 2] H1=some (.int .i64 i.b):=ld 2
 have l3:Op.load1 [.ptr H.next 3] H1=some (.int .i64 i.c):=ld 3
 have bd:Op.build [.int .i64 0,.int .i64 0,.int .i64 0] [(0,1),(1,1),(2,1)] [.int .i64 i.a,.int .i64 i.b,.int .i64 i.c]=some (.agg [.int .i64 i.a,.int .i64 i.b,.int .i64 i.c]):=rfl
 have ca:AV.cells (.agg (insC i))=insC i:=jg _
 simp only [↓qq,ze,reduceIte,Nat.reduceEqDiff,w0,ca,<-e1,l0]
 refine C3.q (qsg (M:=M) (hs.em f1) i.op) fun v H2 ⟨hv,hh⟩=>?_
 subst hv;subst hh
 obtain ⟨nm,hnm⟩:∃ nm,nm=(if isOp i.op then insNm i.op.toNat else []):=⟨_,rfl⟩
 rw [<-hnm]
 simp only [↓qq,ze,reduceIte,Nat.reduceEqDiff,zg,w4,l1,l2,l3,bd]
 let ok:Nat->Prop:=fun j=>match j with
  | 0=>65 ∈ nm->0<=i.a/\i.a<8
  | 1=>66 ∈ nm->0<=i.b/\i.b<8
  | _=>67 ∈ nm->0<=i.c/\i.c<8
 have hleg:i.legal ↔ isOp i.op/\ok 0/\ok 1/\ok 2:=by
  constructor
  ·intro q
   have hy:isOp i.op:=⟨q.1,q.2.1⟩
   rw [qh hy] at hnm
   subst hnm
   exact ⟨hy,q.2.2.1,q.2.2.2.1,q.2.2.2.2⟩
  ·intro ⟨hy,q0,q1,q2⟩
   rw [qh hy] at hnm
   subst hnm
   exact ⟨hy.1,hy.2,q0,q1,q2⟩
 have x0:Op.indexAgg 3 1 none [.agg [.int .i64 i.a,.int .i64 i.b,.int .i64 i.c],.int .i64 0]=some (.int .i64 i.a):=rfl
 have x1:Op.indexAgg 3 1 none [.agg [.int .i64 i.a,.int .i64 i.b,.int .i64 i.c],.int .i64 1]=some (.int .i64 i.b):=rfl
 have x2:Op.indexAgg 3 1 none [.agg [.int .i64 i.a,.int .i64 i.b,.int .i64 i.c],.int .i64 2]=some (.int .i64 i.c):=rfl
 have y0:Op.indexStr [.str [65,66,67],.int .i64 0]=some (.int .u8 ((65:UInt8).toNat:Nat)):=rfl
 have y1:Op.indexStr [.str [65,66,67],.int .i64 1]=some (.int .u8 ((66:UInt8).toNat:Nat)):=rfl
 have y2:Op.indexStr [.str [65,66,67],.int .i64 2]=some (.int .u8 ((67:UInt8).toNat:Nat)):=rfl
 have b1:wrapI .i64 (0+1)=1:=by decide +kernel
 have b2:wrapI .i64 (1+1)=2:=by decide +kernel
 have b3:wrapI .i64 (2+1)=3:=by decide +kernel
 have no:∀ {k:Nat},k<3 -> ¬ ok k->decide i.legal=false:=fun {k} hk q=>zm fun w=>by
  obtain ⟨_,q0,q1,q2⟩:=hleg.1 w
  rcases (show k=0\/k=1\/k=2 by omega) with rfl|rfl|rfl
  ·exact q q0
  ·exact q q1
  ·exact q q2
 refine LOOP3.intro (fun n E Hx=>∃ k:Nat,E=[(20,.int .i64 (k:Nat)),(19,.agg [.int .i64 i.a,.int .i64 i.b,.int .i64 i.c]),(4,.bool (decide (isOp i.op))),(3,.str nm)]/\n=3-k/\k<=3/\Hx=H2 /\ ∀ j,j<k->ok j) ?_ ?_
 ·exact ⟨_,_,⟨0,rfl,rfl,xu _,rfl,fun j hj=>by omega⟩,by simp only [↓qq,ze,reduceIte,Nat.reduceEqDiff]⟩
 rintro n E Hx ⟨k,rfl,rfl,hk,rfl,hok⟩
 rcases yf k 3 with hk3|hk3
 ·have q1:(k:Int)<3:=by omega
  obtain ⟨c,nk,hx,hy,hokk⟩:∃ (c:UInt8) (nk:Int),Op.indexAgg 3 1 none [.agg [.int .i64 i.a,.int .i64 i.b,.int .i64 i.c],.int .i64 (k:Nat)]=some (.int .i64 nk)/\Op.indexStr [.str [65,66,67],.int .i64 (k:Nat)]=some (.int .u8 (c.toNat:Nat))/\(ok k ↔ (c ∈ nm->0<=nk/\nk<8)):=by
   rcases (show k=0\/k=1\/k=2 by omega) with rfl|rfl|rfl
   ·exact ⟨65,i.a,x0,y0,xx⟩
   ·exact ⟨66,i.b,x1,y1,xx⟩
   ·exact ⟨67,i.c,x2,y2,xx⟩
  have wk:wrapI .i64 ((k:Int)+1)=((k+1:Nat):Int):=by rw [vy (by omega) (by omega)];omega
  have go:ok k -> ∀ j,j<k+1->ok j:=fun q j hj=>by
   rcases yf j k with w|w
   ·exact hok j w
   ·rw [show j=k by omega];exact q
  simp only [↓qq,ze,reduceIte,Nat.reduceEqDiff,w9,q1,w15,hx,hy]
  refine C3.q (ib_spec (M:=M)) fun v Hy ⟨hh,z,hv,z1,z2⟩=>?_
  subst hv;subst hh
  by_cases hc:c ∈ nm
  ·have hz:(0:Int)<=z:=z1 hc
   by_cases n1:nk<0
   ·have:=no hk3 fun q=>by have:=(hokk.1 q hc).1;omega
    simp only [↓qq,ze,reduceIte,Nat.reduceEqDiff,hz,n1,this]
    exact f1
   by_cases n2:(8:Int)<=nk
   ·have:=no hk3 fun q=>by have:=(hokk.1 q hc).2;omega
    simp only [↓qq,ze,reduceIte,Nat.reduceEqDiff,hz,n1,n2,this]
    exact f1
   simp only [↓qq,ze,reduceIte,Nat.reduceEqDiff,hz,n1,n2,w26,wk]
   exact ⟨_,_,⟨k+1,rfl,rfl,by omega,go (hokk.2 fun _=>⟨by omega,by omega⟩)⟩,by simp only [↓qq,ze,reduceIte,Nat.reduceEqDiff],by omega⟩
  ·have hz:¬ (0:Int)<=z:=by rw [z2 hc];decide
   simp only [↓qq,ze,reduceIte,Nat.reduceEqDiff,hz,w26,wk]
   exact ⟨_,_,⟨k+1,rfl,rfl,by omega,go (hokk.2 fun q=>(hc q).elim)⟩,by simp only [↓qq,ze,reduceIte,Nat.reduceEqDiff],by omega⟩
 ·have q1:¬ (k:Int)<3:=by omega
  have:decide (isOp i.op)=decide i.legal:=by
   have e:i.legal ↔ isOp i.op:=⟨fun q=>(hleg.1 q).1,fun q=>hleg.2 ⟨q,hok 0 (by omega),hok 1 (by omega),hok 2 (by omega)⟩⟩
   by_cases q:isOp i.op
   ·rw [zh q,zh (e.2 q)]
   ·rw [zm q,zm fun w=>q (e.1 w)]
  simp only [↓qq,ze,reduceIte,Nat.reduceEqDiff,w9,q1,reduceCtorEq,w27,this]
  exact f1
end Go.Am
namespace Go.Am
open Lang Go.Proofs
variable {M:Mac} [MK M]
def uC (x:Int):AV:=.int .u64 x
def effC (f:Eff):List AV:=[.int .i64 f.kind,.int .i64 f.next,.int .i64 f.reg,.int .u64 f.value,.int .u64 f.addr]
def U64 (x:Int):Prop:=0<=x/\x<18446744073709551616
theorem qpr (n:Int):low3 n<8:=by
 unfold low3
 rw [BitVec.toNat_and]
 exact Nat.lt_of_le_of_lt Nat.and_le_right (by decide)
theorem rg_at {rs:List Int} (h:rs.length=8) (n:Int):(rs.map uC)[low3 n]? = some (.int .u64 (rg rs n)):=by
 have hl:=qpr n
 rw [xb,xg (by omega)]
 simp only [rg,ym,xg (show low3 n<rs.length by omega)]
 rfl
theorem qoo {rs:List Int} (h:rs.length=8) (hr:∀ x ∈ rs,U64 x) (n:Int):U64 (rg rs n):=by
 have hl:=qpr n
 simp only [rg,ym,xg (show low3 n<rs.length by omega)]
 exact hr _ (List.getElem_mem _)
theorem shr_eqS {x:Int} (hx:U64 x) (n:Nat):x.fdiv (2 ^ n)=wrapI .u64 (x / 2 ^ n):=by
 obtain ⟨h0,h1⟩:=hx
 have hp:(0:Int)<2 ^ n:=Int.pow_pos (by decide)
 rw [Int.fdiv_eq_ediv_of_nonneg _ (Int.le_of_lt hp),qm7 (Int.ediv_nonneg h0 (Int.le_of_lt hp))]
 exact Int.lt_of_le_of_lt (Int.ediv_le_self _ h0) h1
theorem bdL (k n r d:Int):Op.build [.int .i64 0,.int .i64 0,.int .i64 0,.int .u64 0,.int .u64 0] [(0,1),(1,1),(2,1),(4,1)] [.int .i64 k,.int .i64 n,.int .i64 r,.int .u64 d]=some (.agg (effC ⟨k,n,r,0,d⟩)):=rfl
theorem bdSt (k n v d:Int):Op.build [.int .i64 0,.int .i64 0,.int .i64 0,.int .u64 0,.int .u64 0] [(0,1),(1,1),(3,1),(4,1)] [.int .i64 k,.int .i64 n,.int .u64 v,.int .u64 d]=some (.agg (effC ⟨k,n,0,v,d⟩)):=rfl
theorem stE {H:AHeap} {b:Nat} {x f:Eff} (h:H.get b=some (OR (effC x) qn)):Op.store 5 [.ptr b 0,.agg (effC f)] H=some (.undef,H.set b (OR (effC f) qn)):=by
 rw [qcg (o:=0) (n:=5) (v:=.agg (effC f)) h rfl (by simp [effC]) rfl];rfl
theorem ldE {H:AHeap} {b:Nat} {x:Eff} (h:H.get b=some (OR (effC x) qn)):Op.loadN 5 [.ptr b 0] H=some (.agg (effC x)):=by
 rw [wx (c:=effC x) (xm h) (by simp [effC])];rfl
theorem bd0':Op.build (effC eff0) [] []=some (.agg (effC eff0)):=rfl
theorem bd2' (k n:Int):Op.build (effC eff0) [(0,1),(1,1)] [.int .i64 k,.int .i64 n]=some (.agg (effC ⟨k,n,0,0,0⟩)):=rfl
theorem bd4' (k n r v:Int):Op.build (effC eff0) [(0,1),(1,1),(2,1),(3,1)] [.int .i64 k,.int .i64 n,.int .i64 r,.int .u64 v]=some (.agg (effC ⟨k,n,r,v,0⟩)):=rfl
theorem eff0C:[AV.int .i64 0,.int .i64 0,.int .i64 0,.int .u64 0,.int .u64 0]=effC eff0:=rfl
structure DoM (i:Ins) (rs:List Int) (pc:Int) (b:Nat) (H:AHeap):Prop where
 gi:H.get b=some (OR (insC i) qb1)
 gr:H.get (b+1)=some (OR (rs.map uC) T__25)
 gp:H.get (b+2)=some (OR [.int .i64 pc] T_int)
 ge:H.get (b+3)=some (OR (effC eff0) qn)
 lt:b+3<H.next
section
variable {i:Ins} {rs:List Int} {pc:Int} {b:Nat} {H H':AHeap}
theorem DoM.em (h:DoM i rs pc b H) (f:Fr Em H H'):DoM i rs pc b H':=by
 have hl:=h.lt
 exact ⟨by rw [f.keep _ (by omega) id];exact h.gi,by rw [f.keep _ (by omega) id];exact h.gr,by rw [f.keep _ (by omega) id];exact h.gp,by rw [f.keep _ (by omega) id];exact h.ge,qf hl f.next⟩
theorem DoM.li (h:DoM i rs pc b H) (k:Nat):Op.load1 [.ptr b k] H=(insC i)[k]?:=ye (xm h.gi) k
theorem DoM.lp (h:DoM i rs pc b H):Op.load1 [.ptr (b+2) 0] H=some (.int .i64 pc):=ye (xm h.gp) 0
theorem qbp (h:DoM i rs pc b H) (hp:0<=pc/\pc<1024) (v:Int):vg M qbf [.int .u64 v,.ptr (b+2) 0,.ptr b 0] H fun w H'=>w=.agg (effC ⟨1,pc+1,i.a,v,0⟩)/\Fr Em H H':=by
 refine qr1 ?_
 obtain ⟨H1,e1⟩:∃ X,X=H.alloc (OR (effC eff0) qn):=⟨_,rfl⟩
 have f1:Fr Em H H1:=by rw [e1];exact (Fr.refl H).alloc _
 have g1:H1.get H.next=some (OR (effC eff0) qn):=by rw [e1,xa]
 have h1:=h.em f1
 have l1:Op.load1 [.ptr b 1] H1=some (.int .i64 i.a):=h1.li 1
 have wp:wrapI .i64 (pc+1)=pc+1:=vy (by omega) (by omega)
 have f2:Fr Em H (H1.set H.next (OR (effC ⟨1,pc+1,i.a,v,0⟩) qn)):=f1.set (.inr (qc _)) _
 have ld:=ldE (xc H1 H.next (OR (effC ⟨1,pc+1,i.a,v,0⟩) qn))
 simp only [↓qq,ze,reduceIte,Nat.reduceEqDiff,qr2,eff0C,<-e1,h1.lp,wp,l1,bd4',stE g1,ld]
 exact f2
theorem qf5 (h:DoM i rs pc b H) (hp:0<=pc/\pc<1024) (k:Int):vg M qbg [.int .i64 k,.ptr (b+2) 0] H fun w H'=>w=.agg (effC ⟨k,pc+1,0,0,0⟩)/\Fr Em H H':=by
 refine qr7 ?_
 obtain ⟨H1,e1⟩:∃ X,X=H.alloc (OR (effC eff0) qn):=⟨_,rfl⟩
 have f1:Fr Em H H1:=by rw [e1];exact (Fr.refl H).alloc _
 have g1:H1.get H.next=some (OR (effC eff0) qn):=by rw [e1,xa]
 have h1:=h.em f1
 have wp:wrapI .i64 (pc+1)=pc+1:=vy (by omega) (by omega)
 have f2:Fr Em H (H1.set H.next (OR (effC ⟨k,pc+1,0,0,0⟩) qn)):=f1.set (.inr (qc _)) _
 have ld:=ldE (xc H1 H.next (OR (effC ⟨k,pc+1,0,0,0⟩) qn))
 simp only [↓qq,ze,reduceIte,Nat.reduceEqDiff,qr8,eff0C,<-e1,h1.lp,wp,bd2',stE g1,ld]
 exact f2
theorem qfa (h:DoM i rs pc b H) (hp:0<=pc/\pc<1024) (q:Bool):vg M qao [.bool q,.ptr (b+2) 0,.ptr b 0] H fun w H'=>w=.agg (effC (effGo i pc q))/\Fr Em H H':=by
 refine qr4 ?_
 obtain ⟨w0,w2,w10,w18⟩:=qr5 M ⟨none,qao⟩
 obtain ⟨H1,e1⟩:∃ X,X=H.alloc (OR (effC eff0) qn):=⟨_,rfl⟩
 have f1:Fr Em H H1:=by rw [e1];exact (Fr.refl H).alloc _
 have g1:H1.get H.next=some (OR (effC eff0) qn):=by rw [e1,xa]
 have h1:=h.em f1
 have wp:wrapI .i64 (pc+1)=pc+1:=vy (by omega) (by omega)
 have l4:Op.load1 [.ptr b 4] H1=some (.int .i64 i.imm):=h1.li 4
 have f2:∀ f,Fr Em H (H1.set H.next (OR (effC f) qn)):=fun f=>f1.set (.inr (qc _)) _
 have ld:∀ f,Op.loadN 5 [.ptr H.next 0] (H1.set H.next (OR (effC f) qn))=some (.agg (effC f)):=fun f=>ldE (xc H1 H.next (OR (effC f) qn))
 cases q with
 | false =>
  simp only [↓qq,ze,reduceIte,Nat.reduceEqDiff,w0,eff0C,<-e1,w2,h1.lp,wp,bd2',stE g1,ld]
  exact ⟨rfl,f2 _⟩
 | true =>
  by_cases c1:i.imm<0
  ·simp only [↓qq,ze,reduceIte,Nat.reduceEqDiff,w0,eff0C,<-e1,w2,w10,l4,c1,bd0',stE g1,ld]
   exact ⟨by unfold effGo;rw [qh rfl,qh (.inl c1)],f2 _⟩
  by_cases c2:(1024:Int)<i.imm
  ·simp only [↓qq,ze,reduceIte,Nat.reduceEqDiff,w0,eff0C,<-e1,w2,w10,l4,c1,c2,bd0',stE g1,ld]
   exact ⟨by unfold effGo;rw [qh rfl,qh (.inr c2)],f2 _⟩
  simp only [↓qq,ze,reduceIte,Nat.reduceEqDiff,w0,eff0C,<-e1,w2,w10,l4,c1,c2,w18,bd2',stE g1,ld]
  exact ⟨by unfold effGo;rw [qh rfl,qe (fun q=>q.elim c1 c2)],f2 _⟩
theorem qj4 (h:DoM i rs pc b H) (h8:rs.length=8) (n:Int):vg M qbh [.int .i64 n,.ptr (b+1) 0] H fun w H'=>w=.int .u64 (rg rs n)/\H'=H:=by
 refine qsa ?_
 have hl:=qpr n
 have an:Op.bin .and [.int .i64 n,.int .i64 7]=some (.int .i64 ((low3 n:Nat):Int)):=by
  show some (AV.int .i64 (wrapI .i64 ((low3 n:Nat):Int)))=_
  rw [vy (by omega) (by omega)]
 have ix:Op.indexArr 8 1 [.ptr (b+1) 0,.int .i64 ((low3 n:Nat):Int)]=some (.ptr (b+1) (low3 n)):=by
  simp only [Op.indexArr]
  rw [qc1 (i:=low3 n) rfl hl]
  simp
 have ld:Op.load1 [.ptr (b+1) (low3 n)] H=some (.int .u64 (rg rs n)):=by rw [ye (xm h.gr)];exact rg_at h8 n
 simp only [↓qq,ze,reduceIte,Nat.reduceEqDiff,qsb,an,ix,ld]
end
theorem Do_spec {H:AHeap} (hs:ShT H) {i:Ins} {rs:List Int} {pc:Int} (h8:rs.length=8) (hr:∀ x ∈ rs,U64 x):vg M qdz [.agg (insC i),.agg (rs.map uC),.int .i64 pc] H fun v H'=>v=.agg (effC (i.does rs pc))/\Fr Em H H':=by
 refine isa_Do_s ?_
 obtain ⟨w0,w2,w10,w14,w18,w22,w129,w38,w50,w62,w74,w86,w98,w110,w122⟩:=isa_Do_w M ⟨none,qdz⟩
 obtain ⟨H1,e1⟩:∃ X,X=H.alloc (OR (insC i) qb1):=⟨_,rfl⟩
 obtain ⟨H2,e2⟩:∃ X,X=H1.alloc (OR (rs.map uC) T__25):=⟨_,rfl⟩
 obtain ⟨H3,e3⟩:∃ X,X=H2.alloc (OR [.int .i64 pc] T_int):=⟨_,rfl⟩
 obtain ⟨H4,e4⟩:∃ X,X=H3.alloc (OR (effC eff0) qn):=⟨_,rfl⟩
 have n1:H1.next=H.next+1:=by rw [e1,x4]
 have n2:H2.next=H.next+2:=by rw [e2,x4,n1]
 have n3:H3.next=H.next+3:=by rw [e3,x4,n2]
 have n4:H4.next=H.next+4:=by rw [e4,x4,n3]
 have f1:Fr Em H H1:=by rw [e1];exact (Fr.refl H).alloc _
 have f12:Fr Em H1 H2:=by rw [e2];exact (Fr.refl H1).alloc _
 have f23:Fr Em H2 H3:=by rw [e3];exact (Fr.refl H2).alloc _
 have f34:Fr Em H3 H4:=by rw [e4];exact (Fr.refl H3).alloc _
 have f4:Fr Em H H4:=((f1.trans f12 fun _ q=>q.elim).trans f23 fun _ q=>q.elim).trans f34 fun _ q=>q.elim
 have hM:DoM i rs pc H.next H4:=by
  refine ⟨?_,?_,?_,?_,by omega⟩
  ·rw [f34.keep _ (by omega) id,f23.keep _ (by omega) id,f12.keep _ (by omega) id,e1,xa]
  ·rw [f34.keep _ (by omega) id,f23.keep _ (by omega) id,e2,<-n1,xa]
  ·rw [f34.keep _ (by omega) id,e3,<-n2,xa]
  ·rw [e4,<-n3,xa]
 have c1:AV.cells (.agg (insC i))=insC i:=jg _
 have c2:AV.cells (.agg (rs.map uC))=rs.map uC:=jg _
 have c3:AV.cells (.int .i64 pc)=[.int .i64 pc]:=rfl
 simp only [↓qq,ze,reduceIte,Nat.reduceEqDiff,w0,c1,<-e1,c2,<-e2,c3,<-e3,eff0C,<-e4,n1,n2,n3,w2]
 have li:Op.loadN 5 [.ptr H.next 0] H4=some (.agg (insC i)):=by rw [wx (c:=insC i) (xm hM.gi) (by simp [insC])];rfl
 simp only [↓qq,ze,reduceIte,Nat.reduceEqDiff,li]
 refine C3.q (qrg (M:=M) (hs.em f4) i) fun v H5 ⟨hv,f5⟩=>?_
 subst hv
 have hM5:=hM.em f5
 have f05:=f4.trans f5 fun _ q=>q.elim
 -- the end
 have fin:∀ {Hx:AHeap},DoM i rs pc H.next Hx->Fr Em H Hx->(∀ f,Op.store 5 [.ptr (H.next+3) 0,.agg (effC f)] Hx=some (.undef,Hx.set (H.next+3) (OR (effC f) qn)))/\(∀ f,Op.loadN 5 [.ptr (H.next+3) 0] (Hx.set (H.next+3) (OR (effC f) qn))=some (.agg (effC f))) /\ ∀ f,Fr Em H (Hx.set (H.next+3) (OR (effC f) qn)):=fun {Hx} hx fx =>
  ⟨fun f=>stE hx.ge,fun f=>ldE (xc Hx (H.next+3) (OR (effC f) qn)),fun f=>fx.set (.inr (by omega)) _⟩
 by_cases hb:¬ i.legal\/pc<0\/1024<=pc
 ·have hd:i.does rs pc=eff0:=by unfold Ins.does;rw [qh hb]
  rw [hd]
  obtain ⟨st,ld,ff⟩:=fin hM5 f05
  by_cases q1:i.legal
  ·by_cases q2:pc<0
   ·simp only [↓qq,ze,reduceIte,Nat.reduceEqDiff,zh q1,hM5.lp,q2,bd0',st,ld]
    exact ff _
   ·have q3:(1024:Int)<=pc:=by rcases hb with q|q|q;exact (q q1).elim;omega;exact q
    simp only [↓qq,ze,reduceIte,Nat.reduceEqDiff,zh q1,hM5.lp,q2,q3,bd0',st,ld]
    exact ff _
  ·simp only [↓qq,ze,reduceIte,Nat.reduceEqDiff,zm q1,bd0',st,ld]
   exact ff _
 have hleg:i.legal:=kp.1 fun q=>hb (.inl q)
 have q2:¬ pc<0:=fun q=>hb (.inr (.inl q))
 have q3:¬ (1024:Int)<=pc:=fun q=>hb (.inr (.inr q))
 have hp:0<=pc/\pc<1024:=⟨by omega,by omega⟩
 have wp:wrapI .i64 (pc+1)=pc+1:=vy (by omega) (by omega)
 have mk1:Op.mkFunc qbf 0 [.ptr (H.next+2) 0,.ptr H.next 0]=some (.fn (.func qbf) [] [.ptr (H.next+2) 0,.ptr H.next 0]):=rfl
 have mk2:Op.mkFunc qao 0 [.ptr (H.next+2) 0,.ptr H.next 0]=some (.fn (.func qao) [] [.ptr (H.next+2) 0,.ptr H.next 0]):=rfl
 have mk3:Op.mkFunc qbg 0 [.ptr (H.next+2) 0]=some (.fn (.func qbg) [] [.ptr (H.next+2) 0]):=rfl
 have mk4:Op.mkFunc qbh 0 [.ptr (H.next+1) 0]=some (.fn (.func qbh) [] [.ptr (H.next+1) 0]):=rfl
 have k1:Op.load1 [.ptr H.next 1] H5=some (.int .i64 i.a):=hM5.li 1
 have k2:Op.load1 [.ptr H.next 2] H5=some (.int .i64 i.b):=hM5.li 2
 have k3:Op.load1 [.ptr H.next 3] H5=some (.int .i64 i.c):=hM5.li 3
 have k4:Op.load1 [.ptr H.next 4] H5=some (.int .i64 i.imm):=hM5.li 4
 have k0:Op.load1 [.ptr H.next 0] H5=some (.int .i64 i.op):=hM5.li 0
 simp only [↓qq,ze,reduceIte,Nat.reduceEqDiff,zh hleg,hM5.lp,q2,q3,w10,mk1,mk2,w14,mk3,mk4,w18,k1,k2,k3]
 refine C3.q (qj4 (M:=M) hM5 h8 i.a) fun v H6 ⟨hv,hh⟩=>?_
 subst hv;subst hh
 simp only [↓qq,ze,reduceIte,Nat.reduceEqDiff,k2,k3,qij]
 refine C3.q (qj4 (M:=M) hM5 h8 i.b) fun v H6 ⟨hv,hh⟩=>?_
 subst hv;subst hh
 simp only [↓qq,ze,reduceIte,Nat.reduceEqDiff,k3,qij]
 refine C3.q (qj4 (M:=M) hM5 h8 i.c) fun v H6 ⟨hv,hh⟩=>?_
 subst hv;subst hh
 have ra:=qoo h8 hr i.a
 have rb:=qoo h8 hr i.b
 have rc:=qoo h8 hr i.c
 simp only [↓qq,ze,reduceIte,Nat.reduceEqDiff,k4,w22,k0]
 have hop:1<=i.op/\i.op<=18:=⟨hleg.1,hleg.2.1⟩
 -- what is told
 have dd:∀ {f:Eff} {Hx:AHeap},f=i.does rs pc->Fr Em H Hx->AV.agg (effC f)=.agg (effC (i.does rs pc))/\Fr Em H Hx:=fun e q=>⟨by rw [e],q⟩
 have cases18:i.op=1\/i.op=2\/i.op=3\/i.op=4\/i.op=5\/i.op=6\/i.op=7\/i.op=8\/i.op=9\/i.op=10\/i.op=11\/i.op=12\/i.op=13\/i.op=14\/i.op=15\/i.op=16\/i.op=17\/i.op=18:=by omega
 have cl:∀ {x:AV} {f:Eff} {Hx:AHeap},x=.agg (effC f)->Fr Em H6 Hx->DoM i rs pc H.next Hx/\Fr Em H Hx:=fun _ q=>⟨hM5.em q,f05.trans q fun _ w=>w.elim⟩
 rcases cases18 with o|o|o|o|o|o|o|o|o|o|o|o|o|o|o|o|o|o
 ·simp only [↓qq,ze,reduceIte,Nat.reduceEqDiff,o,Int.reduceEq,yw]
  refine C3.q (qf5 (M:=M) hM5 hp 7) fun v H7 ⟨hv,f7⟩=>?_
  subst hv
  have f07:=f05.trans f7 fun _ w=>w.elim
  obtain ⟨st,ld,ff⟩:=fin (hM5.em f7) f07
  simp only [↓qq,ze,reduceIte,Nat.reduceEqDiff,st,ld]
  refine dd ?_ (ff _)
  unfold Ins.does;rw [qe hb];simp [o]
 ·simp only [↓qq,ze,reduceIte,Nat.reduceEqDiff,o,Int.reduceEq,yw,k4]
  refine C3.q (qbp (M:=M) hM5 hp (wrapI .u64 i.imm)) fun v H7 ⟨hv,f7⟩=>?_
  subst hv
  have f07:=f05.trans f7 fun _ w=>w.elim
  obtain ⟨st,ld,ff⟩:=fin (hM5.em f7) f07
  simp only [↓qq,ze,reduceIte,Nat.reduceEqDiff,st,ld]
  refine dd ?_ (ff _)
  unfold Ins.does;rw [qe hb];simp [o]
 ·simp only [↓qq,ze,reduceIte,Nat.reduceEqDiff,o,Int.reduceEq,yw,w38]
  refine C3.q (qbp (M:=M) hM5 hp (rg rs i.b)) fun v H7 ⟨hv,f7⟩=>?_
  subst hv
  have f07:=f05.trans f7 fun _ w=>w.elim
  obtain ⟨st,ld,ff⟩:=fin (hM5.em f7) f07
  simp only [↓qq,ze,reduceIte,Nat.reduceEqDiff,st,ld]
  refine dd ?_ (ff _)
  unfold Ins.does;rw [qe hb];simp [o]
 ·simp only [↓qq,ze,reduceIte,Nat.reduceEqDiff,o,Int.reduceEq,yw,w38]
  refine C3.q (qbp (M:=M) hM5 hp _) fun v H7 ⟨hv,f7⟩=>?_
  subst hv
  have f07:=f05.trans f7 fun _ w=>w.elim
  obtain ⟨st,ld,ff⟩:=fin (hM5.em f7) f07
  simp only [↓qq,ze,reduceIte,Nat.reduceEqDiff,st,ld]
  refine dd ?_ (ff _)
  unfold Ins.does;rw [qe hb];simp [o,opI]
 ·simp only [↓qq,ze,reduceIte,Nat.reduceEqDiff,o,Int.reduceEq,yw,w38,w50]
  refine C3.q (qbp (M:=M) hM5 hp _) fun v H7 ⟨hv,f7⟩=>?_
  subst hv
  have f07:=f05.trans f7 fun _ w=>w.elim
  obtain ⟨st,ld,ff⟩:=fin (hM5.em f7) f07
  simp only [↓qq,ze,reduceIte,Nat.reduceEqDiff,st,ld]
  refine dd ?_ (ff _)
  unfold Ins.does;rw [qe hb];simp [o,opI]
 ·simp only [↓qq,ze,reduceIte,Nat.reduceEqDiff,o,Int.reduceEq,yw,w38,w50]
  refine C3.q (qbp (M:=M) hM5 hp _) fun v H7 ⟨hv,f7⟩=>?_
  subst hv
  have f07:=f05.trans f7 fun _ w=>w.elim
  obtain ⟨st,ld,ff⟩:=fin (hM5.em f7) f07
  simp only [↓qq,ze,reduceIte,Nat.reduceEqDiff,st,ld]
  refine dd ?_ (ff _)
  unfold Ins.does;rw [qe hb];simp [o,opI]
 ·have q:Op.bin .and [.int .u64 (rg rs i.b),.int .u64 (rg rs i.c)]=some (.int .u64 (opI 7 (rg rs i.b) (rg rs i.c))):=rfl
  simp only [↓qq,ze,reduceIte,Nat.reduceEqDiff,o,Int.reduceEq,yw,w38,w50,w62,q]
  refine C3.q (qbp (M:=M) hM5 hp _) fun v H7 ⟨hv,f7⟩=>?_
  subst hv
  have f07:=f05.trans f7 fun _ w=>w.elim
  obtain ⟨st,ld,ff⟩:=fin (hM5.em f7) f07
  simp only [↓qq,ze,reduceIte,Nat.reduceEqDiff,st,ld]
  refine dd ?_ (ff _)
  unfold Ins.does;rw [qe hb];simp [o]
 ·have q:Op.bin .xor [.int .u64 (rg rs i.b),.int .u64 (rg rs i.c)]=some (.int .u64 (opI 8 (rg rs i.b) (rg rs i.c))):=rfl
  simp only [↓qq,ze,reduceIte,Nat.reduceEqDiff,o,Int.reduceEq,yw,w38,w50,w62,q]
  refine C3.q (qbp (M:=M) hM5 hp _) fun v H7 ⟨hv,f7⟩=>?_
  subst hv
  have f07:=f05.trans f7 fun _ w=>w.elim
  obtain ⟨st,ld,ff⟩:=fin (hM5.em f7) f07
  simp only [↓qq,ze,reduceIte,Nat.reduceEqDiff,st,ld]
  refine dd ?_ (ff _)
  unfold Ins.does;rw [qe hb];simp [o]
 ·have q:Op.bin .rem [.int .u64 (rg rs i.c),.int .u64 64]=some (.int .u64 (((rg rs i.c % 64).toNat:Nat):Int)):=by
   rw [o_rem .u64 _ _ (by decide),yl rc.1];congr 2;omega
  have q2:=o_shl .u64 .u64 (rg rs i.b) (rg rs i.c % 64).toNat
  rw [show IntKind.u64.bits=64 from rfl,show min (rg rs i.c % 64).toNat 64=(rg rs i.c % 64).toNat by omega] at q2
  simp only [↓qq,ze,reduceIte,Nat.reduceEqDiff,o,Int.reduceEq,yw,w38,w50,w62,w74,q,q2]
  refine C3.q (qbp (M:=M) hM5 hp _) fun v H7 ⟨hv,f7⟩=>?_
  subst hv
  have f07:=f05.trans f7 fun _ w=>w.elim
  obtain ⟨st,ld,ff⟩:=fin (hM5.em f7) f07
  simp only [↓qq,ze,reduceIte,Nat.reduceEqDiff,st,ld]
  refine dd ?_ (ff _)
  unfold Ins.does;rw [qe hb];simp [o,opI]
 ·have q:Op.bin .rem [.int .u64 (rg rs i.c),.int .u64 64]=some (.int .u64 (((rg rs i.c % 64).toNat:Nat):Int)):=by
   rw [o_rem .u64 _ _ (by decide),yl rc.1];congr 2;omega
  have q2:=o_shr .u64 .u64 (rg rs i.b) (rg rs i.c % 64).toNat
  rw [show IntKind.u64.bits=64 from rfl,show min (rg rs i.c % 64).toNat 64=(rg rs i.c % 64).toNat by omega,shr_eqS rb] at q2
  simp only [↓qq,ze,reduceIte,Nat.reduceEqDiff,o,Int.reduceEq,yw,w38,w50,w62,w74,q,q2]
  refine C3.q (qbp (M:=M) hM5 hp _) fun v H7 ⟨hv,f7⟩=>?_
  subst hv
  have f07:=f05.trans f7 fun _ w=>w.elim
  obtain ⟨st,ld,ff⟩:=fin (hM5.em f7) f07
  simp only [↓qq,ze,reduceIte,Nat.reduceEqDiff,st,ld]
  refine dd ?_ (ff _)
  unfold Ins.does;rw [qe hb];simp [o,opI]
 ·obtain ⟨st,ld,ff⟩:=fin hM5 f05
  simp only [↓qq,ze,reduceIte,Nat.reduceEqDiff,o,Int.reduceEq,yw,w38,w50,w62,w74,w86,hM5.lp,wp,k1,bdL,st,ld]
  refine dd ?_ (ff _)
  unfold Ins.does;rw [qe hb];simp [o]
 ·obtain ⟨st,ld,ff⟩:=fin hM5 f05
  simp only [↓qq,ze,reduceIte,Nat.reduceEqDiff,o,Int.reduceEq,yw,w38,w50,w62,w74,w86,hM5.lp,wp,bdSt,st,ld]
  refine dd ?_ (ff _)
  unfold Ins.does;rw [qe hb];simp [o]
 ·simp only [↓qq,ze,reduceIte,Nat.reduceEqDiff,o,Int.reduceEq,yw,w38,w50,w62,w74,w86,w98]
  refine C3.q (qfa (M:=M) hM5 hp true) fun v H7 ⟨hv,f7⟩=>?_
  subst hv
  have f07:=f05.trans f7 fun _ w=>w.elim
  obtain ⟨st,ld,ff⟩:=fin (hM5.em f7) f07
  simp only [↓qq,ze,reduceIte,Nat.reduceEqDiff,st,ld]
  refine dd ?_ (ff _)
  unfold Ins.does;rw [qe hb];simp [o]
 ·simp only [↓qq,ze,reduceIte,Nat.reduceEqDiff,o,Int.reduceEq,yw,w38,w50,w62,w74,w86,w98]
  refine C3.q (qfa (M:=M) hM5 hp (decide (rg rs i.a=rg rs i.b))) fun v H7 ⟨hv,f7⟩=>?_
  subst hv
  have f07:=f05.trans f7 fun _ w=>w.elim
  obtain ⟨st,ld,ff⟩:=fin (hM5.em f7) f07
  simp only [↓qq,ze,reduceIte,Nat.reduceEqDiff,st,ld]
  refine dd ?_ (ff _)
  unfold Ins.does;rw [qe hb];simp [o]
 ·simp only [↓qq,ze,reduceIte,Nat.reduceEqDiff,o,Int.reduceEq,yw,w38,w50,w62,w74,w86,w98,w110]
  refine C3.q (qfa (M:=M) hM5 hp (decide (rg rs i.a ≠ rg rs i.b))) fun v H7 ⟨hv,f7⟩=>?_
  subst hv
  have f07:=f05.trans f7 fun _ w=>w.elim
  obtain ⟨st,ld,ff⟩:=fin (hM5.em f7) f07
  simp only [↓qq,ze,reduceIte,Nat.reduceEqDiff,st,ld]
  refine dd ?_ (ff _)
  unfold Ins.does;rw [qe hb];simp [o]
 ·simp only [↓qq,ze,reduceIte,Nat.reduceEqDiff,o,Int.reduceEq,yw,w38,w50,w62,w74,w86,w98,w110]
  refine C3.q (qfa (M:=M) hM5 hp (decide (rg rs i.a<rg rs i.b))) fun v H7 ⟨hv,f7⟩=>?_
  subst hv
  have f07:=f05.trans f7 fun _ w=>w.elim
  obtain ⟨st,ld,ff⟩:=fin (hM5.em f7) f07
  simp only [↓qq,ze,reduceIte,Nat.reduceEqDiff,st,ld]
  refine dd ?_ (ff _)
  unfold Ins.does;rw [qe hb];simp [o]
 ·simp only [↓qq,ze,reduceIte,Nat.reduceEqDiff,o,Int.reduceEq,yw,w38,w50,w62,w74,w86,w98,w110,w122]
  refine C3.q (qf5 (M:=M) hM5 hp 5) fun v H7 ⟨hv,f7⟩=>?_
  subst hv
  have f07:=f05.trans f7 fun _ w=>w.elim
  obtain ⟨st,ld,ff⟩:=fin (hM5.em f7) f07
  simp only [↓qq,ze,reduceIte,Nat.reduceEqDiff,st,ld]
  refine dd ?_ (ff _)
  unfold Ins.does;rw [qe hb];simp [o]
 ·simp only [↓qq,ze,reduceIte,Nat.reduceEqDiff,o,Int.reduceEq,yw,w38,w50,w62,w74,w86,w98,w110,w122,w129]
  refine C3.q (qf5 (M:=M) hM5 hp 6) fun v H7 ⟨hv,f7⟩=>?_
  subst hv
  have f07:=f05.trans f7 fun _ w=>w.elim
  obtain ⟨st,ld,ff⟩:=fin (hM5.em f7) f07
  simp only [↓qq,ze,reduceIte,Nat.reduceEqDiff,st,ld]
  refine dd ?_ (ff _)
  unfold Ins.does;rw [qe hb];simp [o]
end Go.Am
