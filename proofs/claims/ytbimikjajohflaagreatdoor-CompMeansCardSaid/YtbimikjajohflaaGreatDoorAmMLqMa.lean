/- LqMa: SoloP SoloQ SoloS. -/
import Derived.Test.YtbimikjajohflaaGreatDoorAmMLqM0
set_option linter.unusedVariables false
set_option linter.unusedSimpArgs false
namespace Go.Am
namespace Lang
structure i7 where
 kind:Int
 next:Int
 mq:Int
 value:Int
 addr:Int
def fS:i7:=⟨0,0,0,0,0⟩
def gJ (op:Nat):List UInt8 :=
 if op=2 then [65,73] else if op=3 then [65,66] else if 4<=op/\op<=10 then [65,66,67]
 else if op=11\/op=12\/op=14\/op=15\/op=16 then [65,66,73] else if op=13 then [73] else []
def bB.eE (i:bB):Prop:=1<=i.op/\i.op<=18/\(65 ∈ gJ i.op.toNat->0<=i.a/\i.a<8)/\(66 ∈ gJ i.op.toNat->0<=i.b/\i.b<8)/\(67 ∈ gJ i.op.toNat->0<=i.c/\i.c<8)
instance (i:bB):Decidable i.eE:=inferInstanceAs (Decidable (_/\_))
def jH (n:Int):Nat:=(BitVec.ofInt 64 n &&& 7#64).toNat
def rg (rs:List Int) (n:Int):Int:=rs.getD (jH n) 0
def dW (i:bB) (pc:Int) (q:Bool):i7:=if q=true then (if i.mA<0\/1024<i.mA then fS else ⟨2,i.mA,0,0,0⟩) else ⟨2,pc+1,0,0,0⟩
def bB.bZ (i:bB) (rs:List Int) (pc:Int):i7 :=
 if ¬ i.eE\/pc<0\/1024<=pc then fS
 else if i.op=1 then ⟨7,pc+1,0,0,0⟩
 else if i.op=2 then ⟨1,pc+1,i.a,ae .u64 i.mA,0⟩
 else if i.op=3 then ⟨1,pc+1,i.a,rg rs i.b,0⟩
 else if i.op<=10 then ⟨1,pc+1,i.a,jX i.op.toNat (rg rs i.b) (rg rs i.c),0⟩
 else if i.op=11 then ⟨3,pc+1,i.a,0,ae .u64 (rg rs i.b+ae .u64 i.mA)⟩
 else if i.op=12 then ⟨4,pc+1,0,rg rs i.a,ae .u64 (rg rs i.b+ae .u64 i.mA)⟩
 else if i.op=13 then dW i pc true
 else if i.op=14 then dW i pc (decide (rg rs i.a=rg rs i.b))
 else if i.op=15 then dW i pc (decide (rg rs i.a ≠ rg rs i.b))
 else if i.op=16 then dW i pc (decide (rg rs i.a<rg rs i.b))
 else if i.op=17 then ⟨5,pc+1,0,0,0⟩
 else ⟨6,pc+1,0,0,0⟩
structure SM where
 w:List Int
 rs:List Int
 pc:Int
 left:Nat
 aN:Nat
 err:Nat
 bw:List Int
 mD:List Int
 nX:Int
 cr:Bool
 over:Bool
def SM.fin (m:SM) (e:Nat):SM:=if m.cr=true/\e ≠ 0 then { m with w:=m.bw,rs:=m.mD,pc:=m.nX,err:=e,over:=true } else { m with err:=e,over:=true }
def SM.bQ (m:SM) (f:i7):Option SM :=
 if f.kind=1 then some { m with rs:=m.rs.set f.mq.toNat f.value,pc:=f.next }
 else if f.kind=2 then some { m with pc:=f.next }
 else if f.kind=3 then (if f.addr<m.w.length then some { m with rs:=m.rs.set f.mq.toNat (m.w.getD f.addr.toNat 0),pc:=f.next } else none)
 else if f.kind=4 then (if f.addr<m.w.length then some { m with w:=m.w.set f.addr.toNat f.value,pc:=f.next } else none)
 else if f.kind=5 then (if m.cr=true then none else some { m with cr:=true,pc:=f.next,bw:=m.w,mD:=m.rs,nX:=f.next })
 else if f.kind=6 then (if m.cr=true then some { m with cr:=false,aN:=m.aN+1,pc:=f.next } else none)
 else if f.kind=7 then (if m.cr=true then none else some (m.fin 0))
 else none
def SM.take (code:List bB) (m:SM):SM:=match code[m.pc.toNat]? with
 | none=>m.fin 111
 | some i=>(m.bQ (i.bZ m.rs m.pc)).getD (m.fin 111)
def SM.stop (code:List bB) (m:SM):Option SM:=if m.over=true then some m else if (code.length:Int)<=m.pc/\m.cr=false then some (m.fin 0) else if m.left=0 then some (m.fin 190) else none
def SM.bx (m:SM):SM:={ m with left:=m.left-1 }
def SM.run (code:List bB):Nat->SM->SM
 | 0,m=>m
 | n+1,m=>match m.stop code with
  | some x=>x
  | none=>SM.run code n (m.bx.take code)
def SM.places (code:List bB):Nat->SM->List Int
 | 0,m=>[]
 | n+1,m=>match m.stop code with
  | some x=>[]
  | none=>m.pc::SM.places code n (m.bx.take code)
structure SM.ok (m:SM):Prop where
 r8:m.rs.length=8
 b8:m.mD.length=8
 p0:0<=m.pc
 p1:m.pc<=1024
 q0:0<=m.nX
 q1:m.nX<=1024
theorem CE {p:Prop} {d:Decidable p} {α:Type} {x y:α} {P:α->Prop} (hx:P x) (hy:P y):P (@ite α p d x y):=by split;exact hx;exact hy
theorem xdf (i:bB) (rs:List Int) {pc:Int} (h0:0<=pc) (h1:pc<=1024):0<=(i.bZ rs pc).next/\(i.bZ rs pc).next<=1024:=by
 have hg:∀ q,pc<1024->0<=(dW i pc q).next/\(dW i pc q).next<=1024:=λ q hp=>by
  unfold dW;split
  ·split
   ·exact ⟨Int.le_refl _,by decide⟩
   ·rename_i h;exact ⟨by show 0<=i.mA;omega,by show i.mA<=1024;omega⟩
  ·exact ⟨by show 0<=pc+1;omega,by show pc+1<=1024;omega⟩
 unfold bB.bZ
 by_cases h:¬ i.eE\/pc<0\/1024<=pc
 ·rw [qk h];exact ⟨Int.le_refl _,by decide⟩
 rw [qc h];have hp:pc<1024:=by omega
 have hn:∀ k r v d,0<=(i7.mk k (pc+1) r v d).next/\(i7.mk k (pc+1) r v d).next<=1024:=λ _ _ _ _=>⟨by show 0<=pc+1;omega,by show pc+1<=1024;omega⟩
 iterate 11 (refine CE (P:=λ e:i7=>0<=e.next/\e.next<=1024) ?_ ?_;(first|exact hn _ _ _ _|exact hg _ hp))
 exact hn _ _ _ _
theorem SM.sQ {m:SM} (h:m.ok) (e:Nat):(m.fin e).ok:=by
 unfold SM.fin;split
 ·exact ⟨h.b8,h.b8,h.q0,h.q1,h.q0,h.q1⟩
 ·exact ⟨h.r8,h.b8,h.p0,h.p1,h.q0,h.q1⟩
theorem SM.C7 {m x:SM} (h:m.ok) {f:i7} (h0:0<=f.next) (h1:f.next<=1024) (he:m.bQ f=some x):x.ok:=by
 unfold SM.bQ at he
 repeat' (split at he)
 all_goals (first|cases he|injection he with he)
 all_goals (try subst he)
 all_goals (first|exact SM.sQ h 0|exact ⟨by simpa using h.r8,h.b8,h0,h1,h.q0,h.q1⟩|exact ⟨h.r8,h.r8,h0,h1,h0,h1⟩)
theorem SM.wB {m:SM} (h:m.ok):m.bx.ok:=⟨h.r8,h.b8,h.p0,h.p1,h.q0,h.q1⟩
theorem SM.ik (m:SM) (e:Nat):(m.fin e).left=m.left:=by unfold SM.fin;split<;>rfl
theorem SM.wM {m x:SM} {f:i7} (he:m.bQ f=some x):x.left=m.left:=by
 unfold SM.bQ at he
 repeat' (split at he)
 all_goals (first|cases he|injection he with he)
 all_goals (try subst he)
 all_goals (first|rfl|exact m.ik 0)
theorem SM.take_left (m:SM) (code:List bB):(m.take code).left=m.left:=by
 unfold SM.take;split
 ·exact m.ik _
 ·rename_i i _;cases he:m.bQ (i.bZ m.rs m.pc) with
  | none=>exact m.ik _
  | some x=>exact SM.wM he
theorem SM.mT {m:SM} {code:List bB} (h:m.stop code=none):m.over=false /\ ¬ ((code.length:Int)<=m.pc/\m.cr=false)/\m.left ≠ 0:=by
 unfold SM.stop at h;split at h
 ·cases h
 split at h
 ·cases h
 split at h
 ·cases h
 rename_i h1 h2 h3;exact ⟨by simpa using h1,h2,h3⟩
end Lang
end Go.Am
namespace Go.Am
namespace Lang
def SM.add (d:Nat) (m:SM):SM:={ m with left:=m.left+d }
theorem SM.nM (d:Nat) (m:SM) (e:Nat):(m.add d).fin e=(m.fin e).add d:=by
 by_cases h:m.cr=true/\e ≠ 0
 ·unfold SM.fin;rw [qk h,qk (show (m.add d).cr=true/\e ≠ 0 from h)];rfl
 ·unfold SM.fin;rw [qc h,qc (show ¬ ((m.add d).cr=true/\e ≠ 0) from h)];rfl
theorem SM.AD (d:Nat) (m:SM) (f:i7):(m.add d).bQ f=(m.bQ f).map (SM.add d):=by
 unfold SM.bQ
 by_cases h1:f.kind=1
 ·rw [qk h1,qk h1];rfl
 rw [qc h1,qc h1]
 by_cases h2:f.kind=2
 ·rw [qk h2,qk h2];rfl
 rw [qc h2,qc h2]
 by_cases h3:f.kind=3
 ·rw [qk h3,qk h3]
  by_cases q:f.addr<m.w.length
  ·rw [qk q,qk (show f.addr<(m.add d).w.length from q)];rfl
  ·rw [qc q,qc (show ¬ f.addr<(m.add d).w.length from q)];rfl
 rw [qc h3,qc h3]
 by_cases h4:f.kind=4
 ·rw [qk h4,qk h4]
  by_cases q:f.addr<m.w.length
  ·rw [qk q,qk (show f.addr<(m.add d).w.length from q)];rfl
  ·rw [qc q,qc (show ¬ f.addr<(m.add d).w.length from q)];rfl
 rw [qc h4,qc h4]
 by_cases h5:f.kind=5
 ·rw [qk h5,qk h5]
  by_cases q:m.cr=true
  ·rw [qk q,qk (show (m.add d).cr=true from q)];rfl
  ·rw [qc q,qc (show ¬ (m.add d).cr=true from q)];rfl
 rw [qc h5,qc h5]
 by_cases h6:f.kind=6
 ·rw [qk h6,qk h6]
  by_cases q:m.cr=true
  ·rw [qk q,qk (show (m.add d).cr=true from q)];rfl
  ·rw [qc q,qc (show ¬ (m.add d).cr=true from q)];rfl
 rw [qc h6,qc h6]
 by_cases h7:f.kind=7
 ·rw [qk h7,qk h7]
  by_cases q:m.cr=true
  ·rw [qk q,qk (show (m.add d).cr=true from q)];rfl
  ·rw [qc q,qc (show ¬ (m.add d).cr=true from q),SM.nM];rfl
 ·rw [qc h7,qc h7];rfl
theorem SM.take_add (d:Nat) (m:SM) (code:List bB):(m.add d).take code=(m.take code).add d:=by
 unfold SM.take;show (match code[m.pc.toNat]? with|none=>(m.add d).fin 111|some i=>((m.add d).bQ (i.bZ m.rs m.pc)).getD ((m.add d).fin 111))=_;cases code[m.pc.toNat]? with
 | none=>exact SM.nM ..
 | some i =>
  simp only [SM.AD,SM.nM];cases m.bQ (i.bZ m.rs m.pc)<;>rfl
theorem SM.nK (m:SM) (e:Nat):(m.fin e).err=e:=by unfold SM.fin;split<;>rfl
theorem SM.oV {m x:SM} {code:List bB} (h:m.stop code=some x):m.over=true/\x=m\/m.over=false/\((code.length:Int)<=m.pc/\m.cr=false)/\x=m.fin 0\/m.over=false /\ ¬ ((code.length:Int)<=m.pc/\m.cr=false)/\m.left=0/\x=m.fin 190:=by
 unfold SM.stop at h;split at h
 ·rename_i q;injection h with h;exact .inl ⟨q,h.symm⟩
 rename_i q;have q:m.over=false:=by simpa using q
 split at h
 ·rename_i r;injection h with h;exact .inr (.inl ⟨q,r,h.symm⟩)
 rename_i r;split at h
 ·rename_i s;injection h with h;exact .inr (.inr ⟨q,r,s,h.symm⟩)
 ·cases h
theorem SM.jG {m:SM} {code:List bB} (h:m.stop code=none):(m.bx.take code).left+1=m.left:=by
 obtain ⟨_,_,h3⟩:=SM.mT h;rw [SM.take_left];show m.left-1+1=m.left;omega
theorem wK {p:Prop} {d:Decidable p} {α:Type} {x y:α} {P:α->Prop} (hx:p->P x) (hy:¬ p->P y):P (@ite α p d x y):=by
 split
 ·rename_i h;exact hx h
 ·rename_i h;exact hy h
theorem SM.iY (m:SM) (e:Nat):(m.fin e).over=true:=by unfold SM.fin;split<;>rfl
end Lang
end Go.Am
namespace Go.Am
namespace Lang
theorem SM.lX {m:SM} {code:List bB} (h:m.over=true):∀ n,m.run code n=m
 | 0=>rfl
 | n+1=>by
  have:m.stop code=some m:=by unfold SM.stop;rw [qk h]
  simp only [SM.run,this]
structure SM.gz (k:Nat) (a b:SM):Prop where
 w:a.w=b.w
 rs:a.rs=b.rs
 pc:a.pc=b.pc
 left:a.left=b.left
 err:a.err=b.err
 aN:a.aN+k=b.aN
 cr:a.cr=b.cr
 over:a.over=b.over
 bk:a.cr=true->a.bw=b.bw/\a.mD=b.mD/\a.nX=b.nX
theorem SM.gz.fin {k:Nat} {a b:SM} (h:a.gz k b) (e:Nat):(a.fin e).gz k (b.fin e):=by
 unfold SM.fin
 by_cases q:a.cr=true/\e ≠ 0
 ·rw [qk q,qk (by rw [<-h.cr];exact q)];obtain ⟨b1,b2,b3⟩:=h.bk q.1;exact ⟨b1,b2,b3,h.left,rfl,h.aN,h.cr,rfl,h.bk⟩
 ·rw [qc q,qc (by rw [<-h.cr];exact q)];exact ⟨h.w,h.rs,h.pc,h.left,rfl,h.aN,h.cr,rfl,h.bk⟩
theorem SM.gz.bQ {k:Nat} {a b:SM} (h:a.gz k b) (f:i7):(a.bQ f=none/\b.bQ f=none) \/ ∃ x y,a.bQ f=some x/\b.bQ f=some y/\x.gz k y:=by
 unfold SM.bQ
 by_cases h1:f.kind=1
 ·rw [qk h1,qk h1];exact .inr ⟨_,_,rfl,rfl,⟨h.w,by show a.rs.set _ _=b.rs.set _ _;rw [h.rs],rfl,h.left,h.err,h.aN,h.cr,h.over,h.bk⟩⟩
 rw [qc h1,qc h1]
 by_cases h2:f.kind=2
 ·rw [qk h2,qk h2];exact .inr ⟨_,_,rfl,rfl,⟨h.w,h.rs,rfl,h.left,h.err,h.aN,h.cr,h.over,h.bk⟩⟩
 rw [qc h2,qc h2]
 by_cases h3:f.kind=3
 ·rw [qk h3,qk h3]
  by_cases q:f.addr<a.w.length
  ·rw [qk q,qk (by rw [<-h.w];exact q)];exact .inr ⟨_,_,rfl,rfl,⟨h.w,by show a.rs.set _ (a.w.getD _ _)=b.rs.set _ (b.w.getD _ _);rw [h.rs,h.w],rfl,h.left,h.err,h.aN,h.cr,h.over,h.bk⟩⟩
  ·rw [qc q,qc (by rw [<-h.w];exact q)];exact .inl ⟨rfl,rfl⟩
 rw [qc h3,qc h3]
 by_cases h4:f.kind=4
 ·rw [qk h4,qk h4]
  by_cases q:f.addr<a.w.length
  ·rw [qk q,qk (by rw [<-h.w];exact q)];exact .inr ⟨_,_,rfl,rfl,⟨by show a.w.set _ _=b.w.set _ _;rw [h.w],h.rs,rfl,h.left,h.err,h.aN,h.cr,h.over,h.bk⟩⟩
  ·rw [qc q,qc (by rw [<-h.w];exact q)];exact .inl ⟨rfl,rfl⟩
 rw [qc h4,qc h4]
 by_cases h5:f.kind=5
 ·rw [qk h5,qk h5]
  by_cases q:a.cr=true
  ·rw [qk q,qk (by rw [<-h.cr];exact q)];exact .inl ⟨rfl,rfl⟩
  ·rw [qc q,qc (by rw [<-h.cr];exact q)];exact .inr ⟨_,_,rfl,rfl,⟨h.w,h.rs,rfl,h.left,h.err,h.aN,rfl,h.over,λ _=>⟨h.w,h.rs,rfl⟩⟩⟩
 rw [qc h5,qc h5]
 by_cases h6:f.kind=6
 ·rw [qk h6,qk h6]
  by_cases q:a.cr=true
  ·rw [qk q,qk (by rw [<-h.cr];exact q)];exact .inr ⟨_,_,rfl,rfl,⟨h.w,h.rs,rfl,h.left,h.err,by show a.aN+1+k=b.aN+1;have:=h.aN;omega,rfl,h.over,λ q=>by cases q⟩⟩
  ·rw [qc q,qc (by rw [<-h.cr];exact q)];exact .inl ⟨rfl,rfl⟩
 rw [qc h6,qc h6]
 by_cases h7:f.kind=7
 ·rw [qk h7,qk h7]
  by_cases q:a.cr=true
  ·rw [qk q,qk (by rw [<-h.cr];exact q)];exact .inl ⟨rfl,rfl⟩
  ·rw [qc q,qc (by rw [<-h.cr];exact q)];exact .inr ⟨_,_,rfl,rfl,h.fin 0⟩
 ·rw [qc h7,qc h7];exact .inl ⟨rfl,rfl⟩
theorem SM.gz.take {k:Nat} {a b:SM} (h:a.gz k b) (code:List bB):(a.take code).gz k (b.take code):=by
 unfold SM.take;rw [h.pc];cases code[b.pc.toNat]? with
 | none=>exact h.fin _
 | some i =>
  simp only;rw [h.rs];rcases h.bQ (i.bZ b.rs b.pc) with ⟨h1,h2⟩|⟨x,y,h1,h2,h3⟩
  ·rw [h1,h2];exact h.fin _
  ·rw [h1,h2];exact h3
theorem SM.gz.bx {k:Nat} {a b:SM} (h:a.gz k b):a.bx.gz k b.bx:=⟨h.w,h.rs,h.pc,by show a.left-1=b.left-1;rw [h.left],h.err,h.aN,h.cr,h.over,h.bk⟩
theorem SM.gz.stop {k:Nat} {a b:SM} (h:a.gz k b) (code:List bB):(a.stop code=none/\b.stop code=none) \/ ∃ x y,a.stop code=some x/\b.stop code=some y/\x.gz k y:=by
 unfold SM.stop
 by_cases h1:a.over=true
 ·rw [qk h1,qk (by rw [<-h.over];exact h1)];exact .inr ⟨_,_,rfl,rfl,h⟩
 rw [qc h1,qc (show ¬ b.over=true by rw [<-h.over];exact h1)]
 by_cases h2:(code.length:Int)<=a.pc/\a.cr=false
 ·rw [qk h2,qk (by rw [<-h.pc,<-h.cr];exact h2)];exact .inr ⟨_,_,rfl,rfl,h.fin 0⟩
 rw [qc h2,qc (show ¬ ((code.length:Int)<=b.pc/\b.cr=false) by rw [<-h.pc,<-h.cr];exact h2)]
 by_cases h3:a.left=0
 ·rw [qk h3,qk (by rw [<-h.left];exact h3)];exact .inr ⟨_,_,rfl,rfl,h.fin 190⟩
 ·rw [qc h3,qc (by rw [<-h.left];exact h3)];exact .inl ⟨rfl,rfl⟩
theorem SM.gz.run {k:Nat} {code:List bB}:∀ (n:Nat) {a b:SM},a.gz k b->(a.run code n).gz k (b.run code n)
 | 0,a,b,h=>h
 | n+1,a,b,h=>by
  unfold SM.run;rcases h.stop code with ⟨h1,h2⟩|⟨x,y,h1,h2,h3⟩
  ·rw [h1,h2];exact SM.gz.run n (h.bx.take code)
  ·rw [h1,h2];exact h3
def SM.init (w rs:List Int) (pc:Int) (left:Nat):SM:=⟨w,rs,pc,left,0,0,[],[0,0,0,0,0,0,0,0],0,false,false⟩
def SM.runs (code:List bB) (m:SM):SM:=m.run code (m.left+1)
end Lang
end Go.Am
