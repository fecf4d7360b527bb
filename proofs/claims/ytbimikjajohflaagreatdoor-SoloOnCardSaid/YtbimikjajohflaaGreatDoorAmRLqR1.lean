/- LqR1: SoloP SoloQ SoloS. -/
import Derived.Test.YtbimikjajohflaaGreatDoorAmRLqR0
set_option linter.unusedVariables false
set_option linter.unusedSimpArgs false
namespace Go.Am
namespace Lang
structure Eff where
 kind:Int
 next:Int
 reg:Int
 value:Int
 addr:Int
def eff0:Eff:=⟨0,0,0,0,0⟩
def insNm (op:Nat):List UInt8 :=
 if op=2 then [65,73] else if op=3 then [65,66] else if 4<=op/\op<=10 then [65,66,67]
 else if op=11\/op=12\/op=14\/op=15\/op=16 then [65,66,73] else if op=13 then [73] else []
def Ins.legal (i:Ins):Prop:=1<=i.op/\i.op<=18/\(65 ∈ insNm i.op.toNat->0<=i.a/\i.a<8)/\(66 ∈ insNm i.op.toNat->0<=i.b/\i.b<8)/\(67 ∈ insNm i.op.toNat->0<=i.c/\i.c<8)
instance (i:Ins):Decidable i.legal:=inferInstanceAs (Decidable (_/\_))
def low3 (n:Int):Nat:=(BitVec.ofInt 64 n &&& 7#64).toNat
def rg (rs:List Int) (n:Int):Int:=rs.getD (low3 n) 0
def effGo (i:Ins) (pc:Int) (q:Bool):Eff:=if q=true then (if i.imm<0\/1024<i.imm then eff0 else ⟨2,i.imm,0,0,0⟩) else ⟨2,pc+1,0,0,0⟩
def Ins.does (i:Ins) (rs:List Int) (pc:Int):Eff :=
 if ¬ i.legal\/pc<0\/1024<=pc then eff0
 else if i.op=1 then ⟨7,pc+1,0,0,0⟩
 else if i.op=2 then ⟨1,pc+1,i.a,wrapI .u64 i.imm,0⟩
 else if i.op=3 then ⟨1,pc+1,i.a,rg rs i.b,0⟩
 else if i.op<=10 then ⟨1,pc+1,i.a,opI i.op.toNat (rg rs i.b) (rg rs i.c),0⟩
 else if i.op=11 then ⟨3,pc+1,i.a,0,wrapI .u64 (rg rs i.b+wrapI .u64 i.imm)⟩
 else if i.op=12 then ⟨4,pc+1,0,rg rs i.a,wrapI .u64 (rg rs i.b+wrapI .u64 i.imm)⟩
 else if i.op=13 then effGo i pc true
 else if i.op=14 then effGo i pc (decide (rg rs i.a=rg rs i.b))
 else if i.op=15 then effGo i pc (decide (rg rs i.a ≠ rg rs i.b))
 else if i.op=16 then effGo i pc (decide (rg rs i.a<rg rs i.b))
 else if i.op=17 then ⟨5,pc+1,0,0,0⟩
 else ⟨6,pc+1,0,0,0⟩
structure SM where
 w:List Int
 rs:List Int
 pc:Int
 left:Nat
 blk:Nat
 err:Nat
 bw:List Int
 brs:List Int
 bpc:Int
 inb:Bool
 over:Bool
def SM.fin (m:SM) (e:Nat):SM:=if m.inb=true/\e ≠ 0 then { m with w:=m.bw,rs:=m.brs,pc:=m.bpc,err:=e,over:=true } else { m with err:=e,over:=true }
def SM.eff (m:SM) (f:Eff):Option SM :=
 if f.kind=1 then some { m with rs:=m.rs.set f.reg.toNat f.value,pc:=f.next }
 else if f.kind=2 then some { m with pc:=f.next }
 else if f.kind=3 then (if f.addr<m.w.length then some { m with rs:=m.rs.set f.reg.toNat (m.w.getD f.addr.toNat 0),pc:=f.next } else none)
 else if f.kind=4 then (if f.addr<m.w.length then some { m with w:=m.w.set f.addr.toNat f.value,pc:=f.next } else none)
 else if f.kind=5 then (if m.inb=true then none else some { m with inb:=true,pc:=f.next,bw:=m.w,brs:=m.rs,bpc:=f.next })
 else if f.kind=6 then (if m.inb=true then some { m with inb:=false,blk:=m.blk+1,pc:=f.next } else none)
 else if f.kind=7 then (if m.inb=true then none else some (m.fin 0))
 else none
def SM.take (code:List Ins) (m:SM):SM:=match code[m.pc.toNat]? with
 | none=>m.fin 111
 | some i=>(m.eff (i.does m.rs m.pc)).getD (m.fin 111)
def SM.stop (code:List Ins) (m:SM):Option SM:=if m.over=true then some m else if (code.length:Int)<=m.pc/\m.inb=false then some (m.fin 0) else if m.left=0 then some (m.fin 190) else none
def SM.pay (m:SM):SM:={ m with left:=m.left-1 }
def SM.run (code:List Ins):Nat->SM->SM
 | 0,m=>m
 | n+1,m=>match m.stop code with
  | some x=>x
  | none=>SM.run code n (m.pay.take code)
def SM.places (code:List Ins):Nat->SM->List Int
 | 0,m=>[]
 | n+1,m=>match m.stop code with
  | some x=>[]
  | none=>m.pc::SM.places code n (m.pay.take code)
structure SM.ok (m:SM):Prop where
 r8:m.rs.length=8
 b8:m.brs.length=8
 p0:0<=m.pc
 p1:m.pc<=1024
 q0:0<=m.bpc
 q1:m.bpc<=1024
theorem ite_el {p:Prop} {d:Decidable p} {α:Type} {x y:α} {P:α->Prop} (hx:P x) (hy:P y):P (@ite α p d x y):=by split;exact hx;exact hy
theorem qnh (i:Ins) (rs:List Int) {pc:Int} (h0:0<=pc) (h1:pc<=1024):0<=(i.does rs pc).next/\(i.does rs pc).next<=1024:=by
 have hg:∀ q,pc<1024->0<=(effGo i pc q).next/\(effGo i pc q).next<=1024:=fun q hp=>by
  unfold effGo
  split
  ·split
   ·exact ⟨Int.le_refl _,by decide⟩
   ·rename_i h;exact ⟨by show 0<=i.imm;omega,by show i.imm<=1024;omega⟩
  ·exact ⟨by show 0<=pc+1;omega,by show pc+1<=1024;omega⟩
 unfold Ins.does
 by_cases h:¬ i.legal\/pc<0\/1024<=pc
 ·rw [qh h];exact ⟨Int.le_refl _,by decide⟩
 rw [qe h]
 have hp:pc<1024:=by omega
 have hn:∀ k r v d,0<=(Eff.mk k (pc+1) r v d).next/\(Eff.mk k (pc+1) r v d).next<=1024:=fun _ _ _ _=>⟨by show 0<=pc+1;omega,by show pc+1<=1024;omega⟩
 iterate 11 (refine ite_el (P:=fun e:Eff=>0<=e.next/\e.next<=1024) ?_ ?_;(first|exact hn _ _ _ _|exact hg _ hp))
 exact hn _ _ _ _
theorem SM.fin_ok {m:SM} (h:m.ok) (e:Nat):(m.fin e).ok:=by
 unfold SM.fin
 split
 ·exact ⟨h.b8,h.b8,h.q0,h.q1,h.q0,h.q1⟩
 ·exact ⟨h.r8,h.b8,h.p0,h.p1,h.q0,h.q1⟩
theorem SM.eff_ok {m x:SM} (h:m.ok) {f:Eff} (h0:0<=f.next) (h1:f.next<=1024) (he:m.eff f=some x):x.ok:=by
 unfold SM.eff at he
 repeat' (split at he)
 all_goals (first|cases he|injection he with he)
 all_goals (try subst he)
 all_goals (first|exact SM.fin_ok h 0|exact ⟨by simpa using h.r8,h.b8,h0,h1,h.q0,h.q1⟩|exact ⟨h.r8,h.r8,h0,h1,h0,h1⟩)
theorem SM.take_ok {m:SM} (h:m.ok) (code:List Ins):(m.take code).ok:=by
 unfold SM.take
 split
 ·exact SM.fin_ok h _
 ·rename_i i _
  have hn:=qnh i m.rs h.p0 h.p1
  cases he:m.eff (i.does m.rs m.pc) with
  | none=>exact SM.fin_ok h _
  | some x=>exact SM.eff_ok h hn.1 hn.2 he
theorem SM.pay_ok {m:SM} (h:m.ok):m.pay.ok:=⟨h.r8,h.b8,h.p0,h.p1,h.q0,h.q1⟩
theorem SM.fin_left (m:SM) (e:Nat):(m.fin e).left=m.left:=by unfold SM.fin;split<;>rfl
theorem SM.eff_left {m x:SM} {f:Eff} (he:m.eff f=some x):x.left=m.left:=by
 unfold SM.eff at he
 repeat' (split at he)
 all_goals (first|cases he|injection he with he)
 all_goals (try subst he)
 all_goals (first|rfl|exact m.fin_left 0)
theorem SM.take_left (m:SM) (code:List Ins):(m.take code).left=m.left:=by
 unfold SM.take
 split
 ·exact m.fin_left _
 ·rename_i i _
  cases he:m.eff (i.does m.rs m.pc) with
  | none=>exact m.fin_left _
  | some x=>exact SM.eff_left he
theorem SM.stop_none {m:SM} {code:List Ins} (h:m.stop code=none):m.over=false /\ ¬ ((code.length:Int)<=m.pc/\m.inb=false)/\m.left ≠ 0:=by
 unfold SM.stop at h
 split at h
 ·cases h
 split at h
 ·cases h
 split at h
 ·cases h
 rename_i h1 h2 h3
 exact ⟨by simpa using h1,h2,h3⟩
end Lang
end Go.Am
namespace Go.Am
namespace Lang
def SM.add (d:Nat) (m:SM):SM:={ m with left:=m.left+d }
theorem SM.fin_add (d:Nat) (m:SM) (e:Nat):(m.add d).fin e=(m.fin e).add d:=by
 by_cases h:m.inb=true/\e ≠ 0
 ·unfold SM.fin;rw [qh h,qh (show (m.add d).inb=true/\e ≠ 0 from h)];rfl
 ·unfold SM.fin;rw [qe h,qe (show ¬ ((m.add d).inb=true/\e ≠ 0) from h)];rfl
theorem SM.eff_add (d:Nat) (m:SM) (f:Eff):(m.add d).eff f=(m.eff f).map (SM.add d):=by
 unfold SM.eff
 by_cases h1:f.kind=1
 ·rw [qh h1,qh h1];rfl
 rw [qe h1,qe h1]
 by_cases h2:f.kind=2
 ·rw [qh h2,qh h2];rfl
 rw [qe h2,qe h2]
 by_cases h3:f.kind=3
 ·rw [qh h3,qh h3]
  by_cases q:f.addr<m.w.length
  ·rw [qh q,qh (show f.addr<(m.add d).w.length from q)];rfl
  ·rw [qe q,qe (show ¬ f.addr<(m.add d).w.length from q)];rfl
 rw [qe h3,qe h3]
 by_cases h4:f.kind=4
 ·rw [qh h4,qh h4]
  by_cases q:f.addr<m.w.length
  ·rw [qh q,qh (show f.addr<(m.add d).w.length from q)];rfl
  ·rw [qe q,qe (show ¬ f.addr<(m.add d).w.length from q)];rfl
 rw [qe h4,qe h4]
 by_cases h5:f.kind=5
 ·rw [qh h5,qh h5]
  by_cases q:m.inb=true
  ·rw [qh q,qh (show (m.add d).inb=true from q)];rfl
  ·rw [qe q,qe (show ¬ (m.add d).inb=true from q)];rfl
 rw [qe h5,qe h5]
 by_cases h6:f.kind=6
 ·rw [qh h6,qh h6]
  by_cases q:m.inb=true
  ·rw [qh q,qh (show (m.add d).inb=true from q)];rfl
  ·rw [qe q,qe (show ¬ (m.add d).inb=true from q)];rfl
 rw [qe h6,qe h6]
 by_cases h7:f.kind=7
 ·rw [qh h7,qh h7]
  by_cases q:m.inb=true
  ·rw [qh q,qh (show (m.add d).inb=true from q)];rfl
  ·rw [qe q,qe (show ¬ (m.add d).inb=true from q),SM.fin_add];rfl
 ·rw [qe h7,qe h7];rfl
theorem SM.take_add (d:Nat) (m:SM) (code:List Ins):(m.add d).take code=(m.take code).add d:=by
 unfold SM.take
 show (match code[m.pc.toNat]? with|none=>(m.add d).fin 111|some i=>((m.add d).eff (i.does m.rs m.pc)).getD ((m.add d).fin 111))=_
 cases code[m.pc.toNat]? with
 | none=>exact SM.fin_add ..
 | some i =>
  simp only [SM.eff_add,SM.fin_add]
  cases m.eff (i.does m.rs m.pc)<;>rfl
theorem SM.pay_add {d:Nat} {m:SM} (h:m.left ≠ 0):(m.add d).pay=m.pay.add d:=by
 unfold SM.pay SM.add
 congr 1
 show m.left+d-1=m.left-1+d
 omega
theorem SM.fin_err (m:SM) (e:Nat):(m.fin e).err=e:=by unfold SM.fin;split<;>rfl
theorem SM.stop_add {d:Nat} {m:SM} {code:List Ins} (h:m.stop code=none):(m.add d).stop code=none:=by
 obtain ⟨h1,h2,h3⟩:=SM.stop_none h
 unfold SM.stop
 rw [qe (by show ¬ m.over=true;rw [h1];decide),qe (show ¬ ((code.length:Int)<=(m.add d).pc/\(m.add d).inb=false) from h2),qe (show ¬ (m.add d).left=0 by show ¬ m.left+d=0;omega)]
theorem SM.stop_cases {m x:SM} {code:List Ins} (h:m.stop code=some x):m.over=true/\x=m\/m.over=false/\((code.length:Int)<=m.pc/\m.inb=false)/\x=m.fin 0\/m.over=false /\ ¬ ((code.length:Int)<=m.pc/\m.inb=false)/\m.left=0/\x=m.fin 190:=by
 unfold SM.stop at h
 split at h
 ·rename_i q;injection h with h;exact .inl ⟨q,h.symm⟩
 rename_i q
 have q:m.over=false:=by simpa using q
 split at h
 ·rename_i r;injection h with h;exact .inr (.inl ⟨q,r,h.symm⟩)
 rename_i r
 split at h
 ·rename_i s;injection h with h;exact .inr (.inr ⟨q,r,s,h.symm⟩)
 ·cases h
theorem SM.next_left {m:SM} {code:List Ins} (h:m.stop code=none):(m.pay.take code).left+1=m.left:=by
 obtain ⟨_,_,h3⟩:=SM.stop_none h
 rw [SM.take_left]
 show m.left-1+1=m.left
 omega
theorem SM.run_more {code:List Ins}:∀ (n k:Nat) (m:SM),m.left<n->m.left<k->m.run code n=m.run code k
 | 0,_,m,h,_=>absurd h (by omega)
 | _,0,m,_,h=>absurd h (by omega)
 | n+1,k+1,m,h1,h2=>by
  unfold SM.run
  cases hs:m.stop code with
  | some x=>rfl
  | none =>
   have:=SM.next_left hs
   exact SM.run_more n k _ (by omega) (by omega)
theorem SM.run_add {code:List Ins} (d:Nat):∀ (n:Nat) (m:SM),m.left<n->(m.run code n).err ≠ 190->(m.add d).run code (n+d)=(m.run code n).add d
 | 0,m,h,_=>absurd h (by omega)
 | n+1,m,h,he=>by
  unfold SM.run at he ⊢
  rw [show n+1+d=(n+d)+1 by omega]
  cases hs:m.stop code with
  | none =>
   rw [hs] at he
   simp only at he
   obtain ⟨_,_,h3⟩:=SM.stop_none hs
   have:=SM.next_left hs
   simp only [SM.run,SM.stop_add hs,SM.pay_add h3,SM.take_add]
   exact SM.run_add d n _ (by omega) he
  | some x =>
   rw [hs] at he
   simp only at he ⊢
   rcases SM.stop_cases hs with ⟨h1,rfl⟩|⟨h1,h2,rfl⟩|⟨_,_,_,rfl⟩
   ·have:(x.add d).stop code=some (x.add d):=by unfold SM.stop;rw [qh (show (x.add d).over=true from h1)]
    simp only [SM.run,this]
   ·have:(m.add d).stop code=some ((m.add d).fin 0):=by unfold SM.stop;rw [qe (show ¬ (m.add d).over=true by show ¬ m.over=true;rw [h1];decide),qh (show (code.length:Int)<=(m.add d).pc/\(m.add d).inb=false from h2)]
    simp only [SM.run,this,SM.fin_add]
   ·exact (he (m.fin_err 190)).elim
def inT (code:List Ins):Bool->List Int->Bool
 | b,[]=>b
 | b,p::ps=>inT code (match code[p.toNat]? with
  | some i=>if i.op=17 then true else if i.op=18 then false else b
  | none=>b) ps
theorem qch {p:Prop} {d:Decidable p} {α:Type} {x y:α} {P:α->Prop} (hx:p->P x) (hy:¬ p->P y):P (@ite α p d x y):=by
 split
 ·rename_i h;exact hx h
 ·rename_i h;exact hy h
theorem eff0_no (m:SM):m.eff eff0=none:=rfl
theorem SM.fin_over (m:SM) (e:Nat):(m.fin e).over=true:=by unfold SM.fin;split<;>rfl
theorem SM.take_in {m:SM} {code:List Ins} (h:(m.take code).over=false):∃ i,code[m.pc.toNat]? = some i/\(m.take code).inb=(if i.op=17 then true else if i.op=18 then false else m.inb):=by
 unfold SM.take at h ⊢
 cases hc:code[m.pc.toNat]? with
 | none=>rw [hc] at h;rw [SM.fin_over] at h;cases h
 | some i =>
  rw [hc] at h
  simp only at h ⊢
  refine ⟨i,rfl,?_⟩
  cases he:m.eff (i.does m.rs m.pc) with
  | none=>rw [he] at h;rw [show (Option.none.getD (m.fin 111))=m.fin 111 from rfl,SM.fin_over] at h;cases h
  | some x =>
   rw [he] at h
   have h:x.over=false:=h
   show x.inb=_
   by_cases hl:¬ i.legal\/m.pc<0\/1024<=m.pc
   ·have:i.does m.rs m.pc=eff0:=by unfold Ins.does;rw [qh hl]
    rw [this,eff0_no] at he;cases he
   have hop:1<=i.op/\i.op<=18:=by
    have:i.legal:=kp.1 fun q=>hl (.inl q)
    exact ⟨this.1,this.2.1⟩
   have low:∀ {f:Eff},m.eff f=some x->f.kind=0\/f.kind=1\/f.kind=2\/f.kind=3\/f.kind=4->x.inb=m.inb:=by
    intro f hf hk
    unfold SM.eff at hf
    by_cases k1:f.kind=1
    ·rw [qh k1] at hf;injection hf with hf;subst hf;rfl
    rw [qe k1] at hf
    by_cases k2:f.kind=2
    ·rw [qh k2] at hf;injection hf with hf;subst hf;rfl
    rw [qe k2] at hf
    by_cases k3:f.kind=3
    ·rw [qh k3] at hf
     split at hf
     ·injection hf with hf;subst hf;rfl
     ·cases hf
    rw [qe k3] at hf
    by_cases k4:f.kind=4
    ·rw [qh k4] at hf
     split at hf
     ·injection hf with hf;subst hf;rfl
     ·cases hf
    rw [qe k4,qe (by omega),qe (by omega),qe (by omega)] at hf
    cases hf
   by_cases o17:i.op=17
   ·have:i.does m.rs m.pc=⟨5,m.pc+1,0,0,0⟩:=by
     unfold Ins.does
     rw [qe hl,qe (by omega),qe (by omega),qe (by omega),qe (by omega),qe (by omega),qe (by omega),qe (by omega),qe (by omega),qe (by omega),qe (by omega),qh o17]
    rw [this] at he
    rw [qh o17]
    have he:(if m.inb=true then none else some { m with inb:=true,pc:=m.pc+1,bw:=m.w,brs:=m.rs,bpc:=m.pc+1 })=some x:=he
    split at he
    ·cases he
    ·injection he with he;subst he;rfl
   by_cases o18:i.op=18
   ·have:i.does m.rs m.pc=⟨6,m.pc+1,0,0,0⟩:=by
     unfold Ins.does
     rw [qe hl,qe (by omega),qe (by omega),qe (by omega),qe (by omega),qe (by omega),qe (by omega),qe (by omega),qe (by omega),qe (by omega),qe (by omega),qe o17]
    rw [this] at he
    rw [qe o17,qh o18]
    have he:(if m.inb=true then some { m with inb:=false,blk:=m.blk+1,pc:=m.pc+1 } else none)=some x:=he
    split at he
    ·injection he with he;subst he;rfl
    ·cases he
   rw [qe o17,qe o18]
   by_cases o1:i.op=1
   ·have:i.does m.rs m.pc=⟨7,m.pc+1,0,0,0⟩:=by
     unfold Ins.does
     rw [qe hl,qh o1]
    rw [this] at he
    have he:(if m.inb=true then none else some (m.fin 0))=some x:=he
    split at he
    ·cases he
    ·injection he with he;rw [<-he,SM.fin_over] at h;cases h
   refine low he ?_
   have hg:∀ q,(effGo i m.pc q).kind=0\/(effGo i m.pc q).kind=1\/(effGo i m.pc q).kind=2\/(effGo i m.pc q).kind=3\/(effGo i m.pc q).kind=4:=fun q=>by
    unfold effGo
    split
    ·split
     ·exact .inl rfl
     ·exact .inr (.inr (.inl rfl))
    ·exact .inr (.inr (.inl rfl))
   unfold Ins.does
   rw [qe hl,qe o1]
   iterate 9 (refine qch (P:=fun e:Eff=>e.kind=0\/e.kind=1\/e.kind=2\/e.kind=3\/e.kind=4) (fun _=>?_) (fun _=>?_);(first|exact hg _|exact .inr (.inl rfl) | exact .inr (.inr (.inr (.inl rfl))) | exact .inr (.inr (.inr (.inr rfl)))))
   rw [qe o17]
   omega
end Lang
end Go.Am
namespace Go.Am
namespace Lang
theorem SM.eff_over {m x:SM} {f:Eff} (h:m.eff f=some x):x.over=m.over/\x.err=m.err\/x=m.fin 0:=by
 unfold SM.eff at h
 repeat' (split at h)
 all_goals (first|cases h|injection h with h)
 all_goals (try subst h)
 all_goals (first|exact .inl ⟨rfl,rfl⟩|exact .inr rfl)
theorem SM.take_over {m:SM} {code:List Ins} (h:m.over=false) (he:m.err=0):(m.take code).over=false/\(m.take code).err=0\/(m.take code).over=true/\((m.take code).err=0\/(m.take code).err=111):=by
 unfold SM.take
 cases code[m.pc.toNat]? with
 | none=>exact .inr ⟨m.fin_over _,.inr (m.fin_err _)⟩
 | some i =>
  simp only
  cases hf:m.eff (i.does m.rs m.pc) with
  | none=>exact .inr ⟨m.fin_over _,.inr (m.fin_err _)⟩
  | some x =>
   rcases SM.eff_over hf with ⟨h1,h2⟩|rfl
   ·exact .inl ⟨h1.trans h,h2.trans he⟩
   ·exact .inr ⟨m.fin_over _,.inl (m.fin_err _)⟩
theorem SM.run_over {m:SM} {code:List Ins} (h:m.over=true):∀ n,m.run code n=m
 | 0=>rfl
 | n+1=>by
  have:m.stop code=some m:=by unfold SM.stop;rw [qh h]
  simp only [SM.run,this]
theorem SM.run_out {code:List Ins}:∀ (n:Nat) (m:SM),m.left<n->m.over=false->m.err=0->(m.run code n).err=190 ->
 ∃ m1:SM,m1.over=false/\m1.err=0/\m1.left=0/\m.run code n=m1.fin 190/\inT code m.inb (m.places code n)=m1.inb/\(m.ok->m1.ok) /\ ∀ d,(m.add d).run code (m.left+d+1)=(m1.add d).run code (d+1)
 | 0,m,h,_,_,_=>absurd h (by omega)
 | n+1,m,h,ho,he,hr=>by
  unfold SM.run at hr
  cases hs:m.stop code with
  | none =>
   rw [hs] at hr
   simp only at hr
   have hl:=SM.next_left hs
   obtain ⟨_,_,h3⟩:=SM.stop_none hs
   rcases SM.take_over (m:=m.pay) (code:=code) ho he with ⟨q1,q2⟩|⟨q1,q2⟩
   ·obtain ⟨m1,a1,a2,a3,a4,a5,a6,a7⟩:=SM.run_out n _ (by omega) q1 q2 hr
    obtain ⟨i,hi,hin⟩:=SM.take_in q1
    have hi:code[m.pc.toNat]? = some i:=hi
    have hin:(m.pay.take code).inb=(if i.op=17 then true else if i.op=18 then false else m.inb):=hin
    refine ⟨m1,a1,a2,a3,?_,?_,fun q=>a6 (SM.take_ok (SM.pay_ok q) code),fun d=>?_⟩
    ·simp only [SM.run,hs];exact a4
    ·simp only [SM.places,hs,inT,hi]
     rw [<-hin];exact a5
    ·rw [<-a7 d,show m.left+d+1=((m.pay.take code).left+d+1)+1 by omega]
     simp only [SM.run,SM.stop_add hs,SM.pay_add h3,SM.take_add]
   ·rw [SM.run_over q1] at hr
    rw [hr] at q2
    omega
  | some x =>
   rw [hs] at hr
   simp only at hr
   rcases SM.stop_cases hs with ⟨h1,rfl⟩|⟨h1,h2,rfl⟩|⟨_,_,h3,rfl⟩
   ·rw [ho] at h1;cases h1
   ·rw [SM.fin_err] at hr;cases hr
   ·refine ⟨m,ho,he,h3,?_,?_,id,fun d=>?_⟩
    ·simp only [SM.run,hs]
    ·simp only [SM.places,hs,inT]
    ·rw [h3,x9]
structure SM.like (k:Nat) (a b:SM):Prop where
 w:a.w=b.w
 rs:a.rs=b.rs
 pc:a.pc=b.pc
 left:a.left=b.left
 err:a.err=b.err
 blk:a.blk+k=b.blk
 inb:a.inb=b.inb
 over:a.over=b.over
 bk:a.inb=true->a.bw=b.bw/\a.brs=b.brs/\a.bpc=b.bpc
theorem SM.like.fin {k:Nat} {a b:SM} (h:a.like k b) (e:Nat):(a.fin e).like k (b.fin e):=by
 unfold SM.fin
 by_cases q:a.inb=true/\e ≠ 0
 ·rw [qh q,qh (by rw [<-h.inb];exact q)]
  obtain ⟨b1,b2,b3⟩:=h.bk q.1
  exact ⟨b1,b2,b3,h.left,rfl,h.blk,h.inb,rfl,h.bk⟩
 ·rw [qe q,qe (by rw [<-h.inb];exact q)]
  exact ⟨h.w,h.rs,h.pc,h.left,rfl,h.blk,h.inb,rfl,h.bk⟩
theorem SM.like.eff {k:Nat} {a b:SM} (h:a.like k b) (f:Eff):(a.eff f=none/\b.eff f=none) \/ ∃ x y,a.eff f=some x/\b.eff f=some y/\x.like k y:=by
 unfold SM.eff
 by_cases h1:f.kind=1
 ·rw [qh h1,qh h1]
  exact .inr ⟨_,_,rfl,rfl,⟨h.w,by show a.rs.set _ _=b.rs.set _ _;rw [h.rs],rfl,h.left,h.err,h.blk,h.inb,h.over,h.bk⟩⟩
 rw [qe h1,qe h1]
 by_cases h2:f.kind=2
 ·rw [qh h2,qh h2]
  exact .inr ⟨_,_,rfl,rfl,⟨h.w,h.rs,rfl,h.left,h.err,h.blk,h.inb,h.over,h.bk⟩⟩
 rw [qe h2,qe h2]
 by_cases h3:f.kind=3
 ·rw [qh h3,qh h3]
  by_cases q:f.addr<a.w.length
  ·rw [qh q,qh (by rw [<-h.w];exact q)]
   exact .inr ⟨_,_,rfl,rfl,⟨h.w,by show a.rs.set _ (a.w.getD _ _)=b.rs.set _ (b.w.getD _ _);rw [h.rs,h.w],rfl,h.left,h.err,h.blk,h.inb,h.over,h.bk⟩⟩
  ·rw [qe q,qe (by rw [<-h.w];exact q)];exact .inl ⟨rfl,rfl⟩
 rw [qe h3,qe h3]
 by_cases h4:f.kind=4
 ·rw [qh h4,qh h4]
  by_cases q:f.addr<a.w.length
  ·rw [qh q,qh (by rw [<-h.w];exact q)]
   exact .inr ⟨_,_,rfl,rfl,⟨by show a.w.set _ _=b.w.set _ _;rw [h.w],h.rs,rfl,h.left,h.err,h.blk,h.inb,h.over,h.bk⟩⟩
  ·rw [qe q,qe (by rw [<-h.w];exact q)];exact .inl ⟨rfl,rfl⟩
 rw [qe h4,qe h4]
 by_cases h5:f.kind=5
 ·rw [qh h5,qh h5]
  by_cases q:a.inb=true
  ·rw [qh q,qh (by rw [<-h.inb];exact q)];exact .inl ⟨rfl,rfl⟩
  ·rw [qe q,qe (by rw [<-h.inb];exact q)]
   exact .inr ⟨_,_,rfl,rfl,⟨h.w,h.rs,rfl,h.left,h.err,h.blk,rfl,h.over,fun _=>⟨h.w,h.rs,rfl⟩⟩⟩
 rw [qe h5,qe h5]
 by_cases h6:f.kind=6
 ·rw [qh h6,qh h6]
  by_cases q:a.inb=true
  ·rw [qh q,qh (by rw [<-h.inb];exact q)]
   exact .inr ⟨_,_,rfl,rfl,⟨h.w,h.rs,rfl,h.left,h.err,by show a.blk+1+k=b.blk+1;have:=h.blk;omega,rfl,h.over,fun q=>by cases q⟩⟩
  ·rw [qe q,qe (by rw [<-h.inb];exact q)];exact .inl ⟨rfl,rfl⟩
 rw [qe h6,qe h6]
 by_cases h7:f.kind=7
 ·rw [qh h7,qh h7]
  by_cases q:a.inb=true
  ·rw [qh q,qh (by rw [<-h.inb];exact q)];exact .inl ⟨rfl,rfl⟩
  ·rw [qe q,qe (by rw [<-h.inb];exact q)]
   exact .inr ⟨_,_,rfl,rfl,h.fin 0⟩
 ·rw [qe h7,qe h7];exact .inl ⟨rfl,rfl⟩
theorem SM.like.take {k:Nat} {a b:SM} (h:a.like k b) (code:List Ins):(a.take code).like k (b.take code):=by
 unfold SM.take
 rw [h.pc]
 cases code[b.pc.toNat]? with
 | none=>exact h.fin _
 | some i =>
  simp only
  rw [h.rs]
  rcases h.eff (i.does b.rs b.pc) with ⟨h1,h2⟩|⟨x,y,h1,h2,h3⟩
  ·rw [h1,h2];exact h.fin _
  ·rw [h1,h2];exact h3
theorem SM.like.pay {k:Nat} {a b:SM} (h:a.like k b):a.pay.like k b.pay:=⟨h.w,h.rs,h.pc,by show a.left-1=b.left-1;rw [h.left],h.err,h.blk,h.inb,h.over,h.bk⟩
theorem SM.like.stop {k:Nat} {a b:SM} (h:a.like k b) (code:List Ins):(a.stop code=none/\b.stop code=none) \/ ∃ x y,a.stop code=some x/\b.stop code=some y/\x.like k y:=by
 unfold SM.stop
 by_cases h1:a.over=true
 ·rw [qh h1,qh (by rw [<-h.over];exact h1)];exact .inr ⟨_,_,rfl,rfl,h⟩
 rw [qe h1,qe (show ¬ b.over=true by rw [<-h.over];exact h1)]
 by_cases h2:(code.length:Int)<=a.pc/\a.inb=false
 ·rw [qh h2,qh (by rw [<-h.pc,<-h.inb];exact h2)];exact .inr ⟨_,_,rfl,rfl,h.fin 0⟩
 rw [qe h2,qe (show ¬ ((code.length:Int)<=b.pc/\b.inb=false) by rw [<-h.pc,<-h.inb];exact h2)]
 by_cases h3:a.left=0
 ·rw [qh h3,qh (by rw [<-h.left];exact h3)];exact .inr ⟨_,_,rfl,rfl,h.fin 190⟩
 ·rw [qe h3,qe (by rw [<-h.left];exact h3)];exact .inl ⟨rfl,rfl⟩
theorem SM.like.run {k:Nat} {code:List Ins}:∀ (n:Nat) {a b:SM},a.like k b->(a.run code n).like k (b.run code n)
 | 0,a,b,h=>h
 | n+1,a,b,h=>by
  unfold SM.run
  rcases h.stop code with ⟨h1,h2⟩|⟨x,y,h1,h2,h3⟩
  ·rw [h1,h2];exact SM.like.run n (h.pay.take code)
  ·rw [h1,h2];exact h3
def SM.init (w rs:List Int) (pc:Int) (left:Nat):SM:=⟨w,rs,pc,left,0,0,[],[0,0,0,0,0,0,0,0],0,false,false⟩
def SM.runs (code:List Ins) (m:SM):SM:=m.run code (m.left+1)
theorem SM.runs_add {code:List Ins} {m:SM} (d:Nat) (h:(m.runs code).err ≠ 190):(m.add d).runs code=(m.runs code).add d:=by
 unfold SM.runs at *
 rw [<-SM.run_add d _ m (by omega) h]
 exact SM.run_more _ _ _ (by show m.left+d<m.left+d+1;omega) (by show m.left+d<m.left+1+d;omega)
theorem SM.runs_on {code:List Ins} {w rs:List Int} {pc:Int} {left:Nat} (d:Nat) (h:((SM.init w rs pc left).runs code).err=190) (hin:inT code false ((SM.init w rs pc left).places code (left+1))=false) :
 ((SM.init ((SM.init w rs pc left).runs code).w ((SM.init w rs pc left).runs code).rs ((SM.init w rs pc left).runs code).pc d).runs code).like ((SM.init w rs pc left).runs code).blk (((SM.init w rs pc left).add d).runs code):=by
 unfold SM.runs at h ⊢
 obtain ⟨m1,a1,a2,a3,a4,a5,a6,a7⟩:=SM.run_out (left+1) (SM.init w rs pc left) (by show left<left+1;omega) rfl rfl h
 have hin:m1.inb=false:=by rw [<-a5];exact hin
 have e:(SM.init w rs pc left).run code ((SM.init w rs pc left).left+1) = { m1 with err:=190,over:=true }:=by
  rw [show (SM.init w rs pc left).left+1=left+1 from rfl,a4]
  unfold SM.fin
  rw [qe (by rw [hin];exact fun q=>by cases q.1)]
 rw [e]
 have:=a7 d
 rw [show ((SM.init w rs pc left).add d).left+1=(SM.init w rs pc left).left+d+1 from rfl,this]
 refine SM.like.run (d+1) ⟨rfl,rfl,rfl,?_,a2.symm,?_,hin.symm,a1.symm,fun q=>by cases q⟩
 ·show d=m1.left+d;omega
 ·show 0+m1.blk=m1.blk;omega
end Lang
end Go.Am
