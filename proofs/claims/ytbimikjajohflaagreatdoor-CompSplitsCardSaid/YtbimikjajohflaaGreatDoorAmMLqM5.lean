/- LqM5: CpA CpB CpC CpD. -/
import Derived.Test.YtbimikjajohflaaGreatDoorAmMCodeM
import Derived.Test.YtbimikjajohflaaGreatDoorAmMLqM0
import Derived.Test.YtbimikjajohflaaGreatDoorAmMLqM3
set_option linter.unusedVariables false
set_option linter.unusedSimpArgs false
set_option linter.unusedSectionVars false
set_option maxRecDepth 100000
namespace Go.Am
open Lang Go.Proofs
variable {M:Mac} [MK M]
def encX (x:Ins):List AV:=[.int .i64 x.op,.int .i64 x.a,.int .i64 x.b,.int .i64 x.c,.int .i64 x.imm]
structure CSt (H0 H:AHeap) (r:Nat) (tv lv:AV) (f:Frm) (w:CW):Prop where
 row:H.get r=some (OR [tv,.int .i64 f.vars,.int .i64 f.base,.int .i64 f.many,lv,.bool w.d] qov)
 lo:H0.next<=r
 hi:r<H.next
 nw:New encX qst 5 H0 H lv w.l
 off:¬ OnS lv r
structure KW (r:Nat) (lv:AV) (H:AHeap) (lv':AV) (H':AHeap):Prop where
 fr:Fr (fun c=>c=r\/OnS lv c) H H'
 on:∀ b,OnS lv' b->OnS lv b\/H.next<=b
structure Lk (H:AHeap) (r:Nat) (lv:AV) (p:Nat) (row:List AV) (e:Nat):Prop where
 get:H.get p=some (OR row e)
 lt:p<H.next
 nr:p ≠ r
 ns:¬ OnS lv p
section
variable {H0 H H' H2:AHeap} {r p e:Nat} {tv lv lv' lv2:AV} {f:Frm} {w:CW} {row:List AV}
theorem CSt.em (h:CSt H0 H r tv lv f w) (k:Fr Em H H'):CSt H0 H' r tv lv f w:=⟨by rw [k.keep r h.hi id];exact h.row,h.lo,qg h.hi k.next,h.nw.em k,h.off⟩
theorem CSt.fr (h:CSt H0 H r tv lv f w):Fr Em H0 H:=h.nw.fr
theorem CSt.ld (h:CSt H0 H r tv lv f w) (o:Nat):Op.load1 [.ptr r o] H=[tv,.int .i64 f.vars,.int .i64 f.base,.int .i64 f.many,lv,.bool w.d][o]?:=qbk (jf h.row) o
theorem KW.em (f:Fr Em H H'):KW r lv H lv H':=⟨f.mono fun _ _ q=>q.elim,fun b q=>.inl q⟩
theorem KW.refl:KW r lv H lv H:=KW.em (Fr.refl H)
theorem KW.trans (h:KW r lv H lv' H') (g:KW r lv' H' lv2 H2):KW r lv H lv2 H2 :=
 ⟨h.fr.trans g.fr fun x q=>q.elim (fun q=>.inl (.inl q)) fun q=>(h.on x q).imp (fun q=>.inr q) id,fun b q=>(g.on b q).elim (h.on b) fun q=>.inr (ze h.fr.next q)⟩
theorem Lk.step (h:Lk H r lv p row e) (k:KW r lv H lv' H'):Lk H' r lv' p row e :=
 ⟨by rw [k.fr.keep p h.lt fun q=>q.elim h.nr h.ns];exact h.get,qg h.lt k.fr.next,h.nr,fun q=>(k.on p q).elim h.ns fun q=>by have:=h.lt;omega⟩
theorem Lk.em (h:Lk H r lv p row e) (f:Fr Em H H'):Lk H' r lv p row e:=h.step (KW.em f)
theorem Lk.ld (h:Lk H r lv p row e) (o:Nat):Op.load1 [.ptr p o] H=row[o]?:=qbk (jf h.get) o
theorem Lk.new (h:CSt H0 H r tv lv f w) (row:List AV) (e:Nat):Lk (H.alloc (OR row e)) r lv H.next row e :=
 ⟨zg ..,by rw [zh];omega,fun q=>by have:=h.hi;omega,fun q=>by have:=Own.lt h.nw.own _ q;omega⟩
end
def CQ (H0 H:AHeap) (r:Nat) (tv lv:AV) (f:Frm) (w:CW) (H':AHeap):Prop:=∃ lv',CSt H0 H' r tv lv' f w/\KW r lv H lv' H'
theorem CQ.pre {H0 H H1 H':AHeap} {r:Nat} {tv lv l1:AV} {f:Frm} {w:CW} (k:KW r lv H l1 H1) (h:CQ H0 H1 r tv l1 f w H'):CQ H0 H r tv lv f w H':=by
 obtain ⟨lv',h1,h2⟩:=h
 exact ⟨lv',h1,k.trans h2⟩
end Go.Am
namespace Go.Am
open Lang Go.Proofs
variable {M:Mac} [MK M]
abbrev i64 (n:Int):AV:=.int .i64 n
theorem CSt.len {H0 H:AHeap} {r:Nat} {tv lv:AV} {f:Frm} {w:CW} (h:CSt H0 H r tv lv f w):Op.lenSl [lv]=some (.int .i64 ((w.l.length:Nat):Int)):=h.nw.len
def Jmp (H:AHeap) (r:Nat) (lv v:AV) (i:Nat):Prop:=∃ p q,v=.fn (.func qh9) [] [.ptr p 0,.ptr q 0]/\Lk H r lv p [.ptr r 0] ql4/\Lk H r lv q [.int .i64 (i:Int)] T_int
theorem Jmp.step {H H':AHeap} {r i:Nat} {lv lv' v:AV} (h:Jmp H r lv v i) (k:KW r lv H lv' H'):Jmp H' r lv' v i:=by
 obtain ⟨p,q,e,h1,h2⟩:=h
 exact ⟨p,q,e,h1.step k,h2.step k⟩
end Go.Am
namespace Go.Am
open Lang Go.Proofs
variable {M:Mac} [MK M]
theorem kid_c {H0 H:AHeap} {a:AV} {kids:List Int} (h:SlT encI 1 H0 a kids) (f:Fr Em H0 H) {i:Nat} {x:Int} (hx:kids[i]? = some x) {z:Int} (hz:z=(i:Int)):(∀ k,Op.indexSl 1 [a,.int k z]=some (.ptr (slB a) (slO 1 a i)))/\Op.load1 [.ptr (slB a) (slO 1 a i)] H=some (.int .i64 x):=by subst hz;exact (h.em f).getI hx
end Go.Am
namespace Go.Am
open Lang Go.Proofs
variable {M:Mac} [MK M]
def szL:List Lang.St->Nat
 | []=>0
 | s::r=>s.sz+szL r
section
variable {H0:AHeap} {r:Nat} {tv:AV} {ts:List Nd} {f:Frm}
end
end Go.Am
