/- LqO0: DecP TraceX TraceY TraceZ Strs NumP LangT LangU LangV LangW StkP NodeM Args8 ArgN ScanP SplitP. -/
import Derived.Test.YtbimikjajohflaaDoorAmOB4
import Derived.Test.YtbimikjajohflaaDoorAmOB1
import Derived.Test.YtbimikjajohflaaDoorAmOB5
set_option linter.unusedVariables false
set_option linter.unusedSimpArgs false
namespace Go.Am
namespace Lang
def dec (n:Nat):List UInt8:=if h:n<10 then [UInt8.ofNat (48+n)] else dec (n / 10) ++ [UInt8.ofNat (48+n % 10)]
termination_by n
decreasing_by omega
theorem dec_lt {n:Nat} (h:n<10):dec n=[UInt8.ofNat (48+n)]:=by rw [dec];simp [h]
theorem dec_ge {n:Nat} (h:10<=n):dec n=dec (n / 10) ++ [UInt8.ofNat (48+n % 10)]:=by rw [dec];simp [show ¬ n<10 by omega]
theorem qxc (n:Nat):dec n ≠ []:=by
 rw [dec];split<;>simp
theorem q4z:∀ (k n:Nat),n<10 ^ (k+1)->(dec n).length<=k+1
 | 0,n,h=>by rw [dec_lt (by simpa using h)];simp
 | k+1,n,h=>by
  by_cases h1:n<10
  ·rw [dec_lt h1];simp
  ·rw [dec_ge (by omega),qe]
   have:=q4z k (n / 10) (by rw [qbh] at h;omega)
   simp;omega
theorem qxb {n:Nat} (h:n<18446744073709551616):(dec n).length<=20:=q4z 19 n (qi h (by decide))
end Lang
end Go.Am
namespace Go.Am
namespace Tr
open Lang (dec)
abbrev B:=List UInt8
def named (k:Int):B:=if k=1 then [98,116,108] else if k=2\/k=3 then [98,116,97,118] else if k=4\/k=5 then [98,116] else if k=6 then [98,116,99] else if k=7\/k=8 then [97,118] else []
def wordsOf (l:UInt8):List B:=if l=108 then [[],[102,97,115,116],[115,108,111,119],[115,111,102,116],[115,101,114,105,97,108]] else if l=99 then [[],[99,111,110,102,108,105,99,116],[115,117,98],[99,97,112,97,99,105,116,121],[101,118,105,99,116],[115,112,117,114,105,111,117,115],[98,117,115,121],[105,108,108,101,103,97,108],[115,111,102,116]] else []
def getN (x:Evt) (l:UInt8):Int:=if l=118 then x.value else if l=98 then x.block else if l=116 then x.try' else if l=108 then x.lane else if l=97 then x.addr else x.code
def setN (x:Evt) (l:UInt8) (n:Int):Evt:=if l=118 then { x with value:=n } else if l=98 then { x with block:=n } else if l=116 then { x with try':=n } else if l=108 then { x with lane:=n } else if l=97 then { x with addr:=n } else { x with code:=n }
def mayN (l:UInt8) (n:Int):Bool:=if l=118 then true else decide (0<=n/\((wordsOf l).length=0\/1<=n/\n<(wordsOf l).length))
def fresh (k c t:Int):Evt:=⟨k,t,c,if 7<=k then -1 else 0,0,0,0,0,0⟩
def goSet (x:Evt):B->Evt->Option Evt
 | [],y=>some y
 | l::r,y=>if mayN l (getN x l) then goSet x r (setN y l (getN x l)) else none
def fineB (x:Evt):Bool:=decide (1<=x.kind/\x.kind<=8/\0<=x.core/\x.core<4/\0<=x.time) && decide (goSet x (named x.kind) (fresh x.kind x.core x.time)=some x)
def putB (n:Nat):B:=if h:n<128 then [UInt8.ofNat n] else UInt8.ofNat (n % 128+128)::putB (n / 128)
termination_by n
decreasing_by omega
theorem putB_lt {n:Nat} (h:n<128):putB n=[UInt8.ofNat n]:=by rw [putB];simp [h]
theorem putB_ge {n:Nat} (h:128<=n):putB n=UInt8.ofNat (n % 128+128)::putB (n / 128):=by rw [putB];simp [show ¬ n<128 by omega]
def numB (x:Evt) (l:UInt8):Nat:=(getN x l).toNat
def encE (x:Evt):B:=UInt8.ofNat x.kind.toNat::(putB x.core.toNat++(putB x.time.toNat++(named x.kind).flatMap fun l=>putB (numB x l)))
def takeGo:Nat->Nat->B->Option (Nat × B)
 | _,_,[]=>none
 | k,v,c::r=>if k=10\/k=9/\1<c.toNat then none else if c.toNat<128 then (if k=0\/0<c.toNat then some (v+c.toNat % 128*128 ^ k,r) else none) else takeGo (k+1) (v+c.toNat % 128*128 ^ k) r
def takeB (b:B):Option (Nat × B):=takeGo 0 0 b
def goTake:B->Evt->B->Option (Evt × B)
 | [],y,b=>some (y,b)
 | l::r,y,b=>match takeB b with
  | none=>none
  | some (v,b')=>if (l=118\/v<9223372036854775808)/\mayN l v then goTake r (setN y l v) b' else none
def oneB:B->Option (Evt × B)
 | []=>none
 | k::b=>if 1<=k.toNat/\k.toNat<=8 then
  match takeB b with
  | none=>none
  | some (c,b1)=>match takeB b1 with
   | none=>none
   | some (t,b2)=>if c<4/\t<9223372036854775808 then goTake (named k.toNat) (fresh k.toNat c t) b2 else none
  else none
end Tr
end Go.Am
namespace Go.Am
namespace Tr
theorem ofNat_lt {n:Nat} (h:n<256):(UInt8.ofNat n).toNat=n:=by simp [ju];omega
theorem toNat_ofNat (c:UInt8):UInt8.ofNat c.toNat=c:=by simp
theorem pow_le9 {k:Nat} (h:128 ^ k<18446744073709551616):k<=9:=by
 rcases ke k 10 with h1|h1
 ·omega
 ·have:128 ^ 10<=128 ^ k:=Nat.pow_le_pow_right (by decide) h1
  have:(128:Nat) ^ 10=1180591620717411303424:=by decide
  omega
theorem q6q (n p:Nat):n % 128*p+n / 128*(p*128)=n*p:=by
 have h:n / 128*(p*128)=128*(n / 128)*p:=by rw [Nat.mul_comm p 128,<-Nat.mul_assoc,Nat.mul_comm (n / 128) 128]
 rw [h,<-ku,Nat.add_comm,Nat.div_add_mod]
theorem take_put (r:B):∀ (n k v:Nat),n*128 ^ k<18446744073709551616->(k=0\/0<n)->k<=9->takeGo k v (putB n++r)=some (v+n*128 ^ k,r):=by
 intro n
 induction n using Nat.strongRecOn with
 | _ n ih =>
  intro k v hn h0 hk
  have hk9:k=9->n<=1:=fun h=>by
   subst h
   have:(128:Nat) ^ 9=9223372036854775808:=by decide
   rw [this] at hn;omega
  by_cases h:n<128
  ·rw [putB_lt h,List.singleton_append,takeGo]
   have e:(UInt8.ofNat n).toNat=n:=ofNat_lt (by omega)
   rw [e,qt (by omega),xi h,xi (by omega),qcn h]
  ·rw [putB_ge (by omega),z8,takeGo]
   have e:(UInt8.ofNat (n % 128+128)).toNat=n % 128+128:=ofNat_lt (by omega)
   rw [e,qt (by omega),qt (by omega)]
   have hle:128 ^ k*128<=n*128 ^ k:=by rw [Nat.mul_comm];exact zi _ (by omega)
   have hs:=q6q n (128 ^ k)
   have hk':k+1<=9:=pow_le9 (by rw [qbh];omega)
   rw [ih (n / 128) (by omega) (k+1) _ (by rw [qbh];omega) (.inr (by omega)) hk']
   rw [qbh,show (n % 128+128) % 128=n % 128 by omega,kc,hs]
theorem qtm {n:Nat} (h:n<18446744073709551616) (r:B):takeB (putB n++r)=some (n,r):=by
 have:=take_put r n 0 0 (by simpa using h) (.inl rfl) (by decide)
 simpa [takeB] using this
def isL (l:UInt8):Prop:=l=118\/l=98\/l=116\/l=108\/l=97\/l=99
instance (l:UInt8):Decidable (isL l):=by unfold isL;infer_instance
theorem get_set {y:Evt} {l l':UInt8} {n:Int} (hl:isL l) (hl':isL l'):getN (setN y l n) l'=if l=l' then n else getN y l':=by
 rcases hl with rfl|rfl|rfl|rfl|rfl|rfl<;>rcases hl' with rfl|rfl|rfl|rfl|rfl|rfl<;>rfl
theorem named_ok (k:Int):(∀ l ∈ named k,isL l)/\(named k).Nodup:=by
 unfold named isL
 split;· decide
 split;· decide
 split;· decide
 split;· decide
 split<;>decide
structure EvR (x:Evt):Prop where
 v0:0<=x.value
 v:x.value<18446744073709551616
 core:x.core<9223372036854775808
 time:x.time<9223372036854775808
 kind:x.kind<9223372036854775808
 block:x.block<9223372036854775808
 tr:x.try'<9223372036854775808
 lane:x.lane<9223372036854775808
 addr:x.addr<9223372036854775808
 code:x.code<9223372036854775808
theorem EvR.get {x:Evt} (h:EvR x) {l:UInt8} (hl:isL l) (hm:mayN l (getN x l)=true):0<=getN x l/\getN x l<18446744073709551616/\(l=118\/getN x l<9223372036854775808):=by
 obtain ⟨h1,h2,h3,h4,h5,h6,h7,h8,h9,h10⟩:=h
 rcases hl with rfl|rfl|rfl|rfl|rfl|rfl
 ·exact ⟨h1,h2,.inl rfl⟩
 all_goals
  unfold mayN at hm;rw [qt (by decide)] at hm
  have:=(of_decide_eq_true hm).1
  refine ⟨this,?_,.inr ?_⟩<;>simp only [getN] at *<;>(first|omega|(simp at *;omega))
theorem quh {x:Evt} (hx:EvR x) (r:B):∀ (ls:B) (y z:Evt),(∀ l ∈ ls,isL l)->goSet x ls y=some z->goTake ls y ((ls.flatMap fun l=>putB (numB x l))++r)=some (z,r)
 | [],y,z,_,h=>by injection h with h;subst h;rfl
 | l::ls,y,z,hl,h=>by
  rw [goSet] at h
  split at h
  ·rename_i hm
   obtain ⟨h1,h2,h3⟩:=hx.get (hl l (qal ..)) hm
   have en:((numB x l:Nat):Int)=getN x l:=by unfold numB;omega
   rw [jf,qo,goTake,qtm (by unfold numB;omega)]
   simp only
   rw [xi ⟨h3.imp id fun q=>by unfold numB;omega,by rw [en];exact hm⟩,en]
   exact quh hx r ls _ z (fun l' h'=>hl l' (vw _ h')) h
  ·cases h
theorem q2y {x:Evt} (h:fineB x=true):(1<=x.kind/\x.kind<=8/\0<=x.core/\x.core<4/\0<=x.time)/\goSet x (named x.kind) (fresh x.kind x.core x.time)=some x:=by
 simp only [fineB,qw,ye] at h;exact h
theorem one_enc {x:Evt} (hx:EvR x) (hf:fineB x=true) (r:B):oneB (encE x++r)=some (x,r):=by
 obtain ⟨⟨h1,h2,h3,h4,h5⟩,h6⟩:=q2y hf
 obtain ⟨hl,_⟩:=named_ok x.kind
 rw [encE,z8,oneB,ofNat_lt (by omega),xi (by omega),qo,qtm (by omega)]
 simp only
 rw [qo,qtm (by have:=hx.time;omega)]
 simp only
 rw [xi ⟨by omega,by have:=hx.time;omega⟩]
 have e1:((x.kind.toNat:Nat):Int)=x.kind:=by omega
 have e2:((x.core.toNat:Nat):Int)=x.core:=by omega
 have e3:((x.time.toNat:Nat):Int)=x.time:=by omega
 rw [e1,e2,e3]
 exact quh hx r _ _ _ hl h6
end Tr
end Go.Am
namespace Go.Am
namespace Tr
open Lang (dec dec_lt dec_ge qxc)
def valOf (s:B):Nat:=s.foldl (fun a c=>a*10+(c.toNat-48)) 0
theorem qy5 (s:B) (c:UInt8):valOf (s ++ [c])=valOf s*10+(c.toNat-48):=by simp [valOf]
theorem valOf_dec (n:Nat):valOf (dec n)=n:=by
 induction n using Nat.strongRecOn with
 | _ n ih =>
  by_cases h:n<10
  ·rw [dec_lt h]
   show 0*10+((UInt8.ofNat (48+n)).toNat-48)=n
   rw [ofNat_lt (by omega)];omega
  ·rw [dec_ge (by omega),qy5,ih _ (by omega),ofNat_lt (by omega)];omega
end Tr
end Go.Am
namespace Go.Am
theorem qwp (H:AHeap) (b:Nat) (o o':AObj):(H.set b o).set b o'=H.set b o':=by simp only [AHeap.set,T.set,T.put,T.put_put]
theorem q0c (s:List UInt8):Op.rangeStr [.str s]=some (.strIter s 0,Op.ptrTo):=rfl
theorem q5w {H:AHeap} {b p:Nat} {s:List UInt8} {c:UInt8} (h:H.get b=some (.strIter s p)) (hc:s[p]? = some c) (h1:c.toNat<128) :
 Op.nextStr [.ptr b 0] H=some (.tuple [.bool true,.int .i64 p,.int .i32 c.toNat],H.set b (.strIter s (p+1))):=by
 have e:Nat.blt c.toNat 128=true:=qes h1
 simp only [Op.nextStr,h,qbe,hc,e,qn,goIntV]
theorem q5v {H:AHeap} {b p:Nat} {s:List UInt8} (h:H.get b=some (.strIter s p)) (hc:s.length<=p):Op.nextStr [.ptr b 0] H=some (.tuple [.bool false],H):=by
 simp only [Op.nextStr,h,qbe,vd hc]
theorem q3e {len size b o:Nat} {k:IntKind} {j:Int} {i:Nat} (hj:j=i) (hi:i<len):Op.indexArr len size [.ptr b o,.int k j]=some (.ptr b (o+i*size)):=by
 simp only [Op.indexArr,qin hj hi,qf]
theorem qew {s:List UInt8} {k:IntKind} {j:Int} {i:Nat} {c:UInt8} (hj:j=i) (hc:s[i]? = some c):Op.indexStr [.str s,.int k j]=some (.int .u8 c.toNat):=by
 have hi:i<s.length:=(xa.1 hc).1
 simp only [Op.indexStr,qin hj hi,qf,qbe,hc]
theorem o_shr (k k':IntKind) (a:Int) (n:Nat):Op.bin .shr [.int k a,.int k' n]=some (.int k (a.fdiv (2 ^ (min n k.bits)))):=by
 have e:ltI (n:Int) 0=false:=by rw [qhq];simp
 simp only [Op.bin,binV,isShift,qn,shiftV,e,qy,qc0]
theorem q6n (H:AHeap) (c:List AV) (e:Nat) (fz:Nat × Nat) (ow:Bool):Sl (H.alloc (.row c e fz ow)) 1 (.slice H.next 0 c.length c.length) c.length c:=by
 refine ⟨by omega,rfl,qg _,.inr ⟨by rw [ze];omega,c,jk (xr H _),?_⟩⟩
 rw [vu,xi (by omega)];simp
def encS (s:List UInt8):List AV:=[.str s]
theorem q1f (s:List UInt8):(encS s).length=1:=rfl
theorem q45 (l:List (List UInt8)):l.flatMap encS=l.map AV.str:=by
 induction l with
 | nil=>rfl
 | cons a l ih=>rw [jf,ih];rfl
def encB (c:UInt8):List AV:=[.int .u8 c.toNat]
theorem encB_len (c:UInt8):(encB c).length=1:=rfl
theorem qj4 (l:List UInt8):l.flatMap encB=l.map fun c=>AV.int .u8 c.toNat:=by
 induction l with
 | nil=>rfl
 | cons a l ih=>rw [jf,ih];rfl
theorem qy6 (H:AHeap) (ws:List (List UInt8)) (e n:Nat) (fz:Nat × Nat) (ow:Bool) (hn:ws.length=n):SlT encS 1 (H.alloc (.row (ws.map AV.str) e fz ow)) (.slice H.next 0 n n) ws:=by
 have:=q6n H (ws.map AV.str) e fz ow
 rw [xf,hn] at this
 unfold SlT;rw [q45,hn];exact this
structure Aft (a:AV) (H:AHeap) (v:AV) (H':AHeap):Prop where
 fr:Fr (OnS a) H H'
 on:∀ b,OnS v b->OnS a b\/H.next<=b
theorem Aft.refl (a:AV) (H:AHeap):Aft a H a H:=⟨Fr.refl _,fun b h=>.inl h⟩
theorem Aft.trans {a v w:AV} {H H1 H2:AHeap} (h:Aft a H v H1) (h':Aft v H1 w H2):Aft a H w H2 :=
 ⟨h.fr.trans h'.fr h.on,fun b hb=>(h'.on b hb).elim (h.on b) fun q=>.inr (x3 h.fr.next q)⟩
theorem Aft.em {a v:AV} {H H1 H2:AHeap} (h:Aft a H v H1) (f:Fr Em H1 H2):Aft a H v H2:=⟨h.fr.em f,h.on⟩
theorem Aft.pre {a v:AV} {H H1 H2:AHeap} (f:Fr Em H H1) (h:Aft a H1 v H2):Aft a H v H2:=(Aft.refl a H).em f |>.trans h
theorem Aft.get {a v:AV} {H H':AHeap} (h:Aft a H v H') {b:Nat} (hb:b<H.next) (hn:¬ OnS a b):H'.get b=H.get b/\b<H'.next /\ ¬ OnS v b :=
 ⟨h.fr.keep b hb hn,qi hb h.fr.next,fun q=>(h.on b q).elim hn fun r=>by omega⟩
theorem New.setOff {α:Type} {enc:α->List AV} {e size:Nat} {H0 H:AHeap} {v:AV} {xs:List α} (h:New enc e size H0 H v xs) {b:Nat} (hb:H0.next<=b) (hn:¬ OnS v b) (o:AObj):New enc e size H0 (H.set b o) v xs :=
 ⟨Own.fr h.own ((Fr.refl H).set (W:=On b) (.inl rfl) o) fun x hx (q:x=b)=>hn (by rw [<-q];exact hx),h.fr.set (.inr hb) _,h.fresh⟩
theorem Aft.setOff {a v:AV} {H H':AHeap} (h:Aft a H v H') {b:Nat} (hb:H.next<=b) (o:AObj):Aft a H v (H'.set b o):=⟨h.fr.set (.inr hb) _,h.on⟩
theorem qse (H:AHeap) (s:List UInt8):firstCells H 1 s.length (.str s)=some (s.map fun c=>AV.int .u8 c.toNat):=by
 show cond (Nat.beq 1 1) (some ((s.take s.length).map fun c=>AV.int .u8 c.toNat)) none=_
 rw [qbu];rfl
theorem qri (s:List UInt8):lenV (.str s)=some s.length:=by show some (lenL s)=_;rw [qcm]
end Go.Am
namespace Go.Am
open Lang (dec)
theorem n_rem {k:IntKind} {a:Nat} {b:Int} (hb:0<b):Op.bin .rem [.int k (a:Int),.int k b]=some (.int k ((a % b.toNat:Nat):Int)):=by
 rw [o_rem k _ _ (by omega),Int.tmod_eq_emod_of_nonneg (by omega)]
 congr 2
 rw [Int.natCast_emod];congr 1;omega
theorem n_quo64 {a:Nat} {b:Int} (hb:0<b) (ha:a<18446744073709551616):Op.bin .quo [.int .u64 (a:Int),.int .u64 b]=some (.int .u64 ((a / b.toNat:Nat):Int)):=by
 rw [o_quo .u64 _ _ (by omega),Int.tdiv_eq_ediv_of_nonneg (by omega)]
 have e:(a:Int) / b=((a / b.toNat:Nat):Int):=by rw [Int.natCast_ediv];congr 1;omega
 have h1:a / b.toNat<=a:=qd8 ..
 rw [e];generalize a / b.toNat=q at h1 ⊢
 rw [qd7 (by omega) (by omega)]
theorem qzx {a:Nat} {b:Int} (hb:0<b) (ha:a<4294967296):Op.bin .quo [.int .u32 (a:Int),.int .u32 b]=some (.int .u32 ((a / b.toNat:Nat):Int)):=by
 rw [o_quo .u32 _ _ (by omega),Int.tdiv_eq_ediv_of_nonneg (by omega)]
 have e:(a:Int) / b=((a / b.toNat:Nat):Int):=by rw [Int.natCast_ediv];congr 1;omega
 have h1:a / b.toNat<=a:=qd8 ..
 rw [e];generalize a / b.toNat=q at h1 ⊢
 rw [qmc];congr 2;omega
theorem n_shr {k k':IntKind} {a n:Nat} (h:n<=k.bits):Op.bin .shr [.int k (a:Int),.int k' (n:Int)]=some (.int k ((a / 2 ^ n:Nat):Int)):=by
 rw [o_shr,qan h,Int.fdiv_eq_ediv_of_nonneg _ (by exact_mod_cast qah (Nat.pow_pos (by decide)))]
 simp
theorem w_u32 {n:Nat} (h:n<4294967296):wrapI .u32 (n:Int)=n:=by rw [qmc];omega
theorem w_i64 {n:Nat} (h:n<9223372036854775808):wrapI .i64 (n:Int)=n:=by rw [qpl];omega
theorem w_u64 {n:Nat} (h:n<18446744073709551616):wrapI .u64 (n:Int)=n:=by rw [qtr];omega
theorem w_u8 {n:Nat} (h:n<256):wrapI .u8 (n:Int)=n:=by rw [q14];omega
theorem q02 {n:Nat} (h:n<100):wrapI .u32 ((n:Int)*2)=((n*2:Nat):Int):=by rw [qmc];omega
theorem q01 {n:Nat} (h:n<1000):wrapI .u32 ((n:Int)+1)=((n+1:Nat):Int):=by rw [qmc];omega
theorem w_48 {n:Nat} (h:n<100):wrapI .u32 (48+(n:Int))=((48+n:Nat):Int):=by rw [qmc];omega
theorem w_inc64 {a:Nat} (h:a<9223372036854775807):wrapI .i64 ((a:Int)+1)=((a+1:Nat):Int):=by rw [qpl];omega
theorem q03 {n:Nat} {c:Int} (h0:0<=c) (h1:c.toNat<=n) (h:n<9223372036854775808):wrapI .i64 ((n:Int)-c)=((n-c.toNat:Nat):Int):=by rw [qpl];omega
theorem qr4 {k:IntKind} {a d mx:Nat} (h:a<=mx):bound (some (.int k (a:Int))) d mx=some a:=by
 show cond (Nat.ble a mx) (some a) none=_
 rw [qap h];rfl
theorem qnp {s:List UInt8} {k k':IntKind} {a b:Nat} (h1:a<=b) (h2:b<=s.length):Op.sliceStr [some 0,some 1] [.str s,.int k (a:Int),.int k' (b:Int)]=some (.str ((s.take b).drop a)):=by
 show (bound (some (.int k' (b:Int))) s.length s.length).bind _=_
 rw [qr4 h2,qf]
 show (bound (some (.int k (a:Int))) 0 b).bind _=_
 rw [qr4 h1];rfl
theorem qz2 {s:List UInt8} {k:IntKind} {a:Nat} (h:a<=s.length):Op.sliceStr [some 0,none] [.str s,.int k (a:Int)]=some (.str (s.drop a)):=by
 show (bound (some (.int k (a:Int))) 0 s.length).bind _=_
 rw [qr4 h,qf,qbu]
theorem qnq {s:List UInt8} {k:IntKind} {b:Nat} (h:b<=s.length):Op.sliceStr [none,some 0] [.str s,.int k (b:Int)]=some (.str (s.take b)):=by
 show (bound (some (.int k (b:Int))) s.length s.length).bind _=_
 rw [qr4 h];rfl
theorem qz1 {n p b:Nat} {k:IntKind} (h:b<=n) (hn:0<n):Op.sliceArr n 1 [none,some 0,none] [.ptr p 0,.int k (b:Int)]=some (.slice p 0 b n):=by
 have e:Nat.beq n 0=false:=qcf (by omega)
 have e1:bound none n n=some n:=rfl
 have e2:bound none 0 b=some 0:=rfl
 simp only [Op.sliceArr,arg,nth_0,qf,sliceV,qr4 h,e1,e2,e,qy,qcq,qax,qag]
theorem qnc (l:List UInt8):bytesOf (l.map fun c=>AV.int .u8 c.toNat)=some l:=by
 induction l with
 | nil=>rfl
 | cons a l ih =>
  show (byteOf (.int .u8 a.toNat)).bind (fun b=>(bytesOf (l.map fun c=>AV.int .u8 c.toNat)).bind fun r=>some (b::r))=_
  rw [ih];simp [byteOf]
def dig (n i:Nat):Nat:=48+n / 10 ^ i % 10
theorem qvg:∀ (d n:Nat),n<10 ^ (d+1)->(d=0\/10 ^ d<=n)->(dec n).length=d+1
 | 0,n,h,_=>by rw [Lang.dec_lt (by simpa using h)];rfl
 | d+1,n,h,h'=>by
  have h':10 ^ (d+1)<=n:=h'.resolve_left (by omega)
  have hp:0<10 ^ d:=Nat.pow_pos (by decide)
  have h10:10<=n:=by rw [qbh] at h';omega
  rw [Lang.dec_ge h10,qe,x7,qvg d (n / 10) (by rw [qbh] at h;omega) (.inr (by rw [qbh] at h';omega))]
theorem q4y:∀ (d n:Nat),n<10 ^ (d+1)->(d=0\/10 ^ d<=n) -> ∀ j,j<=d->(dec n)[j]? = some (UInt8.ofNat (dig n (d-j)))
 | 0,n,h,_,j,hj=>by
  have hn:n<10:=by simpa using h
  obtain rfl:j=0:=by omega
  rw [Lang.dec_lt hn];simp [dig,qcn hn]
 | d+1,n,h,h',j,hj=>by
  have h':10 ^ (d+1)<=n:=h'.resolve_left (by omega)
  have hp:0<10 ^ d:=Nat.pow_pos (by decide)
  have h10:10<=n:=by rw [qbh] at h';omega
  have q1:n / 10<10 ^ (d+1):=by rw [qbh] at h;omega
  have q2:d=0\/10 ^ d<=n / 10:=.inr (by rw [qbh] at h';omega)
  have hl:=qvg d (n / 10) q1 q2
  rw [Lang.dec_ge h10]
  by_cases e:j=d+1
  ·subst e
   rw [xq (by omega),hl];simp [dig]
  ·rw [xp (by omega),q4y d (n / 10) q1 q2 j (by omega)]
   have:d+1-j=(d-j)+1:=by omega
   rw [dig,dig,this,qbh,Nat.mul_comm (10 ^ (d-j)) 10,qa3]
theorem q40 (n i j:Nat):dig (n / 10 ^ i) j=dig n (i+j):=by rw [dig,dig,qa3,<-qd9]
end Go.Am
namespace Go.Am
namespace Lang
structure Nd where
 k:Int
 n:Int
 kids:List Int
inductive Ex where
 | num (n:Nat)
 | var (v:Nat)
 | load (a:Ex)
 | bin (o:Nat) (a b:Ex)
structure Cn where
 k:Nat
 a:Ex
 b:Ex
mutual
inductive St where
 | set (v:Nat) (a:Ex)
 | store (a b:Ex)
 | ite (c:Cn) (l:Ls)
 | ites (c:Cn) (l e:Ls)
 | loop (c:Cn) (l:Ls)
 | atom (l:Ls)
 | halt
inductive Ls where
 | nil
 | cons (s:St) (l:Ls)
end
def Ex.sz:Ex->Nat
 | .num _=>1
 | .var _=>1
 | .load a=>a.sz+1
 | .bin _ a b=>a.sz+b.sz+1
def Cn.sz (c:Cn):Nat:=c.a.sz+c.b.sz+1
mutual
def St.sz:St->Nat
 | .set _ a=>a.sz+1
 | .store a b=>a.sz+b.sz+1
 | .ite c l=>c.sz+(l.sz+1)+1
 | .ites c l e=>c.sz+(l.sz+1)+(e.sz+1)+1
 | .loop c l=>c.sz+(l.sz+1)+1
 | .atom l=>l.sz+1+1
 | .halt=>1
def Ls.sz:Ls->Nat
 | .nil=>0
 | .cons s l=>s.sz+l.sz
end
theorem Ex.pos (x:Ex):0<x.sz:=by cases x<;>simp [Ex.sz]
theorem Cn.pos (x:Cn):0<x.sz:=by simp [Cn.sz]
theorem St.pos (x:St):0<x.sz:=by cases x<;>simp [St.sz]
def Ex.enc:Ex->Nat->List Nd
 | .num n,_=>[⟨1,n,[]⟩]
 | .var v,_=>[⟨2,v,[]⟩]
 | .load a,b=>a.enc b ++ [⟨3,0,[((b+a.sz-1:Nat):Int)]⟩]
 | .bin o x y,b=>x.enc b++(y.enc (b+x.sz) ++ [⟨o,0,[((b+x.sz-1:Nat):Int),((b+x.sz+y.sz-1:Nat):Int)]⟩])
def Cn.enc (c:Cn) (b:Nat):List Nd:=c.a.enc b++(c.b.enc (b+c.a.sz) ++ [⟨c.k,0,[((b+c.a.sz-1:Nat):Int),((b+c.a.sz+c.b.sz-1:Nat):Int)]⟩])
def Ls.ends:Ls->Nat->List Nat
 | .nil,_=>[]
 | .cons s l,b=>(b+s.sz-1)::l.ends (b+s.sz)
def ints (l:List Nat):List Int:=l.map fun (n:Nat)=>(n:Int)
mutual
def St.enc:St->Nat->List Nd
 | .set v a,b=>a.enc b ++ [⟨14,v,[((b+a.sz-1:Nat):Int)]⟩]
 | .store x y,b=>x.enc b++(y.enc (b+x.sz) ++ [⟨15,0,[((b+x.sz-1:Nat):Int),((b+x.sz+y.sz-1:Nat):Int)]⟩])
 | .ite c l,b=>c.enc b++(l.enc (b+c.sz)++([⟨20,0,ints (l.ends (b+c.sz))⟩] ++ [⟨16,0,[((b+c.sz-1:Nat):Int),((b+c.sz+l.sz:Nat):Int)]⟩]))
 | .ites c l e,b=>c.enc b++(l.enc (b+c.sz)++([⟨20,0,ints (l.ends (b+c.sz))⟩]++(e.enc (b+c.sz+(l.sz+1))++([⟨20,0,ints (e.ends (b+c.sz+(l.sz+1)))⟩] ++ [⟨16,0,[((b+c.sz-1:Nat):Int),((b+c.sz+l.sz:Nat):Int),((b+c.sz+(l.sz+1)+e.sz:Nat):Int)]⟩]))))
 | .loop c l,b=>c.enc b++(l.enc (b+c.sz)++([⟨20,0,ints (l.ends (b+c.sz))⟩] ++ [⟨17,0,[((b+c.sz-1:Nat):Int),((b+c.sz+l.sz:Nat):Int)]⟩]))
 | .atom l,b=>l.enc b++([⟨20,0,ints (l.ends b)⟩] ++ [⟨18,0,[((b+l.sz:Nat):Int)]⟩])
 | .halt,_=>[⟨19,0,[]⟩]
def Ls.enc:Ls->Nat->List Nd
 | .nil,_=>[]
 | .cons s l,b=>s.enc b++l.enc (b+s.sz)
end
def Ls.encL (l:Ls) (b:Nat):List Nd:=l.enc b ++ [⟨20,0,ints (l.ends b)⟩]
theorem Ex.len:∀ (x:Ex) (b:Nat),(x.enc b).length=x.sz
 | .num _,_=>rfl
 | .var _,_=>rfl
 | .load a,b=>by simp [Ex.enc,Ex.sz,a.len b]
 | .bin o x y,b=>by simp [Ex.enc,Ex.sz,x.len b,y.len];omega
theorem Cn.len (c:Cn) (b:Nat):(c.enc b).length=c.sz:=by simp [Cn.enc,Cn.sz,Ex.len];omega
mutual
theorem St.len:∀ (x:St) (b:Nat),(x.enc b).length=x.sz
 | .set _ a,b=>by simp [St.enc,St.sz,Ex.len]
 | .store x y,b=>by simp [St.enc,St.sz,Ex.len];omega
 | .ite c l,b=>by simp [St.enc,St.sz,Cn.len,l.len];omega
 | .ites c l e,b=>by simp [St.enc,St.sz,Cn.len,l.len,e.len];omega
 | .loop c l,b=>by simp [St.enc,St.sz,Cn.len,l.len];omega
 | .atom l,b=>by simp [St.enc,St.sz,l.len]
 | .halt,_=>rfl
theorem Ls.len:∀ (x:Ls) (b:Nat),(x.enc b).length=x.sz
 | .nil,_=>rfl
 | .cons s l,b=>by simp [Ls.enc,Ls.sz,s.len,l.len]
end
theorem Ls.lenL (l:Ls) (b:Nat):(l.encL b).length=l.sz+1:=by simp [Ls.encL,Ls.len]
mutual
def St.atm:St->Bool
 | .set _ _=>false
 | .store _ _=>false
 | .ite _ l=>l.atm
 | .ites _ l e=>l.atm || e.atm
 | .loop _ l=>l.atm
 | .atom _=>true
 | .halt=>false
def Ls.atm:Ls->Bool
 | .nil=>false
 | .cons s l=>s.atm || l.atm
end
def Ex.ok:Ex->Prop
 | .num _=>True
 | .var v=>v<=7
 | .load a=>a.ok
 | .bin o a b=>4<=o/\o<=10/\a.ok/\b.ok
def Cn.ok (c:Cn):Prop:=11<=c.k/\c.k<=13/\c.a.ok/\c.b.ok
mutual
def St.ok:St->Prop
 | .set v a=>v<=7/\a.ok
 | .store a b=>a.ok/\b.ok
 | .ite c l=>c.ok/\l.ok
 | .ites c l e=>c.ok/\l.ok/\e.ok
 | .loop c l=>c.ok/\l.ok
 | .atom l=>l.ok/\l.atm=false
 | .halt=>True
def Ls.ok:Ls->Prop
 | .nil=>True
 | .cons s l=>s.ok/\l.ok
end
def cls (k:Int):Int:=if 1<=k/\k<=10 then 1 else if 11<=k/\k<=13 then 2 else if 14<=k/\k<=19 then 3 else if k=20 then 4 else 0
def shape (k n:Int) (m:Nat):Option (List Int) :=
 if (k=2\/k=14)/\7<n \/ ¬ (k=2\/k=14)/\k ≠ 1/\n ≠ 0 then none
 else if k=1\/k=2\/k=19 then some []
 else if k=3\/k=14 then some [1]
 else if (4<=k/\k<=13)\/k=15 then some [1,1]
 else if k=16/\m=3 then some [2,4,4]
 else if k=16\/k=17 then some [2,4]
 else if k=18 then some [4]
 else if k=20 then some (List.replicate m 3)
 else none
def clsAt (t:List Nd) (i:Nat):Int:=match t[i]? with
 | some x=>cls x.k
 | none=>0
def mstep (t:List Nd) (x:Nd) (i:Nat) (st:List Nat) (fl:List Bool):Option (List Nat × List Bool) :=
 match shape x.k x.n x.kids.length with
 | none=>none
 | some want =>
  if want.length=x.kids.length/\want.length<=st.length/\x.kids=ints (st.drop (st.length-want.length))/\(st.drop (st.length-want.length)).map (clsAt t)=want then
   let a:=(st.drop (st.length-want.length)).any fun j=>fl.getD j false
   if x.k=18/\a=true then none else some (st.take (st.length-want.length) ++ [i],fl ++ [a || decide (x.k=18)])
  else none
def mgo (t:List Nd):List Nd->Nat->List Nat->List Bool->Bool
 | [],_,st,_=>decide (st.length=1)
 | x::r,i,st,fl=>match mstep t x i st fl with
  | none=>false
  | some (st',fl')=>mgo t r (i+1) st' fl'
def kLast (t:List Nd):Int:=match t[t.length-1]? with
 | some x=>x.k
 | none=>0
def mayB (t:List Nd):Bool:=decide (1<=t.length/\t.length<=2000/\kLast t=20) && mgo t t 0 [] []
inductive It where
 | e (x:Ex) | c (x:Cn) | s (x:St) | l (x:Ls)
def It.sz:It->Nat
 | .e x=>x.sz | .c x=>x.sz | .s x=>x.sz | .l x=>x.sz+1
def It.enc:It->Nat->List Nd
 | .e x=>x.enc | .c x=>x.enc | .s x=>x.enc | .l x=>x.encL
def It.cls:It->Int
 | .e _=>1 | .c _=>2 | .s _=>3 | .l _=>4
def It.atm:It->Bool
 | .e _=>false | .c _=>false | .s x=>x.atm | .l x=>x.atm
def It.ok:It->Prop
 | .e x=>x.ok | .c x=>x.ok | .s x=>x.ok | .l x=>x.ok
theorem It.pos (x:It):0<x.sz:=by cases x<;>simp [It.sz,Ex.pos,Cn.pos,St.pos]
theorem It.len (x:It) (b:Nat):(x.enc b).length=x.sz:=by cases x<;>simp [It.sz,It.enc,Ex.len,Cn.len,St.len,Ls.lenL]
def encF:List It->Nat->List Nd
 | [],_=>[]
 | x::r,b=>x.enc b++encF r (b+x.sz)
def szF:List It->Nat
 | []=>0
 | x::r=>x.sz+szF r
def endsF:List It->Nat->List Nat
 | [],_=>[]
 | x::r,b=>(b+x.sz-1)::endsF r (b+x.sz)
theorem qoa:∀ (f:List It) (b:Nat),(encF f b).length=szF f
 | [],_=>rfl
 | x::r,b=>by simp [encF,szF,It.len,qoa r]
theorem qaq:∀ (f:List It) (b:Nat),(endsF f b).length=f.length
 | [],_=>rfl
 | x::r,b=>by simp [endsF,qaq r]
theorem qvi:∀ (f g:List It) (b:Nat),encF (f++g) b=encF f b++encF g (b+szF f)
 | [],g,b=>by simp [encF,szF]
 | x::r,g,b=>by simp [encF,szF,qvi r,kc]
theorem qj5:∀ (f g:List It) (b:Nat),endsF (f++g) b=endsF f b++endsF g (b+szF f)
 | [],g,b=>by simp [endsF,szF]
 | x::r,g,b=>by simp [endsF,szF,qj5 r,kc]
theorem q0w:∀ (f g:List It),szF (f++g)=szF f+szF g
 | [],g=>by simp [szF]
 | x::r,g=>by simp [szF,q0w r,kc]
theorem It.last (x:It) (b:Nat):∃ y,(x.enc b)[x.sz-1]? = some y/\(x.ok->Lang.cls y.k=x.cls):=by
 have app:∀ (l:List Nd) (y:Nd),(l ++ [y])[l.length]? = some y:=fun l y=>by simp
 cases x with
 | e x =>
  cases x with
  | num n=>exact ⟨_,rfl,fun _=>rfl⟩
  | var v=>exact ⟨_,rfl,fun _=>rfl⟩
  | load a=>exact ⟨⟨3,0,_⟩,by have:=app (a.enc b) ⟨3,0,[((b+a.sz-1:Nat):Int)]⟩;rw [a.len] at this;exact this,fun _=>rfl⟩
  | bin o p q =>
   refine ⟨⟨o,0,[((b+p.sz-1:Nat):Int),((b+p.sz+q.sz-1:Nat):Int)]⟩,?_,fun h=>?_⟩
   ·have:=app (p.enc b++q.enc (b+p.sz)) ⟨o,0,[((b+p.sz-1:Nat):Int),((b+p.sz+q.sz-1:Nat):Int)]⟩
    rw [qe,p.len,q.len,qo] at this;exact this
   ·obtain ⟨h1,h2,_⟩:=h
    simp only [Lang.cls,It.cls];rw [xi (by omega)]
 | c c =>
  refine ⟨⟨c.k,0,[((b+c.a.sz-1:Nat):Int),((b+c.a.sz+c.b.sz-1:Nat):Int)]⟩,?_,fun h=>?_⟩
  ·have:=app (c.a.enc b++c.b.enc (b+c.a.sz)) ⟨c.k,0,[((b+c.a.sz-1:Nat):Int),((b+c.a.sz+c.b.sz-1:Nat):Int)]⟩
   rw [qe,Ex.len,Ex.len,qo] at this;exact this
  ·obtain ⟨h1,h2,_⟩:=h
   simp only [Lang.cls,It.cls];rw [qt (by omega),xi (by omega)]
 | s x =>
  have key:∀ (l:List Nd) (y:Nd),x.enc b=l ++ [y]->(x.enc b)[x.sz-1]? = some y:=fun l y h=>by
   have hl:=x.len b
   rw [h] at hl ⊢
   rw [qe] at hl
   have:x.sz-1=l.length:=by simp at hl;omega
   rw [this];exact app l y
  cases x with
  | set v a=>exact ⟨_,key _ _ rfl,fun _=>rfl⟩
  | store p q=>exact ⟨_,key (p.enc b++q.enc (b+p.sz)) ⟨15,0,[((b+p.sz-1:Nat):Int),((b+p.sz+q.sz-1:Nat):Int)]⟩ (by simp only [St.enc,qo]),fun _=>rfl⟩
  | ite c l=>exact ⟨_,key (c.enc b++(l.enc (b+c.sz) ++ [⟨20,0,ints (l.ends (b+c.sz))⟩])) _ (by simp only [St.enc,qo];rfl),fun _=>rfl⟩
  | ites c l e=>exact ⟨_,key (c.enc b++(l.enc (b+c.sz)++([⟨20,0,ints (l.ends (b+c.sz))⟩]++(e.enc (b+c.sz+(l.sz+1)) ++ [⟨20,0,ints (e.ends (b+c.sz+(l.sz+1)))⟩])))) _ (by simp only [St.enc,qo];rfl),fun _=>rfl⟩
  | loop c l=>exact ⟨_,key (c.enc b++(l.enc (b+c.sz) ++ [⟨20,0,ints (l.ends (b+c.sz))⟩])) _ (by simp only [St.enc,qo];rfl),fun _=>rfl⟩
  | atom l=>exact ⟨_,key (l.enc b ++ [⟨20,0,ints (l.ends b)⟩]) ⟨18,0,[((b+l.sz:Nat):Int)]⟩ (by simp only [St.enc,qo]),fun _=>rfl⟩
  | halt=>exact ⟨_,rfl,fun _=>rfl⟩
 | l x =>
  refine ⟨⟨20,0,ints (x.ends b)⟩,?_,fun _=>rfl⟩
  have:=app (x.enc b) ⟨20,0,ints (x.ends b)⟩
  rw [x.len] at this;exact this
end Lang
end Go.Am
namespace Go.Am
namespace Lang
def Ls.its:Ls->List It
 | .nil=>[]
 | .cons s l=>.s s::l.its
def It.ks:It->List It
 | .e (.num _)=>[] | .e (.var _)=>[] | .e (.load a)=>[.e a] | .e (.bin _ a b)=>[.e a,.e b]
 | .c x=>[.e x.a,.e x.b]
 | .s (.set _ a)=>[.e a] | .s (.store a b)=>[.e a,.e b] | .s (.ite q m)=>[.c q,.l m] | .s (.ites q m w)=>[.c q,.l m,.l w] | .s (.loop q m)=>[.c q,.l m] | .s (.atom m)=>[.l m] | .s .halt=>[]
 | .l x=>x.its
def It.kn:It->Int × Int
 | .e (.num n)=>(1,n) | .e (.var v)=>(2,v) | .e (.load _)=>(3,0) | .e (.bin o _ _)=>(o,0)
 | .c x=>(x.k,0)
 | .s (.set v _)=>(14,v) | .s (.store _ _)=>(15,0) | .s (.ite _ _)=>(16,0) | .s (.ites _ _ _)=>(16,0) | .s (.loop _ _)=>(17,0) | .s (.atom _)=>(18,0) | .s .halt=>(19,0)
 | .l _=>(20,0)
def It.nd (x:It) (b:Nat):Nd:=⟨x.kn.1,x.kn.2,ints (endsF x.ks b)⟩
theorem Ls.its_enc:∀ (l:Ls) (b:Nat),l.enc b=encF l.its b
 | .nil,_=>rfl
 | .cons s l,b=>by simp [Ls.enc,Ls.its,encF,It.enc,It.sz,l.its_enc]
theorem Ls.its_ends:∀ (l:Ls) (b:Nat),l.ends b=endsF l.its b
 | .nil,_=>rfl
 | .cons s l,b=>by simp [Ls.ends,Ls.its,endsF,It.sz,l.its_ends]
theorem Ls.its_cls:∀ (l:Ls),l.its.map It.cls=List.replicate l.its.length 3
 | .nil=>rfl
 | .cons s l=>by simp [Ls.its,It.cls,l.its_cls,qad]
theorem Ls.its_ok:∀ (l:Ls),l.ok -> ∀ y ∈ l.its,y.ok
 | .nil,_,y,h=>by simp [Ls.its] at h
 | .cons s l,ho,y,h=>by
  rcases zg.1 h with rfl|h
  ·exact ho.1
  ·exact Ls.its_ok l ho.2 y h
theorem Ls.its_atm:∀ (l:Ls),l.its.any It.atm=l.atm
 | .nil=>rfl
 | .cons s l=>by simp [Ls.its,It.atm,Ls.atm,l.its_atm]
theorem It.enc_eq (x:It) (b:Nat):x.enc b=encF x.ks b ++ [x.nd b]:=by
 have pos:=Ex.pos;have cpos:=Cn.pos
 have z:∀ a:Nat,a+1-1=a:=fun a=>by omega
 match x with
 | .e (.num _)=>rfl
 | .e (.var _)=>rfl
 | .e (.load a)=>simp [It.enc,Ex.enc,It.ks,encF,It.nd,It.kn,endsF,It.sz,ints]
 | .e (.bin o p q)=>simp [It.enc,Ex.enc,It.ks,encF,It.nd,It.kn,endsF,It.sz,ints]
 | .c x=>simp [It.enc,Cn.enc,It.ks,encF,It.nd,It.kn,endsF,It.sz,ints]
 | .s (.set _ a)=>simp [It.enc,St.enc,It.ks,encF,It.nd,It.kn,endsF,It.sz,ints]
 | .s (.store p q)=>simp [It.enc,St.enc,It.ks,encF,It.nd,It.kn,endsF,It.sz,ints]
 | .s (.ite q m)=>simp [It.enc,St.enc,It.ks,encF,It.nd,It.kn,endsF,It.sz,ints,Ls.encL]
 | .s (.ites q m w)=>simp [It.enc,St.enc,It.ks,encF,It.nd,It.kn,endsF,It.sz,ints,Ls.encL]
 | .s (.loop q m)=>simp [It.enc,St.enc,It.ks,encF,It.nd,It.kn,endsF,It.sz,ints,Ls.encL]
 | .s (.atom m)=>simp [It.enc,St.enc,It.ks,encF,It.nd,It.kn,endsF,It.sz,ints,Ls.encL]
 | .s .halt=>rfl
 | .l m=>simp [It.enc,Ls.encL,It.ks,It.nd,It.kn,m.its_enc,m.its_ends]
theorem It.sz_eq (x:It):x.sz=szF x.ks+1:=by
 have h:=congrArg List.length (x.enc_eq 0)
 rw [It.len,qe,qoa] at h;exact h
theorem It.ok_view (x:It) (h:x.ok):shape x.kn.1 x.kn.2 x.ks.length=some (x.ks.map It.cls)/\(∀ y ∈ x.ks,y.ok)/\x.atm=(x.ks.any It.atm || decide (x.kn.1=18))/\(x.kn.1=18->x.ks.any It.atm=false):=by
 match x,h with
 | .e (.num n),h=>exact ⟨by simp [shape,It.kn,It.ks],by simp [It.ks],by simp [It.atm,It.ks,It.kn],by simp [It.kn]⟩
 | .e (.var v),h =>
  have h:v<=7:=h
  exact ⟨by simp [shape,It.kn,It.ks];omega,by simp [It.ks],by simp [It.atm,It.ks,It.kn],by simp [It.kn]⟩
 | .e (.load a),h =>
  have h:a.ok:=h
  exact ⟨by simp [shape,It.kn,It.ks,It.cls],by simp [It.ks,It.ok,h],by simp [It.atm,It.ks,It.kn],by simp [It.kn]⟩
 | .e (.bin o a b),h =>
  obtain ⟨h1,h2,h3,h4⟩:=h
  refine ⟨?_,by simp [It.ks,It.ok,h3,h4],?_,?_⟩
  ·show shape (o:Int) 0 2=some [1,1]
   unfold shape
   rw [qt (by omega),qt (by omega),qt (by omega),xi (by omega)]
  ·have:¬ ((o:Int)=18):=by omega
   simp [It.atm,It.ks,It.kn,this]
  ·intro e;simp only [It.kn] at e;omega
 | .c x,h =>
  obtain ⟨h1,h2,h3,h4⟩:=h
  refine ⟨?_,by simp [It.ks,It.ok,h3,h4],?_,?_⟩
  ·show shape (x.k:Int) 0 2=some [1,1]
   unfold shape
   rw [qt (by omega),qt (by omega),qt (by omega),xi (by omega)]
  ·have:¬ ((x.k:Int)=18):=by omega
   simp [It.atm,It.ks,It.kn,this]
  ·intro e;simp only [It.kn] at e;omega
 | .s (.set v a),h =>
  obtain ⟨h,h'⟩:=h
  exact ⟨by simp [shape,It.kn,It.ks,It.cls];omega,by simp [It.ks,It.ok,h'],by simp [It.atm,St.atm,It.ks,It.kn],by simp [It.kn]⟩
 | .s (.store a b),h=>exact ⟨by simp [shape,It.kn,It.ks,It.cls],by simp [It.ks,It.ok,h.1,h.2],by simp [It.atm,St.atm,It.ks,It.kn],by simp [It.kn]⟩
 | .s (.ite q m),h=>exact ⟨by simp [shape,It.kn,It.ks,It.cls],by simp [It.ks,It.ok,h.1,h.2],by simp [It.atm,St.atm,It.ks,It.kn],by simp [It.kn]⟩
 | .s (.ites q m w),h=>exact ⟨by simp [shape,It.kn,It.ks,It.cls],by simp [It.ks,It.ok,h.1,h.2.1,h.2.2],by simp [It.atm,St.atm,It.ks,It.kn],by simp [It.kn]⟩
 | .s (.loop q m),h=>exact ⟨by simp [shape,It.kn,It.ks,It.cls],by simp [It.ks,It.ok,h.1,h.2],by simp [It.atm,St.atm,It.ks,It.kn],by simp [It.kn]⟩
 | .s (.atom m),h=>exact ⟨by simp [shape,It.kn,It.ks,It.cls],by simp [It.ks,It.ok,h.1],by simp [It.atm,St.atm,It.ks,It.kn],fun _=>by simp [It.ks,It.atm,h.2]⟩
 | .s .halt,h=>exact ⟨by simp [shape,It.kn,It.ks],by simp [It.ks],by simp [It.atm,St.atm,It.ks,It.kn],by simp [It.kn]⟩
 | .l m,h=>exact ⟨by simp [shape,It.kn,It.ks,m.its_cls],m.its_ok h,by simp [It.atm,It.ks,It.kn,m.its_atm],by simp [It.kn]⟩
def Ls.of:List It->Ls
 | .s x::r=>.cons x (Ls.of r)
 | _=>.nil
theorem Ls.of_its:∀ (f:List It) (n:Nat),f.map It.cls=List.replicate n 3->(Ls.of f).its=f/\((∀ y ∈ f,y.ok)->(Ls.of f).ok)
 | [],_,_=>⟨rfl,fun _=>trivial⟩
 | x::r,0,h=>by simp at h
 | x::r,n+1,h=>by
  rw [x5,qad,qz] at h
  obtain ⟨h1,h2⟩:=Ls.of_its r n h.2
  cases x with
  | s x=>exact ⟨by simp [Ls.of,Ls.its,h1],fun ho=>⟨ho (.s x) (by simp),h2 fun y hy=>ho y (by simp [hy])⟩⟩
  | e x=>simp [It.cls] at h
  | c x=>simp [It.cls] at h
  | l x=>simp [It.cls] at h
theorem len2 {α:Type} {f:List α} (h:f.length=2):∃ x y,f=[x,y]:=by
 cases f with
 | nil=>cases h
 | cons x f=>obtain ⟨y,rfl⟩:=List.length_eq_one_iff.1 (by simpa using h:f.length=1);exact ⟨x,y,rfl⟩
theorem len3 {α:Type} {f:List α} (h:f.length=3):∃ x y z,f=[x,y,z]:=by
 cases f with
 | nil=>cases h
 | cons x f=>obtain ⟨y,z,rfl⟩:=len2 (by simpa using h:f.length=2);exact ⟨x,y,z,rfl⟩
theorem cls_e {f:List It} (h:f.map It.cls=[1]):∃ a,f=[.e a]:=by
 obtain ⟨x,rfl⟩:=List.length_eq_one_iff.1 (by simpa using congrArg List.length h:f.length=1)
 cases x<;>simp [It.cls] at h;exact ⟨_,rfl⟩
theorem cls_l {f:List It} (h:f.map It.cls=[4]):∃ a,f=[.l a]:=by
 obtain ⟨x,rfl⟩:=List.length_eq_one_iff.1 (by simpa using congrArg List.length h:f.length=1)
 cases x<;>simp [It.cls] at h;exact ⟨_,rfl⟩
theorem cls_ee {f:List It} (h:f.map It.cls=[1,1]):∃ a b,f=[.e a,.e b]:=by
 obtain ⟨x,y,rfl⟩:=len2 (by simpa using congrArg List.length h:f.length=2)
 cases x<;>cases y<;>simp [It.cls] at h;exact ⟨_,_,rfl⟩
theorem cls_cl {f:List It} (h:f.map It.cls=[2,4]):∃ a b,f=[.c a,.l b]:=by
 obtain ⟨x,y,rfl⟩:=len2 (by simpa using congrArg List.length h:f.length=2)
 cases x<;>cases y<;>simp [It.cls] at h;exact ⟨_,_,rfl⟩
theorem cls_cll {f:List It} (h:f.map It.cls=[2,4,4]):∃ a b c,f=[.c a,.l b,.l c]:=by
 obtain ⟨x,y,z,rfl⟩:=len3 (by simpa using congrArg List.length h:f.length=3)
 cases x<;>cases y<;>cases z<;>simp [It.cls] at h;exact ⟨_,_,_,rfl⟩
theorem It.of {k n:Int} {f:List It} (hn:0<=n) (hs:shape k n f.length=some (f.map It.cls)) (hok:∀ y ∈ f,y.ok) (ha:k=18->f.any It.atm=false):∃ x:It,x.ks=f/\x.kn=(k,n)/\x.ok:=by
 unfold shape at hs
 split at hs
 ·cases hs
 rename_i h0
 split at hs
 ·rename_i h1
  have:f=[]:=by simpa using hs.symm
  subst this
  rcases h1 with rfl|rfl|rfl
  ·exact ⟨.e (.num n.toNat),rfl,by simp [It.kn];omega,trivial⟩
  ·exact ⟨.e (.var n.toNat),rfl,by simp [It.kn];omega,show n.toNat<=7 by omega⟩
  ·exact ⟨.s .halt,rfl,by simp [It.kn];omega,trivial⟩
 split at hs
 ·rename_i h1 h2
  obtain ⟨a,rfl⟩:=cls_e (kp hs).symm
  have:=hok (.e a) (by simp)
  rcases h2 with rfl|rfl
  ·exact ⟨.e (.load a),rfl,by simp [It.kn];omega,this⟩
  ·exact ⟨.s (.set n.toNat a),rfl,by simp [It.kn];omega,by omega,this⟩
 split at hs
 ·rename_i h1 h2 h3
  obtain ⟨a,b,rfl⟩:=cls_ee (kp hs).symm
  have o1:=hok (.e a) (by simp)
  have o2:=hok (.e b) (by simp)
  rcases h3 with ⟨h4,h5⟩|rfl
  ·by_cases h6:k<=10
   ·exact ⟨.e (.bin k.toNat a b),rfl,by simp [It.kn];omega,by omega,by omega,o1,o2⟩
   ·exact ⟨.c ⟨k.toNat,a,b⟩,rfl,by simp [It.kn];omega,by simp only;omega,by simp only;omega,o1,o2⟩
  ·exact ⟨.s (.store a b),rfl,by simp [It.kn];omega,o1,o2⟩
 split at hs
 ·rename_i h1 h2 h3 h4
  obtain ⟨a,b,c,rfl⟩:=cls_cll (kp hs).symm
  obtain ⟨rfl,_⟩:=h4
  exact ⟨.s (.ites a b c),rfl,by simp [It.kn];omega,hok (.c a) (by simp),hok (.l b) (by simp),hok (.l c) (by simp)⟩
 split at hs
 ·rename_i h1 h2 h3 h4 h5
  obtain ⟨a,b,rfl⟩:=cls_cl (kp hs).symm
  rcases h5 with rfl|rfl
  ·exact ⟨.s (.ite a b),rfl,by simp [It.kn];omega,hok (.c a) (by simp),hok (.l b) (by simp)⟩
  ·exact ⟨.s (.loop a b),rfl,by simp [It.kn];omega,hok (.c a) (by simp),hok (.l b) (by simp)⟩
 split at hs
 ·rename_i h1 h2 h3 h4 h5 h6
  subst h6
  obtain ⟨a,rfl⟩:=cls_l (kp hs).symm
  exact ⟨.s (.atom a),rfl,by simp [It.kn];omega,hok (.l a) (by simp),by simpa [It.atm] using ha rfl⟩
 split at hs
 ·rename_i h1 h2 h3 h4 h5 h6 h7
  subst h7
  obtain ⟨h8,h9⟩:=Ls.of_its f f.length (kp hs).symm
  exact ⟨.l (Ls.of f),h8,by simp [It.kn];omega,h9 hok⟩
 ·cases hs
theorem qq9:∀ (f:List It) (b k:Nat) (x:It),f[k]? = some x -> ∃ c,(endsF f b)[k]? = some (c+x.sz-1)/\b<=c/\c+x.sz<=b+szF f /\ ∃ u v,encF f b=u++(x.enc c++v)/\b+u.length=c
 | [],b,k,x,h=>by simp at h
 | y::r,b,0,x,h=>by
  simp at h;subst h
  exact ⟨b,by simp [endsF],qg _,by simp [szF],[],encF r (b+y.sz),by simp [encF],by simp⟩
 | y::r,b,k+1,x,h=>by
  obtain ⟨c,h1,h2,h3,u,v,h4,h5⟩:=qq9 r (b+y.sz) k x (by simpa using h)
  exact ⟨c,by simpa [endsF] using h1,by omega,by simp [szF];omega,y.enc b++u,v,by simp [encF,h4],by simp [It.len];omega⟩
theorem map_of {α β γ:Type} {p:β -> γ} {q:α -> γ} {l:List β} {m:List α} (hl:l.length=m.length) (h:∀ (k:Nat) (x:β) (y:α),l[k]? = some x->m[k]? = some y->p x=q y):l.map p=m.map q:=by
 apply List.ext_getElem?
 intro k
 rw [xh,xh]
 cases hx:l[k]? with
 | none=>rw [List.getElem?_eq_none_iff] at hx;rw [vd (by omega)];rfl
 | some x =>
  have:k<m.length:=by rw [<-hl];exact (xa.1 hx).1
  rw [yd this]
  simp only [wn]
  rw [h k x m[k] hx (yd this)]
theorem q1b {t:List Nd} {f:List It} {b:Nat} {u v:List Nd} (ht:t=u++(encF f b++v)) (hu:u.length=b) (hok:∀ y ∈ f,y.ok):(endsF f b).map (clsAt t)=f.map It.cls:=by
 refine map_of (qaq f b) fun k e x he hx=>?_
 obtain ⟨c,h1,h2,h3,p,q,h4,h5⟩:=qq9 f b k x hx
 rw [h1] at he;injection he with he;subst he
 obtain ⟨y,hy,hc⟩:=x.last c
 have hp:=x.pos
 have hlen:=x.len c
 have:t[c+x.sz-1]? = some y:=by
  rw [ht,h4,xq (by omega),qo,xq (by omega),qo,xp (by omega)]
  rw [<-hy];congr 1;omega
 unfold clsAt;rw [this];exact hc (hok x (zh hx))
def FlOk (fl:List Bool) (f:List It) (b:Nat):Prop:=∀ (k:Nat) e x,(endsF f b)[k]? = some e->f[k]? = some x->fl.getD e false=x.atm
theorem FlOk.any {fl:List Bool} {f:List It} {b:Nat} (h:FlOk fl f b):((endsF f b).any fun j=>fl.getD j false)=f.any It.atm:=by
 have:=map_of (qaq f b) (p:=fun j=>fl.getD j false) (q:=It.atm) h
 have e:=congrArg (fun l=>l.any id) this
 simpa [List.any_map,Function.comp_def] using e
theorem q1e {α:Type} {a b:List α} {n:Nat} (h:n=a.length):(a++b).drop n=b:=by subst h;simp
theorem q1w {α:Type} {a b:List α} {n:Nat} (h:n=a.length):(a++b).take n=a:=by subst h;simp
theorem qx3 (t:List Nd) (hn:∀ x ∈ t,0<=x.n):∀ (r:List Nd) (i:Nat) (st:List Nat) (fl:List Bool) (f:List It),t=encF f 0++r->i=szF f->st=endsF f 0->fl.length=i->FlOk fl f 0->(∀ y ∈ f,y.ok) ->
 mgo t r i st fl=true -> ∃ x:It,t=x.enc 0/\x.ok
 | [],i,st,fl,f,ht,hi,hst,hfl,hfo,hok,h=>by
  have h:st.length=1:=by simpa [mgo] using h
  rw [hst,qaq] at h
  match f,h with
  | [x],_=>exact ⟨x,by simpa [encF] using ht,hok x (by simp)⟩
 | x::r,i,st,fl,f,ht,hi,hst,hfl,hfo,hok,h=>by
  have hx0:0<=x.n:=hn x (by rw [ht];simp)
  unfold mgo at h
  unfold mstep at h
  cases hs:shape x.k x.n x.kids.length with
  | none=>rw [hs] at h;simp at h
  | some want =>
   rw [hs] at h
   simp only at h
   split at h
   ·cases h
   rename_i st' fl' hm
   split at hm
   ·rename_i hc
    obtain ⟨c1,c2,c3,c4⟩:=hc
    have hfl2:want.length<=f.length:=by rw [hst,qaq] at c2;exact c2
    -- the top of the forest
    obtain ⟨f1,f2,rfl,hf2⟩:∃ f1 f2,f=f1++f2/\f2.length=want.length:=⟨f.take (f.length-want.length),f.drop (f.length-want.length),(qbg ..).symm,by rw [ym];omega⟩
    have hd:st.length-want.length=(endsF f1 0).length:=by rw [hst,qaq,qaq,qe];omega
    have hst2:st=endsF f1 0++endsF f2 (szF f1):=by rw [hst,qj5,ja]
    have hdrop:st.drop (st.length-want.length)=endsF f2 (szF f1):=by rw [hd,hst2,q1e rfl]
    have htake:st.take (st.length-want.length)=endsF f1 0:=by rw [hd,hst2,q1w rfl]
    rw [hdrop] at c3 c4
    rw [qvi,qo,ja] at ht
    have hcls:=q1b (u:=encF f1 0) (f:=f2) (b:=szF f1) ht (qoa f1 0) (fun y hy=>hok y (by simp [hy]))
    rw [hcls] at c4
    have hfo2:FlOk fl f2 (szF f1):=fun k e y h1 h2=>by
     refine hfo (f1.length+k) e y ?_ ?_
     ·rw [qj5,xq (by rw [qaq];omega),qaq,ja];simpa using h1
     ·rw [xq (by omega)];simpa using h2
    rw [hdrop,htake] at hm
    rw [hfo2.any] at hm
    split at hm
    ·cases hm
    rename_i hat
    injection hm with hm
    injection hm with hm1 hm2
    obtain ⟨y,hy1,hy2,hy3⟩:=It.of (k:=x.k) (n:=x.n) (f:=f2) hx0 (by rw [hf2,c1,hs,c4]) (fun y hy=>hok y (by simp [hy])) (fun e=>by
     cases hq:f2.any It.atm with
     | false=>rfl
     | true=>exact (hat ⟨e,hq⟩).elim)
    have hnd:y.nd (szF f1)=x:=by
     unfold It.nd;rw [hy1,hy2,<-c3]
    have henc:y.enc (szF f1)=encF f2 (szF f1) ++ [x]:=by rw [It.enc_eq,hy1,hnd]
    have hsz:y.sz=szF f2+1:=by rw [It.sz_eq,hy1]
    have hi':i=szF f1+szF f2:=by rw [hi,q0w]
    refine qx3 t hn r (i+1) st' fl' (f1 ++ [y]) ?_ ?_ ?_ ?_ ?_ ?_ h
    ·rw [ht,qvi,ja];simp [encF,henc]
    ·rw [q0w];simp [szF,hsz];omega
    ·rw [<-hm1,qj5,ja];simp [endsF,hsz];omega
    ·rw [<-hm2];simp [hfl]
    ·intro k e z h1 h2
     rw [qj5] at h1
     rw [<-hm2]
     by_cases hk:k<f1.length
     ·rw [xp (by rw [qaq];exact hk)] at h1
      rw [xp hk] at h2
      have h3:=hfo k e z (by rw [qj5,xp (by rw [qaq];exact hk)];exact h1) (by rw [xp hk];exact h2)
      rw [<-h3]
      have he:e<fl.length:=by
       obtain ⟨c,g1,g2,g3,_⟩:=qq9 f1 0 k z h2
       rw [h1] at g1;injection g1 with g1;have:=z.pos;rw [hfl];omega
      simp only [List.getD_eq_getElem?_getD]
      rw [xp he]
     ·rw [xq (by omega)] at h2
      have hk0:k-f1.length=0:=by
       rcases Nat.eq_zero_or_pos (k-f1.length) with q|q
       ·exact q
       ·rw [vd (by simp;omega)] at h2;cases h2
      rw [hk0] at h2
      have hz:y=z:=by simpa using h2
      subst hz
      rw [xq (by rw [qaq];omega),qaq,hk0] at h1
      have he:e=fl.length:=by simp [endsF,hsz] at h1;omega
      subst he
      obtain ⟨_,_,v3,_⟩:=y.ok_view hy3
      rw [v3,hy1,hy2]
      simp
    ·intro z hz
     rcases xj.1 hz with hz|hz
     ·exact hok z (by simp [hz])
     ·rw [xb.1 hz];exact hy3
   ·cases hm
theorem qp1 (t:List Nd):∀ (n:Nat) (f:List It),szF f<=n->(∀ y ∈ f,y.ok) -> ∀ (i:Nat) (u r:List Nd) (st:List Nat) (fl:List Bool),t=u++(encF f i++r)->u.length=i->fl.length=i ->
 ∃ fl',fl'.length=i+szF f/\(∀ j,j<i->fl'.getD j false=fl.getD j false)/\FlOk fl' f i/\mgo t (encF f i++r) i st fl=mgo t r (i+szF f) (st++endsF f i) fl'
 | n,[],_,_,i,u,r,st,fl,ht,hu,hfl=>⟨fl,by simpa [szF] using hfl,fun j _=>rfl,fun k e x h=>by simp [endsF] at h,by simp [encF,szF,endsF]⟩
 | 0,x::f,hn,_,_,_,_,_,_,_,_,_=>by have:=x.pos;simp [szF] at hn;omega
 | n+1,x::f,hn,hok,i,u,r,st,fl,ht,hu,hfl=>by
  have hxo:=hok x (by simp)
  obtain ⟨v1,v2,v3,v4⟩:=x.ok_view hxo
  have hxs:=x.sz_eq
  have hn':x.sz+szF f<=n+1:=hn
  -- what the item is made of
  have e1:encF (x::f) i++r=encF x.ks i++(x.nd i::(encF f (i+x.sz)++r)):=by simp [encF,x.enc_eq]
  obtain ⟨fl1,a1,a2,a3,a4⟩:=qp1 t n x.ks (by omega) v2 i u (x.nd i::(encF f (i+x.sz)++r)) st fl (by rw [ht,e1]) hu hfl
  -- its node
  have hcls:=q1b (t:=t) (f:=x.ks) (b:=i) (u:=u) (v:=x.nd i::(encF f (i+x.sz)++r)) (by rw [ht,e1]) hu v2
  have hl:(x.nd i).kids.length=x.ks.length:=by simp [It.nd,ints,qaq]
  have hd:(st++endsF x.ks i).drop ((st++endsF x.ks i).length-x.ks.length)=endsF x.ks i:=q1e (by rw [qe,qaq];omega)
  have htk:(st++endsF x.ks i).take ((st++endsF x.ks i).length-x.ks.length)=st:=q1w (by rw [qe,qaq];omega)
  have hstep:mstep t (x.nd i) (i+szF x.ks) (st++endsF x.ks i) fl1=some (st ++ [i+szF x.ks],fl1 ++ [x.atm]):=by
   unfold mstep
   have hs:shape (x.nd i).k (x.nd i).n (x.nd i).kids.length=some (x.ks.map It.cls):=by rw [hl];exact v1
   rw [hs]
   simp only [xf]
   rw [xi ⟨hl.symm,by rw [qe,qaq];omega,by rw [hd];rfl,by rw [hd,hcls]⟩,hd,htk,a3.any]
   have hk:(x.nd i).k=x.kn.1:=rfl
   rw [qt (fun ⟨q1,q2⟩=>by rw [v4 (hk ▸ q1)] at q2;cases q2),hk,<-v3]
  have hgo:mgo t (x.nd i::(encF f (i+x.sz)++r)) (i+szF x.ks) (st++endsF x.ks i) fl1=mgo t (encF f (i+x.sz)++r) (i+x.sz) (st ++ [i+szF x.ks]) (fl1 ++ [x.atm]):=by
   rw [show i+x.sz=i+szF x.ks+1 by omega]
   conv=>lhs;unfold mgo
   rw [hstep]
  -- the rest
  obtain ⟨fl2,b1,b2,b3,b4⟩:=qp1 t n f (by have:=x.pos;omega) (fun y hy=>hok y (by simp [hy])) (i+x.sz) (u++x.enc i) r (st ++ [i+szF x.ks]) (fl1 ++ [x.atm]) (by rw [ht];simp [encF]) (by simp [It.len,hu]) (by simp [a1];omega)
  refine ⟨fl2,by rw [b1];simp [szF];omega,fun j hj=>?_,fun k e y h1 h2=>?_,?_⟩
  ·rw [b2 j (by have:=x.pos;omega),<-a2 j hj]
   simp only [List.getD_eq_getElem?_getD]
   rw [xp (by omega)]
  ·cases k with
   | zero =>
    simp [endsF] at h1 h2;subst h1;subst h2
    rw [b2 _ (by have:=x.pos;omega)]
    have:i+x.sz-1=fl1.length:=by omega
    rw [this];simp
   | succ k=>exact b3 k e y (by simpa [endsF] using h1) (by simpa using h2)
  ·rw [e1,a4,hgo,b4]
   simp only [endsF,szF,qo,z8,x8]
   rw [show i+x.sz-1=i+szF x.ks by omega,show i+x.sz+szF f=i+(x.sz+szF f) by omega]
theorem mayB_iff {t:List Nd} (hn:∀ x ∈ t,0<=x.n):mayB t=true ↔ ∃ p:Ls,t=p.encL 0/\p.ok/\p.sz+1<=2000:=by
 constructor
 ·intro h
  unfold mayB at h
  rw [qw,ye] at h
  obtain ⟨⟨h1,h2,h3⟩,h4⟩:=h
  obtain ⟨x,hx,ho⟩:=qx3 t hn t 0 [] [] [] (by simp [encF]) rfl rfl rfl (fun k e y h=>by simp [endsF] at h) (fun y h=>by cases h) h4
  obtain ⟨y,hy,hc⟩:=x.last 0
  have hl:t.length=x.sz:=by rw [hx,It.len]
  have hc:=hc ho
  unfold kLast at h3
  rw [hl,hx,hy] at h3
  simp only at h3
  rw [h3] at hc
  cases x with
  | l p=>exact ⟨p,hx,ho,by rw [hl] at h2;exact h2⟩
  | e x=>simp [cls,It.cls] at hc
  | c x=>simp [cls,It.cls] at hc
  | s x=>simp [cls,It.cls] at hc
 ·rintro ⟨p,rfl,ho,hs⟩
  have hl:=p.lenL 0
  obtain ⟨y,hy,hc⟩:=(It.l p).last 0
  unfold mayB
  rw [qw,ye]
  refine ⟨⟨by omega,by omega,?_⟩,?_⟩
  ·unfold kLast Ls.encL
   rw [qe,Ls.len]
   simp [Ls.len]
  ·obtain ⟨fl',_,_,_,h⟩:=qp1 (p.encL 0) (szF [.l p]) [.l p] (qg _) (fun y hy=>by rw [xb.1 hy];exact ho) 0 [] [] [] [] (by simp [encF,It.enc]) rfl rfl
   have e:encF [.l p] 0 ++ []=p.encL 0:=by simp [encF,It.enc]
   rw [e] at h
   rw [h]
   simp [mgo,endsF]
end Lang
end Go.Am
namespace Go.Am
namespace Lang
def sgn (o:Nat):List UInt8:=if o=4 then [43] else if o=5 then [45] else if o=6 then [42] else if o=7 then [38] else if o=8 then [94] else if o=9 then [60,60] else [62,62]
def rowOf (o:Nat):Nat:=if o=4\/o=5\/o=8 then 1 else 2
def csgn (k:Nat):List UInt8:=if k=11 then [32,61,61,32] else if k=12 then [32,33,61,32] else [32,60,32]
def letter (v:Nat):List UInt8:=[UInt8.ofNat (97+v)]
def par (q:Prop) [Decidable q] (s:List UInt8):List UInt8:=if q then s else []
def Ex.txt:Ex->Nat->List UInt8
 | .num n,_=>dec n
 | .var v,_=>letter v
 | .load a,_=>[108,111,97,100,40]++a.txt 0 ++ [41]
 | .bin o a b,least=>par (rowOf o<least) [40]++a.txt (rowOf o)++([32]++sgn o ++ [32])++b.txt (rowOf o+1)++par (rowOf o<least) [41]
def Cn.txt (c:Cn):List UInt8:=c.a.txt 0++csgn c.k++c.b.txt 0
def ind (deep:Nat):List UInt8:=List.replicate (2*deep) 32
mutual
def St.txt:St->Nat->List UInt8
 | .set v a,_=>letter v ++ [32,61,32]++a.txt 0 ++ [59]
 | .store a b,_=>[115,116,111,114,101,40]++a.txt 0 ++ [44,32]++b.txt 0 ++ [41,59]
 | .ite c l,d=>[105,102,32,40]++c.txt ++ [41,32]++([123,10]++l.txt (d+1)++(ind d ++ [125]))
 | .ites c l e,d=>[105,102,32,40]++c.txt ++ [41,32]++([123,10]++l.txt (d+1)++(ind d ++ [125])) ++ [32,101,108,115,101,32]++([123,10]++e.txt (d+1)++(ind d ++ [125]))
 | .loop c l,d=>[119,104,105,108,101,32,40]++c.txt ++ [41,32]++([123,10]++l.txt (d+1)++(ind d ++ [125]))
 | .atom l,d=>[97,116,111,109,105,99,32]++([123,10]++l.txt (d+1)++(ind d ++ [125]))
 | .halt,_=>[104,97,108,116,59]
def Ls.txt:Ls->Nat->List UInt8
 | .nil,_=>[]
 | .cons s l,d=>ind d++s.txt d ++ [10]++l.txt d
end
def brk (c:UInt8) (o p:Int):Int × Int:=if c=40\/c=123 then (o+1,max p (o+1)) else if c=41\/c=125 then (o-1,p) else (o,p)
def scan:List UInt8->Int × Int->Int × Int
 | [],q=>q
 | c::s,q=>scan s (brk c q.1 q.2)
theorem qbr (a b:List UInt8) (q:Int × Int):scan (a++b) q=scan b (scan a q):=by
 induction a generalizing q with
 | nil=>rfl
 | cons c a ih=>exact ih _
end Lang
end Go.Am
namespace Go.Am
namespace Lang
def Seg (t:List Nd) (b:Nat) (l:List Nd):Prop:=∀ i x,l[i]? = some x->t[b+i]? = some x
theorem Seg.all (t:List Nd):Seg t 0 t:=fun i x h=>by rw [ja];exact h
theorem Seg.left {t:List Nd} {b:Nat} {l m:List Nd} (h:Seg t b (l++m)):Seg t b l:=fun i x hx=>h i x (by rw [xp (xa.1 hx).1];exact hx)
theorem Seg.right {t:List Nd} {b:Nat} {l m:List Nd} (h:Seg t b (l++m)) {c:Nat} (hc:c=b+l.length):Seg t c m:=fun i x hx=>by
 subst hc
 have:=h (l.length+i) x (by rw [xq (by omega)];simpa using hx)
 rw [kc];exact this
theorem Seg.one {t:List Nd} {b:Nat} {x:Nd} {m:List Nd} (h:Seg t b (x::m)):t[b]? = some x:=h 0 x rfl
theorem Seg.nd {t:List Nd} {b:Nat} {x:It} (h:Seg t b (x.enc b)):t[b+x.sz-1]? = some (x.nd b)/\Seg t b (encF x.ks b):=by
 rw [It.enc_eq] at h
 refine ⟨?_,h.left⟩
 have:=(h.right (c:=b+x.sz-1) (by rw [qoa,It.sz_eq];omega)).one
 exact this
theorem Seg.cons {t:List Nd} {b:Nat} {x:It} {r:List It} (h:Seg t b (encF (x::r) b)):Seg t b (x.enc b)/\Seg t (b+x.sz) (encF r (b+x.sz)) :=
 ⟨Seg.left h,Seg.right h (by rw [It.len])⟩
theorem Seg.lt {t:List Nd} {b:Nat} {x:It} (h:Seg t b (x.enc b)):b+x.sz<=t.length:=by
 have:=(xa.1 h.nd.1).1
 have:=x.pos;omega
theorem It.sub (t:List Nd):∀ (m:Nat) (f:List It) (b n:Nat),szF f<=m->(∀ y ∈ f,y.ok)->Seg t b (encF f b)->b<=n->n<b+szF f -> ∃ (x:It) (c:Nat),x.ok/\Seg t c (x.enc c)/\n=c+x.sz-1/\b<=c:=by
 intro m
 induction m with
 | zero=>intro f b n hm _ _ h1 h2;omega
 | succ m ih =>
  intro f b n hm hok hs h1 h2
  cases f with
  | nil=>simp [szF] at h2;omega
  | cons x r =>
   obtain ⟨s1,s2⟩:=hs.cons
   have hx:=hok x (by simp)
   have hsz:=x.sz_eq
   simp only [szF] at hm h2
   rcases ke n (b+x.sz) with q|q
   ·by_cases hl:n=b+x.sz-1
    ·exact ⟨x,b,hx,s1,hl,qg _⟩
    ·exact ih x.ks b n (by omega) (x.ok_view hx).2.1 s1.nd.2 h1 (by omega)
   ·obtain ⟨y,c,k1,k2,k3,k4⟩:=ih r (b+x.sz) n (by have:=x.pos;omega) (fun y hy=>hok y (by simp [hy])) s2 q (by omega)
    exact ⟨y,c,k1,k2,k3,by omega⟩
theorem Ls.sub {p:Ls} (hp:p.ok) {n:Nat} (hn:n<(p.encL 0).length):∃ (x:It) (c:Nat),x.ok/\Seg (p.encL 0) c (x.enc c)/\n=c+x.sz-1:=by
 obtain ⟨x,c,h1,h2,h3,_⟩:=It.sub (p.encL 0) (szF [.l p]) [.l p] 0 n (qg _) (fun y hy=>by rw [xb.1 hy];exact hp) (by
  have e:encF [.l p] 0=p.encL 0:=by simp [encF,It.enc]
  rw [e];exact Seg.all _) (j8 _) (by rw [Ls.lenL] at hn;simpa [szF,It.sz] using hn)
 exact ⟨x,c,h1,h2,h3⟩
theorem q6k (o:Nat):(sgn o).length<=2:=by unfold sgn;(repeat' split)<;>decide
theorem q1d (o:Nat):(csgn o).length<=4:=by unfold csgn;(repeat' split)<;>decide
theorem q52 (q:Prop) [Decidable q]:(par q [40]).length<=1/\(par q [41]).length<=1:=by unfold par;constructor<;>(split<;>decide)
def Ex.small:Ex->Prop
 | .num n=>n<18446744073709551616
 | .var _=>True
 | .load a=>a.small
 | .bin _ a b=>a.small/\b.small
def Cn.small (c:Cn):Prop:=c.a.small/\c.b.small
mutual
def St.small:St->Prop
 | .set _ a=>a.small
 | .store a b=>a.small/\b.small
 | .ite c l=>c.small/\l.small
 | .ites c l e=>c.small/\l.small/\e.small
 | .loop c l=>c.small/\l.small
 | .atom l=>l.small
 | .halt=>True
def Ls.small:Ls->Prop
 | .nil=>True
 | .cons s l=>s.small/\l.small
end
theorem Ex.txt_len:∀ (x:Ex) (d:Nat),x.small->(x.txt d).length<=30*x.sz
 | .num n,d,h=>by have:=qxb (n:=n) h;simp only [Ex.txt,Ex.sz];omega
 | .var v,d,_=>by simp [Ex.txt,letter,Ex.sz]
 | .load a,d,h=>by have:=a.txt_len 0 h;simp only [Ex.txt,Ex.sz,qe,qk,qu];omega
 | .bin o a b,d,h=>by
  have:=a.txt_len (rowOf o) h.1;have:=b.txt_len (rowOf o+1) h.2;have:=q6k o;obtain ⟨_,_⟩:=q52 (rowOf o<d)
  simp only [Ex.txt,Ex.sz,qe,qk,qu];omega
theorem Cn.txt_len (c:Cn) (h:c.small):c.txt.length<=30*c.sz:=by
 have:=c.a.txt_len 0 h.1;have:=c.b.txt_len 0 h.2;have:=q1d c.k
 simp only [Cn.txt,Cn.sz,qe];omega
theorem qed (d:Nat):(ind d).length=2*d:=by simp [ind]
mutual
theorem St.txt_len:∀ (x:St) (d k:Nat),x.small->d+x.sz<=k->(x.txt d).length+(2*d+1)<=(40+8*k)*x.sz
 | .set v a,d,k,h,hd=>by
  have:=a.txt_len 0 h
  simp only [St.txt,St.sz,letter,qe,qk,qu,ku]
  have:8*k*(a.sz+1)=8*k*a.sz+8*k:=by rw [qa6,yu]
  omega
 | .store a b,d,k,h,hd=>by
  have:=a.txt_len 0 h.1;have:=b.txt_len 0 h.2
  simp only [St.sz] at hd
  have e:(40+8*k)*(a.sz+b.sz+1)=40*a.sz+8*k*a.sz+(40*b.sz+8*k*b.sz)+(40+8*k):=by simp only [qa6,yu,ku]
  simp only [St.txt,St.sz,qe,qk,qu];omega
 | .ite c l,d,k,h,hd=>by
  simp only [St.sz] at hd
  have cp:=c.pos
  have:=c.txt_len h.1;have:=l.txt_len (d+1) k h.2 (by omega);have:=qed d
  have e:(40+8*k)*(c.sz+(l.sz+1)+1)=(40+8*k)*c.sz+(40+8*k)*l.sz+(40+8*k)+(40+8*k):=by simp only [qa6,yu];omega
  have e2:30*c.sz<=(40+8*k)*c.sz:=zi _ (by omega)
  simp only [St.txt,St.sz,qe,qk,qu];omega
 | .ites c l m,d,k,h,hd=>by
  simp only [St.sz] at hd
  have cp:=c.pos
  have:=c.txt_len h.1;have:=l.txt_len (d+1) k h.2.1 (by omega);have:=m.txt_len (d+1) k h.2.2 (by omega);have:=qed d
  have e:(40+8*k)*(c.sz+(l.sz+1)+(m.sz+1)+1)=(40+8*k)*c.sz+(40+8*k)*l.sz+(40+8*k)*m.sz+(40+8*k)+(40+8*k)+(40+8*k):=by simp only [qa6,yu];omega
  have e2:30*c.sz<=(40+8*k)*c.sz:=zi _ (by omega)
  simp only [St.txt,St.sz,qe,qk,qu];omega
 | .loop c l,d,k,h,hd=>by
  simp only [St.sz] at hd
  have cp:=c.pos
  have:=c.txt_len h.1;have:=l.txt_len (d+1) k h.2 (by omega);have:=qed d
  have e:(40+8*k)*(c.sz+(l.sz+1)+1)=(40+8*k)*c.sz+(40+8*k)*l.sz+(40+8*k)+(40+8*k):=by simp only [qa6,yu];omega
  have e2:30*c.sz<=(40+8*k)*c.sz:=zi _ (by omega)
  simp only [St.txt,St.sz,qe,qk,qu];omega
 | .atom l,d,k,h,hd=>by
  simp only [St.sz] at hd
  have:=l.txt_len (d+1) k h (by omega);have:=qed d
  have e:(40+8*k)*(l.sz+1+1)=(40+8*k)*l.sz+(40+8*k)+(40+8*k):=by simp only [qa6,yu]
  simp only [St.txt,St.sz,qe,qk,qu];omega
 | .halt,d,k,h,hd=>by simp only [St.txt,St.sz,qk,qu];omega
theorem Ls.txt_len:∀ (x:Ls) (d k:Nat),x.small->d+x.sz<=k->(x.txt d).length<=(40+8*k)*x.sz
 | .nil,d,k,h,hd=>by simp [Ls.txt]
 | .cons s l,d,k,h,hd=>by
  simp only [Ls.sz] at hd
  have:=s.txt_len d k h.1 (by omega);have:=l.txt_len d k h.2 (by omega);have:=qed d
  have e:(40+8*k)*(s.sz+l.sz)=(40+8*k)*s.sz+(40+8*k)*l.sz:=qa6 ..
  simp only [Ls.txt,Ls.sz,qe,qk,qu];omega
end
end Lang
end Go.Am
namespace Go.Am
def encZ (x:Nat):List AV:=[.int .i64 (x:Int)]
theorem qvj (x:Nat):(encZ x).length=1:=rfl
theorem q46 (l:List Nat):l.flatMap encZ=l.map fun (x:Nat)=>AV.int .i64 (x:Int):=by
 induction l with
 | nil=>rfl
 | cons a l ih=>rw [jf,ih];rfl
theorem qe8 (l:List Nat):(l.flatMap encZ).length=l.length:=by rw [q46,xf]
structure Stk (e:Nat) (H0 H:AHeap) (v:AV) (xs:List Nat):Prop where
 own:(v=.nils/\xs=[]) \/ ∃ b m rest,v=.gslice b 0 m 1 0 xs.length/\b<H.next/\H0.next<=b/\m=xs.length+rest.length/\H.get b=some (.grown m 1 (xs.flatMap encZ++rest) e (0,0))
 fr:Fr Em H0 H
section
variable {e:Nat} {H0 H:AHeap} {v:AV} {xs:List Nat}
theorem Stk.nil (e:Nat) (H:AHeap):Stk e H H .nils []:=⟨.inl ⟨rfl,rfl⟩,Fr.refl H⟩
theorem Stk.fresh (h:Stk e H0 H v xs):∀ b,OnS v b->H0.next<=b/\b<H.next:=by
 rintro b ⟨h1,rfl⟩
 rcases h.own with ⟨rfl,_⟩|⟨b,m,rest,rfl,q1,q2,_⟩
 ·exact (h1 rfl).elim
 ·exact ⟨q2,q1⟩
theorem Stk.sl (h:Stk e H0 H v xs):SlT encZ 1 H v xs:=by
 rcases h.own with ⟨rfl,rfl⟩|⟨b,m,rest,rfl,q1,q2,q3,q4⟩
 ·exact ⟨rfl,rfl⟩
 ·refine ⟨by rw [qe8,yu],rfl,rfl,by omega,.inr ⟨q1,_,qkv q4,?_⟩⟩
  rw [vu,xi (by rw [qe,qe8];omega),qax,jw,yu,qaa (by rw [qe8];exact qg _),zk (by rw [qe8];exact qg _)]
theorem Stk.frW {H':AHeap} {W:Nat->Prop} (h:Stk e H0 H v xs) (f:Fr W H H') (f0:Fr Em H0 H') (hw:∀ b,OnS v b -> ¬ W b):Stk e H0 H' v xs:=by
 refine ⟨?_,f0⟩
 rcases h.own with q|⟨b,m,rest,rfl,q1,q2,q3,q4⟩
 ·exact .inl q
 ·exact .inr ⟨b,m,rest,rfl,qi q1 f.next,q2,q3,by rw [f.keep b q1 (hw b ⟨by simp,rfl⟩)];exact q4⟩
theorem Stk.em {H':AHeap} (h:Stk e H0 H v xs) (f:Fr Em H H'):Stk e H0 H' v xs:=h.frW f (h.fr.em f) fun _ _ q=>q
theorem Stk.cut (h:Stk e H0 H v xs) {k:Nat} (hk:k<=xs.length) {z:Int} (hz:z=k) (kk:IntKind) :
 ∃ v',Op.sliceSl 1 [none,some 0,none] [v,.int kk z]=some v'/\Stk e H0 H v' (xs.take k) /\ ∀ b,OnS v' b->OnS v b:=by
 rcases h.own with ⟨rfl,rfl⟩|⟨b,m,rest,rfl,q1,q2,q3,q4⟩
 ·have:k=0:=by simpa using hk
  subst this
  refine ⟨.nils,?_,⟨.inl ⟨rfl,rfl⟩,h.fr⟩,fun b hb=>hb⟩
  have hbn:bound none 0 0=some 0:=rfl
  simp [Op.sliceSl,arg,qbe,sliceV,hbn,qdm hz (qg 0)]
 ·have e1:∀ n,Nat.beq n n=true:=fun n=>by simp
  have hb1:∀ d m,bound none d m=some d:=fun _ _=>rfl
  have hkm:=qap (show k<=m-0 by omega)
  refine ⟨.gslice b (0+0) m 1 (cond (Nat.beq 0 0) 0 (0*1)) (k-0),by simp only [Op.sliceSl,arg,qbe,j0,qf,sliceV,hb1,qdm hz (show k<=m-0 by omega),e1,hkm,qap (j8 m),jt,qn],⟨.inr ⟨b,m,(xs.drop k).flatMap encZ++rest,?_,q1,q2,?_,?_⟩,h.fr⟩,fun b hb=>⟨by simp,hb.2⟩⟩
  ·rw [z9,qan hk];rfl
  ·rw [z9,qe,qe8,ym];omega
  ·rw [q4,<-qo,<-vc,qbg]
theorem Stk.push (h:Stk e H0 H v xs) {x:Nat} {zero:List AV} {bytes:Nat} (hz:zero.length=1) (hf:(xs.length+1)*bytes<=140737488355328) (hf':xs.length+1<=140737488355328) {K:AObj->(Nat->AV)->Bool->AV->AHeap->Prop} {m:Bool}
 (hk:∀ v' H',Stk e H0 H' v' (xs ++ [x])->Fr (OnS v) H H'->(∀ b,OnS v' b->OnS v b\/H.next<=b)->K (.row [.int .i64 (x:Int)] e (0,0) true) (Op.sliceTo 1 1) m v' H') :
 B32 m (Op.buildSlice e 1 zero [(0,1)] [.int .i64 (x:Int)]) fun g o mk=>B32 g (Op.append e 1 bytes [v,mk H.next] (H.alloc o)) (K o mk):=by
 have hb:Op.buildSlice e 1 zero [(0,1)] [.int .i64 (x:Int)]=some (.row [.int .i64 (x:Int)] e (0,0) true,Op.sliceTo 1 1):=q1q e 1 zero (.int .i64 (x:Int)) hz rfl
 rw [hb]
 have hfr:Fr Em H (H.alloc (.row [.int .i64 (x:Int)] e (0,0) true)):=(Fr.refl H).alloc _
 have hx:Sl (H.alloc (.row [.int .i64 (x:Int)] e (0,0) true)) 1 (Op.sliceTo 1 1 H.next) 1 [.int .i64 (x:Int)]:=sl_new rfl
 have e1:∀ n,Nat.beq n n=true:=fun n=>by simp
 have ha:allOne [AV.int .i64 (x:Int)]=true:=rfl
 have hlt:Nat.blt 0 1=true:=rfl
 have h10:Nat.beq 1 0=false:=rfl
 have hfit:=qvn hf hf'
 refine B32.intro rfl ?_
 rcases h.own with ⟨rfl,rfl⟩|⟨b,mm,rest,rfl,q1,q2,q3,q4⟩
 ·have hfit:fits 1 bytes=true:=by simpa using hfit
  refine B32.intro (a:=.gslice (H.next+1) 0 1 1 0 1) (b:=(H.alloc (.row [.int .i64 (x:Int)] e (0,0) true)).alloc (.grown 1 1 [.int .i64 (x:Int)] e (0,0))) ?_ (hk _ _ ⟨.inr ⟨H.next+1,1,[],rfl,?_,?_,rfl,?_⟩,?_⟩ ((hfr.alloc _).mono fun _ _ q=>q.elim) fun b hb=>.inr ?_)
  ·simp only [Op.append,hx.lenV,hx.first,qf,ha,qn,appendV,h10,qy,hfit,hlt,jt,grownV,ze]
  ·rw [ze,ze];omega
  ·have:=h.fr.next;omega
  ·exact xr ..
  ·exact (h.fr.em hfr).alloc _
  ·rw [hb.2];show H.next<=H.next+1;omega
 ·have q4':(H.alloc (.row [.int .i64 (x:Int)] e (0,0) true)).get b=some (.grown mm 1 (xs.flatMap encZ++rest) e (0,0)):=by rw [qfq q1];exact q4
  cases rest with
  | nil =>
   have hm:mm=xs.length:=by simpa using q3
   subst hm
   have h3:Nat.ble (0+xs.length+1) xs.length=false:=by cases hq:Nat.ble (0+xs.length+1) xs.length with|false=>rfl|true=>rw [yq] at hq;omega
   have h4:=qap (show 0+xs.length<=xs.length by omega)
   have h5:=qap (j8 (xs.length*1))
   refine B32.intro (a:=.gslice (H.next+1) 0 (xs.length+1) 1 0 (xs.length+1)) (b:=((H.alloc (.row [.int .i64 (x:Int)] e (0,0) true)).kill b).alloc (.grown (xs.length+1) 1 (xs.flatMap encZ ++ [.int .i64 (x:Int)]) e (0,0))) ?_ (hk _ _ ⟨.inr ⟨H.next+1,xs.length+1,[],?_,?_,?_,?_,?_⟩,?_⟩ ?_ fun b hb=>.inr ?_)
   ·simp only [Op.append,hx.lenV,hx.first,qf,ha,qn,appendV,h10,qy,e1,h4,hlt,jt,h3,hfit,q4',h5,grownV,qf1,ze,qb1,j7,Nat.beq]
   ·rw [qe];rfl
   ·rw [ze,qf1,ze];omega
   ·have:=h.fr.next;omega
   ·rw [qe];rfl
   ·rw [j7,vc]
    have:=xr ((H.alloc (.row [.int .i64 (x:Int)] e (0,0) true)).kill b) (.grown (xs.length+1) 1 (xs.flatMap encZ ++ [.int .i64 (x:Int)]) e (0,0))
    rw [qf1,ze] at this
    exact this
   ·exact ((h.fr.em hfr).kill (.inr q2)).alloc _
   ·exact (Fr.kill (W:=OnS (AV.gslice b 0 xs.length 1 0 xs.length)) (hfr.mono fun _ _ q=>q.elim) (.inl ⟨by simp,rfl⟩)).alloc _
   ·rw [hb.2];show H.next<=H.next+1;omega
  | cons r rest =>
   have h3:=qap (show 0+xs.length+1<=mm by simp at q3;omega)
   have h4:=qap (show 0+xs.length<=mm by omega)
   have hst:(H.alloc (.row [.int .i64 (x:Int)] e (0,0) true)).store b ((0+xs.length)*1) [.int .i64 (x:Int)]=some ((H.alloc (.row [.int .i64 (x:Int)] e (0,0) true)).set b (.grown mm 1 ((xs ++ [x]).flatMap encZ++rest) e (0,0))):=by
    have ht:thawed (0,0) ((0+xs.length)*1) (lenL [AV.int .i64 (x:Int)])=true:=by simp [thawed]
    simp only [AHeap.store,ha,qn,q4',ht,qdi]
    rw [xi (by rw [qe,qe8];simp),qf]
    congr 4
    rw [ja,yu,qaa (by rw [qe8];exact qg _),zk (by rw [qe8];exact qg _),vc]
    ·rfl
    ·rw [ja,yu,show [AV.int .i64 (x:Int)].length=1 from rfl,qbs,jv (by rw [qe8];omega),qe8]
     simp
   refine B32.intro (a:=.gslice b 0 mm 1 0 (xs.length+1)) (b:=(H.alloc (.row [.int .i64 (x:Int)] e (0,0) true)).set b (.grown mm 1 ((xs ++ [x]).flatMap encZ++rest) e (0,0))) ?_ (hk _ _ ⟨.inr ⟨b,mm,rest,?_,?_,q2,?_,?_⟩,?_⟩ ?_ fun c hc=>.inl ⟨by simp,hc.2⟩)
   ·simp only [Op.append,hx.lenV,hx.first,qf,ha,qn,appendV,h10,qy,e1,h4,hlt,jt,h3,hst]
   ·rw [qe];rfl
   ·rw [qmo,ze];omega
   ·rw [qe];simp at q3 ⊢;omega
   ·exact ji ..
   ·exact (h.fr.em hfr).set (.inr q2) _
   ·exact Fr.set (W:=OnS (AV.gslice b 0 mm 1 0 xs.length)) (hfr.mono fun _ _ q=>q.elim) (.inl ⟨by simp,rfl⟩) _
end
end Go.Am
namespace Go.Am
open Lang
def encI (x:Int):List AV:=[.int .i64 x]
theorem encI_len (x:Int):(encI x).length=1:=rfl
theorem qr7 (l:List Int):l.flatMap encI=l.map fun x=>AV.int .i64 x:=by
 induction l with
 | nil=>rfl
 | cons a l ih=>rw [jf,ih];rfl
def encN (z:Nd × AV):List AV:=[.int .i64 z.1.k,.int .u64 z.1.n,z.2]
theorem qhy (z:Nd × AV):(encN z).length=3:=rfl
abbrev nodeV (x:Nd) (a:AV):AV:=.agg [.int .i64 x.k,.int .u64 x.n,a]
structure Nds (H:AHeap) (v:AV) (ts:List Nd):Prop where
 ex:∃ zs:List (Nd × AV),zs.map (·.1)=ts/\SlT encN 3 H v zs /\ ∀ z ∈ zs,SlT encI 1 H z.2 z.1.kids
section
variable {H H':AHeap} {v:AV} {ts:List Nd}
theorem Nds.em (h:Nds H v ts) (f:Fr Em H H'):Nds H' v ts:=by
 obtain ⟨zs,h1,h2,h3⟩:=h.ex
 exact ⟨zs,h1,h2.em f,fun z hz=>(h3 z hz).em f⟩
theorem Nds.len (h:Nds H v ts):Op.lenSl [v]=some (.int .i64 ts.length):=by
 obtain ⟨zs,h1,h2,h3⟩:=h.ex
 rw [h2.len,<-h1,xf]
theorem Nds.get (h:Nds H v ts) {i:Nat} {x:Nd} (hx:ts[i]? = some x):∃ a,SlT encI 1 H a x.kids/\oneCell a=true /\
 (∀ k,Op.indexSl 3 [v,.int k (i:Int)]=some (.ptr (slB v) (slO 3 v i)))/\Op.loadN 3 [.ptr (slB v) (slO 3 v i)] H=some (nodeV x a) /\
 Op.load1 [.ptr (slB v) (slO 3 v i)] H=some (.int .i64 x.k)/\Op.load1 [.ptr (slB v) (slO 3 v i+1)] H=some (.int .u64 x.n)/\Op.load1 [.ptr (slB v) (slO 3 v i+2)] H=some a:=by
 obtain ⟨zs,h1,h2,h3⟩:=h.ex
 obtain ⟨z,hz,rfl⟩:∃ z,zs[i]? = some z/\z.1=x:=by
  rw [<-h1,xh] at hx
  cases hq:zs[i]? with
  | none=>rw [hq] at hx;cases hx
  | some z=>rw [hq] at hx;injection hx with hx;exact ⟨z,rfl,hx⟩
 have ha:=h3 z (zh hz)
 refine ⟨z.2,ha,ha.one,fun k=>h2.idx hz rfl k,h2.loadN qhy (by decide) hz,h2.load0 qhy hz (by decide),h2.load1 qhy hz (j:=1) (by decide),h2.load1 qhy hz (j:=2) (by decide)⟩
theorem Nds.getF (h:Nds H v ts) {i:Nat} {x:Nd} (hx:ts[i]? = some x) (f:Fr Em H H'):∃ a,SlT encI 1 H a x.kids/\oneCell a=true /\
 (∀ k,Op.indexSl 3 [v,.int k (i:Int)]=some (.ptr (slB v) (slO 3 v i)))/\Op.loadN 3 [.ptr (slB v) (slO 3 v i)] H'=some (nodeV x a) /\
 Op.load1 [.ptr (slB v) (slO 3 v i)] H'=some (.int .i64 x.k)/\Op.load1 [.ptr (slB v) (slO 3 v i+1)] H'=some (.int .u64 x.n)/\Op.load1 [.ptr (slB v) (slO 3 v i+2)] H'=some a:=by
 obtain ⟨zs,h1,h2,h3⟩:=h.ex
 obtain ⟨z,hz,rfl⟩:∃ z,zs[i]? = some z/\z.1=x:=by
  rw [<-h1,xh] at hx
  cases hq:zs[i]? with
  | none=>rw [hq] at hx;cases hx
  | some z=>rw [hq] at hx;injection hx with hx;exact ⟨z,rfl,hx⟩
 have ha:=h3 z (zh hz)
 have h2:=h2.em f
 refine ⟨z.2,ha,ha.one,fun k=>h2.idx hz rfl k,h2.loadN qhy (by decide) hz,h2.load0 qhy hz (by decide),h2.load1 qhy hz (j:=1) (by decide),h2.load1 qhy hz (j:=2) (by decide)⟩
theorem SlT.getI {a:AV} {ks:List Int} (h:SlT encI 1 H a ks) {i:Nat} {x:Int} (hx:ks[i]? = some x):(∀ k,Op.indexSl 1 [a,.int k (i:Int)]=some (.ptr (slB a) (slO 1 a i)))/\Op.load1 [.ptr (slB a) (slO 1 a i)] H=some (.int .i64 x) :=
 ⟨fun k=>h.idx hx rfl k,by rw [h.load0 encI_len hx (by decide)];rfl⟩
end
theorem q1p (H:AHeap) (x:Nd) {a:AV} (ha:oneCell a=true) (e:Nat):Op.store 3 [.ptr H.next 0,nodeV x a] (H.alloc (OR [.int .i64 0,.int .u64 0,.nils] e))=some (.undef,H.alloc (OR [.int .i64 x.k,.int .u64 x.n,a] e)) :=
 qtl H [.int .i64 0,.int .u64 0,.nils] e 3 (nodeV x a) rfl rfl (by simp [AV.cells,qnb,qme,qnr,ha])
theorem node_ldN (H:AHeap) (x:Nd) (a:AV) (e:Nat):Op.loadN 3 [.ptr H.next 0] (H.alloc (OR [.int .i64 x.k,.int .u64 x.n,a] e))=some (nodeV x a):=q5l H _ e (0,0) true 3 rfl
end Go.Am
namespace Go.Am
open Go.RowKit
section
variable {P:Program}
def Wt (P:Program) (t:TypeId) {Hh:Type} (d:DataW Hh):Prop:=∀ x ∈ DataW.weights P t d,x<=reachBytes
def RdW (P:Program) (t:TypeId) (R:AHeap->List AV->Prop):Prop :=
 (∀ H H' l,R H l->Fr Em H H'->R H' l) /\ ∀ {Hh:Type} (enc:TypeId × Value->Hh) (W:World) (held:Bool) (fuel:Nat) (cs:List Value) (d:DataW Hh) (ps:List MemPlace),
  DataW.trod enc P W 0 (fun _=>true) held fuel t cs=some (d,ps)->Wt P t d -> ∀ (θ:Th) (n:Nat) (gl:GL),Good W θ n gl -> ∃ θ' n' gl' l,Step W θ n gl θ' n' gl'/\VRL (Lt n') θ' l cs/\R (yn gl' n') l
def qoc:List (AHeap->List AV->Prop)->AHeap->List AV->Prop
 | [],_,l=>l=[]
 | R::Rs,H,l=>∃ a b,l=a++b/\R H a/\qoc Rs H b
theorem qoc.em:∀ {Rs:List (AHeap->List AV->Prop)},(∀ R ∈ Rs,∀ H H' l,R H l->Fr Em H H'->R H' l) -> ∀ H H' l,qoc Rs H l->Fr Em H H'->qoc Rs H' l
 | [],_,_,_,_,h,_=>h
 | R::Rs,hm,H,H',l,⟨a,b,h1,h2,h3⟩,f=>⟨a,b,h1,hm R (by simp) _ _ _ h2 f,qoc.em (fun S hS=>hm S (by simp [hS])) _ _ _ h3 f⟩
end
end Go.Am
namespace Go.Am
open Go.RowKit Lang
section
variable {P:Program}
theorem RdW.imp {t:TypeId} {R R':AHeap->List AV->Prop} (h:RdW P t R) (hm:∀ H H' l,R' H l->Fr Em H H'->R' H' l) (hi:∀ H l,R H l->R' H l):RdW P t R' :=
 ⟨hm,fun enc W held fuel cs d ps ht hw θ n gl hg=>by
  obtain ⟨θ',n',gl',l,s,v,r⟩:=h.2 enc W held fuel cs d ps ht hw θ n gl hg
  exact ⟨θ',n',gl',l,s,v,hi _ _ r⟩⟩
structure NdsArg (H:AHeap) (u:AV) (ts:List Nd):Prop where
 nds:Nds H u ts
 len:ts.length*40<=reachBytes
 kids:∀ x ∈ ts,x.kids.length*8<=reachBytes
 lo:∀ x ∈ ts,0<=x.n
 hi:∀ x ∈ ts,x.n<18446744073709551616
end
end Go.Am
namespace Go.Am
namespace Lang
def nobr (s:List UInt8):Prop:=∀ c ∈ s,¬ (c=40\/c=123) /\ ¬ (c=41\/c=125)
theorem qgg:∀ (s:List UInt8) (q:Int × Int),nobr s->scan s q=q
 | [],q,_=>rfl
 | c::s,q,h=>by
  obtain ⟨h1,h2⟩:=h c (by simp)
  show scan s (brk c q.1 q.2)=q
  rw [brk,qt h1,qt h2]
  exact qgg s q fun x hx=>h x (by simp [hx])
theorem q4x:∀ (n:Nat),∀ c ∈ dec n,48<=c.toNat/\c.toNat<=57:=by
 intro n
 induction n using Nat.strongRecOn with
 | ind n ih =>
  intro c hc
  rw [dec] at hc
  split at hc
  ·rename_i h;rw [xb] at hc;subst hc;rw [ju];omega
  ·rename_i h
   rcases xj.1 hc with q|q
   ·exact ih _ (by omega) c q
   ·rw [xb] at q;subst q;rw [ju];omega
theorem q5x {s:List UInt8} (h:∀ c ∈ s,48<=c.toNat/\c.toNat<=57\/97<=c.toNat/\c.toNat<=122):nobr s:=fun c hc=>by
 have:=h c hc
 constructor<;>rintro (rfl|rfl)<;>revert this<;>decide
theorem dec_nobr (n:Nat):nobr (dec n):=q5x fun c hc=>.inl (q4x n c hc)
theorem qsr {v:Nat} (h:v<=7):nobr (letter v):=q5x fun c hc=>by
 unfold letter at hc;rw [xb] at hc;subst hc;right;rw [ju];omega
theorem q1k (d:Nat):nobr (ind d):=fun c hc=>by
 simp [ind] at hc;obtain ⟨_,rfl⟩:=hc;decide
theorem sgn_nobr (o:Nat):nobr (sgn o):=by
 unfold sgn nobr;(repeat' split)<;>decide
theorem q4w (o:Nat):nobr (csgn o):=by
 unfold csgn nobr;(repeat' split)<;>decide
def Ex.dep:Ex->Nat->Nat
 | .num _,_=>0
 | .var _,_=>0
 | .load a,_=>1+a.dep 0
 | .bin o a b,d=>max (a.dep (rowOf o)) (b.dep (rowOf o+1))+(if rowOf o<d then 1 else 0)
def Cn.dep (c:Cn):Nat:=max (c.a.dep 0) (c.b.dep 0)
mutual
def St.dep:St->Nat
 | .set _ a=>a.dep 0
 | .store a b=>1+max (a.dep 0) (b.dep 0)
 | .ite c l=>1+max c.dep l.dep
 | .ites c l e=>1+max c.dep (max l.dep e.dep)
 | .loop c l=>1+max c.dep l.dep
 | .atom l=>1+l.dep
 | .halt=>0
def Ls.dep:Ls->Nat
 | .nil=>0
 | .cons s l=>max s.dep l.dep
end
theorem qwo {q:Prop} [Decidable q] {c:UInt8} {o p:Int}:scan (par q [c]) (o,p)=if q then brk c o p else (o,p):=by
 unfold par;split<;>rfl
theorem Ex.scan:∀ (x:Ex) (d:Nat) (o p:Int),x.ok->o<=p->Lang.scan (x.txt d) (o,p)=(o,max p (o+(x.dep d:Nat)))
 | .num n,d,o,p,_,h=>by rw [Ex.txt,qgg _ _ (dec_nobr n),Ex.dep];congr 1;omega
 | .var v,d,o,p,hv,h=>by rw [Ex.txt,qgg _ _ (qsr hv),Ex.dep];congr 1;omega
 | .load a,d,o,p,ha,h=>by
  have e1:Lang.scan [108,111,97,100,40] (o,p)=(o+1,max p (o+1)):=by simp [Lang.scan,brk]
  have e2:∀ o p,Lang.scan [41] (o,p)=(o-1,p):=fun o p=>by simp [Lang.scan,brk]
  rw [Ex.txt,qbr,qbr,e1,a.scan 0 _ _ ha (by omega),e2,Ex.dep]
  congr 1<;>omega
 | .bin k a b,d,o,p,ho,h=>by
  obtain ⟨_,_,ha,hb⟩:=ho
  have e3:∀ q,Lang.scan [32] q=q:=fun q=>qgg _ _ fun c hc=>by rw [xb] at hc;subst hc;decide
  have e4:∀ q,Lang.scan (sgn k) q=q:=fun q=>qgg _ _ (sgn_nobr k)
  simp only [Ex.txt,qbr,e3,e4,qwo,Ex.dep]
  by_cases q:rowOf k<d
  ·rw [xi q,xi q,show brk 40 o p=(o+1,max p (o+1)) by simp [brk],a.scan _ _ _ ha (by omega),b.scan _ _ _ hb (by omega),qwo,xi q,show ∀ o p,brk 41 o p=(o-1,p) from fun o p=>by simp [brk]]
   congr 1<;>omega
  ·rw [qt q,qt q,a.scan _ _ _ ha (by omega),b.scan _ _ _ hb (by omega),qwo,qt q]
   congr 1;omega
theorem Cn.scan (c:Cn) {o p:Int} (hc:c.ok) (h:o<=p):Lang.scan c.txt (o,p)=(o,max p (o+(c.dep:Nat))):=by
 rw [Cn.txt,qbr,qbr,c.a.scan _ _ _ hc.2.2.1 h,qgg _ _ (q4w _),c.b.scan _ _ _ hc.2.2.2 (by omega),Cn.dep]
 congr 1;omega
theorem qpc {l:List UInt8} {d:Nat} {o p:Int} {k:Nat} (hl:∀ o p:Int,o<=p->Lang.scan l (o,p)=(o,max p (o+(k:Nat)))) (h:o<=p):Lang.scan [125] (Lang.scan (ind d) (Lang.scan l (Lang.scan [123,10] (o,p))))=(o,max p (o+1+(k:Nat))):=by
 have e1:Lang.scan [123,10] (o,p)=(o+1,max p (o+1)):=by simp [Lang.scan,brk]
 have e2:∀ o p,Lang.scan [125] (o,p)=(o-1,p):=fun o p=>by simp [Lang.scan,brk]
 rw [e1,hl _ _ (by omega),qgg _ _ (q1k d),e2]
 congr 1<;>omega
mutual
theorem St.scan:∀ (x:St) (d:Nat) (o p:Int),x.ok->o<=p->Lang.scan (x.txt d) (o,p)=(o,max p (o+(x.dep:Nat)))
 | .set v a,d,o,p,hx,h=>by
  have e2:∀ o p,Lang.scan [59] (o,p)=(o,p):=fun o p=>by simp [Lang.scan,brk]
  have e1:∀ o p,Lang.scan [32,61,32] (o,p)=(o,p):=fun o p=>by simp [Lang.scan,brk]
  rw [St.txt,qbr,qbr,qbr,qgg _ _ (qsr hx.1),e1,a.scan 0 _ _ hx.2 h,e2,St.dep]
 | .store a b,d,o,p,hx,h=>by
  have e1:Lang.scan [115,116,111,114,101,40] (o,p)=(o+1,max p (o+1)):=by simp [Lang.scan,brk]
  have e2:∀ o p,Lang.scan [44,32] (o,p)=(o,p):=fun o p=>by simp [Lang.scan,brk]
  have e3:∀ o p,Lang.scan [41,59] (o,p)=(o-1,p):=fun o p=>by simp [Lang.scan,brk]
  rw [St.txt,qbr,qbr,qbr,qbr,e1,a.scan 0 _ _ hx.1 (by omega),e2,b.scan 0 _ _ hx.2 (by omega),e3,St.dep]
  congr 1<;>omega
 | .ite c l,d,o,p,hx,h=>by
  have e1:Lang.scan [105,102,32,40] (o,p)=(o+1,max p (o+1)):=by simp [Lang.scan,brk]
  have e2:∀ o p,Lang.scan [41,32] (o,p)=(o-1,p):=fun o p=>by simp [Lang.scan,brk]
  simp only [St.txt,qbr];rw [e1,c.scan hx.1 (by omega),e2,qpc (fun o p h=>l.scan (d+1) o p hx.2 h) (by omega),St.dep]
  congr 1<;>omega
 | .ites c l e,d,o,p,hx,h=>by
  have e1:Lang.scan [105,102,32,40] (o,p)=(o+1,max p (o+1)):=by simp [Lang.scan,brk]
  have e2:∀ o p,Lang.scan [41,32] (o,p)=(o-1,p):=fun o p=>by simp [Lang.scan,brk]
  have e3:∀ o p,Lang.scan [32,101,108,115,101,32] (o,p)=(o,p):=fun o p=>by simp [Lang.scan,brk]
  simp only [St.txt,qbr];rw [e1,c.scan hx.1 (by omega),e2,qpc (fun o p h=>l.scan (d+1) o p hx.2.1 h) (by omega),e3,qpc (fun o p h=>e.scan (d+1) o p hx.2.2 h) (by omega),St.dep]
  congr 1<;>omega
 | .loop c l,d,o,p,hx,h=>by
  have e1:Lang.scan [119,104,105,108,101,32,40] (o,p)=(o+1,max p (o+1)):=by simp [Lang.scan,brk]
  have e2:∀ o p,Lang.scan [41,32] (o,p)=(o-1,p):=fun o p=>by simp [Lang.scan,brk]
  simp only [St.txt,qbr];rw [e1,c.scan hx.1 (by omega),e2,qpc (fun o p h=>l.scan (d+1) o p hx.2 h) (by omega),St.dep]
  congr 1<;>omega
 | .atom l,d,o,p,hx,h=>by
  have e1:∀ o p,Lang.scan [97,116,111,109,105,99,32] (o,p)=(o,p):=fun o p=>by simp [Lang.scan,brk]
  simp only [St.txt,qbr];rw [e1,qpc (fun o p h=>l.scan (d+1) o p hx.1 h) (by omega),St.dep]
  congr 1<;>omega
 | .halt,d,o,p,hx,h=>by
  have e1:∀ o p,Lang.scan [104,97,108,116,59] (o,p)=(o,p):=fun o p=>by simp [Lang.scan,brk]
  rw [St.txt,e1,St.dep];congr 1;omega
theorem Ls.scan:∀ (x:Ls) (d:Nat) (o p:Int),x.ok->o<=p->Lang.scan (x.txt d) (o,p)=(o,max p (o+(x.dep:Nat)))
 | .nil,d,o,p,hx,h=>by rw [Ls.txt,Ls.dep];show (o,p)=_;congr 1;omega
 | .cons s l,d,o,p,hx,h=>by
  have e1:∀ o p,Lang.scan [10] (o,p)=(o,p):=fun o p=>by simp [Lang.scan,brk]
  rw [Ls.txt,qbr,qbr,qbr,qgg _ _ (q1k d),s.scan d _ _ hx.1 h,e1,l.scan d _ _ hx.2 (by omega),Ls.dep]
  congr 1;omega
end
end Lang
end Go.Am
namespace Go.Am
namespace Lang
def Nd.sh (b:Nat) (x:Nd):Nd:=⟨x.k,x.n,x.kids.map (·+(b:Int))⟩
theorem q6x:∀ f:List It,f.length<=szF f
 | []=>qg 0
 | x::r=>by have:=x.pos;have:=q6x r;simp only [szF,qk];omega
theorem q44:∀ (m:Nat) (f:List It),szF f<=m -> ∀ (b:Nat),∀ y ∈ encF f b,y.kids.length<=szF f:=by
 intro m
 induction m with
 | zero =>
  intro f hm b y hy
  cases f with
  | nil=>cases hy
  | cons x r=>have:=x.pos;simp only [szF] at hm;omega
 | succ m ih =>
  intro f hm b y hy
  cases f with
  | nil=>cases hy
  | cons x r =>
   have hs:=x.sz_eq
   have hp:=x.pos
   simp only [szF] at hm ⊢
   simp only [encF] at hy
   rcases xj.1 hy with q|q
   ·rw [x.enc_eq] at q
    rcases xj.1 q with q|q
    ·have:=ih x.ks (by omega) b y q;omega
    ·rw [xb] at q
     subst q
     have:=q6x x.ks
     simp only [It.nd,ints,xf,qaq];omega
   ·have:=ih r (by omega) _ y q;omega
theorem It.enc_kids (x:It) (b:Nat):∀ y ∈ x.enc b,y.kids.length<=x.sz:=by
 have:=q44 (szF [x]) [x] (qg _) b
 simpa [encF,szF] using this
def St.one (s:St):Ls:=.cons s .nil
theorem St.one_enc (s:St):s.one.encL 0=s.enc 0 ++ [⟨20,0,[((s.sz-1:Nat):Int)]⟩]:=by simp [St.one,Ls.encL,Ls.enc,Ls.ends,ints]
end Lang
end Go.Am
