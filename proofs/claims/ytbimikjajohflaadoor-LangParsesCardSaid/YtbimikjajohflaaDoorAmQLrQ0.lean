/- LrQ0: DecP TraceX TraceY TraceZ Strs NumP LangT LangU LangV LangW StkP NodeM Args8 ArgN ScanP SplitP. -/
import Derived.Test.YtbimikjajohflaaDoorAmQB4
import Derived.Test.YtbimikjajohflaaDoorAmQB1
import Derived.Test.YtbimikjajohflaaDoorAmQB5
set_option linter.unusedVariables false
set_option linter.unusedSimpArgs false
namespace Go.Am
namespace Lang
def dec (n:Nat):List UInt8:=if h:n<10 then [UInt8.ofNat (48+n)] else dec (n / 10) ++ [UInt8.ofNat (48+n % 10)]
termination_by n
decreasing_by omega
theorem qyp {n:Nat} (h:n<10):dec n=[UInt8.ofNat (48+n)]:=by rw [dec];simp [h]
theorem dec_ge {n:Nat} (h:10<=n):dec n=dec (n / 10) ++ [UInt8.ofNat (48+n % 10)]:=by rw [dec];simp [show ¬ n<10 by omega]
theorem dec_ne (n:Nat):dec n ≠ []:=by
 rw [dec];split<;>simp
theorem qyn:∀ (k n:Nat),n<10 ^ (k+1)->(dec n).length<=k+1
 | 0,n,h=>by rw [qyp (by simpa using h)];simp
 | k+1,n,h=>by
  by_cases h1:n<10
  ·rw [qyp h1];simp
  ·rw [dec_ge (by omega),qe]
   have:=qyn k (n / 10) (by rw [Nat.pow_succ] at h;omega)
   simp;omega
theorem qyo {n:Nat} (h:n<18446744073709551616):(dec n).length<=20:=qyn 19 n (qj h (by decide))
end Lang
end Go.Am
namespace Go.Am
namespace Tr
open Lang (dec)
abbrev B:=List UInt8
def named (k:Int):B:=if k=1 then [98,116,108] else if k=2\/k=3 then [98,116,97,118] else if k=4\/k=5 then [98,116] else if k=6 then [98,116,99] else if k=7\/k=8 then [97,118] else []
def wordsOf (l:UInt8):List B:=if l=108 then [[],[102,97,115,116],[115,108,111,119],[115,111,102,116],[115,101,114,105,97,108]] else if l=99 then [[],[99,111,110,102,108,105,99,116],[115,117,98],[99,97,112,97,99,105,116,121],[101,118,105,99,116],[115,112,117,114,105,111,117,115],[98,117,115,121],[105,108,108,101,103,97,108],[115,111,102,116]] else []
def getN (x:Evt) (l:UInt8):Int:=if l=118 then x.value else if l=98 then x.block else if l=116 then x.try' else if l=108 then x.lane else if l=97 then x.addr else x.code
def setN (x:Evt) (l:UInt8) (n:Int):Evt:=if l=118 then { x with value:=n } else if l=98 then { x with block:=n } else if l=116 then { x with try':=n } else if l=108 then { x with lane:=n } else if l=97 then { x with addr:=n } else { x with code:=n }
def mayN (l:UInt8) (n:Int):Bool:=if l=118 then true else decide (0<=n/\((wordsOf l).length=0\/1<=n/\n<(wordsOf l).length))
def fresh (k c t:Int):Evt:=⟨k,t,c,if 7<=k then -1 else 0,0,0,0,0,0⟩
def goSet (x:Evt):B->Evt->Option Evt
 | [],y=>some y
 | l::r,y=>if mayN l (getN x l) then goSet x r (setN y l (getN x l)) else none
def fineB (x:Evt):Bool:=decide (1<=x.kind/\x.kind<=8/\0<=x.core/\x.core<4/\0<=x.time) && decide (goSet x (named x.kind) (fresh x.kind x.core x.time)=some x)
def putB (n:Nat):B:=if h:n<128 then [UInt8.ofNat n] else UInt8.ofNat (n % 128+128)::putB (n / 128)
termination_by n
decreasing_by omega
theorem putB_lt {n:Nat} (h:n<128):putB n=[UInt8.ofNat n]:=by rw [putB];simp [h]
theorem putB_ge {n:Nat} (h:128<=n):putB n=UInt8.ofNat (n % 128+128)::putB (n / 128):=by rw [putB];simp [show ¬ n<128 by omega]
def numB (x:Evt) (l:UInt8):Nat:=(getN x l).toNat
def encE (x:Evt):B:=UInt8.ofNat x.kind.toNat::(putB x.core.toNat++(putB x.time.toNat++(named x.kind).flatMap fun l=>putB (numB x l)))
def takeGo:Nat->Nat->B->Option (Nat × B)
 | _,_,[]=>none
 | k,v,c::r=>if k=10\/k=9/\1<c.toNat then none else if c.toNat<128 then (if k=0\/0<c.toNat then some (v+c.toNat % 128*128 ^ k,r) else none) else takeGo (k+1) (v+c.toNat % 128*128 ^ k) r
def takeB (b:B):Option (Nat × B):=takeGo 0 0 b
def goTake:B->Evt->B->Option (Evt × B)
 | [],y,b=>some (y,b)
 | l::r,y,b=>match takeB b with
  | none=>none
  | some (v,b')=>if (l=118\/v<9223372036854775808)/\mayN l v then goTake r (setN y l v) b' else none
def oneB:B->Option (Evt × B)
 | []=>none
 | k::b=>if 1<=k.toNat/\k.toNat<=8 then
  match takeB b with
  | none=>none
  | some (c,b1)=>match takeB b1 with
   | none=>none
   | some (t,b2)=>if c<4/\t<9223372036854775808 then goTake (named k.toNat) (fresh k.toNat c t) b2 else none
  else none
end Tr
end Go.Am
namespace Go.Am
namespace Tr
theorem qrw {n:Nat} (h:n<256):(UInt8.ofNat n).toNat=n:=by simp [ww];omega
theorem pow_le9 {k:Nat} (h:128 ^ k<18446744073709551616):k<=9:=by
 rcases j2 k 10 with h1|h1
 ·omega
 ·have:128 ^ 10<=128 ^ k:=Nat.pow_le_pow_right (by decide) h1
  have:(128:Nat) ^ 10=1180591620717411303424:=by decide
  omega
theorem qz8 (n p:Nat):n % 128*p+n / 128*(p*128)=n*p:=by
 have h:n / 128*(p*128)=128*(n / 128)*p:=by rw [Nat.mul_comm p 128,<-Nat.mul_assoc,Nat.mul_comm (n / 128) 128]
 rw [h,<-ke,Nat.add_comm,Nat.div_add_mod]
theorem take_put (r:B):∀ (n k v:Nat),n*128 ^ k<18446744073709551616->(k=0\/0<n)->k<=9->takeGo k v (putB n++r)=some (v+n*128 ^ k,r):=by
 intro n
 induction n using Nat.strongRecOn with
 | _ n ih =>
  intro k v hn h0 hk
  have hk9:k=9->n<=1:=fun h=>by
   subst h
   have:(128:Nat) ^ 9=9223372036854775808:=by decide
   rw [this] at hn;omega
  by_cases h:n<128
  ·rw [putB_lt h,List.singleton_append,takeGo]
   have e:(UInt8.ofNat n).toNat=n:=qrw (by omega)
   rw [e,qx (by omega),xv h,xv (by omega),Nat.mod_eq_of_lt h]
  ·rw [putB_ge (by omega),jj,takeGo]
   have e:(UInt8.ofNat (n % 128+128)).toNat=n % 128+128:=qrw (by omega)
   rw [e,qx (by omega),qx (by omega)]
   have hle:128 ^ k*128<=n*128 ^ k:=by rw [Nat.mul_comm];exact ja _ (by omega)
   have hs:=qz8 n (128 ^ k)
   have hk':k+1<=9:=pow_le9 (by rw [Nat.pow_succ];omega)
   rw [ih (n / 128) (by omega) (k+1) _ (by rw [Nat.pow_succ];omega) (.inr (by omega)) hk']
   rw [Nat.pow_succ,show (n % 128+128) % 128=n % 128 by omega,j1,hs]
theorem qpr {n:Nat} (h:n<18446744073709551616) (r:B):takeB (putB n++r)=some (n,r):=by
 have:=take_put r n 0 0 (by simpa using h) (.inl rfl) (by decide)
 simpa [takeB] using this
def isL (l:UInt8):Prop:=l=118\/l=98\/l=116\/l=108\/l=97\/l=99
instance (l:UInt8):Decidable (isL l):=by unfold isL;infer_instance
theorem get_set {y:Evt} {l l':UInt8} {n:Int} (hl:isL l) (hl':isL l'):getN (setN y l n) l'=if l=l' then n else getN y l':=by
 rcases hl with rfl|rfl|rfl|rfl|rfl|rfl<;>rcases hl' with rfl|rfl|rfl|rfl|rfl|rfl<;>rfl
theorem named_ok (k:Int):(∀ l ∈ named k,isL l)/\(named k).Nodup:=by
 unfold named isL
 split;· decide
 split;· decide
 split;· decide
 split;· decide
 split<;>decide
structure EvR (x:Evt):Prop where
 v0:0<=x.value
 v:x.value<18446744073709551616
 core:x.core<9223372036854775808
 time:x.time<9223372036854775808
 kind:x.kind<9223372036854775808
 block:x.block<9223372036854775808
 tr:x.try'<9223372036854775808
 lane:x.lane<9223372036854775808
 addr:x.addr<9223372036854775808
 code:x.code<9223372036854775808
theorem EvR.get {x:Evt} (h:EvR x) {l:UInt8} (hl:isL l) (hm:mayN l (getN x l)=true):0<=getN x l/\getN x l<18446744073709551616/\(l=118\/getN x l<9223372036854775808):=by
 obtain ⟨h1,h2,h3,h4,h5,h6,h7,h8,h9,h10⟩:=h
 rcases hl with rfl|rfl|rfl|rfl|rfl|rfl
 ·exact ⟨h1,h2,.inl rfl⟩
 all_goals
  unfold mayN at hm;rw [qx (by decide)] at hm
  have:=(of_decide_eq_true hm).1
  refine ⟨this,?_,.inr ?_⟩<;>simp only [getN] at *<;>(first|omega|(simp at *;omega))
theorem qqi {x:Evt} (hx:EvR x) (r:B):∀ (ls:B) (y z:Evt),(∀ l ∈ ls,isL l)->goSet x ls y=some z->goTake ls y ((ls.flatMap fun l=>putB (numB x l))++r)=some (z,r)
 | [],y,z,_,h=>by injection h with h;subst h;rfl
 | l::ls,y,z,hl,h=>by
  rw [goSet] at h
  split at h
  ·rename_i hm
   obtain ⟨h1,h2,h3⟩:=hx.get (hl l (y0 ..)) hm
   have en:((numB x l:Nat):Int)=getN x l:=by unfold numB;omega
   rw [j8,qu,goTake,qpr (by unfold numB;omega)]
   simp only
   rw [xv ⟨h3.imp id fun q=>by unfold numB;omega,by rw [en];exact hm⟩,en]
   exact qqi hx r ls _ z (fun l' h'=>hl l' (yf _ h')) h
  ·cases h
theorem qxb {x:Evt} (h:fineB x=true):(1<=x.kind/\x.kind<=8/\0<=x.core/\x.core<4/\0<=x.time)/\goSet x (named x.kind) (fresh x.kind x.core x.time)=some x:=by
 simp only [fineB,xg,ye] at h;exact h
theorem one_enc {x:Evt} (hx:EvR x) (hf:fineB x=true) (r:B):oneB (encE x++r)=some (x,r):=by
 obtain ⟨⟨h1,h2,h3,h4,h5⟩,h6⟩:=qxb hf
 obtain ⟨hl,_⟩:=named_ok x.kind
 rw [encE,jj,oneB,qrw (by omega),xv (by omega),qu,qpr (by omega)]
 simp only
 rw [qu,qpr (by have:=hx.time;omega)]
 simp only
 rw [xv ⟨by omega,by have:=hx.time;omega⟩]
 have e1:((x.kind.toNat:Nat):Int)=x.kind:=by omega
 have e2:((x.core.toNat:Nat):Int)=x.core:=by omega
 have e3:((x.time.toNat:Nat):Int)=x.time:=by omega
 rw [e1,e2,e3]
 exact qqi hx r _ _ _ hl h6
end Tr
end Go.Am
namespace Go.Am
namespace Tr
open Lang (dec qyp dec_ge dec_ne)
def valOf (s:B):Nat:=s.foldl (fun a c=>a*10+(c.toNat-48)) 0
theorem q0l (s:B) (c:UInt8):valOf (s ++ [c])=valOf s*10+(c.toNat-48):=by simp [valOf]
end Tr
end Go.Am
namespace Go.Am
theorem qzy (H:AHeap) (b:Nat) (o o':AObj):(H.set b o).set b o'=H.set b o':=by simp only [AHeap.set,T.set,T.put,T.put_put]
theorem qxk {len size b o:Nat} {k:IntKind} {j:Int} {i:Nat} (hj:j=i) (hi:i<len):Op.indexArr len size [.ptr b o,.int k j]=some (.ptr b (o+i*size)):=by
 simp only [Op.indexArr,qfx hj hi,qh]
theorem qaq {s:List UInt8} {k:IntKind} {j:Int} {i:Nat} {c:UInt8} (hj:j=i) (hc:s[i]? = some c):Op.indexStr [.str s,.int k j]=some (.int .u8 c.toNat):=by
 have hi:i<s.length:=(xb.1 hc).1
 simp only [Op.indexStr,qfx hj hi,qh,qa7,hc]
theorem sl_row (H:AHeap) (c:List AV) (e:Nat) (fz:Nat × Nat) (ow:Bool):Sl (H.alloc (.row c e fz ow)) 1 (.slice H.next 0 c.length c.length) c.length c:=by
 refine ⟨by omega,rfl,qf _,.inr ⟨by rw [jh];omega,c,kh (jb H _),?_⟩⟩
 rw [vk,xv (by omega)];simp
def encB (c:UInt8):List AV:=[.int .u8 c.toNat]
theorem encB_len (c:UInt8):(encB c).length=1:=rfl
theorem qkp (l:List UInt8):l.flatMap encB=l.map fun c=>AV.int .u8 c.toNat:=by
 induction l with
 | nil=>rfl
 | cons a l ih=>rw [j8,ih];rfl
structure Aft (a:AV) (H:AHeap) (v:AV) (H':AHeap):Prop where
 fr:Fr (OnS a) H H'
 on:∀ b,OnS v b->OnS a b\/H.next<=b
theorem Aft.refl (a:AV) (H:AHeap):Aft a H a H:=⟨Fr.refl _,fun b h=>.inl h⟩
theorem Aft.trans {a v w:AV} {H H1 H2:AHeap} (h:Aft a H v H1) (h':Aft v H1 w H2):Aft a H w H2 :=
 ⟨h.fr.trans h'.fr h.on,fun b hb=>(h'.on b hb).elim (h.on b) fun q=>.inr (xw h.fr.next q)⟩
theorem Aft.em {a v:AV} {H H1 H2:AHeap} (h:Aft a H v H1) (f:Fr Em H1 H2):Aft a H v H2:=⟨h.fr.em f,h.on⟩
theorem Aft.pre {a v:AV} {H H1 H2:AHeap} (f:Fr Em H H1) (h:Aft a H1 v H2):Aft a H v H2:=(Aft.refl a H).em f |>.trans h
theorem Aft.get {a v:AV} {H H':AHeap} (h:Aft a H v H') {b:Nat} (hb:b<H.next) (hn:¬ OnS a b):H'.get b=H.get b/\b<H'.next /\ ¬ OnS v b :=
 ⟨h.fr.keep b hb hn,qj hb h.fr.next,fun q=>(h.on b q).elim hn fun r=>by omega⟩
theorem New.setOff {α:Type} {enc:α->List AV} {e size:Nat} {H0 H:AHeap} {v:AV} {xs:List α} (h:New enc e size H0 H v xs) {b:Nat} (hb:H0.next<=b) (hn:¬ OnS v b) (o:AObj):New enc e size H0 (H.set b o) v xs :=
 ⟨Own.fr h.own ((Fr.refl H).set (W:=On b) (.inl rfl) o) fun x hx (q:x=b)=>hn (by rw [<-q];exact hx),h.fr.set (.inr hb) _,h.fresh⟩
theorem Aft.setOff {a v:AV} {H H':AHeap} (h:Aft a H v H') {b:Nat} (hb:H.next<=b) (o:AObj):Aft a H v (H'.set b o):=⟨h.fr.set (.inr hb) _,h.on⟩
theorem qok (H:AHeap) (s:List UInt8):firstCells H 1 s.length (.str s)=some (s.map fun c=>AV.int .u8 c.toNat):=by
 show cond (Nat.beq 1 1) (some ((s.take s.length).map fun c=>AV.int .u8 c.toNat)) none=_
 rw [qb1];rfl
theorem qnv (s:List UInt8):lenV (.str s)=some s.length:=by show some (lenL s)=_;rw [qbk]
end Go.Am
namespace Go.Am
open Lang (dec)
theorem w_u64 {n:Nat} (h:n<18446744073709551616):wrapI .u64 (n:Int)=n:=by rw [qpv];omega
theorem qq7 {k:IntKind} {a d mx:Nat} (h:a<=mx):bound (some (.int k (a:Int))) d mx=some a:=by
 show cond (Nat.ble a mx) (some a) none=_
 rw [w5 h];rfl
theorem qo7 {s:List UInt8} {k k':IntKind} {a b:Nat} (h1:a<=b) (h2:b<=s.length):Op.sliceStr [some 0,some 1] [.str s,.int k (a:Int),.int k' (b:Int)]=some (.str ((s.take b).drop a)):=by
 show (bound (some (.int k' (b:Int))) s.length s.length).bind _=_
 rw [qq7 h2,qh]
 show (bound (some (.int k (a:Int))) 0 b).bind _=_
 rw [qq7 h1];rfl
theorem qu4 {s:List UInt8} {k:IntKind} {a:Nat} (h:a<=s.length):Op.sliceStr [some 0,none] [.str s,.int k (a:Int)]=some (.str (s.drop a)):=by
 show (bound (some (.int k (a:Int))) 0 s.length).bind _=_
 rw [qq7 h,qh,qb1]
theorem qu5 {s:List UInt8} {k:IntKind} {b:Nat} (h:b<=s.length):Op.sliceStr [none,some 0] [.str s,.int k (b:Int)]=some (.str (s.take b)):=by
 show (bound (some (.int k (b:Int))) s.length s.length).bind _=_
 rw [qq7 h];rfl
theorem qul (l:List UInt8):bytesOf (l.map fun c=>AV.int .u8 c.toNat)=some l:=by
 induction l with
 | nil=>rfl
 | cons a l ih =>
  show (byteOf (.int .u8 a.toNat)).bind (fun b=>(bytesOf (l.map fun c=>AV.int .u8 c.toNat)).bind fun r=>some (b::r))=_
  rw [ih];simp [byteOf]
def dig (n i:Nat):Nat:=48+n / 10 ^ i % 10
theorem dig_div (n i j:Nat):dig (n / 10 ^ i) j=dig n (i+j):=by rw [dig,dig,Nat.div_div_eq_div_mul,<-Nat.pow_add]
end Go.Am
namespace Go.Am
namespace Lang
structure Nd where
 k:Int
 n:Int
 kids:List Int
inductive Ex where
 | num (n:Nat)
 | var (v:Nat)
 | load (a:Ex)
 | bin (o:Nat) (a b:Ex)
structure Cn where
 k:Nat
 a:Ex
 b:Ex
mutual
inductive St where
 | set (v:Nat) (a:Ex)
 | store (a b:Ex)
 | ite (c:Cn) (l:Ls)
 | ites (c:Cn) (l e:Ls)
 | loop (c:Cn) (l:Ls)
 | atom (l:Ls)
 | halt
inductive Ls where
 | nil
 | cons (s:St) (l:Ls)
end
def Ex.sz:Ex->Nat
 | .num _=>1
 | .var _=>1
 | .load a=>a.sz+1
 | .bin _ a b=>a.sz+b.sz+1
def Cn.sz (c:Cn):Nat:=c.a.sz+c.b.sz+1
mutual
def St.sz:St->Nat
 | .set _ a=>a.sz+1
 | .store a b=>a.sz+b.sz+1
 | .ite c l=>c.sz+(l.sz+1)+1
 | .ites c l e=>c.sz+(l.sz+1)+(e.sz+1)+1
 | .loop c l=>c.sz+(l.sz+1)+1
 | .atom l=>l.sz+1+1
 | .halt=>1
def Ls.sz:Ls->Nat
 | .nil=>0
 | .cons s l=>s.sz+l.sz
end
theorem Ex.pos (x:Ex):0<x.sz:=by cases x<;>simp [Ex.sz]
theorem Cn.pos (x:Cn):0<x.sz:=by simp [Cn.sz]
theorem St.pos (x:St):0<x.sz:=by cases x<;>simp [St.sz]
def Ex.enc:Ex->Nat->List Nd
 | .num n,_=>[⟨1,n,[]⟩]
 | .var v,_=>[⟨2,v,[]⟩]
 | .load a,b=>a.enc b ++ [⟨3,0,[((b+a.sz-1:Nat):Int)]⟩]
 | .bin o x y,b=>x.enc b++(y.enc (b+x.sz) ++ [⟨o,0,[((b+x.sz-1:Nat):Int),((b+x.sz+y.sz-1:Nat):Int)]⟩])
def Cn.enc (c:Cn) (b:Nat):List Nd:=c.a.enc b++(c.b.enc (b+c.a.sz) ++ [⟨c.k,0,[((b+c.a.sz-1:Nat):Int),((b+c.a.sz+c.b.sz-1:Nat):Int)]⟩])
def Ls.ends:Ls->Nat->List Nat
 | .nil,_=>[]
 | .cons s l,b=>(b+s.sz-1)::l.ends (b+s.sz)
def ints (l:List Nat):List Int:=l.map fun (n:Nat)=>(n:Int)
mutual
def St.enc:St->Nat->List Nd
 | .set v a,b=>a.enc b ++ [⟨14,v,[((b+a.sz-1:Nat):Int)]⟩]
 | .store x y,b=>x.enc b++(y.enc (b+x.sz) ++ [⟨15,0,[((b+x.sz-1:Nat):Int),((b+x.sz+y.sz-1:Nat):Int)]⟩])
 | .ite c l,b=>c.enc b++(l.enc (b+c.sz)++([⟨20,0,ints (l.ends (b+c.sz))⟩] ++ [⟨16,0,[((b+c.sz-1:Nat):Int),((b+c.sz+l.sz:Nat):Int)]⟩]))
 | .ites c l e,b=>c.enc b++(l.enc (b+c.sz)++([⟨20,0,ints (l.ends (b+c.sz))⟩]++(e.enc (b+c.sz+(l.sz+1))++([⟨20,0,ints (e.ends (b+c.sz+(l.sz+1)))⟩] ++ [⟨16,0,[((b+c.sz-1:Nat):Int),((b+c.sz+l.sz:Nat):Int),((b+c.sz+(l.sz+1)+e.sz:Nat):Int)]⟩]))))
 | .loop c l,b=>c.enc b++(l.enc (b+c.sz)++([⟨20,0,ints (l.ends (b+c.sz))⟩] ++ [⟨17,0,[((b+c.sz-1:Nat):Int),((b+c.sz+l.sz:Nat):Int)]⟩]))
 | .atom l,b=>l.enc b++([⟨20,0,ints (l.ends b)⟩] ++ [⟨18,0,[((b+l.sz:Nat):Int)]⟩])
 | .halt,_=>[⟨19,0,[]⟩]
def Ls.enc:Ls->Nat->List Nd
 | .nil,_=>[]
 | .cons s l,b=>s.enc b++l.enc (b+s.sz)
end
def Ls.encL (l:Ls) (b:Nat):List Nd:=l.enc b ++ [⟨20,0,ints (l.ends b)⟩]
theorem Ex.len:∀ (x:Ex) (b:Nat),(x.enc b).length=x.sz
 | .num _,_=>rfl
 | .var _,_=>rfl
 | .load a,b=>by simp [Ex.enc,Ex.sz,a.len b]
 | .bin o x y,b=>by simp [Ex.enc,Ex.sz,x.len b,y.len];omega
theorem Cn.len (c:Cn) (b:Nat):(c.enc b).length=c.sz:=by simp [Cn.enc,Cn.sz,Ex.len];omega
mutual
theorem St.len:∀ (x:St) (b:Nat),(x.enc b).length=x.sz
 | .set _ a,b=>by simp [St.enc,St.sz,Ex.len]
 | .store x y,b=>by simp [St.enc,St.sz,Ex.len];omega
 | .ite c l,b=>by simp [St.enc,St.sz,Cn.len,l.len];omega
 | .ites c l e,b=>by simp [St.enc,St.sz,Cn.len,l.len,e.len];omega
 | .loop c l,b=>by simp [St.enc,St.sz,Cn.len,l.len];omega
 | .atom l,b=>by simp [St.enc,St.sz,l.len]
 | .halt,_=>rfl
theorem Ls.len:∀ (x:Ls) (b:Nat),(x.enc b).length=x.sz
 | .nil,_=>rfl
 | .cons s l,b=>by simp [Ls.enc,Ls.sz,s.len,l.len]
end
theorem Ls.lenL (l:Ls) (b:Nat):(l.encL b).length=l.sz+1:=by simp [Ls.encL,Ls.len]
mutual
def St.atm:St->Bool
 | .set _ _=>false
 | .store _ _=>false
 | .ite _ l=>l.atm
 | .ites _ l e=>l.atm || e.atm
 | .loop _ l=>l.atm
 | .atom _=>true
 | .halt=>false
def Ls.atm:Ls->Bool
 | .nil=>false
 | .cons s l=>s.atm || l.atm
end
def Ex.ok:Ex->Prop
 | .num _=>True
 | .var v=>v<=7
 | .load a=>a.ok
 | .bin o a b=>4<=o/\o<=10/\a.ok/\b.ok
def Cn.ok (c:Cn):Prop:=11<=c.k/\c.k<=13/\c.a.ok/\c.b.ok
mutual
def St.ok:St->Prop
 | .set v a=>v<=7/\a.ok
 | .store a b=>a.ok/\b.ok
 | .ite c l=>c.ok/\l.ok
 | .ites c l e=>c.ok/\l.ok/\e.ok
 | .loop c l=>c.ok/\l.ok
 | .atom l=>l.ok/\l.atm=false
 | .halt=>True
def Ls.ok:Ls->Prop
 | .nil=>True
 | .cons s l=>s.ok/\l.ok
end
def cls (k:Int):Int:=if 1<=k/\k<=10 then 1 else if 11<=k/\k<=13 then 2 else if 14<=k/\k<=19 then 3 else if k=20 then 4 else 0
def shape (k n:Int) (m:Nat):Option (List Int) :=
 if (k=2\/k=14)/\7<n \/ ¬ (k=2\/k=14)/\k ≠ 1/\n ≠ 0 then none
 else if k=1\/k=2\/k=19 then some []
 else if k=3\/k=14 then some [1]
 else if (4<=k/\k<=13)\/k=15 then some [1,1]
 else if k=16/\m=3 then some [2,4,4]
 else if k=16\/k=17 then some [2,4]
 else if k=18 then some [4]
 else if k=20 then some (List.replicate m 3)
 else none
def clsAt (t:List Nd) (i:Nat):Int:=match t[i]? with
 | some x=>cls x.k
 | none=>0
inductive It where
 | e (x:Ex) | c (x:Cn) | s (x:St) | l (x:Ls)
def It.sz:It->Nat
 | .e x=>x.sz | .c x=>x.sz | .s x=>x.sz | .l x=>x.sz+1
def It.enc:It->Nat->List Nd
 | .e x=>x.enc | .c x=>x.enc | .s x=>x.enc | .l x=>x.encL
def It.cls:It->Int
 | .e _=>1 | .c _=>2 | .s _=>3 | .l _=>4
def It.atm:It->Bool
 | .e _=>false | .c _=>false | .s x=>x.atm | .l x=>x.atm
def It.ok:It->Prop
 | .e x=>x.ok | .c x=>x.ok | .s x=>x.ok | .l x=>x.ok
theorem It.pos (x:It):0<x.sz:=by cases x<;>simp [It.sz,Ex.pos,Cn.pos,St.pos]
theorem It.len (x:It) (b:Nat):(x.enc b).length=x.sz:=by cases x<;>simp [It.sz,It.enc,Ex.len,Cn.len,St.len,Ls.lenL]
def encF:List It->Nat->List Nd
 | [],_=>[]
 | x::r,b=>x.enc b++encF r (b+x.sz)
def szF:List It->Nat
 | []=>0
 | x::r=>x.sz+szF r
def endsF:List It->Nat->List Nat
 | [],_=>[]
 | x::r,b=>(b+x.sz-1)::endsF r (b+x.sz)
theorem qnk:∀ (f:List It) (b:Nat),(encF f b).length=szF f
 | [],_=>rfl
 | x::r,b=>by simp [encF,szF,It.len,qnk r]
theorem qoe:∀ (f:List It) (b:Nat),(endsF f b).length=f.length
 | [],_=>rfl
 | x::r,b=>by simp [endsF,qoe r]
theorem It.last (x:It) (b:Nat):∃ y,(x.enc b)[x.sz-1]? = some y/\(x.ok->Lang.cls y.k=x.cls):=by
 have app:∀ (l:List Nd) (y:Nd),(l ++ [y])[l.length]? = some y:=fun l y=>by simp
 cases x with
 | e x =>
  cases x with
  | num n=>exact ⟨_,rfl,fun _=>rfl⟩
  | var v=>exact ⟨_,rfl,fun _=>rfl⟩
  | load a=>exact ⟨⟨3,0,_⟩,by have:=app (a.enc b) ⟨3,0,[((b+a.sz-1:Nat):Int)]⟩;rw [a.len] at this;exact this,fun _=>rfl⟩
  | bin o p q =>
   refine ⟨⟨o,0,[((b+p.sz-1:Nat):Int),((b+p.sz+q.sz-1:Nat):Int)]⟩,?_,fun h=>?_⟩
   ·have:=app (p.enc b++q.enc (b+p.sz)) ⟨o,0,[((b+p.sz-1:Nat):Int),((b+p.sz+q.sz-1:Nat):Int)]⟩
    rw [qe,p.len,q.len,qu] at this;exact this
   ·obtain ⟨h1,h2,_⟩:=h
    simp only [Lang.cls,It.cls];rw [xv (by omega)]
 | c c =>
  refine ⟨⟨c.k,0,[((b+c.a.sz-1:Nat):Int),((b+c.a.sz+c.b.sz-1:Nat):Int)]⟩,?_,fun h=>?_⟩
  ·have:=app (c.a.enc b++c.b.enc (b+c.a.sz)) ⟨c.k,0,[((b+c.a.sz-1:Nat):Int),((b+c.a.sz+c.b.sz-1:Nat):Int)]⟩
   rw [qe,Ex.len,Ex.len,qu] at this;exact this
  ·obtain ⟨h1,h2,_⟩:=h
   simp only [Lang.cls,It.cls];rw [qx (by omega),xv (by omega)]
 | s x =>
  have key:∀ (l:List Nd) (y:Nd),x.enc b=l ++ [y]->(x.enc b)[x.sz-1]? = some y:=fun l y h=>by
   have hl:=x.len b
   rw [h] at hl ⊢
   rw [qe] at hl
   have:x.sz-1=l.length:=by simp at hl;omega
   rw [this];exact app l y
  cases x with
  | set v a=>exact ⟨_,key _ _ rfl,fun _=>rfl⟩
  | store p q=>exact ⟨_,key (p.enc b++q.enc (b+p.sz)) ⟨15,0,[((b+p.sz-1:Nat):Int),((b+p.sz+q.sz-1:Nat):Int)]⟩ (by simp only [St.enc,qu]),fun _=>rfl⟩
  | ite c l=>exact ⟨_,key (c.enc b++(l.enc (b+c.sz) ++ [⟨20,0,ints (l.ends (b+c.sz))⟩])) _ (by simp only [St.enc,qu];rfl),fun _=>rfl⟩
  | ites c l e=>exact ⟨_,key (c.enc b++(l.enc (b+c.sz)++([⟨20,0,ints (l.ends (b+c.sz))⟩]++(e.enc (b+c.sz+(l.sz+1)) ++ [⟨20,0,ints (e.ends (b+c.sz+(l.sz+1)))⟩])))) _ (by simp only [St.enc,qu];rfl),fun _=>rfl⟩
  | loop c l=>exact ⟨_,key (c.enc b++(l.enc (b+c.sz) ++ [⟨20,0,ints (l.ends (b+c.sz))⟩])) _ (by simp only [St.enc,qu];rfl),fun _=>rfl⟩
  | atom l=>exact ⟨_,key (l.enc b ++ [⟨20,0,ints (l.ends b)⟩]) ⟨18,0,[((b+l.sz:Nat):Int)]⟩ (by simp only [St.enc,qu]),fun _=>rfl⟩
  | halt=>exact ⟨_,rfl,fun _=>rfl⟩
 | l x =>
  refine ⟨⟨20,0,ints (x.ends b)⟩,?_,fun _=>rfl⟩
  have:=app (x.enc b) ⟨20,0,ints (x.ends b)⟩
  rw [x.len] at this;exact this
end Lang
end Go.Am
namespace Go.Am
namespace Lang
def Ls.its:Ls->List It
 | .nil=>[]
 | .cons s l=>.s s::l.its
def It.ks:It->List It
 | .e (.num _)=>[] | .e (.var _)=>[] | .e (.load a)=>[.e a] | .e (.bin _ a b)=>[.e a,.e b]
 | .c x=>[.e x.a,.e x.b]
 | .s (.set _ a)=>[.e a] | .s (.store a b)=>[.e a,.e b] | .s (.ite q m)=>[.c q,.l m] | .s (.ites q m w)=>[.c q,.l m,.l w] | .s (.loop q m)=>[.c q,.l m] | .s (.atom m)=>[.l m] | .s .halt=>[]
 | .l x=>x.its
def It.kn:It->Int × Int
 | .e (.num n)=>(1,n) | .e (.var v)=>(2,v) | .e (.load _)=>(3,0) | .e (.bin o _ _)=>(o,0)
 | .c x=>(x.k,0)
 | .s (.set v _)=>(14,v) | .s (.store _ _)=>(15,0) | .s (.ite _ _)=>(16,0) | .s (.ites _ _ _)=>(16,0) | .s (.loop _ _)=>(17,0) | .s (.atom _)=>(18,0) | .s .halt=>(19,0)
 | .l _=>(20,0)
def It.nd (x:It) (b:Nat):Nd:=⟨x.kn.1,x.kn.2,ints (endsF x.ks b)⟩
theorem Ls.its_enc:∀ (l:Ls) (b:Nat),l.enc b=encF l.its b
 | .nil,_=>rfl
 | .cons s l,b=>by simp [Ls.enc,Ls.its,encF,It.enc,It.sz,l.its_enc]
theorem Ls.its_ends:∀ (l:Ls) (b:Nat),l.ends b=endsF l.its b
 | .nil,_=>rfl
 | .cons s l,b=>by simp [Ls.ends,Ls.its,endsF,It.sz,l.its_ends]
theorem Ls.its_cls:∀ (l:Ls),l.its.map It.cls=List.replicate l.its.length 3
 | .nil=>rfl
 | .cons s l=>by simp [Ls.its,It.cls,l.its_cls,qbr]
theorem Ls.its_ok:∀ (l:Ls),l.ok -> ∀ y ∈ l.its,y.ok
 | .nil,_,y,h=>by simp [Ls.its] at h
 | .cons s l,ho,y,h=>by
  rcases z6.1 h with rfl|h
  ·exact ho.1
  ·exact Ls.its_ok l ho.2 y h
theorem Ls.its_atm:∀ (l:Ls),l.its.any It.atm=l.atm
 | .nil=>rfl
 | .cons s l=>by simp [Ls.its,It.atm,Ls.atm,l.its_atm]
theorem It.enc_eq (x:It) (b:Nat):x.enc b=encF x.ks b ++ [x.nd b]:=by
 have pos:=Ex.pos;have cpos:=Cn.pos
 have z:∀ a:Nat,a+1-1=a:=fun a=>by omega
 match x with
 | .e (.num _)=>rfl
 | .e (.var _)=>rfl
 | .e (.load a)=>simp [It.enc,Ex.enc,It.ks,encF,It.nd,It.kn,endsF,It.sz,ints]
 | .e (.bin o p q)=>simp [It.enc,Ex.enc,It.ks,encF,It.nd,It.kn,endsF,It.sz,ints]
 | .c x=>simp [It.enc,Cn.enc,It.ks,encF,It.nd,It.kn,endsF,It.sz,ints]
 | .s (.set _ a)=>simp [It.enc,St.enc,It.ks,encF,It.nd,It.kn,endsF,It.sz,ints]
 | .s (.store p q)=>simp [It.enc,St.enc,It.ks,encF,It.nd,It.kn,endsF,It.sz,ints]
 | .s (.ite q m)=>simp [It.enc,St.enc,It.ks,encF,It.nd,It.kn,endsF,It.sz,ints,Ls.encL]
 | .s (.ites q m w)=>simp [It.enc,St.enc,It.ks,encF,It.nd,It.kn,endsF,It.sz,ints,Ls.encL]
 | .s (.loop q m)=>simp [It.enc,St.enc,It.ks,encF,It.nd,It.kn,endsF,It.sz,ints,Ls.encL]
 | .s (.atom m)=>simp [It.enc,St.enc,It.ks,encF,It.nd,It.kn,endsF,It.sz,ints,Ls.encL]
 | .s .halt=>rfl
 | .l m=>simp [It.enc,Ls.encL,It.ks,It.nd,It.kn,m.its_enc,m.its_ends]
theorem It.sz_eq (x:It):x.sz=szF x.ks+1:=by
 have h:=congrArg List.length (x.enc_eq 0)
 rw [It.len,qe,qnk] at h;exact h
theorem It.ok_view (x:It) (h:x.ok):shape x.kn.1 x.kn.2 x.ks.length=some (x.ks.map It.cls)/\(∀ y ∈ x.ks,y.ok)/\x.atm=(x.ks.any It.atm || decide (x.kn.1=18))/\(x.kn.1=18->x.ks.any It.atm=false):=by
 match x,h with
 | .e (.num n),h=>exact ⟨by simp [shape,It.kn,It.ks],by simp [It.ks],by simp [It.atm,It.ks,It.kn],by simp [It.kn]⟩
 | .e (.var v),h =>
  have h:v<=7:=h
  exact ⟨by simp [shape,It.kn,It.ks];omega,by simp [It.ks],by simp [It.atm,It.ks,It.kn],by simp [It.kn]⟩
 | .e (.load a),h =>
  have h:a.ok:=h
  exact ⟨by simp [shape,It.kn,It.ks,It.cls],by simp [It.ks,It.ok,h],by simp [It.atm,It.ks,It.kn],by simp [It.kn]⟩
 | .e (.bin o a b),h =>
  obtain ⟨h1,h2,h3,h4⟩:=h
  refine ⟨?_,by simp [It.ks,It.ok,h3,h4],?_,?_⟩
  ·show shape (o:Int) 0 2=some [1,1]
   unfold shape
   rw [qx (by omega),qx (by omega),qx (by omega),xv (by omega)]
  ·have:¬ ((o:Int)=18):=by omega
   simp [It.atm,It.ks,It.kn,this]
  ·intro e;simp only [It.kn] at e;omega
 | .c x,h =>
  obtain ⟨h1,h2,h3,h4⟩:=h
  refine ⟨?_,by simp [It.ks,It.ok,h3,h4],?_,?_⟩
  ·show shape (x.k:Int) 0 2=some [1,1]
   unfold shape
   rw [qx (by omega),qx (by omega),qx (by omega),xv (by omega)]
  ·have:¬ ((x.k:Int)=18):=by omega
   simp [It.atm,It.ks,It.kn,this]
  ·intro e;simp only [It.kn] at e;omega
 | .s (.set v a),h =>
  obtain ⟨h,h'⟩:=h
  exact ⟨by simp [shape,It.kn,It.ks,It.cls];omega,by simp [It.ks,It.ok,h'],by simp [It.atm,St.atm,It.ks,It.kn],by simp [It.kn]⟩
 | .s (.store a b),h=>exact ⟨by simp [shape,It.kn,It.ks,It.cls],by simp [It.ks,It.ok,h.1,h.2],by simp [It.atm,St.atm,It.ks,It.kn],by simp [It.kn]⟩
 | .s (.ite q m),h=>exact ⟨by simp [shape,It.kn,It.ks,It.cls],by simp [It.ks,It.ok,h.1,h.2],by simp [It.atm,St.atm,It.ks,It.kn],by simp [It.kn]⟩
 | .s (.ites q m w),h=>exact ⟨by simp [shape,It.kn,It.ks,It.cls],by simp [It.ks,It.ok,h.1,h.2.1,h.2.2],by simp [It.atm,St.atm,It.ks,It.kn],by simp [It.kn]⟩
 | .s (.loop q m),h=>exact ⟨by simp [shape,It.kn,It.ks,It.cls],by simp [It.ks,It.ok,h.1,h.2],by simp [It.atm,St.atm,It.ks,It.kn],by simp [It.kn]⟩
 | .s (.atom m),h=>exact ⟨by simp [shape,It.kn,It.ks,It.cls],by simp [It.ks,It.ok,h.1],by simp [It.atm,St.atm,It.ks,It.kn],fun _=>by simp [It.ks,It.atm,h.2]⟩
 | .s .halt,h=>exact ⟨by simp [shape,It.kn,It.ks],by simp [It.ks],by simp [It.atm,St.atm,It.ks,It.kn],by simp [It.kn]⟩
 | .l m,h=>exact ⟨by simp [shape,It.kn,It.ks,m.its_cls],m.its_ok h,by simp [It.atm,It.ks,It.kn,m.its_atm],by simp [It.kn]⟩
def Ls.of:List It->Ls
 | .s x::r=>.cons x (Ls.of r)
 | _=>.nil
theorem Ls.of_its:∀ (f:List It) (n:Nat),f.map It.cls=List.replicate n 3->(Ls.of f).its=f/\((∀ y ∈ f,y.ok)->(Ls.of f).ok)
 | [],_,_=>⟨rfl,fun _=>trivial⟩
 | x::r,0,h=>by simp at h
 | x::r,n+1,h=>by
  rw [x3,qbr,qz] at h
  obtain ⟨h1,h2⟩:=Ls.of_its r n h.2
  cases x with
  | s x=>exact ⟨by simp [Ls.of,Ls.its,h1],fun ho=>⟨ho (.s x) (by simp),h2 fun y hy=>ho y (by simp [hy])⟩⟩
  | e x=>simp [It.cls] at h
  | c x=>simp [It.cls] at h
  | l x=>simp [It.cls] at h
theorem len2 {α:Type} {f:List α} (h:f.length=2):∃ x y,f=[x,y]:=by
 cases f with
 | nil=>cases h
 | cons x f=>obtain ⟨y,rfl⟩:=List.length_eq_one_iff.1 (by simpa using h:f.length=1);exact ⟨x,y,rfl⟩
theorem len3 {α:Type} {f:List α} (h:f.length=3):∃ x y z,f=[x,y,z]:=by
 cases f with
 | nil=>cases h
 | cons x f=>obtain ⟨y,z,rfl⟩:=len2 (by simpa using h:f.length=2);exact ⟨x,y,z,rfl⟩
theorem cls_e {f:List It} (h:f.map It.cls=[1]):∃ a,f=[.e a]:=by
 obtain ⟨x,rfl⟩:=List.length_eq_one_iff.1 (by simpa using congrArg List.length h:f.length=1)
 cases x<;>simp [It.cls] at h;exact ⟨_,rfl⟩
theorem cls_l {f:List It} (h:f.map It.cls=[4]):∃ a,f=[.l a]:=by
 obtain ⟨x,rfl⟩:=List.length_eq_one_iff.1 (by simpa using congrArg List.length h:f.length=1)
 cases x<;>simp [It.cls] at h;exact ⟨_,rfl⟩
theorem cls_ee {f:List It} (h:f.map It.cls=[1,1]):∃ a b,f=[.e a,.e b]:=by
 obtain ⟨x,y,rfl⟩:=len2 (by simpa using congrArg List.length h:f.length=2)
 cases x<;>cases y<;>simp [It.cls] at h;exact ⟨_,_,rfl⟩
theorem cls_cl {f:List It} (h:f.map It.cls=[2,4]):∃ a b,f=[.c a,.l b]:=by
 obtain ⟨x,y,rfl⟩:=len2 (by simpa using congrArg List.length h:f.length=2)
 cases x<;>cases y<;>simp [It.cls] at h;exact ⟨_,_,rfl⟩
theorem cls_cll {f:List It} (h:f.map It.cls=[2,4,4]):∃ a b c,f=[.c a,.l b,.l c]:=by
 obtain ⟨x,y,z,rfl⟩:=len3 (by simpa using congrArg List.length h:f.length=3)
 cases x<;>cases y<;>cases z<;>simp [It.cls] at h;exact ⟨_,_,_,rfl⟩
theorem It.of {k n:Int} {f:List It} (hn:0<=n) (hs:shape k n f.length=some (f.map It.cls)) (hok:∀ y ∈ f,y.ok) (ha:k=18->f.any It.atm=false):∃ x:It,x.ks=f/\x.kn=(k,n)/\x.ok:=by
 unfold shape at hs
 split at hs
 ·cases hs
 rename_i h0
 split at hs
 ·rename_i h1
  have:f=[]:=by simpa using hs.symm
  subst this
  rcases h1 with rfl|rfl|rfl
  ·exact ⟨.e (.num n.toNat),rfl,by simp [It.kn];omega,trivial⟩
  ·exact ⟨.e (.var n.toNat),rfl,by simp [It.kn];omega,show n.toNat<=7 by omega⟩
  ·exact ⟨.s .halt,rfl,by simp [It.kn];omega,trivial⟩
 split at hs
 ·rename_i h1 h2
  obtain ⟨a,rfl⟩:=cls_e (kj hs).symm
  have:=hok (.e a) (by simp)
  rcases h2 with rfl|rfl
  ·exact ⟨.e (.load a),rfl,by simp [It.kn];omega,this⟩
  ·exact ⟨.s (.set n.toNat a),rfl,by simp [It.kn];omega,by omega,this⟩
 split at hs
 ·rename_i h1 h2 h3
  obtain ⟨a,b,rfl⟩:=cls_ee (kj hs).symm
  have o1:=hok (.e a) (by simp)
  have o2:=hok (.e b) (by simp)
  rcases h3 with ⟨h4,h5⟩|rfl
  ·by_cases h6:k<=10
   ·exact ⟨.e (.bin k.toNat a b),rfl,by simp [It.kn];omega,by omega,by omega,o1,o2⟩
   ·exact ⟨.c ⟨k.toNat,a,b⟩,rfl,by simp [It.kn];omega,by simp only;omega,by simp only;omega,o1,o2⟩
  ·exact ⟨.s (.store a b),rfl,by simp [It.kn];omega,o1,o2⟩
 split at hs
 ·rename_i h1 h2 h3 h4
  obtain ⟨a,b,c,rfl⟩:=cls_cll (kj hs).symm
  obtain ⟨rfl,_⟩:=h4
  exact ⟨.s (.ites a b c),rfl,by simp [It.kn];omega,hok (.c a) (by simp),hok (.l b) (by simp),hok (.l c) (by simp)⟩
 split at hs
 ·rename_i h1 h2 h3 h4 h5
  obtain ⟨a,b,rfl⟩:=cls_cl (kj hs).symm
  rcases h5 with rfl|rfl
  ·exact ⟨.s (.ite a b),rfl,by simp [It.kn];omega,hok (.c a) (by simp),hok (.l b) (by simp)⟩
  ·exact ⟨.s (.loop a b),rfl,by simp [It.kn];omega,hok (.c a) (by simp),hok (.l b) (by simp)⟩
 split at hs
 ·rename_i h1 h2 h3 h4 h5 h6
  subst h6
  obtain ⟨a,rfl⟩:=cls_l (kj hs).symm
  exact ⟨.s (.atom a),rfl,by simp [It.kn];omega,hok (.l a) (by simp),by simpa [It.atm] using ha rfl⟩
 split at hs
 ·rename_i h1 h2 h3 h4 h5 h6 h7
  subst h7
  obtain ⟨h8,h9⟩:=Ls.of_its f f.length (kj hs).symm
  exact ⟨.l (Ls.of f),h8,by simp [It.kn];omega,h9 hok⟩
 ·cases hs
theorem map_of {α β γ:Type} {p:β -> γ} {q:α -> γ} {l:List β} {m:List α} (hl:l.length=m.length) (h:∀ (k:Nat) (x:β) (y:α),l[k]? = some x->m[k]? = some y->p x=q y):l.map p=m.map q:=by
 apply List.ext_getElem?
 intro k
 rw [x5,x5]
 cases hx:l[k]? with
 | none=>rw [List.getElem?_eq_none_iff] at hx;rw [List.getElem?_eq_none (by omega)];rfl
 | some x =>
  have:k<m.length:=by rw [<-hl];exact (xb.1 hx).1
  rw [yr this]
  simp only [wg]
  rw [h k x m[k] hx (yr this)]
def FlOk (fl:List Bool) (f:List It) (b:Nat):Prop:=∀ (k:Nat) e x,(endsF f b)[k]? = some e->f[k]? = some x->fl.getD e false=x.atm
theorem FlOk.any {fl:List Bool} {f:List It} {b:Nat} (h:FlOk fl f b):((endsF f b).any fun j=>fl.getD j false)=f.any It.atm:=by
 have:=map_of (qoe f b) (p:=fun j=>fl.getD j false) (q:=It.atm) h
 have e:=congrArg (fun l=>l.any id) this
 simpa [List.any_map,Function.comp_def] using e
end Lang
end Go.Am
namespace Go.Am
namespace Lang
def sgn (o:Nat):List UInt8:=if o=4 then [43] else if o=5 then [45] else if o=6 then [42] else if o=7 then [38] else if o=8 then [94] else if o=9 then [60,60] else [62,62]
def rowOf (o:Nat):Nat:=if o=4\/o=5\/o=8 then 1 else 2
def csgn (k:Nat):List UInt8:=if k=11 then [32,61,61,32] else if k=12 then [32,33,61,32] else [32,60,32]
def letter (v:Nat):List UInt8:=[UInt8.ofNat (97+v)]
def par (q:Prop) [Decidable q] (s:List UInt8):List UInt8:=if q then s else []
def Ex.txt:Ex->Nat->List UInt8
 | .num n,_=>dec n
 | .var v,_=>letter v
 | .load a,_=>[108,111,97,100,40]++a.txt 0 ++ [41]
 | .bin o a b,least=>par (rowOf o<least) [40]++a.txt (rowOf o)++([32]++sgn o ++ [32])++b.txt (rowOf o+1)++par (rowOf o<least) [41]
def Cn.txt (c:Cn):List UInt8:=c.a.txt 0++csgn c.k++c.b.txt 0
def ind (deep:Nat):List UInt8:=List.replicate (2*deep) 32
mutual
def St.txt:St->Nat->List UInt8
 | .set v a,_=>letter v ++ [32,61,32]++a.txt 0 ++ [59]
 | .store a b,_=>[115,116,111,114,101,40]++a.txt 0 ++ [44,32]++b.txt 0 ++ [41,59]
 | .ite c l,d=>[105,102,32,40]++c.txt ++ [41,32]++([123,10]++l.txt (d+1)++(ind d ++ [125]))
 | .ites c l e,d=>[105,102,32,40]++c.txt ++ [41,32]++([123,10]++l.txt (d+1)++(ind d ++ [125])) ++ [32,101,108,115,101,32]++([123,10]++e.txt (d+1)++(ind d ++ [125]))
 | .loop c l,d=>[119,104,105,108,101,32,40]++c.txt ++ [41,32]++([123,10]++l.txt (d+1)++(ind d ++ [125]))
 | .atom l,d=>[97,116,111,109,105,99,32]++([123,10]++l.txt (d+1)++(ind d ++ [125]))
 | .halt,_=>[104,97,108,116,59]
def Ls.txt:Ls->Nat->List UInt8
 | .nil,_=>[]
 | .cons s l,d=>ind d++s.txt d ++ [10]++l.txt d
end
def brk (c:UInt8) (o p:Int):Int × Int:=if c=40\/c=123 then (o+1,max p (o+1)) else if c=41\/c=125 then (o-1,p) else (o,p)
def scan:List UInt8->Int × Int->Int × Int
 | [],q=>q
 | c::s,q=>scan s (brk c q.1 q.2)
theorem qam (a b:List UInt8) (q:Int × Int):scan (a++b) q=scan b (scan a q):=by
 induction a generalizing q with
 | nil=>rfl
 | cons c a ih=>exact ih _
end Lang
end Go.Am
namespace Go.Am
namespace Lang
def Seg (t:List Nd) (b:Nat) (l:List Nd):Prop:=∀ i x,l[i]? = some x->t[b+i]? = some x
theorem Seg.all (t:List Nd):Seg t 0 t:=fun i x h=>by rw [ju];exact h
theorem Seg.left {t:List Nd} {b:Nat} {l m:List Nd} (h:Seg t b (l++m)):Seg t b l:=fun i x hx=>h i x (by rw [j3 (xb.1 hx).1];exact hx)
theorem Seg.right {t:List Nd} {b:Nat} {l m:List Nd} (h:Seg t b (l++m)) {c:Nat} (hc:c=b+l.length):Seg t c m:=fun i x hx=>by
 subst hc
 have:=h (l.length+i) x (by rw [jm (by omega)];simpa using hx)
 rw [j1];exact this
theorem Seg.one {t:List Nd} {b:Nat} {x:Nd} {m:List Nd} (h:Seg t b (x::m)):t[b]? = some x:=h 0 x rfl
theorem Seg.nd {t:List Nd} {b:Nat} {x:It} (h:Seg t b (x.enc b)):t[b+x.sz-1]? = some (x.nd b)/\Seg t b (encF x.ks b):=by
 rw [It.enc_eq] at h
 refine ⟨?_,h.left⟩
 have:=(h.right (c:=b+x.sz-1) (by rw [qnk,It.sz_eq];omega)).one
 exact this
theorem Seg.cons {t:List Nd} {b:Nat} {x:It} {r:List It} (h:Seg t b (encF (x::r) b)):Seg t b (x.enc b)/\Seg t (b+x.sz) (encF r (b+x.sz)) :=
 ⟨Seg.left h,Seg.right h (by rw [It.len])⟩
theorem Seg.lt {t:List Nd} {b:Nat} {x:It} (h:Seg t b (x.enc b)):b+x.sz<=t.length:=by
 have:=(xb.1 h.nd.1).1
 have:=x.pos;omega
theorem It.sub (t:List Nd):∀ (m:Nat) (f:List It) (b n:Nat),szF f<=m->(∀ y ∈ f,y.ok)->Seg t b (encF f b)->b<=n->n<b+szF f -> ∃ (x:It) (c:Nat),x.ok/\Seg t c (x.enc c)/\n=c+x.sz-1/\b<=c:=by
 intro m
 induction m with
 | zero=>intro f b n hm _ _ h1 h2;omega
 | succ m ih =>
  intro f b n hm hok hs h1 h2
  cases f with
  | nil=>simp [szF] at h2;omega
  | cons x r =>
   obtain ⟨s1,s2⟩:=hs.cons
   have hx:=hok x (by simp)
   have hsz:=x.sz_eq
   simp only [szF] at hm h2
   rcases j2 n (b+x.sz) with q|q
   ·by_cases hl:n=b+x.sz-1
    ·exact ⟨x,b,hx,s1,hl,qf _⟩
    ·exact ih x.ks b n (by omega) (x.ok_view hx).2.1 s1.nd.2 h1 (by omega)
   ·obtain ⟨y,c,k1,k2,k3,k4⟩:=ih r (b+x.sz) n (by have:=x.pos;omega) (fun y hy=>hok y (by simp [hy])) s2 q (by omega)
    exact ⟨y,c,k1,k2,k3,by omega⟩
theorem Ls.sub {p:Ls} (hp:p.ok) {n:Nat} (hn:n<(p.encL 0).length):∃ (x:It) (c:Nat),x.ok/\Seg (p.encL 0) c (x.enc c)/\n=c+x.sz-1:=by
 obtain ⟨x,c,h1,h2,h3,_⟩:=It.sub (p.encL 0) (szF [.l p]) [.l p] 0 n (qf _) (fun y hy=>by rw [xp.1 hy];exact hp) (by
  have e:encF [.l p] 0=p.encL 0:=by simp [encF,It.enc]
  rw [e];exact Seg.all _) (jo _) (by rw [Ls.lenL] at hn;simpa [szF,It.sz] using hn)
 exact ⟨x,c,h1,h2,h3⟩
theorem sgn_len (o:Nat):(sgn o).length<=2:=by unfold sgn;(repeat' split)<;>decide
theorem csgn_len (o:Nat):(csgn o).length<=4:=by unfold csgn;(repeat' split)<;>decide
theorem par_len (q:Prop) [Decidable q]:(par q [40]).length<=1/\(par q [41]).length<=1:=by unfold par;constructor<;>(split<;>decide)
def Ex.small:Ex->Prop
 | .num n=>n<18446744073709551616
 | .var _=>True
 | .load a=>a.small
 | .bin _ a b=>a.small/\b.small
def Cn.small (c:Cn):Prop:=c.a.small/\c.b.small
mutual
def St.small:St->Prop
 | .set _ a=>a.small
 | .store a b=>a.small/\b.small
 | .ite c l=>c.small/\l.small
 | .ites c l e=>c.small/\l.small/\e.small
 | .loop c l=>c.small/\l.small
 | .atom l=>l.small
 | .halt=>True
def Ls.small:Ls->Prop
 | .nil=>True
 | .cons s l=>s.small/\l.small
end
theorem Ex.txt_len:∀ (x:Ex) (d:Nat),x.small->(x.txt d).length<=30*x.sz
 | .num n,d,h=>by have:=qyo (n:=n) h;simp only [Ex.txt,Ex.sz];omega
 | .var v,d,_=>by simp [Ex.txt,letter,Ex.sz]
 | .load a,d,h=>by have:=a.txt_len 0 h;simp only [Ex.txt,Ex.sz,qe,xk,js];omega
 | .bin o a b,d,h=>by
  have:=a.txt_len (rowOf o) h.1;have:=b.txt_len (rowOf o+1) h.2;have:=sgn_len o;obtain ⟨_,_⟩:=par_len (rowOf o<d)
  simp only [Ex.txt,Ex.sz,qe,xk,js];omega
theorem Cn.txt_len (c:Cn) (h:c.small):c.txt.length<=30*c.sz:=by
 have:=c.a.txt_len 0 h.1;have:=c.b.txt_len 0 h.2;have:=csgn_len c.k
 simp only [Cn.txt,Cn.sz,qe];omega
theorem qoo (d:Nat):(ind d).length=2*d:=by simp [ind]
mutual
theorem St.txt_len:∀ (x:St) (d k:Nat),x.small->d+x.sz<=k->(x.txt d).length+(2*d+1)<=(40+8*k)*x.sz
 | .set v a,d,k,h,hd=>by
  have:=a.txt_len 0 h
  simp only [St.txt,St.sz,letter,qe,xk,js,ke]
  have:8*k*(a.sz+1)=8*k*a.sz+8*k:=by rw [qej,qba]
  omega
 | .store a b,d,k,h,hd=>by
  have:=a.txt_len 0 h.1;have:=b.txt_len 0 h.2
  simp only [St.sz] at hd
  have e:(40+8*k)*(a.sz+b.sz+1)=40*a.sz+8*k*a.sz+(40*b.sz+8*k*b.sz)+(40+8*k):=by simp only [qej,qba,ke]
  simp only [St.txt,St.sz,qe,xk,js];omega
 | .ite c l,d,k,h,hd=>by
  simp only [St.sz] at hd
  have cp:=c.pos
  have:=c.txt_len h.1;have:=l.txt_len (d+1) k h.2 (by omega);have:=qoo d
  have e:(40+8*k)*(c.sz+(l.sz+1)+1)=(40+8*k)*c.sz+(40+8*k)*l.sz+(40+8*k)+(40+8*k):=by simp only [qej,qba];omega
  have e2:30*c.sz<=(40+8*k)*c.sz:=ja _ (by omega)
  simp only [St.txt,St.sz,qe,xk,js];omega
 | .ites c l m,d,k,h,hd=>by
  simp only [St.sz] at hd
  have cp:=c.pos
  have:=c.txt_len h.1;have:=l.txt_len (d+1) k h.2.1 (by omega);have:=m.txt_len (d+1) k h.2.2 (by omega);have:=qoo d
  have e:(40+8*k)*(c.sz+(l.sz+1)+(m.sz+1)+1)=(40+8*k)*c.sz+(40+8*k)*l.sz+(40+8*k)*m.sz+(40+8*k)+(40+8*k)+(40+8*k):=by simp only [qej,qba];omega
  have e2:30*c.sz<=(40+8*k)*c.sz:=ja _ (by omega)
  simp only [St.txt,St.sz,qe,xk,js];omega
 | .loop c l,d,k,h,hd=>by
  simp only [St.sz] at hd
  have cp:=c.pos
  have:=c.txt_len h.1;have:=l.txt_len (d+1) k h.2 (by omega);have:=qoo d
  have e:(40+8*k)*(c.sz+(l.sz+1)+1)=(40+8*k)*c.sz+(40+8*k)*l.sz+(40+8*k)+(40+8*k):=by simp only [qej,qba];omega
  have e2:30*c.sz<=(40+8*k)*c.sz:=ja _ (by omega)
  simp only [St.txt,St.sz,qe,xk,js];omega
 | .atom l,d,k,h,hd=>by
  simp only [St.sz] at hd
  have:=l.txt_len (d+1) k h (by omega);have:=qoo d
  have e:(40+8*k)*(l.sz+1+1)=(40+8*k)*l.sz+(40+8*k)+(40+8*k):=by simp only [qej,qba]
  simp only [St.txt,St.sz,qe,xk,js];omega
 | .halt,d,k,h,hd=>by simp only [St.txt,St.sz,xk,js];omega
theorem Ls.txt_len:∀ (x:Ls) (d k:Nat),x.small->d+x.sz<=k->(x.txt d).length<=(40+8*k)*x.sz
 | .nil,d,k,h,hd=>by simp [Ls.txt]
 | .cons s l,d,k,h,hd=>by
  simp only [Ls.sz] at hd
  have:=s.txt_len d k h.1 (by omega);have:=l.txt_len d k h.2 (by omega);have:=qoo d
  have e:(40+8*k)*(s.sz+l.sz)=(40+8*k)*s.sz+(40+8*k)*l.sz:=qej ..
  simp only [Ls.txt,Ls.sz,qe,xk,js];omega
end
end Lang
end Go.Am
namespace Go.Am
def encZ (x:Nat):List AV:=[.int .i64 (x:Int)]
theorem qyu (l:List Nat):l.flatMap encZ=l.map fun (x:Nat)=>AV.int .i64 (x:Int):=by
 induction l with
 | nil=>rfl
 | cons a l ih=>rw [j8,ih];rfl
theorem qdv (l:List Nat):(l.flatMap encZ).length=l.length:=by rw [qyu,qn]
structure Stk (e:Nat) (H0 H:AHeap) (v:AV) (xs:List Nat):Prop where
 own:(v=.nils/\xs=[]) \/ ∃ b m rest,v=.gslice b 0 m 1 0 xs.length/\b<H.next/\H0.next<=b/\m=xs.length+rest.length/\H.get b=some (.grown m 1 (xs.flatMap encZ++rest) e (0,0))
 fr:Fr Em H0 H
section
variable {e:Nat} {H0 H:AHeap} {v:AV} {xs:List Nat}
theorem Stk.nil (e:Nat) (H:AHeap):Stk e H H .nils []:=⟨.inl ⟨rfl,rfl⟩,Fr.refl H⟩
theorem Stk.fresh (h:Stk e H0 H v xs):∀ b,OnS v b->H0.next<=b/\b<H.next:=by
 rintro b ⟨h1,rfl⟩
 rcases h.own with ⟨rfl,_⟩|⟨b,m,rest,rfl,q1,q2,_⟩
 ·exact (h1 rfl).elim
 ·exact ⟨q2,q1⟩
theorem Stk.sl (h:Stk e H0 H v xs):SlT encZ 1 H v xs:=by
 rcases h.own with ⟨rfl,rfl⟩|⟨b,m,rest,rfl,q1,q2,q3,q4⟩
 ·exact ⟨rfl,rfl⟩
 ·refine ⟨by rw [qdv,qba],rfl,rfl,by omega,.inr ⟨q1,_,qht q4,?_⟩⟩
  rw [vk,xv (by rw [qe,qdv];omega),wf,List.drop_zero,qba,List.take_append_of_le_length (by rw [qdv];exact qf _),ji (by rw [qdv];exact qf _)]
theorem Stk.frW {H':AHeap} {W:Nat->Prop} (h:Stk e H0 H v xs) (f:Fr W H H') (f0:Fr Em H0 H') (hw:∀ b,OnS v b -> ¬ W b):Stk e H0 H' v xs:=by
 refine ⟨?_,f0⟩
 rcases h.own with q|⟨b,m,rest,rfl,q1,q2,q3,q4⟩
 ·exact .inl q
 ·exact .inr ⟨b,m,rest,rfl,qj q1 f.next,q2,q3,by rw [f.keep b q1 (hw b ⟨by simp,rfl⟩)];exact q4⟩
theorem Stk.em {H':AHeap} (h:Stk e H0 H v xs) (f:Fr Em H H'):Stk e H0 H' v xs:=h.frW f (h.fr.em f) fun _ _ q=>q
theorem Stk.push (h:Stk e H0 H v xs) {x:Nat} {zero:List AV} {bytes:Nat} (hz:zero.length=1) (hf:(xs.length+1)*bytes<=140737488355328) (hf':xs.length+1<=140737488355328) {K:AObj->(Nat->AV)->Bool->AV->AHeap->Prop} {m:Bool}
 (hk:∀ v' H',Stk e H0 H' v' (xs ++ [x])->Fr (OnS v) H H'->(∀ b,OnS v' b->OnS v b\/H.next<=b)->K (.row [.int .i64 (x:Int)] e (0,0) true) (Op.sliceTo 1 1) m v' H') :
 B32 m (Op.buildSlice e 1 zero [(0,1)] [.int .i64 (x:Int)]) fun g o mk=>B32 g (Op.append e 1 bytes [v,mk H.next] (H.alloc o)) (K o mk):=by
 have hb:Op.buildSlice e 1 zero [(0,1)] [.int .i64 (x:Int)]=some (.row [.int .i64 (x:Int)] e (0,0) true,Op.sliceTo 1 1):=qwd e 1 zero (.int .i64 (x:Int)) hz rfl
 rw [hb]
 have hfr:Fr Em H (H.alloc (.row [.int .i64 (x:Int)] e (0,0) true)):=(Fr.refl H).alloc _
 have hx:Sl (H.alloc (.row [.int .i64 (x:Int)] e (0,0) true)) 1 (Op.sliceTo 1 1 H.next) 1 [.int .i64 (x:Int)]:=sl_new rfl
 have e1:∀ n,Nat.beq n n=true:=fun n=>by simp
 have ha:allOne [AV.int .i64 (x:Int)]=true:=rfl
 have hlt:Nat.blt 0 1=true:=rfl
 have h10:Nat.beq 1 0=false:=rfl
 have hfit:=qrd hf hf'
 refine B32.intro rfl ?_
 rcases h.own with ⟨rfl,rfl⟩|⟨b,mm,rest,rfl,q1,q2,q3,q4⟩
 ·have hfit:fits 1 bytes=true:=by simpa using hfit
  refine B32.intro (a:=.gslice (H.next+1) 0 1 1 0 1) (b:=(H.alloc (.row [.int .i64 (x:Int)] e (0,0) true)).alloc (.grown 1 1 [.int .i64 (x:Int)] e (0,0))) ?_ (hk _ _ ⟨.inr ⟨H.next+1,1,[],rfl,?_,?_,rfl,?_⟩,?_⟩ ((hfr.alloc _).mono fun _ _ q=>q.elim) fun b hb=>.inr ?_)
  ·simp only [Op.append,hx.lenV,hx.first,qh,ha,qq,appendV,h10,xl,hfit,hlt,kc,grownV,jh]
  ·rw [jh,jh];omega
  ·have:=h.fr.next;omega
  ·exact jb ..
  ·exact (h.fr.em hfr).alloc _
  ·rw [hb.2];show H.next<=H.next+1;omega
 ·have q4':(H.alloc (.row [.int .i64 (x:Int)] e (0,0) true)).get b=some (.grown mm 1 (xs.flatMap encZ++rest) e (0,0)):=by rw [qmz q1];exact q4
  cases rest with
  | nil =>
   have hm:mm=xs.length:=by simpa using q3
   subst hm
   have h3:Nat.ble (0+xs.length+1) xs.length=false:=by cases hq:Nat.ble (0+xs.length+1) xs.length with|false=>rfl|true=>rw [km] at hq;omega
   have h4:=w5 (show 0+xs.length<=xs.length by omega)
   have h5:=w5 (jo (xs.length*1))
   refine B32.intro (a:=.gslice (H.next+1) 0 (xs.length+1) 1 0 (xs.length+1)) (b:=((H.alloc (.row [.int .i64 (x:Int)] e (0,0) true)).kill b).alloc (.grown (xs.length+1) 1 (xs.flatMap encZ ++ [.int .i64 (x:Int)]) e (0,0))) ?_ (hk _ _ ⟨.inr ⟨H.next+1,xs.length+1,[],?_,?_,?_,?_,?_⟩,?_⟩ ?_ fun b hb=>.inr ?_)
   ·simp only [Op.append,hx.lenV,hx.first,qh,ha,qq,appendV,h10,xl,e1,h4,hlt,kc,h3,hfit,q4',h5,grownV,qdw,jh,qat,j7,Nat.beq]
   ·rw [qe];rfl
   ·rw [jh,qdw,jh];omega
   ·have:=h.fr.next;omega
   ·rw [qe];rfl
   ·rw [j7,vl]
    have:=jb ((H.alloc (.row [.int .i64 (x:Int)] e (0,0) true)).kill b) (.grown (xs.length+1) 1 (xs.flatMap encZ ++ [.int .i64 (x:Int)]) e (0,0))
    rw [qdw,jh] at this
    exact this
   ·exact ((h.fr.em hfr).kill (.inr q2)).alloc _
   ·exact (Fr.kill (W:=OnS (AV.gslice b 0 xs.length 1 0 xs.length)) (hfr.mono fun _ _ q=>q.elim) (.inl ⟨by simp,rfl⟩)).alloc _
   ·rw [hb.2];show H.next<=H.next+1;omega
  | cons r rest =>
   have h3:=w5 (show 0+xs.length+1<=mm by simp at q3;omega)
   have h4:=w5 (show 0+xs.length<=mm by omega)
   have hst:(H.alloc (.row [.int .i64 (x:Int)] e (0,0) true)).store b ((0+xs.length)*1) [.int .i64 (x:Int)]=some ((H.alloc (.row [.int .i64 (x:Int)] e (0,0) true)).set b (.grown mm 1 ((xs ++ [x]).flatMap encZ++rest) e (0,0))):=by
    have ht:thawed (0,0) ((0+xs.length)*1) (lenL [AV.int .i64 (x:Int)])=true:=by simp [thawed]
    simp only [AHeap.store,ha,qq,q4',ht,qd7]
    rw [xv (by rw [qe,qdv];simp),qh]
    congr 4
    rw [ju,qba,List.take_append_of_le_length (by rw [qdv];exact qf _),ji (by rw [qdv];exact qf _),vl]
    ·rfl
    ·rw [ju,qba,show [AV.int .i64 (x:Int)].length=1 from rfl,qa0,zx (by rw [qdv];omega),qdv]
     simp
   refine B32.intro (a:=.gslice b 0 mm 1 0 (xs.length+1)) (b:=(H.alloc (.row [.int .i64 (x:Int)] e (0,0) true)).set b (.grown mm 1 ((xs ++ [x]).flatMap encZ++rest) e (0,0))) ?_ (hk _ _ ⟨.inr ⟨b,mm,rest,?_,?_,q2,?_,?_⟩,?_⟩ ?_ fun c hc=>.inl ⟨by simp,hc.2⟩)
   ·simp only [Op.append,hx.lenV,hx.first,qh,ha,qq,appendV,h10,xl,e1,h4,hlt,kc,h3,hst]
   ·rw [qe];rfl
   ·rw [set_next,jh];omega
   ·rw [qe];simp at q3 ⊢;omega
   ·exact yk ..
   ·exact (h.fr.em hfr).set (.inr q2) _
   ·exact Fr.set (W:=OnS (AV.gslice b 0 mm 1 0 xs.length)) (hfr.mono fun _ _ q=>q.elim) (.inl ⟨by simp,rfl⟩) _
end
end Go.Am
namespace Go.Am
open Lang
def encI (x:Int):List AV:=[.int .i64 x]
theorem encI_len (x:Int):(encI x).length=1:=rfl
def encN (z:Nd × AV):List AV:=[.int .i64 z.1.k,.int .u64 z.1.n,z.2]
theorem qnl (z:Nd × AV):(encN z).length=3:=rfl
abbrev nodeV (x:Nd) (a:AV):AV:=.agg [.int .i64 x.k,.int .u64 x.n,a]
structure Nds (H:AHeap) (v:AV) (ts:List Nd):Prop where
 ex:∃ zs:List (Nd × AV),zs.map (·.1)=ts/\SlT encN 3 H v zs /\ ∀ z ∈ zs,SlT encI 1 H z.2 z.1.kids
section
variable {H H':AHeap} {v:AV} {ts:List Nd}
theorem Nds.em (h:Nds H v ts) (f:Fr Em H H'):Nds H' v ts:=by
 obtain ⟨zs,h1,h2,h3⟩:=h.ex
 exact ⟨zs,h1,h2.em f,fun z hz=>(h3 z hz).em f⟩
theorem Nds.len (h:Nds H v ts):Op.lenSl [v]=some (.int .i64 ts.length):=by
 obtain ⟨zs,h1,h2,h3⟩:=h.ex
 rw [h2.len,<-h1,qn]
theorem Nds.get (h:Nds H v ts) {i:Nat} {x:Nd} (hx:ts[i]? = some x):∃ a,SlT encI 1 H a x.kids/\oneCell a=true /\
 (∀ k,Op.indexSl 3 [v,.int k (i:Int)]=some (.ptr (slB v) (slO 3 v i)))/\Op.loadN 3 [.ptr (slB v) (slO 3 v i)] H=some (nodeV x a) /\
 Op.load1 [.ptr (slB v) (slO 3 v i)] H=some (.int .i64 x.k)/\Op.load1 [.ptr (slB v) (slO 3 v i+1)] H=some (.int .u64 x.n)/\Op.load1 [.ptr (slB v) (slO 3 v i+2)] H=some a:=by
 obtain ⟨zs,h1,h2,h3⟩:=h.ex
 obtain ⟨z,hz,rfl⟩:∃ z,zs[i]? = some z/\z.1=x:=by
  rw [<-h1,x5] at hx
  cases hq:zs[i]? with
  | none=>rw [hq] at hx;cases hx
  | some z=>rw [hq] at hx;injection hx with hx;exact ⟨z,rfl,hx⟩
 have ha:=h3 z (jv hz)
 refine ⟨z.2,ha,ha.one,fun k=>h2.idx hz rfl k,h2.loadN qnl (by decide) hz,h2.load0 qnl hz (by decide),h2.load1 qnl hz (j:=1) (by decide),h2.load1 qnl hz (j:=2) (by decide)⟩
theorem SlT.getI {a:AV} {ks:List Int} (h:SlT encI 1 H a ks) {i:Nat} {x:Int} (hx:ks[i]? = some x):(∀ k,Op.indexSl 1 [a,.int k (i:Int)]=some (.ptr (slB a) (slO 1 a i)))/\Op.load1 [.ptr (slB a) (slO 1 a i)] H=some (.int .i64 x) :=
 ⟨fun k=>h.idx hx rfl k,by rw [h.load0 encI_len hx (by decide)];rfl⟩
end
end Go.Am
namespace Go.Am
open Go.RowKit
section
variable {P:Program}
def Wt (P:Program) (t:TypeId) {Hh:Type} (d:DataW Hh):Prop:=∀ x ∈ DataW.weights P t d,x<=reachBytes
def RdW (P:Program) (t:TypeId) (R:AHeap->List AV->Prop):Prop :=
 (∀ H H' l,R H l->Fr Em H H'->R H' l) /\ ∀ {Hh:Type} (enc:TypeId × Value->Hh) (W:World) (held:Bool) (fuel:Nat) (cs:List Value) (d:DataW Hh) (ps:List MemPlace),
  DataW.trod enc P W 0 (fun _=>true) held fuel t cs=some (d,ps)->Wt P t d -> ∀ (θ:Th) (n:Nat) (gl:GL),Good W θ n gl -> ∃ θ' n' gl' l,Step W θ n gl θ' n' gl'/\VRL (Lt n') θ' l cs/\R (wn gl' n') l
def qkr:List (AHeap->List AV->Prop)->AHeap->List AV->Prop
 | [],_,l=>l=[]
 | R::Rs,H,l=>∃ a b,l=a++b/\R H a/\qkr Rs H b
theorem qkr.em:∀ {Rs:List (AHeap->List AV->Prop)},(∀ R ∈ Rs,∀ H H' l,R H l->Fr Em H H'->R H' l) -> ∀ H H' l,qkr Rs H l->Fr Em H H'->qkr Rs H' l
 | [],_,_,_,_,h,_=>h
 | R::Rs,hm,H,H',l,⟨a,b,h1,h2,h3⟩,f=>⟨a,b,h1,hm R (by simp) _ _ _ h2 f,qkr.em (fun S hS=>hm S (by simp [hS])) _ _ _ h3 f⟩
end
end Go.Am
namespace Go.Am
open Go.RowKit Lang
section
variable {P:Program}
theorem RdW.imp {t:TypeId} {R R':AHeap->List AV->Prop} (h:RdW P t R) (hm:∀ H H' l,R' H l->Fr Em H H'->R' H' l) (hi:∀ H l,R H l->R' H l):RdW P t R' :=
 ⟨hm,fun enc W held fuel cs d ps ht hw θ n gl hg=>by
  obtain ⟨θ',n',gl',l,s,v,r⟩:=h.2 enc W held fuel cs d ps ht hw θ n gl hg
  exact ⟨θ',n',gl',l,s,v,hi _ _ r⟩⟩
structure NdsArg (H:AHeap) (u:AV) (ts:List Nd):Prop where
 nds:Nds H u ts
 len:ts.length*40<=reachBytes
 kids:∀ x ∈ ts,x.kids.length*8<=reachBytes
 lo:∀ x ∈ ts,0<=x.n
 hi:∀ x ∈ ts,x.n<18446744073709551616
end
end Go.Am
namespace Go.Am
namespace Lang
def nobr (s:List UInt8):Prop:=∀ c ∈ s,¬ (c=40\/c=123) /\ ¬ (c=41\/c=125)
theorem qea:∀ (s:List UInt8) (q:Int × Int),nobr s->scan s q=q
 | [],q,_=>rfl
 | c::s,q,h=>by
  obtain ⟨h1,h2⟩:=h c (by simp)
  show scan s (brk c q.1 q.2)=q
  rw [brk,qx h1,qx h2]
  exact qea s q fun x hx=>h x (by simp [hx])
theorem qym:∀ (n:Nat),∀ c ∈ dec n,48<=c.toNat/\c.toNat<=57:=by
 intro n
 induction n using Nat.strongRecOn with
 | ind n ih =>
  intro c hc
  rw [dec] at hc
  split at hc
  ·rename_i h;rw [xp] at hc;subst hc;rw [ww];omega
  ·rename_i h
   rcases xm.1 hc with q|q
   ·exact ih _ (by omega) c q
   ·rw [xp] at q;subst q;rw [ww];omega
theorem qzd {s:List UInt8} (h:∀ c ∈ s,48<=c.toNat/\c.toNat<=57\/97<=c.toNat/\c.toNat<=122):nobr s:=fun c hc=>by
 have:=h c hc
 constructor<;>rintro (rfl|rfl)<;>revert this<;>decide
theorem dec_nobr (n:Nat):nobr (dec n):=qzd fun c hc=>.inl (qym n c hc)
theorem qox {v:Nat} (h:v<=7):nobr (letter v):=qzd fun c hc=>by
 unfold letter at hc;rw [xp] at hc;subst hc;right;rw [ww];omega
theorem qv6 (d:Nat):nobr (ind d):=fun c hc=>by
 simp [ind] at hc;obtain ⟨_,rfl⟩:=hc;decide
theorem sgn_nobr (o:Nat):nobr (sgn o):=by
 unfold sgn nobr;(repeat' split)<;>decide
theorem qyl (o:Nat):nobr (csgn o):=by
 unfold csgn nobr;(repeat' split)<;>decide
def Ex.dep:Ex->Nat->Nat
 | .num _,_=>0
 | .var _,_=>0
 | .load a,_=>1+a.dep 0
 | .bin o a b,d=>max (a.dep (rowOf o)) (b.dep (rowOf o+1))+(if rowOf o<d then 1 else 0)
def Cn.dep (c:Cn):Nat:=max (c.a.dep 0) (c.b.dep 0)
mutual
def St.dep:St->Nat
 | .set _ a=>a.dep 0
 | .store a b=>1+max (a.dep 0) (b.dep 0)
 | .ite c l=>1+max c.dep l.dep
 | .ites c l e=>1+max c.dep (max l.dep e.dep)
 | .loop c l=>1+max c.dep l.dep
 | .atom l=>1+l.dep
 | .halt=>0
def Ls.dep:Ls->Nat
 | .nil=>0
 | .cons s l=>max s.dep l.dep
end
theorem qsg {q:Prop} [Decidable q] {c:UInt8} {o p:Int}:scan (par q [c]) (o,p)=if q then brk c o p else (o,p):=by
 unfold par;split<;>rfl
theorem Ex.scan:∀ (x:Ex) (d:Nat) (o p:Int),x.ok->o<=p->Lang.scan (x.txt d) (o,p)=(o,max p (o+(x.dep d:Nat)))
 | .num n,d,o,p,_,h=>by rw [Ex.txt,qea _ _ (dec_nobr n),Ex.dep];congr 1;omega
 | .var v,d,o,p,hv,h=>by rw [Ex.txt,qea _ _ (qox hv),Ex.dep];congr 1;omega
 | .load a,d,o,p,ha,h=>by
  have e1:Lang.scan [108,111,97,100,40] (o,p)=(o+1,max p (o+1)):=by simp [Lang.scan,brk]
  have e2:∀ o p,Lang.scan [41] (o,p)=(o-1,p):=fun o p=>by simp [Lang.scan,brk]
  rw [Ex.txt,qam,qam,e1,a.scan 0 _ _ ha (by omega),e2,Ex.dep]
  congr 1<;>omega
 | .bin k a b,d,o,p,ho,h=>by
  obtain ⟨_,_,ha,hb⟩:=ho
  have e3:∀ q,Lang.scan [32] q=q:=fun q=>qea _ _ fun c hc=>by rw [xp] at hc;subst hc;decide
  have e4:∀ q,Lang.scan (sgn k) q=q:=fun q=>qea _ _ (sgn_nobr k)
  simp only [Ex.txt,qam,e3,e4,qsg,Ex.dep]
  by_cases q:rowOf k<d
  ·rw [xv q,xv q,show brk 40 o p=(o+1,max p (o+1)) by simp [brk],a.scan _ _ _ ha (by omega),b.scan _ _ _ hb (by omega),qsg,xv q,show ∀ o p,brk 41 o p=(o-1,p) from fun o p=>by simp [brk]]
   congr 1<;>omega
  ·rw [qx q,qx q,a.scan _ _ _ ha (by omega),b.scan _ _ _ hb (by omega),qsg,qx q]
   congr 1;omega
theorem Cn.scan (c:Cn) {o p:Int} (hc:c.ok) (h:o<=p):Lang.scan c.txt (o,p)=(o,max p (o+(c.dep:Nat))):=by
 rw [Cn.txt,qam,qam,c.a.scan _ _ _ hc.2.2.1 h,qea _ _ (qyl _),c.b.scan _ _ _ hc.2.2.2 (by omega),Cn.dep]
 congr 1;omega
theorem qlt {l:List UInt8} {d:Nat} {o p:Int} {k:Nat} (hl:∀ o p:Int,o<=p->Lang.scan l (o,p)=(o,max p (o+(k:Nat)))) (h:o<=p):Lang.scan [125] (Lang.scan (ind d) (Lang.scan l (Lang.scan [123,10] (o,p))))=(o,max p (o+1+(k:Nat))):=by
 have e1:Lang.scan [123,10] (o,p)=(o+1,max p (o+1)):=by simp [Lang.scan,brk]
 have e2:∀ o p,Lang.scan [125] (o,p)=(o-1,p):=fun o p=>by simp [Lang.scan,brk]
 rw [e1,hl _ _ (by omega),qea _ _ (qv6 d),e2]
 congr 1<;>omega
mutual
theorem St.scan:∀ (x:St) (d:Nat) (o p:Int),x.ok->o<=p->Lang.scan (x.txt d) (o,p)=(o,max p (o+(x.dep:Nat)))
 | .set v a,d,o,p,hx,h=>by
  have e2:∀ o p,Lang.scan [59] (o,p)=(o,p):=fun o p=>by simp [Lang.scan,brk]
  have e1:∀ o p,Lang.scan [32,61,32] (o,p)=(o,p):=fun o p=>by simp [Lang.scan,brk]
  rw [St.txt,qam,qam,qam,qea _ _ (qox hx.1),e1,a.scan 0 _ _ hx.2 h,e2,St.dep]
 | .store a b,d,o,p,hx,h=>by
  have e1:Lang.scan [115,116,111,114,101,40] (o,p)=(o+1,max p (o+1)):=by simp [Lang.scan,brk]
  have e2:∀ o p,Lang.scan [44,32] (o,p)=(o,p):=fun o p=>by simp [Lang.scan,brk]
  have e3:∀ o p,Lang.scan [41,59] (o,p)=(o-1,p):=fun o p=>by simp [Lang.scan,brk]
  rw [St.txt,qam,qam,qam,qam,e1,a.scan 0 _ _ hx.1 (by omega),e2,b.scan 0 _ _ hx.2 (by omega),e3,St.dep]
  congr 1<;>omega
 | .ite c l,d,o,p,hx,h=>by
  have e1:Lang.scan [105,102,32,40] (o,p)=(o+1,max p (o+1)):=by simp [Lang.scan,brk]
  have e2:∀ o p,Lang.scan [41,32] (o,p)=(o-1,p):=fun o p=>by simp [Lang.scan,brk]
  simp only [St.txt,qam];rw [e1,c.scan hx.1 (by omega),e2,qlt (fun o p h=>l.scan (d+1) o p hx.2 h) (by omega),St.dep]
  congr 1<;>omega
 | .ites c l e,d,o,p,hx,h=>by
  have e1:Lang.scan [105,102,32,40] (o,p)=(o+1,max p (o+1)):=by simp [Lang.scan,brk]
  have e2:∀ o p,Lang.scan [41,32] (o,p)=(o-1,p):=fun o p=>by simp [Lang.scan,brk]
  have e3:∀ o p,Lang.scan [32,101,108,115,101,32] (o,p)=(o,p):=fun o p=>by simp [Lang.scan,brk]
  simp only [St.txt,qam];rw [e1,c.scan hx.1 (by omega),e2,qlt (fun o p h=>l.scan (d+1) o p hx.2.1 h) (by omega),e3,qlt (fun o p h=>e.scan (d+1) o p hx.2.2 h) (by omega),St.dep]
  congr 1<;>omega
 | .loop c l,d,o,p,hx,h=>by
  have e1:Lang.scan [119,104,105,108,101,32,40] (o,p)=(o+1,max p (o+1)):=by simp [Lang.scan,brk]
  have e2:∀ o p,Lang.scan [41,32] (o,p)=(o-1,p):=fun o p=>by simp [Lang.scan,brk]
  simp only [St.txt,qam];rw [e1,c.scan hx.1 (by omega),e2,qlt (fun o p h=>l.scan (d+1) o p hx.2 h) (by omega),St.dep]
  congr 1<;>omega
 | .atom l,d,o,p,hx,h=>by
  have e1:∀ o p,Lang.scan [97,116,111,109,105,99,32] (o,p)=(o,p):=fun o p=>by simp [Lang.scan,brk]
  simp only [St.txt,qam];rw [e1,qlt (fun o p h=>l.scan (d+1) o p hx.1 h) (by omega),St.dep]
  congr 1<;>omega
 | .halt,d,o,p,hx,h=>by
  have e1:∀ o p,Lang.scan [104,97,108,116,59] (o,p)=(o,p):=fun o p=>by simp [Lang.scan,brk]
  rw [St.txt,e1,St.dep];congr 1;omega
theorem Ls.scan:∀ (x:Ls) (d:Nat) (o p:Int),x.ok->o<=p->Lang.scan (x.txt d) (o,p)=(o,max p (o+(x.dep:Nat)))
 | .nil,d,o,p,hx,h=>by rw [Ls.txt,Ls.dep];show (o,p)=_;congr 1;omega
 | .cons s l,d,o,p,hx,h=>by
  have e1:∀ o p,Lang.scan [10] (o,p)=(o,p):=fun o p=>by simp [Lang.scan,brk]
  rw [Ls.txt,qam,qam,qam,qea _ _ (qv6 d),s.scan d _ _ hx.1 h,e1,l.scan d _ _ hx.2 (by omega),Ls.dep]
  congr 1;omega
end
end Lang
end Go.Am
namespace Go.Am
namespace Lang
def Nd.sh (b:Nat) (x:Nd):Nd:=⟨x.k,x.n,x.kids.map (·+(b:Int))⟩
theorem q0e:∀ f:List It,f.length<=szF f
 | []=>qf 0
 | x::r=>by have:=x.pos;have:=q0e r;simp only [szF,xk];omega
theorem qyt:∀ (m:Nat) (f:List It),szF f<=m -> ∀ (b:Nat),∀ y ∈ encF f b,y.kids.length<=szF f:=by
 intro m
 induction m with
 | zero =>
  intro f hm b y hy
  cases f with
  | nil=>cases hy
  | cons x r=>have:=x.pos;simp only [szF] at hm;omega
 | succ m ih =>
  intro f hm b y hy
  cases f with
  | nil=>cases hy
  | cons x r =>
   have hs:=x.sz_eq
   have hp:=x.pos
   simp only [szF] at hm ⊢
   simp only [encF] at hy
   rcases xm.1 hy with q|q
   ·rw [x.enc_eq] at q
    rcases xm.1 q with q|q
    ·have:=ih x.ks (by omega) b y q;omega
    ·rw [xp] at q
     subst q
     have:=q0e x.ks
     simp only [It.nd,ints,qn,qoe];omega
   ·have:=ih r (by omega) _ y q;omega
theorem It.enc_kids (x:It) (b:Nat):∀ y ∈ x.enc b,y.kids.length<=x.sz:=by
 have:=qyt (szF [x]) [x] (qf _) b
 simpa [encF,szF] using this
def St.one (s:St):Ls:=.cons s .nil
theorem St.one_enc (s:St):s.one.encL 0=s.enc 0 ++ [⟨20,0,[((s.sz-1:Nat):Int)]⟩]:=by simp [St.one,Ls.encL,Ls.enc,Ls.ends,ints]
end Lang
end Go.Am
