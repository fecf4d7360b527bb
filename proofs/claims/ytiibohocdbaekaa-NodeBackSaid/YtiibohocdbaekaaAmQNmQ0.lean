/- NmQ0: DecP TraceX TraceY TraceZ Strs NumP LangT LangU LangV LangW StkP NodeM Args8 ArgN Iter3 Iter5 StoN SortP. -/
import Derived.Test.YtiibohocdbaekaaAmQB4
import Derived.Test.YtiibohocdbaekaaAmQB1
import Derived.Test.YtiibohocdbaekaaAmQB5
set_option linter.unusedVariables false
set_option linter.unusedSimpArgs false
namespace Go.Am
namespace Lang
def dec (n:Nat):List UInt8:=if h:n<10 then [UInt8.ofNat (48+n)] else dec (n / 10) ++ [UInt8.ofNat (48+n % 10)]
termination_by n
decreasing_by omega
theorem q5g {n:Nat} (h:n<10):dec n=[UInt8.ofNat (48+n)]:=by rw [dec];simp [h]
theorem dec_ge {n:Nat} (h:10<=n):dec n=dec (n / 10) ++ [UInt8.ofNat (48+n % 10)]:=by rw [dec];simp [show ¬ n<10 by omega]
theorem dec_ne (n:Nat):dec n ≠ []:=by
 rw [dec];split<;>simp
theorem q5e:∀ (k n:Nat),n<10 ^ (k+1)->(dec n).length<=k+1
 | 0,n,h=>by rw [q5g (by simpa using h)];simp
 | k+1,n,h=>by
  by_cases h1:n<10
  ·rw [q5g h1];simp
  ·rw [dec_ge (by omega),qu]
   have:=q5e k (n / 10) (by rw [Nat.pow_succ] at h;omega)
   simp;omega
theorem q5f {n:Nat} (h:n<18446744073709551616):(dec n).length<=20:=q5e 19 n (ql h (by decide))
end Lang
end Go.Am
namespace Go.Am
namespace Tr
open Lang (dec)
abbrev B:=List UInt8
def named (k:Int):B:=if k=1 then [98,116,108] else if k=2\/k=3 then [98,116,97,118] else if k=4\/k=5 then [98,116] else if k=6 then [98,116,99] else if k=7\/k=8 then [97,118] else []
def wordsOf (l:UInt8):List B:=if l=108 then [[],[102,97,115,116],[115,108,111,119],[115,111,102,116],[115,101,114,105,97,108]] else if l=99 then [[],[99,111,110,102,108,105,99,116],[115,117,98],[99,97,112,97,99,105,116,121],[101,118,105,99,116],[115,112,117,114,105,111,117,115],[98,117,115,121],[105,108,108,101,103,97,108],[115,111,102,116]] else []
def getN (x:Evt) (l:UInt8):Int:=if l=118 then x.value else if l=98 then x.block else if l=116 then x.try' else if l=108 then x.lane else if l=97 then x.addr else x.code
def setN (x:Evt) (l:UInt8) (n:Int):Evt:=if l=118 then { x with value:=n } else if l=98 then { x with block:=n } else if l=116 then { x with try':=n } else if l=108 then { x with lane:=n } else if l=97 then { x with addr:=n } else { x with code:=n }
def mayN (l:UInt8) (n:Int):Bool:=if l=118 then true else decide (0<=n/\((wordsOf l).length=0\/1<=n/\n<(wordsOf l).length))
def fresh (k c t:Int):Evt:=⟨k,t,c,if 7<=k then -1 else 0,0,0,0,0,0⟩
def putB (n:Nat):B:=if h:n<128 then [UInt8.ofNat n] else UInt8.ofNat (n % 128+128)::putB (n / 128)
termination_by n
decreasing_by omega
def numB (x:Evt) (l:UInt8):Nat:=(getN x l).toNat
def encE (x:Evt):B:=UInt8.ofNat x.kind.toNat::(putB x.core.toNat++(putB x.time.toNat++(named x.kind).flatMap fun l=>putB (numB x l)))
end Tr
end Go.Am
namespace Go.Am
namespace Tr
theorem toNat_ofNat (c:UInt8):UInt8.ofNat c.toNat=c:=by simp
def isL (l:UInt8):Prop:=l=118\/l=98\/l=116\/l=108\/l=97\/l=99
instance (l:UInt8):Decidable (isL l):=by unfold isL;infer_instance
theorem get_set {y:Evt} {l l':UInt8} {n:Int} (hl:isL l) (hl':isL l'):getN (setN y l n) l'=if l=l' then n else getN y l':=by
 rcases hl with rfl|rfl|rfl|rfl|rfl|rfl<;>rcases hl' with rfl|rfl|rfl|rfl|rfl|rfl<;>rfl
structure EvR (x:Evt):Prop where
 v0:0<=x.value
 v:x.value<18446744073709551616
 core:x.core<9223372036854775808
 time:x.time<9223372036854775808
 kind:x.kind<9223372036854775808
 block:x.block<9223372036854775808
 tr:x.try'<9223372036854775808
 lane:x.lane<9223372036854775808
 addr:x.addr<9223372036854775808
 code:x.code<9223372036854775808
theorem EvR.get {x:Evt} (h:EvR x) {l:UInt8} (hl:isL l) (hm:mayN l (getN x l)=true):0<=getN x l/\getN x l<18446744073709551616/\(l=118\/getN x l<9223372036854775808):=by
 obtain ⟨h1,h2,h3,h4,h5,h6,h7,h8,h9,h10⟩:=h
 rcases hl with rfl|rfl|rfl|rfl|rfl|rfl
 ·exact ⟨h1,h2,.inl rfl⟩
 all_goals
  unfold mayN at hm;rw [qo (by decide)] at hm
  have:=(of_decide_eq_true hm).1
  refine ⟨this,?_,.inr ?_⟩<;>simp only [getN] at *<;>(first|omega|(simp at *;omega))
end Tr
end Go.Am
namespace Go.Am
namespace Tr
open Lang (dec q5g dec_ge dec_ne)
end Tr
end Go.Am
namespace Go.Am
theorem set_set (H:AHeap) (b:Nat) (o o':AObj):(H.set b o).set b o'=H.set b o':=by simp only [AHeap.set,T.set,T.put,T.put_put]
theorem q4d {len size b o:Nat} {k:IntKind} {j:Int} {i:Nat} (hj:j=i) (hi:i<len):Op.indexArr len size [.ptr b o,.int k j]=some (.ptr b (o+i*size)):=by
 simp only [Op.indexArr,qnz hj hi,qf]
theorem q4e {s:List UInt8} {k:IntKind} {j:Int} {i:Nat} {c:UInt8} (hj:j=i) (hc:s[i]? = some c):Op.indexStr [.str s,.int k j]=some (.int .u8 c.toNat):=by
 have hi:i<s.length:=(qi.1 hc).1
 simp only [Op.indexStr,qnz hj hi,qf,qcq,hc]
theorem o_shr (k k':IntKind) (a:Int) (n:Nat):Op.bin .shr [.int k a,.int k' n]=some (.int k (a.fdiv (2 ^ (min n k.bits)))):=by
 have e:ltI (n:Int) 0=false:=by rw [qpf];simp
 simp only [Op.bin,binV,isShift,qz,shiftV,e,xy,Int.toNat_natCast]
theorem o_shl (k k':IntKind) (a:Int) (n:Nat):Op.bin .shl [.int k a,.int k' n]=some (.int k (wrapI k (a*2 ^ (min n k.bits)))):=by
 have e:ltI (n:Int) 0=false:=by rw [qpf];simp
 simp only [Op.bin,binV,isShift,qz,shiftV,e,xy,Int.toNat_natCast]
structure Aft (a:AV) (H:AHeap) (v:AV) (H':AHeap):Prop where
 fr:Fr (OnS a) H H'
 on:∀ b,OnS v b->OnS a b\/H.next<=b
theorem Aft.refl (a:AV) (H:AHeap):Aft a H a H:=⟨Fr.refl _,fun b h=>.inl h⟩
theorem Aft.trans {a v w:AV} {H H1 H2:AHeap} (h:Aft a H v H1) (h':Aft v H1 w H2):Aft a H w H2 :=
 ⟨h.fr.trans h'.fr h.on,fun b hb=>(h'.on b hb).elim (h.on b) fun q=>.inr (zn h.fr.next q)⟩
theorem Aft.em {a v:AV} {H H1 H2:AHeap} (h:Aft a H v H1) (f:Fr Em H1 H2):Aft a H v H2:=⟨h.fr.em f,h.on⟩
theorem Aft.pre {a v:AV} {H H1 H2:AHeap} (f:Fr Em H H1) (h:Aft a H1 v H2):Aft a H v H2:=(Aft.refl a H).em f |>.trans h
theorem Aft.get {a v:AV} {H H':AHeap} (h:Aft a H v H') {b:Nat} (hb:b<H.next) (hn:¬ OnS a b):H'.get b=H.get b/\b<H'.next /\ ¬ OnS v b :=
 ⟨h.fr.keep b hb hn,ql hb h.fr.next,fun q=>(h.on b q).elim hn fun r=>by omega⟩
theorem New.setOff {α:Type} {enc:α->List AV} {e size:Nat} {H0 H:AHeap} {v:AV} {xs:List α} (h:New enc e size H0 H v xs) {b:Nat} (hb:H0.next<=b) (hn:¬ OnS v b) (o:AObj):New enc e size H0 (H.set b o) v xs :=
 ⟨Own.fr h.own ((Fr.refl H).set (W:=On b) (.inl rfl) o) fun x hx (q:x=b)=>hn (by rw [<-q];exact hx),h.fr.set (.inr hb) _,h.fresh⟩
theorem Aft.setOff {a v:AV} {H H':AHeap} (h:Aft a H v H') {b:Nat} (hb:H.next<=b) (o:AObj):Aft a H v (H'.set b o):=⟨h.fr.set (.inr hb) _,h.on⟩
end Go.Am
namespace Go.Am
open Lang (dec)
theorem n_rem {k:IntKind} {a:Nat} {b:Int} (hb:0<b):Op.bin .rem [.int k (a:Int),.int k b]=some (.int k ((a % b.toNat:Nat):Int)):=by
 rw [o_rem k _ _ (by omega),Int.tmod_eq_emod_of_nonneg (by omega)]
 congr 2
 rw [Int.natCast_emod];congr 1;omega
theorem w_i64 {n:Nat} (h:n<9223372036854775808):wrapI .i64 (n:Int)=n:=by rw [q0s];omega
theorem w_u64 {n:Nat} (h:n<18446744073709551616):wrapI .u64 (n:Int)=n:=by rw [q6x];omega
theorem w_u8 {n:Nat} (h:n<256):wrapI .u8 (n:Int)=n:=by rw [wrapI_u8];omega
end Go.Am
namespace Go.Am
namespace Lang
structure Nd where
 k:Int
 n:Int
 kids:List Int
inductive Ex where
 | num (n:Nat)
 | var (v:Nat)
 | load (a:Ex)
 | bin (o:Nat) (a b:Ex)
structure Cn where
 k:Nat
 a:Ex
 b:Ex
mutual
inductive St where
 | set (v:Nat) (a:Ex)
 | store (a b:Ex)
 | ite (c:Cn) (l:Ls)
 | ites (c:Cn) (l e:Ls)
 | loop (c:Cn) (l:Ls)
 | atom (l:Ls)
 | halt
inductive Ls where
 | nil
 | cons (s:St) (l:Ls)
end
def Ex.sz:Ex->Nat
 | .num _=>1
 | .var _=>1
 | .load a=>a.sz+1
 | .bin _ a b=>a.sz+b.sz+1
def Cn.sz (c:Cn):Nat:=c.a.sz+c.b.sz+1
mutual
def St.sz:St->Nat
 | .set _ a=>a.sz+1
 | .store a b=>a.sz+b.sz+1
 | .ite c l=>c.sz+(l.sz+1)+1
 | .ites c l e=>c.sz+(l.sz+1)+(e.sz+1)+1
 | .loop c l=>c.sz+(l.sz+1)+1
 | .atom l=>l.sz+1+1
 | .halt=>1
def Ls.sz:Ls->Nat
 | .nil=>0
 | .cons s l=>s.sz+l.sz
end
theorem Ex.pos (x:Ex):0<x.sz:=by cases x<;>simp [Ex.sz]
theorem Cn.pos (x:Cn):0<x.sz:=by simp [Cn.sz]
theorem St.pos (x:St):0<x.sz:=by cases x<;>simp [St.sz]
def Ex.enc:Ex->Nat->List Nd
 | .num n,_=>[⟨1,n,[]⟩]
 | .var v,_=>[⟨2,v,[]⟩]
 | .load a,b=>a.enc b ++ [⟨3,0,[((b+a.sz-1:Nat):Int)]⟩]
 | .bin o x y,b=>x.enc b++(y.enc (b+x.sz) ++ [⟨o,0,[((b+x.sz-1:Nat):Int),((b+x.sz+y.sz-1:Nat):Int)]⟩])
def Cn.enc (c:Cn) (b:Nat):List Nd:=c.a.enc b++(c.b.enc (b+c.a.sz) ++ [⟨c.k,0,[((b+c.a.sz-1:Nat):Int),((b+c.a.sz+c.b.sz-1:Nat):Int)]⟩])
def Ls.ends:Ls->Nat->List Nat
 | .nil,_=>[]
 | .cons s l,b=>(b+s.sz-1)::l.ends (b+s.sz)
def ints (l:List Nat):List Int:=l.map fun (n:Nat)=>(n:Int)
mutual
def St.enc:St->Nat->List Nd
 | .set v a,b=>a.enc b ++ [⟨14,v,[((b+a.sz-1:Nat):Int)]⟩]
 | .store x y,b=>x.enc b++(y.enc (b+x.sz) ++ [⟨15,0,[((b+x.sz-1:Nat):Int),((b+x.sz+y.sz-1:Nat):Int)]⟩])
 | .ite c l,b=>c.enc b++(l.enc (b+c.sz)++([⟨20,0,ints (l.ends (b+c.sz))⟩] ++ [⟨16,0,[((b+c.sz-1:Nat):Int),((b+c.sz+l.sz:Nat):Int)]⟩]))
 | .ites c l e,b=>c.enc b++(l.enc (b+c.sz)++([⟨20,0,ints (l.ends (b+c.sz))⟩]++(e.enc (b+c.sz+(l.sz+1))++([⟨20,0,ints (e.ends (b+c.sz+(l.sz+1)))⟩] ++ [⟨16,0,[((b+c.sz-1:Nat):Int),((b+c.sz+l.sz:Nat):Int),((b+c.sz+(l.sz+1)+e.sz:Nat):Int)]⟩]))))
 | .loop c l,b=>c.enc b++(l.enc (b+c.sz)++([⟨20,0,ints (l.ends (b+c.sz))⟩] ++ [⟨17,0,[((b+c.sz-1:Nat):Int),((b+c.sz+l.sz:Nat):Int)]⟩]))
 | .atom l,b=>l.enc b++([⟨20,0,ints (l.ends b)⟩] ++ [⟨18,0,[((b+l.sz:Nat):Int)]⟩])
 | .halt,_=>[⟨19,0,[]⟩]
def Ls.enc:Ls->Nat->List Nd
 | .nil,_=>[]
 | .cons s l,b=>s.enc b++l.enc (b+s.sz)
end
def Ls.encL (l:Ls) (b:Nat):List Nd:=l.enc b ++ [⟨20,0,ints (l.ends b)⟩]
theorem Ex.len:∀ (x:Ex) (b:Nat),(x.enc b).length=x.sz
 | .num _,_=>rfl
 | .var _,_=>rfl
 | .load a,b=>by simp [Ex.enc,Ex.sz,a.len b]
 | .bin o x y,b=>by simp [Ex.enc,Ex.sz,x.len b,y.len];omega
theorem Cn.len (c:Cn) (b:Nat):(c.enc b).length=c.sz:=by simp [Cn.enc,Cn.sz,Ex.len];omega
mutual
theorem St.len:∀ (x:St) (b:Nat),(x.enc b).length=x.sz
 | .set _ a,b=>by simp [St.enc,St.sz,Ex.len]
 | .store x y,b=>by simp [St.enc,St.sz,Ex.len];omega
 | .ite c l,b=>by simp [St.enc,St.sz,Cn.len,l.len];omega
 | .ites c l e,b=>by simp [St.enc,St.sz,Cn.len,l.len,e.len];omega
 | .loop c l,b=>by simp [St.enc,St.sz,Cn.len,l.len];omega
 | .atom l,b=>by simp [St.enc,St.sz,l.len]
 | .halt,_=>rfl
theorem Ls.len:∀ (x:Ls) (b:Nat),(x.enc b).length=x.sz
 | .nil,_=>rfl
 | .cons s l,b=>by simp [Ls.enc,Ls.sz,s.len,l.len]
end
theorem Ls.lenL (l:Ls) (b:Nat):(l.encL b).length=l.sz+1:=by simp [Ls.encL,Ls.len]
mutual
def St.atm:St->Bool
 | .set _ _=>false
 | .store _ _=>false
 | .ite _ l=>l.atm
 | .ites _ l e=>l.atm || e.atm
 | .loop _ l=>l.atm
 | .atom _=>true
 | .halt=>false
def Ls.atm:Ls->Bool
 | .nil=>false
 | .cons s l=>s.atm || l.atm
end
def Ex.ok:Ex->Prop
 | .num _=>True
 | .var v=>v<=7
 | .load a=>a.ok
 | .bin o a b=>4<=o/\o<=10/\a.ok/\b.ok
def Cn.ok (c:Cn):Prop:=11<=c.k/\c.k<=13/\c.a.ok/\c.b.ok
mutual
def St.ok:St->Prop
 | .set v a=>v<=7/\a.ok
 | .store a b=>a.ok/\b.ok
 | .ite c l=>c.ok/\l.ok
 | .ites c l e=>c.ok/\l.ok/\e.ok
 | .loop c l=>c.ok/\l.ok
 | .atom l=>l.ok/\l.atm=false
 | .halt=>True
def Ls.ok:Ls->Prop
 | .nil=>True
 | .cons s l=>s.ok/\l.ok
end
def cls (k:Int):Int:=if 1<=k/\k<=10 then 1 else if 11<=k/\k<=13 then 2 else if 14<=k/\k<=19 then 3 else if k=20 then 4 else 0
def shape (k n:Int) (m:Nat):Option (List Int) :=
 if (k=2\/k=14)/\7<n \/ ¬ (k=2\/k=14)/\k ≠ 1/\n ≠ 0 then none
 else if k=1\/k=2\/k=19 then some []
 else if k=3\/k=14 then some [1]
 else if (4<=k/\k<=13)\/k=15 then some [1,1]
 else if k=16/\m=3 then some [2,4,4]
 else if k=16\/k=17 then some [2,4]
 else if k=18 then some [4]
 else if k=20 then some (List.replicate m 3)
 else none
def clsAt (t:List Nd) (i:Nat):Int:=match t[i]? with
 | some x=>cls x.k
 | none=>0
inductive It where
 | e (x:Ex) | c (x:Cn) | s (x:St) | l (x:Ls)
def It.sz:It->Nat
 | .e x=>x.sz | .c x=>x.sz | .s x=>x.sz | .l x=>x.sz+1
def It.enc:It->Nat->List Nd
 | .e x=>x.enc | .c x=>x.enc | .s x=>x.enc | .l x=>x.encL
def It.cls:It->Int
 | .e _=>1 | .c _=>2 | .s _=>3 | .l _=>4
def It.atm:It->Bool
 | .e _=>false | .c _=>false | .s x=>x.atm | .l x=>x.atm
def It.ok:It->Prop
 | .e x=>x.ok | .c x=>x.ok | .s x=>x.ok | .l x=>x.ok
theorem It.pos (x:It):0<x.sz:=by cases x<;>simp [It.sz,Ex.pos,Cn.pos,St.pos]
theorem It.len (x:It) (b:Nat):(x.enc b).length=x.sz:=by cases x<;>simp [It.sz,It.enc,Ex.len,Cn.len,St.len,Ls.lenL]
def encF:List It->Nat->List Nd
 | [],_=>[]
 | x::r,b=>x.enc b++encF r (b+x.sz)
def szF:List It->Nat
 | []=>0
 | x::r=>x.sz+szF r
def endsF:List It->Nat->List Nat
 | [],_=>[]
 | x::r,b=>(b+x.sz-1)::endsF r (b+x.sz)
theorem qxi:∀ (f:List It) (b:Nat),(encF f b).length=szF f
 | [],_=>rfl
 | x::r,b=>by simp [encF,szF,It.len,qxi r]
theorem qza:∀ (f:List It) (b:Nat),(endsF f b).length=f.length
 | [],_=>rfl
 | x::r,b=>by simp [endsF,qza r]
theorem It.last (x:It) (b:Nat):∃ y,(x.enc b)[x.sz-1]? = some y/\(x.ok->Lang.cls y.k=x.cls):=by
 have app:∀ (l:List Nd) (y:Nd),(l ++ [y])[l.length]? = some y:=fun l y=>by simp
 cases x with
 | e x =>
  cases x with
  | num n=>exact ⟨_,rfl,fun _=>rfl⟩
  | var v=>exact ⟨_,rfl,fun _=>rfl⟩
  | load a=>exact ⟨⟨3,0,_⟩,by have:=app (a.enc b) ⟨3,0,[((b+a.sz-1:Nat):Int)]⟩;rw [a.len] at this;exact this,fun _=>rfl⟩
  | bin o p q =>
   refine ⟨⟨o,0,[((b+p.sz-1:Nat):Int),((b+p.sz+q.sz-1:Nat):Int)]⟩,?_,fun h=>?_⟩
   ·have:=app (p.enc b++q.enc (b+p.sz)) ⟨o,0,[((b+p.sz-1:Nat):Int),((b+p.sz+q.sz-1:Nat):Int)]⟩
    rw [qu,p.len,q.len,zj] at this;exact this
   ·obtain ⟨h1,h2,_⟩:=h
    simp only [Lang.cls,It.cls];rw [xc (by omega)]
 | c c =>
  refine ⟨⟨c.k,0,[((b+c.a.sz-1:Nat):Int),((b+c.a.sz+c.b.sz-1:Nat):Int)]⟩,?_,fun h=>?_⟩
  ·have:=app (c.a.enc b++c.b.enc (b+c.a.sz)) ⟨c.k,0,[((b+c.a.sz-1:Nat):Int),((b+c.a.sz+c.b.sz-1:Nat):Int)]⟩
   rw [qu,Ex.len,Ex.len,zj] at this;exact this
  ·obtain ⟨h1,h2,_⟩:=h
   simp only [Lang.cls,It.cls];rw [qo (by omega),xc (by omega)]
 | s x =>
  have key:∀ (l:List Nd) (y:Nd),x.enc b=l ++ [y]->(x.enc b)[x.sz-1]? = some y:=fun l y h=>by
   have hl:=x.len b
   rw [h] at hl ⊢
   rw [qu] at hl
   have:x.sz-1=l.length:=by simp at hl;omega
   rw [this];exact app l y
  cases x with
  | set v a=>exact ⟨_,key _ _ rfl,fun _=>rfl⟩
  | store p q=>exact ⟨_,key (p.enc b++q.enc (b+p.sz)) ⟨15,0,[((b+p.sz-1:Nat):Int),((b+p.sz+q.sz-1:Nat):Int)]⟩ (by simp only [St.enc,zj]),fun _=>rfl⟩
  | ite c l=>exact ⟨_,key (c.enc b++(l.enc (b+c.sz) ++ [⟨20,0,ints (l.ends (b+c.sz))⟩])) _ (by simp only [St.enc,zj];rfl),fun _=>rfl⟩
  | ites c l e=>exact ⟨_,key (c.enc b++(l.enc (b+c.sz)++([⟨20,0,ints (l.ends (b+c.sz))⟩]++(e.enc (b+c.sz+(l.sz+1)) ++ [⟨20,0,ints (e.ends (b+c.sz+(l.sz+1)))⟩])))) _ (by simp only [St.enc,zj];rfl),fun _=>rfl⟩
  | loop c l=>exact ⟨_,key (c.enc b++(l.enc (b+c.sz) ++ [⟨20,0,ints (l.ends (b+c.sz))⟩])) _ (by simp only [St.enc,zj];rfl),fun _=>rfl⟩
  | atom l=>exact ⟨_,key (l.enc b ++ [⟨20,0,ints (l.ends b)⟩]) ⟨18,0,[((b+l.sz:Nat):Int)]⟩ (by simp only [St.enc,zj]),fun _=>rfl⟩
  | halt=>exact ⟨_,rfl,fun _=>rfl⟩
 | l x =>
  refine ⟨⟨20,0,ints (x.ends b)⟩,?_,fun _=>rfl⟩
  have:=app (x.enc b) ⟨20,0,ints (x.ends b)⟩
  rw [x.len] at this;exact this
end Lang
end Go.Am
namespace Go.Am
namespace Lang
def Ls.its:Ls->List It
 | .nil=>[]
 | .cons s l=>.s s::l.its
def It.ks:It->List It
 | .e (.num _)=>[] | .e (.var _)=>[] | .e (.load a)=>[.e a] | .e (.bin _ a b)=>[.e a,.e b]
 | .c x=>[.e x.a,.e x.b]
 | .s (.set _ a)=>[.e a] | .s (.store a b)=>[.e a,.e b] | .s (.ite q m)=>[.c q,.l m] | .s (.ites q m w)=>[.c q,.l m,.l w] | .s (.loop q m)=>[.c q,.l m] | .s (.atom m)=>[.l m] | .s .halt=>[]
 | .l x=>x.its
def It.kn:It->Int × Int
 | .e (.num n)=>(1,n) | .e (.var v)=>(2,v) | .e (.load _)=>(3,0) | .e (.bin o _ _)=>(o,0)
 | .c x=>(x.k,0)
 | .s (.set v _)=>(14,v) | .s (.store _ _)=>(15,0) | .s (.ite _ _)=>(16,0) | .s (.ites _ _ _)=>(16,0) | .s (.loop _ _)=>(17,0) | .s (.atom _)=>(18,0) | .s .halt=>(19,0)
 | .l _=>(20,0)
def It.nd (x:It) (b:Nat):Nd:=⟨x.kn.1,x.kn.2,ints (endsF x.ks b)⟩
theorem Ls.its_enc:∀ (l:Ls) (b:Nat),l.enc b=encF l.its b
 | .nil,_=>rfl
 | .cons s l,b=>by simp [Ls.enc,Ls.its,encF,It.enc,It.sz,l.its_enc]
theorem Ls.its_ends:∀ (l:Ls) (b:Nat),l.ends b=endsF l.its b
 | .nil,_=>rfl
 | .cons s l,b=>by simp [Ls.ends,Ls.its,endsF,It.sz,l.its_ends]
theorem Ls.its_cls:∀ (l:Ls),l.its.map It.cls=List.replicate l.its.length 3
 | .nil=>rfl
 | .cons s l=>by simp [Ls.its,It.cls,l.its_cls,qc1]
theorem Ls.its_ok:∀ (l:Ls),l.ok -> ∀ y ∈ l.its,y.ok
 | .nil,_,y,h=>by simp [Ls.its] at h
 | .cons s l,ho,y,h=>by
  rcases zp.1 h with rfl|h
  ·exact ho.1
  ·exact Ls.its_ok l ho.2 y h
theorem Ls.its_atm:∀ (l:Ls),l.its.any It.atm=l.atm
 | .nil=>rfl
 | .cons s l=>by simp [Ls.its,It.atm,Ls.atm,l.its_atm]
theorem It.enc_eq (x:It) (b:Nat):x.enc b=encF x.ks b ++ [x.nd b]:=by
 have pos:=Ex.pos;have cpos:=Cn.pos
 have z:∀ a:Nat,a+1-1=a:=fun a=>by omega
 match x with
 | .e (.num _)=>rfl
 | .e (.var _)=>rfl
 | .e (.load a)=>simp [It.enc,Ex.enc,It.ks,encF,It.nd,It.kn,endsF,It.sz,ints]
 | .e (.bin o p q)=>simp [It.enc,Ex.enc,It.ks,encF,It.nd,It.kn,endsF,It.sz,ints]
 | .c x=>simp [It.enc,Cn.enc,It.ks,encF,It.nd,It.kn,endsF,It.sz,ints]
 | .s (.set _ a)=>simp [It.enc,St.enc,It.ks,encF,It.nd,It.kn,endsF,It.sz,ints]
 | .s (.store p q)=>simp [It.enc,St.enc,It.ks,encF,It.nd,It.kn,endsF,It.sz,ints]
 | .s (.ite q m)=>simp [It.enc,St.enc,It.ks,encF,It.nd,It.kn,endsF,It.sz,ints,Ls.encL]
 | .s (.ites q m w)=>simp [It.enc,St.enc,It.ks,encF,It.nd,It.kn,endsF,It.sz,ints,Ls.encL]
 | .s (.loop q m)=>simp [It.enc,St.enc,It.ks,encF,It.nd,It.kn,endsF,It.sz,ints,Ls.encL]
 | .s (.atom m)=>simp [It.enc,St.enc,It.ks,encF,It.nd,It.kn,endsF,It.sz,ints,Ls.encL]
 | .s .halt=>rfl
 | .l m=>simp [It.enc,Ls.encL,It.ks,It.nd,It.kn,m.its_enc,m.its_ends]
theorem It.sz_eq (x:It):x.sz=szF x.ks+1:=by
 have h:=congrArg List.length (x.enc_eq 0)
 rw [It.len,qu,qxi] at h;exact h
theorem It.ok_view (x:It) (h:x.ok):shape x.kn.1 x.kn.2 x.ks.length=some (x.ks.map It.cls)/\(∀ y ∈ x.ks,y.ok)/\x.atm=(x.ks.any It.atm || decide (x.kn.1=18))/\(x.kn.1=18->x.ks.any It.atm=false):=by
 match x,h with
 | .e (.num n),h=>exact ⟨by simp [shape,It.kn,It.ks],by simp [It.ks],by simp [It.atm,It.ks,It.kn],by simp [It.kn]⟩
 | .e (.var v),h =>
  have h:v<=7:=h
  exact ⟨by simp [shape,It.kn,It.ks];omega,by simp [It.ks],by simp [It.atm,It.ks,It.kn],by simp [It.kn]⟩
 | .e (.load a),h =>
  have h:a.ok:=h
  exact ⟨by simp [shape,It.kn,It.ks,It.cls],by simp [It.ks,It.ok,h],by simp [It.atm,It.ks,It.kn],by simp [It.kn]⟩
 | .e (.bin o a b),h =>
  obtain ⟨h1,h2,h3,h4⟩:=h
  refine ⟨?_,by simp [It.ks,It.ok,h3,h4],?_,?_⟩
  ·show shape (o:Int) 0 2=some [1,1]
   unfold shape
   rw [qo (by omega),qo (by omega),qo (by omega),xc (by omega)]
  ·have:¬ ((o:Int)=18):=by omega
   simp [It.atm,It.ks,It.kn,this]
  ·intro e;simp only [It.kn] at e;omega
 | .c x,h =>
  obtain ⟨h1,h2,h3,h4⟩:=h
  refine ⟨?_,by simp [It.ks,It.ok,h3,h4],?_,?_⟩
  ·show shape (x.k:Int) 0 2=some [1,1]
   unfold shape
   rw [qo (by omega),qo (by omega),qo (by omega),xc (by omega)]
  ·have:¬ ((x.k:Int)=18):=by omega
   simp [It.atm,It.ks,It.kn,this]
  ·intro e;simp only [It.kn] at e;omega
 | .s (.set v a),h =>
  obtain ⟨h,h'⟩:=h
  exact ⟨by simp [shape,It.kn,It.ks,It.cls];omega,by simp [It.ks,It.ok,h'],by simp [It.atm,St.atm,It.ks,It.kn],by simp [It.kn]⟩
 | .s (.store a b),h=>exact ⟨by simp [shape,It.kn,It.ks,It.cls],by simp [It.ks,It.ok,h.1,h.2],by simp [It.atm,St.atm,It.ks,It.kn],by simp [It.kn]⟩
 | .s (.ite q m),h=>exact ⟨by simp [shape,It.kn,It.ks,It.cls],by simp [It.ks,It.ok,h.1,h.2],by simp [It.atm,St.atm,It.ks,It.kn],by simp [It.kn]⟩
 | .s (.ites q m w),h=>exact ⟨by simp [shape,It.kn,It.ks,It.cls],by simp [It.ks,It.ok,h.1,h.2.1,h.2.2],by simp [It.atm,St.atm,It.ks,It.kn],by simp [It.kn]⟩
 | .s (.loop q m),h=>exact ⟨by simp [shape,It.kn,It.ks,It.cls],by simp [It.ks,It.ok,h.1,h.2],by simp [It.atm,St.atm,It.ks,It.kn],by simp [It.kn]⟩
 | .s (.atom m),h=>exact ⟨by simp [shape,It.kn,It.ks,It.cls],by simp [It.ks,It.ok,h.1],by simp [It.atm,St.atm,It.ks,It.kn],fun _=>by simp [It.ks,It.atm,h.2]⟩
 | .s .halt,h=>exact ⟨by simp [shape,It.kn,It.ks],by simp [It.ks],by simp [It.atm,St.atm,It.ks,It.kn],by simp [It.kn]⟩
 | .l m,h=>exact ⟨by simp [shape,It.kn,It.ks,m.its_cls],m.its_ok h,by simp [It.atm,It.ks,It.kn,m.its_atm],by simp [It.kn]⟩
def Ls.of:List It->Ls
 | .s x::r=>.cons x (Ls.of r)
 | _=>.nil
theorem Ls.of_its:∀ (f:List It) (n:Nat),f.map It.cls=List.replicate n 3->(Ls.of f).its=f/\((∀ y ∈ f,y.ok)->(Ls.of f).ok)
 | [],_,_=>⟨rfl,fun _=>trivial⟩
 | x::r,0,h=>by simp at h
 | x::r,n+1,h=>by
  rw [xw,qc1,xl] at h
  obtain ⟨h1,h2⟩:=Ls.of_its r n h.2
  cases x with
  | s x=>exact ⟨by simp [Ls.of,Ls.its,h1],fun ho=>⟨ho (.s x) (by simp),h2 fun y hy=>ho y (by simp [hy])⟩⟩
  | e x=>simp [It.cls] at h
  | c x=>simp [It.cls] at h
  | l x=>simp [It.cls] at h
theorem len2 {α:Type} {f:List α} (h:f.length=2):∃ x y,f=[x,y]:=by
 cases f with
 | nil=>cases h
 | cons x f=>obtain ⟨y,rfl⟩:=List.length_eq_one_iff.1 (by simpa using h:f.length=1);exact ⟨x,y,rfl⟩
theorem len3 {α:Type} {f:List α} (h:f.length=3):∃ x y z,f=[x,y,z]:=by
 cases f with
 | nil=>cases h
 | cons x f=>obtain ⟨y,z,rfl⟩:=len2 (by simpa using h:f.length=2);exact ⟨x,y,z,rfl⟩
theorem cls_e {f:List It} (h:f.map It.cls=[1]):∃ a,f=[.e a]:=by
 obtain ⟨x,rfl⟩:=List.length_eq_one_iff.1 (by simpa using congrArg List.length h:f.length=1)
 cases x<;>simp [It.cls] at h;exact ⟨_,rfl⟩
theorem cls_l {f:List It} (h:f.map It.cls=[4]):∃ a,f=[.l a]:=by
 obtain ⟨x,rfl⟩:=List.length_eq_one_iff.1 (by simpa using congrArg List.length h:f.length=1)
 cases x<;>simp [It.cls] at h;exact ⟨_,rfl⟩
theorem cls_ee {f:List It} (h:f.map It.cls=[1,1]):∃ a b,f=[.e a,.e b]:=by
 obtain ⟨x,y,rfl⟩:=len2 (by simpa using congrArg List.length h:f.length=2)
 cases x<;>cases y<;>simp [It.cls] at h;exact ⟨_,_,rfl⟩
theorem cls_cl {f:List It} (h:f.map It.cls=[2,4]):∃ a b,f=[.c a,.l b]:=by
 obtain ⟨x,y,rfl⟩:=len2 (by simpa using congrArg List.length h:f.length=2)
 cases x<;>cases y<;>simp [It.cls] at h;exact ⟨_,_,rfl⟩
theorem cls_cll {f:List It} (h:f.map It.cls=[2,4,4]):∃ a b c,f=[.c a,.l b,.l c]:=by
 obtain ⟨x,y,z,rfl⟩:=len3 (by simpa using congrArg List.length h:f.length=3)
 cases x<;>cases y<;>cases z<;>simp [It.cls] at h;exact ⟨_,_,_,rfl⟩
theorem It.of {k n:Int} {f:List It} (hn:0<=n) (hs:shape k n f.length=some (f.map It.cls)) (hok:∀ y ∈ f,y.ok) (ha:k=18->f.any It.atm=false):∃ x:It,x.ks=f/\x.kn=(k,n)/\x.ok:=by
 unfold shape at hs
 split at hs
 ·cases hs
 rename_i h0
 split at hs
 ·rename_i h1
  have:f=[]:=by simpa using hs.symm
  subst this
  rcases h1 with rfl|rfl|rfl
  ·exact ⟨.e (.num n.toNat),rfl,by simp [It.kn];omega,trivial⟩
  ·exact ⟨.e (.var n.toNat),rfl,by simp [It.kn];omega,show n.toNat<=7 by omega⟩
  ·exact ⟨.s .halt,rfl,by simp [It.kn];omega,trivial⟩
 split at hs
 ·rename_i h1 h2
  obtain ⟨a,rfl⟩:=cls_e (qag hs).symm
  have:=hok (.e a) (by simp)
  rcases h2 with rfl|rfl
  ·exact ⟨.e (.load a),rfl,by simp [It.kn];omega,this⟩
  ·exact ⟨.s (.set n.toNat a),rfl,by simp [It.kn];omega,by omega,this⟩
 split at hs
 ·rename_i h1 h2 h3
  obtain ⟨a,b,rfl⟩:=cls_ee (qag hs).symm
  have o1:=hok (.e a) (by simp)
  have o2:=hok (.e b) (by simp)
  rcases h3 with ⟨h4,h5⟩|rfl
  ·by_cases h6:k<=10
   ·exact ⟨.e (.bin k.toNat a b),rfl,by simp [It.kn];omega,by omega,by omega,o1,o2⟩
   ·exact ⟨.c ⟨k.toNat,a,b⟩,rfl,by simp [It.kn];omega,by simp only;omega,by simp only;omega,o1,o2⟩
  ·exact ⟨.s (.store a b),rfl,by simp [It.kn];omega,o1,o2⟩
 split at hs
 ·rename_i h1 h2 h3 h4
  obtain ⟨a,b,c,rfl⟩:=cls_cll (qag hs).symm
  obtain ⟨rfl,_⟩:=h4
  exact ⟨.s (.ites a b c),rfl,by simp [It.kn];omega,hok (.c a) (by simp),hok (.l b) (by simp),hok (.l c) (by simp)⟩
 split at hs
 ·rename_i h1 h2 h3 h4 h5
  obtain ⟨a,b,rfl⟩:=cls_cl (qag hs).symm
  rcases h5 with rfl|rfl
  ·exact ⟨.s (.ite a b),rfl,by simp [It.kn];omega,hok (.c a) (by simp),hok (.l b) (by simp)⟩
  ·exact ⟨.s (.loop a b),rfl,by simp [It.kn];omega,hok (.c a) (by simp),hok (.l b) (by simp)⟩
 split at hs
 ·rename_i h1 h2 h3 h4 h5 h6
  subst h6
  obtain ⟨a,rfl⟩:=cls_l (qag hs).symm
  exact ⟨.s (.atom a),rfl,by simp [It.kn];omega,hok (.l a) (by simp),by simpa [It.atm] using ha rfl⟩
 split at hs
 ·rename_i h1 h2 h3 h4 h5 h6 h7
  subst h7
  obtain ⟨h8,h9⟩:=Ls.of_its f f.length (qag hs).symm
  exact ⟨.l (Ls.of f),h8,by simp [It.kn];omega,h9 hok⟩
 ·cases hs
theorem map_of {α β γ:Type} {p:β -> γ} {q:α -> γ} {l:List β} {m:List α} (hl:l.length=m.length) (h:∀ (k:Nat) (x:β) (y:α),l[k]? = some x->m[k]? = some y->p x=q y):l.map p=m.map q:=by
 apply vz
 intro k
 rw [xf,xf]
 cases hx:l[k]? with
 | none=>rw [List.getElem?_eq_none_iff] at hx;rw [zr (by omega)];rfl
 | some x =>
  have:k<m.length:=by rw [<-hl];exact (qi.1 hx).1
  rw [xu this]
  simp only [qc3]
  rw [h k x m[k] hx (xu this)]
def FlOk (fl:List Bool) (f:List It) (b:Nat):Prop:=∀ (k:Nat) e x,(endsF f b)[k]? = some e->f[k]? = some x->fl.getD e false=x.atm
theorem FlOk.any {fl:List Bool} {f:List It} {b:Nat} (h:FlOk fl f b):((endsF f b).any fun j=>fl.getD j false)=f.any It.atm:=by
 have:=map_of (qza f b) (p:=fun j=>fl.getD j false) (q:=It.atm) h
 have e:=congrArg (fun l=>l.any id) this
 simpa [List.any_map,Function.comp_def] using e
end Lang
end Go.Am
namespace Go.Am
namespace Lang
def sgn (o:Nat):List UInt8:=if o=4 then [43] else if o=5 then [45] else if o=6 then [42] else if o=7 then [38] else if o=8 then [94] else if o=9 then [60,60] else [62,62]
def rowOf (o:Nat):Nat:=if o=4\/o=5\/o=8 then 1 else 2
def csgn (k:Nat):List UInt8:=if k=11 then [32,61,61,32] else if k=12 then [32,33,61,32] else [32,60,32]
def letter (v:Nat):List UInt8:=[UInt8.ofNat (97+v)]
def par (q:Prop) [Decidable q] (s:List UInt8):List UInt8:=if q then s else []
def Ex.txt:Ex->Nat->List UInt8
 | .num n,_=>dec n
 | .var v,_=>letter v
 | .load a,_=>[108,111,97,100,40]++a.txt 0 ++ [41]
 | .bin o a b,least=>par (rowOf o<least) [40]++a.txt (rowOf o)++([32]++sgn o ++ [32])++b.txt (rowOf o+1)++par (rowOf o<least) [41]
def Cn.txt (c:Cn):List UInt8:=c.a.txt 0++csgn c.k++c.b.txt 0
def ind (deep:Nat):List UInt8:=List.replicate (2*deep) 32
mutual
def St.txt:St->Nat->List UInt8
 | .set v a,_=>letter v ++ [32,61,32]++a.txt 0 ++ [59]
 | .store a b,_=>[115,116,111,114,101,40]++a.txt 0 ++ [44,32]++b.txt 0 ++ [41,59]
 | .ite c l,d=>[105,102,32,40]++c.txt ++ [41,32]++([123,10]++l.txt (d+1)++(ind d ++ [125]))
 | .ites c l e,d=>[105,102,32,40]++c.txt ++ [41,32]++([123,10]++l.txt (d+1)++(ind d ++ [125])) ++ [32,101,108,115,101,32]++([123,10]++e.txt (d+1)++(ind d ++ [125]))
 | .loop c l,d=>[119,104,105,108,101,32,40]++c.txt ++ [41,32]++([123,10]++l.txt (d+1)++(ind d ++ [125]))
 | .atom l,d=>[97,116,111,109,105,99,32]++([123,10]++l.txt (d+1)++(ind d ++ [125]))
 | .halt,_=>[104,97,108,116,59]
def Ls.txt:Ls->Nat->List UInt8
 | .nil,_=>[]
 | .cons s l,d=>ind d++s.txt d ++ [10]++l.txt d
end
end Lang
end Go.Am
namespace Go.Am
namespace Lang
def Seg (t:List Nd) (b:Nat) (l:List Nd):Prop:=∀ i x,l[i]? = some x->t[b+i]? = some x
theorem Seg.all (t:List Nd):Seg t 0 t:=fun i x h=>by rw [yv];exact h
theorem Seg.left {t:List Nd} {b:Nat} {l m:List Nd} (h:Seg t b (l++m)):Seg t b l:=fun i x hx=>h i x (by rw [kw (qi.1 hx).1];exact hx)
theorem Seg.right {t:List Nd} {b:Nat} {l m:List Nd} (h:Seg t b (l++m)) {c:Nat} (hc:c=b+l.length):Seg t c m:=fun i x hx=>by
 subst hc
 have:=h (l.length+i) x (by rw [js (by omega)];simpa using hx)
 rw [yj];exact this
theorem Seg.one {t:List Nd} {b:Nat} {x:Nd} {m:List Nd} (h:Seg t b (x::m)):t[b]? = some x:=h 0 x rfl
theorem Seg.nd {t:List Nd} {b:Nat} {x:It} (h:Seg t b (x.enc b)):t[b+x.sz-1]? = some (x.nd b)/\Seg t b (encF x.ks b):=by
 rw [It.enc_eq] at h
 refine ⟨?_,h.left⟩
 have:=(h.right (c:=b+x.sz-1) (by rw [qxi,It.sz_eq];omega)).one
 exact this
theorem Seg.cons {t:List Nd} {b:Nat} {x:It} {r:List It} (h:Seg t b (encF (x::r) b)):Seg t b (x.enc b)/\Seg t (b+x.sz) (encF r (b+x.sz)) :=
 ⟨Seg.left h,Seg.right h (by rw [It.len])⟩
theorem Seg.lt {t:List Nd} {b:Nat} {x:It} (h:Seg t b (x.enc b)):b+x.sz<=t.length:=by
 have:=(qi.1 h.nd.1).1
 have:=x.pos;omega
theorem It.sub (t:List Nd):∀ (m:Nat) (f:List It) (b n:Nat),szF f<=m->(∀ y ∈ f,y.ok)->Seg t b (encF f b)->b<=n->n<b+szF f -> ∃ (x:It) (c:Nat),x.ok/\Seg t c (x.enc c)/\n=c+x.sz-1/\b<=c:=by
 intro m
 induction m with
 | zero=>intro f b n hm _ _ h1 h2;omega
 | succ m ih =>
  intro f b n hm hok hs h1 h2
  cases f with
  | nil=>simp [szF] at h2;omega
  | cons x r =>
   obtain ⟨s1,s2⟩:=hs.cons
   have hx:=hok x (by simp)
   have hsz:=x.sz_eq
   simp only [szF] at hm h2
   rcases z8 n (b+x.sz) with q|q
   ·by_cases hl:n=b+x.sz-1
    ·exact ⟨x,b,hx,s1,hl,qe _⟩
    ·exact ih x.ks b n (by omega) (x.ok_view hx).2.1 s1.nd.2 h1 (by omega)
   ·obtain ⟨y,c,k1,k2,k3,k4⟩:=ih r (b+x.sz) n (by have:=x.pos;omega) (fun y hy=>hok y (by simp [hy])) s2 q (by omega)
    exact ⟨y,c,k1,k2,k3,by omega⟩
theorem Ls.sub {p:Ls} (hp:p.ok) {n:Nat} (hn:n<(p.encL 0).length):∃ (x:It) (c:Nat),x.ok/\Seg (p.encL 0) c (x.enc c)/\n=c+x.sz-1:=by
 obtain ⟨x,c,h1,h2,h3,_⟩:=It.sub (p.encL 0) (szF [.l p]) [.l p] 0 n (qe _) (fun y hy=>by rw [List.mem_singleton.1 hy];exact hp) (by
  have e:encF [.l p] 0=p.encL 0:=by simp [encF,It.enc]
  rw [e];exact Seg.all _) (zl _) (by rw [Ls.lenL] at hn;simpa [szF,It.sz] using hn)
 exact ⟨x,c,h1,h2,h3⟩
theorem sgn_len (o:Nat):(sgn o).length<=2:=by unfold sgn;(repeat' split)<;>decide
theorem csgn_len (o:Nat):(csgn o).length<=4:=by unfold csgn;(repeat' split)<;>decide
theorem par_len (q:Prop) [Decidable q]:(par q [40]).length<=1/\(par q [41]).length<=1:=by unfold par;constructor<;>(split<;>decide)
def Ex.small:Ex->Prop
 | .num n=>n<18446744073709551616
 | .var _=>True
 | .load a=>a.small
 | .bin _ a b=>a.small/\b.small
def Cn.small (c:Cn):Prop:=c.a.small/\c.b.small
mutual
def St.small:St->Prop
 | .set _ a=>a.small
 | .store a b=>a.small/\b.small
 | .ite c l=>c.small/\l.small
 | .ites c l e=>c.small/\l.small/\e.small
 | .loop c l=>c.small/\l.small
 | .atom l=>l.small
 | .halt=>True
def Ls.small:Ls->Prop
 | .nil=>True
 | .cons s l=>s.small/\l.small
end
theorem Ex.txt_len:∀ (x:Ex) (d:Nat),x.small->(x.txt d).length<=30*x.sz
 | .num n,d,h=>by have:=q5f (n:=n) h;simp only [Ex.txt,Ex.sz];omega
 | .var v,d,_=>by simp [Ex.txt,letter,Ex.sz]
 | .load a,d,h=>by have:=a.txt_len 0 h;simp only [Ex.txt,Ex.sz,qu,jn,ya];omega
 | .bin o a b,d,h=>by
  have:=a.txt_len (rowOf o) h.1;have:=b.txt_len (rowOf o+1) h.2;have:=sgn_len o;obtain ⟨_,_⟩:=par_len (rowOf o<d)
  simp only [Ex.txt,Ex.sz,qu,jn,ya];omega
theorem Cn.txt_len (c:Cn) (h:c.small):c.txt.length<=30*c.sz:=by
 have:=c.a.txt_len 0 h.1;have:=c.b.txt_len 0 h.2;have:=csgn_len c.k
 simp only [Cn.txt,Cn.sz,qu];omega
theorem qtp (d:Nat):(ind d).length=2*d:=by simp [ind]
mutual
theorem St.txt_len:∀ (x:St) (d k:Nat),x.small->d+x.sz<=k->(x.txt d).length+(2*d+1)<=(40+8*k)*x.sz
 | .set v a,d,k,h,hd=>by
  have:=a.txt_len 0 h
  simp only [St.txt,St.sz,letter,qu,jn,ya,yk]
  have:8*k*(a.sz+1)=8*k*a.sz+8*k:=by rw [qhd,qc2]
  omega
 | .store a b,d,k,h,hd=>by
  have:=a.txt_len 0 h.1;have:=b.txt_len 0 h.2
  simp only [St.sz] at hd
  have e:(40+8*k)*(a.sz+b.sz+1)=40*a.sz+8*k*a.sz+(40*b.sz+8*k*b.sz)+(40+8*k):=by simp only [qhd,qc2,yk]
  simp only [St.txt,St.sz,qu,jn,ya];omega
 | .ite c l,d,k,h,hd=>by
  simp only [St.sz] at hd
  have cp:=c.pos
  have:=c.txt_len h.1;have:=l.txt_len (d+1) k h.2 (by omega);have:=qtp d
  have e:(40+8*k)*(c.sz+(l.sz+1)+1)=(40+8*k)*c.sz+(40+8*k)*l.sz+(40+8*k)+(40+8*k):=by simp only [qhd,qc2];omega
  have e2:30*c.sz<=(40+8*k)*c.sz:=zt _ (by omega)
  simp only [St.txt,St.sz,qu,jn,ya];omega
 | .ites c l m,d,k,h,hd=>by
  simp only [St.sz] at hd
  have cp:=c.pos
  have:=c.txt_len h.1;have:=l.txt_len (d+1) k h.2.1 (by omega);have:=m.txt_len (d+1) k h.2.2 (by omega);have:=qtp d
  have e:(40+8*k)*(c.sz+(l.sz+1)+(m.sz+1)+1)=(40+8*k)*c.sz+(40+8*k)*l.sz+(40+8*k)*m.sz+(40+8*k)+(40+8*k)+(40+8*k):=by simp only [qhd,qc2];omega
  have e2:30*c.sz<=(40+8*k)*c.sz:=zt _ (by omega)
  simp only [St.txt,St.sz,qu,jn,ya];omega
 | .loop c l,d,k,h,hd=>by
  simp only [St.sz] at hd
  have cp:=c.pos
  have:=c.txt_len h.1;have:=l.txt_len (d+1) k h.2 (by omega);have:=qtp d
  have e:(40+8*k)*(c.sz+(l.sz+1)+1)=(40+8*k)*c.sz+(40+8*k)*l.sz+(40+8*k)+(40+8*k):=by simp only [qhd,qc2];omega
  have e2:30*c.sz<=(40+8*k)*c.sz:=zt _ (by omega)
  simp only [St.txt,St.sz,qu,jn,ya];omega
 | .atom l,d,k,h,hd=>by
  simp only [St.sz] at hd
  have:=l.txt_len (d+1) k h (by omega);have:=qtp d
  have e:(40+8*k)*(l.sz+1+1)=(40+8*k)*l.sz+(40+8*k)+(40+8*k):=by simp only [qhd,qc2]
  simp only [St.txt,St.sz,qu,jn,ya];omega
 | .halt,d,k,h,hd=>by simp only [St.txt,St.sz,jn,ya];omega
theorem Ls.txt_len:∀ (x:Ls) (d k:Nat),x.small->d+x.sz<=k->(x.txt d).length<=(40+8*k)*x.sz
 | .nil,d,k,h,hd=>by simp [Ls.txt]
 | .cons s l,d,k,h,hd=>by
  simp only [Ls.sz] at hd
  have:=s.txt_len d k h.1 (by omega);have:=l.txt_len d k h.2 (by omega);have:=qtp d
  have e:(40+8*k)*(s.sz+l.sz)=(40+8*k)*s.sz+(40+8*k)*l.sz:=qhd ..
  simp only [Ls.txt,Ls.sz,qu,jn,ya];omega
end
end Lang
end Go.Am
namespace Go.Am
def encZ (x:Nat):List AV:=[.int .i64 (x:Int)]
theorem encZ_len (x:Nat):(encZ x).length=1:=rfl
theorem qkg (l:List Nat):l.flatMap encZ=l.map fun (x:Nat)=>AV.int .i64 (x:Int):=by
 induction l with
 | nil=>rfl
 | cons a l ih=>rw [j4,ih];rfl
theorem qcp (l:List Nat):(l.flatMap encZ).length=l.length:=by rw [qkg,zd]
structure Stk (e:Nat) (H0 H:AHeap) (v:AV) (xs:List Nat):Prop where
 own:(v=.nils/\xs=[]) \/ ∃ b m rest,v=.gslice b 0 m 1 0 xs.length/\b<H.next/\H0.next<=b/\m=xs.length+rest.length/\H.get b=some (.grown m 1 (xs.flatMap encZ++rest) e (0,0))
 fr:Fr Em H0 H
section
variable {e:Nat} {H0 H:AHeap} {v:AV} {xs:List Nat}
theorem Stk.nil (e:Nat) (H:AHeap):Stk e H H .nils []:=⟨.inl ⟨rfl,rfl⟩,Fr.refl H⟩
theorem Stk.fresh (h:Stk e H0 H v xs):∀ b,OnS v b->H0.next<=b/\b<H.next:=by
 rintro b ⟨h1,rfl⟩
 rcases h.own with ⟨rfl,_⟩|⟨b,m,rest,rfl,q1,q2,_⟩
 ·exact (h1 rfl).elim
 ·exact ⟨q2,q1⟩
theorem Stk.sl (h:Stk e H0 H v xs):SlT encZ 1 H v xs:=by
 rcases h.own with ⟨rfl,rfl⟩|⟨b,m,rest,rfl,q1,q2,q3,q4⟩
 ·exact ⟨rfl,rfl⟩
 ·refine ⟨by rw [qcp,qc2],rfl,rfl,by omega,.inr ⟨q1,_,qoz q4,?_⟩⟩
  rw [qce,xc (by rw [qu,qcp];omega),yh,qct,qc2,j9 (by rw [qcp];exact qe _),zb (by rw [qcp];exact qe _)]
theorem Stk.frW {H':AHeap} {W:Nat->Prop} (h:Stk e H0 H v xs) (f:Fr W H H') (f0:Fr Em H0 H') (hw:∀ b,OnS v b -> ¬ W b):Stk e H0 H' v xs:=by
 refine ⟨?_,f0⟩
 rcases h.own with q|⟨b,m,rest,rfl,q1,q2,q3,q4⟩
 ·exact .inl q
 ·exact .inr ⟨b,m,rest,rfl,ql q1 f.next,q2,q3,by rw [f.keep b q1 (hw b ⟨by simp,rfl⟩)];exact q4⟩
theorem Stk.em {H':AHeap} (h:Stk e H0 H v xs) (f:Fr Em H H'):Stk e H0 H' v xs:=h.frW f (h.fr.em f) fun _ _ q=>q
theorem Stk.cut (h:Stk e H0 H v xs) {k:Nat} (hk:k<=xs.length) {z:Int} (hz:z=k) (kk:IntKind) :
 ∃ v',Op.sliceSl 1 [none,some 0,none] [v,.int kk z]=some v'/\Stk e H0 H v' (xs.take k) /\ ∀ b,OnS v' b->OnS v b:=by
 rcases h.own with ⟨rfl,rfl⟩|⟨b,m,rest,rfl,q1,q2,q3,q4⟩
 ·have:k=0:=by simpa using hk
  subst this
  refine ⟨.nils,?_,⟨.inl ⟨rfl,rfl⟩,h.fr⟩,fun b hb=>hb⟩
  have hbn:bound none 0 0=some 0:=rfl
  simp [Op.sliceSl,arg,qcq,sliceV,hbn,qfa hz (qe 0)]
 ·have e1:∀ n,Nat.beq n n=true:=fun n=>by simp
  have hb1:∀ d m,bound none d m=some d:=fun _ _=>rfl
  have hkm:=qb6 (show k<=m-0 by omega)
  refine ⟨.gslice b (0+0) m 1 (cond (Nat.beq 0 0) 0 (0*1)) (k-0),by simp only [Op.sliceSl,arg,qcq,ke,qf,sliceV,hb1,qfa hz (show k<=m-0 by omega),e1,hkm,qb6 (zl m),ko,qz],⟨.inr ⟨b,m,(xs.drop k).flatMap encZ++rest,?_,q1,q2,?_,?_⟩,h.fr⟩,fun b hb=>⟨by simp,hb.2⟩⟩
  ·rw [zm,Nat.min_eq_left hk];rfl
  ·rw [zm,qu,qcp,vx];omega
  ·rw [q4,<-zj,<-qbv,kq]
theorem Stk.push (h:Stk e H0 H v xs) {x:Nat} {zero:List AV} {bytes:Nat} (hz:zero.length=1) (hf:(xs.length+1)*bytes<=140737488355328) (hf':xs.length+1<=140737488355328) {K:AObj->(Nat->AV)->Bool->AV->AHeap->Prop} {m:Bool}
 (hk:∀ v' H',Stk e H0 H' v' (xs ++ [x])->Fr (OnS v) H H'->(∀ b,OnS v' b->OnS v b\/H.next<=b)->K (.row [.int .i64 (x:Int)] e (0,0) true) (Op.sliceTo 1 1) m v' H') :
 B32 m (Op.buildSlice e 1 zero [(0,1)] [.int .i64 (x:Int)]) fun g o mk=>B32 g (Op.append e 1 bytes [v,mk H.next] (H.alloc o)) (K o mk):=by
 have hb:Op.buildSlice e 1 zero [(0,1)] [.int .i64 (x:Int)]=some (.row [.int .i64 (x:Int)] e (0,0) true,Op.sliceTo 1 1):=qx6 e 1 zero (.int .i64 (x:Int)) hz rfl
 rw [hb]
 have hfr:Fr Em H (H.alloc (.row [.int .i64 (x:Int)] e (0,0) true)):=(Fr.refl H).alloc _
 have hx:Sl (H.alloc (.row [.int .i64 (x:Int)] e (0,0) true)) 1 (Op.sliceTo 1 1 H.next) 1 [.int .i64 (x:Int)]:=sl_new rfl
 have e1:∀ n,Nat.beq n n=true:=fun n=>by simp
 have ha:allOne [AV.int .i64 (x:Int)]=true:=rfl
 have hlt:Nat.blt 0 1=true:=rfl
 have h10:Nat.beq 1 0=false:=rfl
 have hfit:=q1b hf hf'
 refine B32.intro rfl ?_
 rcases h.own with ⟨rfl,rfl⟩|⟨b,mm,rest,rfl,q1,q2,q3,q4⟩
 ·have hfit:fits 1 bytes=true:=by simpa using hfit
  refine B32.intro (a:=.gslice (H.next+1) 0 1 1 0 1) (b:=(H.alloc (.row [.int .i64 (x:Int)] e (0,0) true)).alloc (.grown 1 1 [.int .i64 (x:Int)] e (0,0))) ?_ (hk _ _ ⟨.inr ⟨H.next+1,1,[],rfl,?_,?_,rfl,?_⟩,?_⟩ ((hfr.alloc _).mono fun _ _ q=>q.elim) fun b hb=>.inr ?_)
  ·simp only [Op.append,hx.lenV,hx.first,qf,ha,qz,appendV,h10,xy,hfit,hlt,ko,grownV,za]
  ·rw [za,za];omega
  ·have:=h.fr.next;omega
  ·exact xg ..
  ·exact (h.fr.em hfr).alloc _
  ·rw [hb.2];show H.next<=H.next+1;omega
 ·have q4':(H.alloc (.row [.int .i64 (x:Int)] e (0,0) true)).get b=some (.grown mm 1 (xs.flatMap encZ++rest) e (0,0)):=by rw [qmt q1];exact q4
  cases rest with
  | nil =>
   have hm:mm=xs.length:=by simpa using q3
   subst hm
   have h3:Nat.ble (0+xs.length+1) xs.length=false:=by cases hq:Nat.ble (0+xs.length+1) xs.length with|false=>rfl|true=>rw [vl] at hq;omega
   have h4:=qb6 (show 0+xs.length<=xs.length by omega)
   have h5:=qb6 (zl (xs.length*1))
   refine B32.intro (a:=.gslice (H.next+1) 0 (xs.length+1) 1 0 (xs.length+1)) (b:=((H.alloc (.row [.int .i64 (x:Int)] e (0,0) true)).kill b).alloc (.grown (xs.length+1) 1 (xs.flatMap encZ ++ [.int .i64 (x:Int)]) e (0,0))) ?_ (hk _ _ ⟨.inr ⟨H.next+1,xs.length+1,[],?_,?_,?_,?_,?_⟩,?_⟩ ?_ fun b hb=>.inr ?_)
   ·simp only [Op.append,hx.lenV,hx.first,qf,ha,qz,appendV,h10,xy,e1,h4,hlt,ko,h3,hfit,q4',h5,grownV,qkl,za,qdt,jb,Nat.beq]
   ·rw [qu];rfl
   ·rw [za,qkl,za];omega
   ·have:=h.fr.next;omega
   ·rw [qu];rfl
   ·rw [jb,qbv]
    have:=xg ((H.alloc (.row [.int .i64 (x:Int)] e (0,0) true)).kill b) (.grown (xs.length+1) 1 (xs.flatMap encZ ++ [.int .i64 (x:Int)]) e (0,0))
    rw [qkl,za] at this
    exact this
   ·exact ((h.fr.em hfr).kill (.inr q2)).alloc _
   ·exact (Fr.kill (W:=OnS (AV.gslice b 0 xs.length 1 0 xs.length)) (hfr.mono fun _ _ q=>q.elim) (.inl ⟨by simp,rfl⟩)).alloc _
   ·rw [hb.2];show H.next<=H.next+1;omega
  | cons r rest =>
   have h3:=qb6 (show 0+xs.length+1<=mm by simp at q3;omega)
   have h4:=qb6 (show 0+xs.length<=mm by omega)
   have hst:(H.alloc (.row [.int .i64 (x:Int)] e (0,0) true)).store b ((0+xs.length)*1) [.int .i64 (x:Int)]=some ((H.alloc (.row [.int .i64 (x:Int)] e (0,0) true)).set b (.grown mm 1 ((xs ++ [x]).flatMap encZ++rest) e (0,0))):=by
    have ht:thawed (0,0) ((0+xs.length)*1) (lenL [AV.int .i64 (x:Int)])=true:=by simp [thawed]
    simp only [AHeap.store,ha,qz,q4',ht,qj0]
    rw [xc (by rw [qu,qcp];simp),qf]
    congr 4
    rw [yv,qc2,j9 (by rw [qcp];exact qe _),zb (by rw [qcp];exact qe _),qbv]
    ·rfl
    ·rw [yv,qc2,show [AV.int .i64 (x:Int)].length=1 from rfl,qbm,j7 (by rw [qcp];omega),qcp]
     simp
   refine B32.intro (a:=.gslice b 0 mm 1 0 (xs.length+1)) (b:=(H.alloc (.row [.int .i64 (x:Int)] e (0,0) true)).set b (.grown mm 1 ((xs ++ [x]).flatMap encZ++rest) e (0,0))) ?_ (hk _ _ ⟨.inr ⟨b,mm,rest,?_,?_,q2,?_,?_⟩,?_⟩ ?_ fun c hc=>.inl ⟨by simp,hc.2⟩)
   ·simp only [Op.append,hx.lenV,hx.first,qf,ha,qz,appendV,h10,xy,e1,h4,hlt,ko,h3,hst]
   ·rw [qu];rfl
   ·rw [qpq,za];omega
   ·rw [qu];simp at q3 ⊢;omega
   ·exact xj ..
   ·exact (h.fr.em hfr).set (.inr q2) _
   ·exact Fr.set (W:=OnS (AV.gslice b 0 mm 1 0 xs.length)) (hfr.mono fun _ _ q=>q.elim) (.inl ⟨by simp,rfl⟩) _
end
end Go.Am
namespace Go.Am
open Lang
def encI (x:Int):List AV:=[.int .i64 x]
def encN (z:Nd × AV):List AV:=[.int .i64 z.1.k,.int .u64 z.1.n,z.2]
theorem qsl (z:Nd × AV):(encN z).length=3:=rfl
abbrev nodeV (x:Nd) (a:AV):AV:=.agg [.int .i64 x.k,.int .u64 x.n,a]
structure Nds (H:AHeap) (v:AV) (ts:List Nd):Prop where
 ex:∃ zs:List (Nd × AV),zs.map (·.1)=ts/\SlT encN 3 H v zs /\ ∀ z ∈ zs,SlT encI 1 H z.2 z.1.kids
section
variable {H H':AHeap} {v:AV} {ts:List Nd}
theorem Nds.em (h:Nds H v ts) (f:Fr Em H H'):Nds H' v ts:=by
 obtain ⟨zs,h1,h2,h3⟩:=h.ex
 exact ⟨zs,h1,h2.em f,fun z hz=>(h3 z hz).em f⟩
theorem Nds.len (h:Nds H v ts):Op.lenSl [v]=some (.int .i64 ts.length):=by
 obtain ⟨zs,h1,h2,h3⟩:=h.ex
 rw [h2.len,<-h1,zd]
theorem Nds.get (h:Nds H v ts) {i:Nat} {x:Nd} (hx:ts[i]? = some x):∃ a,SlT encI 1 H a x.kids/\oneCell a=true /\
 (∀ k,Op.indexSl 3 [v,.int k (i:Int)]=some (.ptr (slB v) (slO 3 v i)))/\Op.loadN 3 [.ptr (slB v) (slO 3 v i)] H=some (nodeV x a) /\
 Op.load1 [.ptr (slB v) (slO 3 v i)] H=some (.int .i64 x.k)/\Op.load1 [.ptr (slB v) (slO 3 v i+1)] H=some (.int .u64 x.n)/\Op.load1 [.ptr (slB v) (slO 3 v i+2)] H=some a:=by
 obtain ⟨zs,h1,h2,h3⟩:=h.ex
 obtain ⟨z,hz,rfl⟩:∃ z,zs[i]? = some z/\z.1=x:=by
  rw [<-h1,xf] at hx
  cases hq:zs[i]? with
  | none=>rw [hq] at hx;cases hx
  | some z=>rw [hq] at hx;injection hx with hx;exact ⟨z,rfl,hx⟩
 have ha:=h3 z (jf hz)
 refine ⟨z.2,ha,ha.one,fun k=>h2.idx hz rfl k,h2.loadN qsl (by decide) hz,h2.load0 qsl hz (by decide),h2.load1 qsl hz (j:=1) (by decide),h2.load1 qsl hz (j:=2) (by decide)⟩
end
end Go.Am
namespace Go.Am
open Go.RowKit
section
variable {P:Program}
def Wt (P:Program) (t:TypeId) {Hh:Type} (d:DataW Hh):Prop:=∀ x ∈ DataW.weights P t d,x<=reachBytes
theorem q3b {Hh:Type} {e:TypeId} {x:Nat} {d:DataW Hh}:∀ {l:List (DataW Hh)},d ∈ l->x ∈ DataW.weights P e d->x ∈ DataW.weightsAll P e l
 | y::l,h,hx=>by
  rw [DataW.weightsAll,jt]
  rcases zp.1 h with rfl|h
  ·exact .inl hx
  ·exact .inr (q3b h hx)
def RdW (P:Program) (t:TypeId) (R:AHeap->List AV->Prop):Prop :=
 (∀ H H' l,R H l->Fr Em H H'->R H' l) /\ ∀ {Hh:Type} (enc:TypeId × Value->Hh) (W:World) (held:Bool) (fuel:Nat) (cs:List Value) (d:DataW Hh) (ps:List MemPlace),
  DataW.trod enc P W 0 (fun _=>true) held fuel t cs=some (d,ps)->Wt P t d -> ∀ (θ:Th) (n:Nat) (gl:GL),Good W θ n gl -> ∃ θ' n' gl' l,Step W θ n gl θ' n' gl'/\VRL (Lt n') θ' l cs/\R (vd gl' n') l
theorem RdP.toW {t:TypeId} {R:AHeap->List AV->Prop} (h:RdP P t R):RdW P t R:=⟨h.1,fun enc W held fuel cs d ps ht _=>h.2 enc W held fuel cs d ps ht⟩
theorem q22 {e:TypeId} {R:AHeap->List AV->Prop} (hR:RdW P e R) {Hh:Type} (enc:TypeId × Value->Hh) (W:World) (held:Bool) (fuel:Nat):∀ (css:List (List Value)),(∀ cs ∈ css,∃ x,DataW.trod enc P W 0 (fun _=>true) held fuel e cs=some x/\Wt P e x.1) ->
 ∀ (θ:Th) (n:Nat) (gl:GL),Good W θ n gl -> ∃ (θ':Th) (n':Nat) (gl':GL) (ls:List (List AV)),Step W θ n gl θ' n' gl'/\VRL (Lt n') θ' ls.flatten css.flatten/\ls.length=css.length /\ ∀ (i:Nat) l cs,ls[i]? = some l->css[i]? = some cs->R (vd gl' n') l/\l.length=cs.length
 | [],_,θ,n,gl,hg=>⟨θ,n,gl,[],Step.refl hg,.nil,rfl,fun i l cs h=>by simp at h⟩
 | cs::css,h,θ,n,gl,hg=>by
  obtain ⟨x,hx,hw⟩:=h cs (by simp)
  obtain ⟨θ1,n1,gl1,l,s1,v1,r1⟩:=hR.2 enc W held fuel cs x.1 x.2 hx hw θ n gl hg
  obtain ⟨θ2,n2,gl2,ls,s2,v2,q2,q3⟩:=q22 hR enc W held fuel css (fun c hc=>h c (by simp [hc])) θ1 n1 gl1 s1.good
  refine ⟨θ2,n2,gl2,l::ls,s1.trans s2,?_,by simp [q2],fun i l' cs' h1 h2=>?_⟩
  ·rw [qcw,qcw]
   exact (v1.up s2.ag fun b hb=>ql hb s2.le).app v2
  ·cases i with
   | zero =>
    simp at h1 h2;subst h1;subst h2
    exact ⟨hR.1 _ _ _ r1 s2.fr,v1.length.symm⟩
   | succ i=>exact q3 i l' cs' (by simpa using h1) (by simpa using h2)
def SlW (P:Program) (e:TypeId) (R:AHeap->List AV->Prop) (size:Nat) (H:AHeap) (u:AV):Prop:=SlR R size H u /\ ∀ k,lenV u=some k->k*P.bytesOf e<=reachBytes
theorem q6h {t e:TypeId} {R:AHeap->List AV->Prop} (ht:P.underlying t=some (.slice e)) (hR:RdW P e R) (hs:0<P.cellsOf e):RdW P t fun H l=>∃ u,l=[u]/\SlW P e R (P.cellsOf e) H u:=by
 refine ⟨fun H H' l ⟨u,h1,h2,h3⟩ f=>⟨u,h1,h2.em hR.1 f,h3⟩,?_⟩
 intro Hh enc W held fuel cs0 d ps h hwt θ n gl hg
 cases fuel with
 | zero=>cases h
 | succ f =>
  have key:cs0=[.slice none 0 0] \/ ∃ a len cap,cs0=[.slice (some a) len cap]/\len<=cap/\(∀ i,i<len -> ∃ cs x,W.cells? 0 (a.add (i*P.cellsOf e)) (P.cellsOf e)=some cs/\DataW.trod enc P W 0 (fun _=>true) held f e cs=some x/\Wt P e x.1)/\len*P.bytesOf e<=reachBytes/\(len<cap -> ∃ cs,W.cells? 0 (a.add (len*P.cellsOf e)) (P.cellsOf e)=some cs):=by
   simp only [DataW.trod,ht] at h
   split at h<;>first|(cases h;done) | skip
   all_goals first|(rename_i h1;cases h1;done) | skip
   ·left;rfl
   ·right
    rename_i e' a len cap h1
    injection h1 with h1;injection h1 with h1;subst h1
    split at h
    ·rename_i hb
     simp only [qa,qbr,qv] at h
     obtain ⟨elems,he,rest,hre,hdd⟩:=h
     injection hdd with hdd _
     have hw1:=hwt ((elems.length+rest.length)*P.bytesOf e) (by rw [<-hdd,DataW.weights,ht];simp)
     have hel0:elems.length=len:=by have:=mapM_some_length he;simpa using this
     refine ⟨a,len,cap,rfl,hb.2.1,fun i hi=>?_,zn (zt _ (by omega)) hw1,fun hlt=>?_⟩
     ·have hl:=mapM_some_length he
      have:=mapM_some_get he i i (by simp [hi])
      have hi':i<elems.length:=by rw [hl];simpa using hi
      rw [xu hi'] at this
      obtain ⟨cs,q1,q2⟩:=qa.1 this
      refine ⟨cs,_,q1,q2,fun x hx=>hwt x ?_⟩
      rw [<-hdd,DataW.weights,ht]
      exact ww _ (jt.2 (.inl (q3b (List.mem_map_of_mem (List.getElem_mem hi')) hx)))
     ·have hl:=mapM_some_length hre
      have:=mapM_some_get hre 0 0 (by rw [vo (by omega)])
      have hi':0<rest.length:=by rw [hl];simp;omega
      rw [xu hi',kz] at this
      obtain ⟨cs,q1,q2⟩:=qa.1 this
      exact ⟨cs,q1⟩
    ·cases h
  rcases key with rfl|⟨a,len,cap,rfl,hlc,hel,hbig,hre⟩
  ·exact ⟨θ,n,gl,[.nils],Step.refl hg,fun _ _=>rfl,.nils,rfl,⟨[],by simp,⟨by simp,rfl⟩,.inl rfl⟩,(fun k hk=>by injection hk with hk;subst hk;simp)⟩
  ·obtain ⟨k,o,s⟩:=a
   by_cases h0:cap=0
   ·subst h0
    have:len=0:=by omega
    subst this
    have hst:=Step.bare' hg k o (encSpot s)
    refine ⟨_,_,_,[.eslice n],hst,.one ?_,.eslice n,rfl,⟨[],by simp,⟨by simp,rfl,xp n⟩,.inr (xp n)⟩,(fun k hk=>by injection hk with hk;subst hk;simp)⟩
    intro θ' hθ
    obtain ⟨q1,q2,q3⟩:=θ.add_new n k o (encSpot s)
    obtain ⟨r1,r2,r3⟩:=hθ n (xp n)
    simp only [conc,r1,r2,r3,q1,q2,q3,q27]
   ·have hsp:s=none:=by
     by_cases hl0:len=0
     ·subst hl0
      obtain ⟨cs,hc⟩:=hre (by omega)
      rw [yh] at hc
      exact qil hs (by simpa [Addr.add] using hc)
     ·obtain ⟨cs,x,hc,_,_⟩:=hel 0 (by omega)
      rw [yh] at hc
      exact qil hs (by simpa [Addr.add] using hc)
    subst hsp
    by_cases hl0:len=0
    ·subst hl0
     refine ⟨_,_,_,[.slice n 0 0 cap],Step.bare hg k o,.one ?_,.slice n 0 0 cap,rfl,⟨[],by simp,⟨by simp,rfl,zl _,.inl rfl⟩,.inr (xp n)⟩,(fun k hk=>by injection hk with hk;subst hk;simp)⟩
     have:=VR.slice (D:=Lt (n+1)) (θ:=θ.add n k o 0) (b:=n) (o:=0) (n:=0) (c:=cap) (xp n:Lt (n+1) n)
     obtain ⟨q1,q2,_⟩:=θ.add_new n k o 0
     simpa [conc,q1,q2] using this
    ·have hex:∀ i:Nat,∃ cs,i<len->W.cells? 0 ⟨k,o+i*P.cellsOf e,none⟩ (P.cellsOf e)=some cs /\ ∃ x,DataW.trod enc P W 0 (fun _=>true) held f e cs=some x/\Wt P e x.1:=fun i=>by
      by_cases hi:i<len
      ·obtain ⟨cs,x,h1,h2⟩:=hel i hi
       rw [qd5] at h1
       exact ⟨cs,fun _=>⟨h1,x,h2⟩⟩
      ·exact ⟨[],fun h=>(hi h).elim⟩
     obtain ⟨F,hF⟩:=Classical.axiomOfChoice hex
     let css:=(List.range len).map F
     have hcl:css.length=len:=by simp [css]
     have hcg:∀ (i:Nat) c,css[i]? = some c->i<len/\c=F i:=fun i c hc=>by
      simp only [css,xf,qv] at hc
      obtain ⟨j,hj,rfl⟩:=hc
      have hi:i<len:=by have:=qdq hj;simpa using this
      rw [vo hi] at hj
      injection hj with hj;subst hj
      exact ⟨hi,rfl⟩
     obtain ⟨arr,e',fz,hh,_,_⟩:=qiq hs (hF 0 (by omega)).1
     obtain ⟨arr',e2,fz2,hh',_,hle⟩:=qiq hs (hF (len-1) (by omega)).1
     rw [hh] at hh';injection hh' with hh';injection hh' with q1 q2 q3;subst q1
     have hmul:(len-1)*P.cellsOf e+P.cellsOf e=len*P.cellsOf e:=by rw [<-k9];congr 1;omega
     have hone:∀ (i:Nat) c,css[i]? = some c->c=(arr.toList.drop (o+i*P.cellsOf e)).take (P.cellsOf e)/\c.length=P.cellsOf e:=fun i c hc=>by
      obtain ⟨hi,rfl⟩:=hcg i c hc
      obtain ⟨arr',e2,fz2,hh',h6,h7⟩:=qiq hs (hF i hi).1
      rw [hh] at hh';injection hh' with hh';injection hh' with q1 q2 q3;subst q1
      exact ⟨h6,by rw [h6];simp;omega⟩
     have hcat:css.flatten=(arr.toList.drop o).take (len*P.cellsOf e):=by rw [qms hone,hcl]
     obtain ⟨θ1,n1,gl1,ls,s1,v1,l1,r1⟩:=q22 hR enc W held f css (fun c hc=>by
      obtain ⟨i,hi⟩:=qay.1 hc
      obtain ⟨hi',rfl⟩:=hcg i c hi
      exact (hF i hi').2) θ n gl hg
     rw [hcat] at v1
     have hsz:o+len*P.cellsOf e<=arr.size:=by omega
     have hls:ls.length=len:=by rw [l1,hcl]
     have hflen:ls.flatten.length=len*P.cellsOf e:=by rw [<-v1.length,zm,vx,kv];omega
     have hrow:=Step.row (l:=ls.flatten) (k:=k) (off:=o) (pre:=arr.toList.take o) (cs:=(arr.toList.drop o).take (len*P.cellsOf e)) (post:=arr.toList.drop (o+len*P.cellsOf e)) (e:=e') (fz:=fz) s1.good (by
      rw [hh];congr 2
      have hq:arr.toList.take o++(arr.toList.drop o).take (len*P.cellsOf e)++arr.toList.drop (o+len*P.cellsOf e)=arr.toList:=by
       rw [zj,<-qa5,kq,kq]
      rw [hq]) (by simp;omega) v1
     refine ⟨_,_,_,[.slice n1 0 len cap],s1.trans hrow,.one ?_,.slice n1 0 len cap,rfl,⟨ls,fun l hl=>?_,⟨by rw [hflen,hls],hls.symm,by rw [hls];exact hlc,.inr ⟨xp n1,ls.flatten,xd (fz:=(0,0)) (e:=0) (ow:=false) ?_,?_⟩⟩,.inr (xp n1)⟩,fun k hk=>by injection hk with hk;subst hk;exact hbig⟩
     ·have:=VR.slice (D:=Lt (n1+1)) (θ:=θ1.add n1 k o 0) (b:=n1) (o:=0) (n:=len) (c:=cap) (xp n1:Lt (n1+1) n1)
      obtain ⟨q1,q2,_⟩:=θ1.add_new n1 k o 0
      simpa [conc,q1,q2] using this
     ·obtain ⟨i,hi⟩:=qay.1 hl
      have hil:i<css.length:=by rw [<-l1];exact qdq hi
      obtain ⟨q1,q2⟩:=r1 i l css[i] hi (by simp [hil])
      exact ⟨hR.1 _ _ _ q1 hrow.fr,by rw [q2];exact (hone i _ (by simp [hil])).2⟩
     ·show (qet ((n1,ls.flatten)::gl1) .nil).get n1=_
      rw [qet,T.get_set,xc rfl]
     ·rw [hls,qce,xc (by omega),qct,zb (by omega)]
def qjo:List (AHeap->List AV->Prop)->AHeap->List AV->Prop
 | [],_,l=>l=[]
 | R::Rs,H,l=>∃ a b,l=a++b/\R H a/\qjo Rs H b
theorem qjo.em:∀ {Rs:List (AHeap->List AV->Prop)},(∀ R ∈ Rs,∀ H H' l,R H l->Fr Em H H'->R H' l) -> ∀ H H' l,qjo Rs H l->Fr Em H H'->qjo Rs H' l
 | [],_,_,_,_,h,_=>h
 | R::Rs,hm,H,H',l,⟨a,b,h1,h2,h3⟩,f=>⟨a,b,h1,hm R (by simp) _ _ _ h2 f,qjo.em (fun S hS=>hm S (by simp [hS])) _ _ _ h3 f⟩
theorem q0g {Hh:Type} (enc:TypeId × Value->Hh) (W:World) (held:Bool) (fuel:Nat) {cs:List Value}:∀ {fs:List (TypeId × Nat × (AHeap->List AV->Prop))} {k:Nat} {xs:List (DataW Hh × List MemPlace)},
 (∀ f ∈ fs,RdW P f.1 f.2.2)->(∀ (j:Nat) f,fs[j]? = some f->f.2.1=k+((fs.take j).map fun f=>P.cellsOf f.1).sum) ->
 fs.mapM (fun f=>DataW.trod enc P W 0 (fun _=>true) held fuel f.1 ((cs.drop f.2.1).take (P.cellsOf f.1)))=some xs->(∀ x ∈ DataW.weightsEach P (fs.map (·.1)) (xs.map (·.1)),x<=reachBytes) ->
 k+(fs.map fun f=>P.cellsOf f.1).sum<=cs.length -> ∀ (θ:Th) (n:Nat) (gl:GL),Good W θ n gl ->
 ∃ θ' n' gl' l,Step W θ n gl θ' n' gl'/\VRL (Lt n') θ' l ((cs.drop k).take ((fs.map fun f=>P.cellsOf f.1).sum))/\qjo (fs.map (·.2.2)) (vd gl' n') l
 | [],k,xs,_,_,_,_,_,θ,n,gl,hg=>⟨θ,n,gl,[],Step.refl hg,by simpa using VRL.nil,rfl⟩
 | f::fs,k,xs,hf,ho,hm,hw,hl,θ,n,gl,hg=>by
  simp only [qeu,Option.bind_eq_bind,qa,Option.pure_def,qb] at hm
  obtain ⟨y,hy,ys,hys,rfl⟩:=hm
  simp only [xw,DataW.weightsEach,jt] at hw
  have h0:f.2.1=k:=by have:=ho 0 f rfl;simpa using this
  obtain ⟨θ1,n1,gl1,a,s1,v1,r1⟩:=(hf f (by simp)).2 enc W held fuel _ y.1 y.2 hy (fun x hx=>hw x (.inl hx)) θ n gl hg
  simp only [xw,qfs] at hl
  obtain ⟨θ2,n2,gl2,b,s2,v2,r2⟩:=q0g enc W held fuel (cs:=cs) (fs:=fs) (k:=k+P.cellsOf f.1) (fun g hg=>hf g (by simp [hg])) (fun j g hg=>by
   have:=ho (j+1) g (by simpa using hg)
   simp only [List.take_succ_cons,xw,qfs] at this
   omega) hys (fun x hx=>hw x (.inr hx)) (by omega) θ1 n1 gl1 s1.good
  refine ⟨θ2,n2,gl2,a++b,s1.trans s2,?_,a,b,rfl,(hf f (by simp)).1 _ _ _ r1 s2.fr,r2⟩
  rw [h0] at v1
  rw [xw,qfs,List.take_add,qa5]
  exact (v1.up s2.ag fun b hb=>ql hb s2.le).app v2
theorem q2s {H:Type} {g:TypeId->List Value->Option (DataW H × List MemPlace)} {cs:List Value}:∀ {fs:List Field} {Rs:List (AHeap->List AV->Prop)},fs.length=Rs.length ->
 fs.mapM (fun f=>g f.type ((cs.drop f.offset).take (P.cellsOf f.type)))=((fs.zip Rs).map fun x=>(x.1.type,x.1.offset,x.2)).mapM (fun f=>g f.1 ((cs.drop f.2.1).take (P.cellsOf f.1)))
 | [],[],_=>rfl
 | f::fs,R::Rs,h=>by simp only [wz,xw,qeu,q2s (fs:=fs) (Rs:=Rs) (by simpa using h)]
theorem q4h {t:TypeId} {fs:Array Field} {Rs:List (AHeap->List AV->Prop)} (h:P.underlying t=some (.struct fs)) (hn:fs.toList.length=Rs.length) (hR:∀ x ∈ fs.toList.zip Rs,RdW P x.1.type x.2)
 (ho:qmq P 0 fs.toList=true) (hc:(fs.toList.map fun f=>P.cellsOf f.type).sum=P.cellsOf t):RdW P t fun H l=>qjo Rs H l:=by
 refine ⟨qjo.em fun R hR'=>?_,?_⟩
 ·obtain ⟨i,hi⟩:=qay.1 hR'
  have hil:i<fs.toList.length:=by rw [hn];exact qdq hi
  have hz:(fs.toList.zip Rs)[i]? = some (fs.toList[i],R):=by rw [List.getElem?_zip_eq_some];exact ⟨by simp [xu hil],hi⟩
  exact (hR _ (jf hz)).1
 intro Hh enc W held fuel cs d ps ht hwt θ n gl hg
 cases fuel with
 | zero=>cases ht
 | succ f =>
  have hlen:cs.length=P.cellsOf t /\ ∃ xs,fs.toList.mapM (fun g=>DataW.trod enc P W 0 (fun _=>true) held f g.type ((cs.drop g.offset).take (P.cellsOf g.type)))=some xs /\ ∀ x ∈ DataW.weightsEach P (fs.toList.map (·.type)) (xs.map (·.1)),x<=reachBytes:=by
   simp only [DataW.trod,h] at ht
   split at ht
   ·rename_i hl
    obtain ⟨xs,hm,hdd⟩:=qv.1 ht
    injection hdd with hdd _
    exact ⟨hl,xs,hm,fun x hx=>hwt x (by rw [<-hdd,DataW.weights,h];exact hx)⟩
   ·cases ht
  obtain ⟨hl,xs,hm,hw⟩:=hlen
  rw [q2s (Rs:=Rs) hn] at hm
  have e1:((fs.toList.zip Rs).map fun x=>(x.1.type,x.1.offset,x.2)).map (fun f=>P.cellsOf f.1)=fs.toList.map fun f=>P.cellsOf f.type:=by
   rw [yg]
   have:((fs.toList.zip Rs).map fun x=>P.cellsOf x.1.type)=(fs.toList.zip Rs |>.map Prod.fst).map fun f=>P.cellsOf f.type:=by rw [yg];rfl
   rw [List.map_fst_zip (by omega)] at this
   exact this
  have e0:((fs.toList.zip Rs).map fun x=>(x.1.type,x.1.offset,x.2)).map (·.1)=fs.toList.map (·.type):=by
   rw [yg]
   have:((fs.toList.zip Rs).map fun x=>x.1.type)=(fs.toList.zip Rs |>.map Prod.fst).map (·.type):=by rw [yg];rfl
   rw [List.map_fst_zip (by omega)] at this
   exact this
  have e2:((fs.toList.zip Rs).map fun x=>(x.1.type,x.1.offset,x.2)).map (·.2.2)=Rs:=by
   rw [yg]
   have:((fs.toList.zip Rs).map fun x=>x.2)=Rs:=by rw [List.map_snd_zip (by omega)]
   exact this
  obtain ⟨θ',n',gl',l,s,v,r⟩:=q0g enc W held f (cs:=cs) (k:=0) (fs:=(fs.toList.zip Rs).map fun x=>(x.1.type,x.1.offset,x.2)) (fun g hg=>by
   obtain ⟨x,hx,rfl⟩:=List.mem_map.1 hg
   exact hR x hx) (fun j g hg=>by
   simp only [xf,qv,List.getElem?_zip_eq_some] at hg
   obtain ⟨x,⟨hx1,hx2⟩,rfl⟩:=hg
   have:=q2k ho j x.1 hx1
   rw [qgn,e1,<-qgn];exact this) hm (by rw [e0];exact hw) (by rw [e1,hc,hl];omega) θ n gl hg
  rw [e2] at r
  rw [e1,hc,qct,zb (by omega)] at v
  exact ⟨θ',n',gl',l,s,v,r⟩
end
end Go.Am
namespace Go.Am
open Go.RowKit Lang
section
variable {P:Program}
theorem RdW.imp {t:TypeId} {R R':AHeap->List AV->Prop} (h:RdW P t R) (hm:∀ H H' l,R' H l->Fr Em H H'->R' H' l) (hi:∀ H l,R H l->R' H l):RdW P t R' :=
 ⟨hm,fun enc W held fuel cs d ps ht hw θ n gl hg=>by
  obtain ⟨θ',n',gl',l,s,v,r⟩:=h.2 enc W held fuel cs d ps ht hw θ n gl hg
  exact ⟨θ',n',gl',l,s,v,hi _ _ r⟩⟩
theorem q3d {α β:Type} {f:α->TypeId} {Q:TypeId -> β->Prop}:∀ (l:List α) (R:List β),(∀ x ∈ (l.map f).zip R,Q x.1 x.2) -> ∀ x ∈ l.zip R,Q (f x.1) x.2
 | [],_,_,x,h=>by simp at h
 | _::_,[],_,x,h=>by simp at h
 | a::l,b::R,hq,x,h=>by
  rcases zp.1 h with rfl|h
  ·exact hq (f a,b) (by simp)
  ·exact q3d l R (fun y hy=>hq y (by simp [hy])) x h
structure NdsArg (H:AHeap) (u:AV) (ts:List Nd):Prop where
 nds:Nds H u ts
 len:ts.length*40<=reachBytes
 kids:∀ x ∈ ts,x.kids.length*8<=reachBytes
 lo:∀ x ∈ ts,0<=x.n
 hi:∀ x ∈ ts,x.n<18446744073709551616
end
end Go.Am
namespace Go.Am
def ITERO (AP:Mac) (g:Nat) (pre cap:List AV) (N O:Nat->Prop) (H0:AHeap) (xs:List (List AV)):Prop :=
 ∀ (L:Nat) (R:Nat->(Nat->Prop)->AHeap->Prop) (S:(Nat->Prop)->AHeap->Prop) (W0:Nat->Prop) (H:AHeap),
  H0.next<=H.next->(∀ b,N b\/O b->b<H0.next/\H.get b=H0.get b /\ ¬ W0 b)->R 0 W0 H->(∀ b,W0 b->b<H.next) ->
  (∀ i W H H',R i W H->(∀ b,W b->H'.get b=H.get b)->H.next<=H'.next->R i W H')->(∀ W H H',S W H->(∀ b,W b->H'.get b=H.get b)->H.next<=H'.next->S W H') ->
  (∀ (i:Nat) x,xs[i]? = some x -> ∀ W H',R i W H'->(∀ b,W b->b<H'.next/\(W0 b\/H.next<=b))->Fr (fun b=>W0 b\/O b) H H' ->
   ∃ bb H'' W',ROUND AP L x H' (.ret (.bool bb)) H''/\Fr W H' H''/\(∀ b,W' b->b<H''.next/\(W b\/H'.next<=b))/\(bb=true->R (i+1) W' H'')/\(bb=false->S W' H'')) ->
  ∃ v H' W',CALL AP g (pre++(.fn (.yield L) [] []::cap)) H (.ret v) H'/\Fr (fun b=>W0 b\/O b) H H'/\(∀ b,W' b->b<H'.next/\(W0 b\/H.next<=b))/\(R xs.length W' H'\/S W' H')
section
variable {AP:Mac}
theorem q6m {f:Nat} {fn:AFunc} {k:Nat} {lp:ALoop} (hf:AP.func f=some fn) (hk:nth fn.loops k=some lp) {tm:T AV} {dfs:List ADef} {up:Option Chain} {H:AHeap} {Q:Post}
 {g:Nat} {pre cap:List AV} {N O:Nat->Prop} {H0:AHeap} {xs:List (List AV)} (hit:ITERO AP g pre cap N O H0 xs)
 (P:Nat->(Nat->Prop)->AHeap->Prop) (PS:AExit->(Nat->Prop)->AHeap->Prop) (W0:Nat->Prop)
 (hn:H0.next<=H.next) (hN:∀ b,N b\/O b->b<H0.next/\H.get b=H0.get b /\ ¬ W0 b) (hW0:∀ b,W0 b->b<H.next) (h0:P 0 W0 H)
 (loc:∀ i W H H',P i W H->(∀ b,W b->H'.get b=H.get b)->H.next<=H'.next->P i W H') (locS:∀ e W H H',PS e W H->(∀ b,W b->H'.get b=H.get b)->H.next<=H'.next->PS e W H')
 (hbody:∀ (L d i:Nat) x,xs[i]? = some x->H.next<=L -> ∀ W H1,P i W H1->(∀ b,W b->b<H1.next/\(W0 b\/H.next<=b))->Fr (fun b=>W0 b\/O b) H H1 -> ¬ W L->L<H1.next->H1.get L=some (.loop .ready none f k tm d) ->
  ∃ tm1,qhh tm lp.params x=some tm1/\WP AP ⟨some L,f⟩ lp.assign ⟨tm1,[],none,H1⟩ fun e st1=>e=.normal/\st1.H.get L=some (.loop .ready none f k tm d) /\
   WP AP ⟨some L,f⟩ lp.body ⟨st1.tm,st1.dfs,st1.up,st1.H.set L (.loop .busy none f k tm d)⟩ fun e2 st2=>st2.dfs=[]/\st2.H.get L=some (.loop .busy none f k tm d) /\
    ∃ W':Nat->Prop,(∀ b,W' b->b<st2.H.next/\(W b\/H1.next<=b))/\Fr (fun b=>W b\/b=L) H1 st2.H/\(e2=.normal/\P (i+1) W' st2.H\/isJump e2/\PS e2 W' st2.H))
 (hend:∀ d W' H',H.next<=d->d<H'.next->H'.get d=some (.deferred (some []))->Fr (fun b=>W0 b\/O b) H H'->(∀ b,W' b->b<H'.next/\(W0 b\/H.next<=b)/\b ≠ d)->P xs.length W' H'->Q .normal ⟨tm,.coll d::dfs,up,H'⟩)
 (hstop:∀ e d W' H',isJump e->H.next<=d->d<H'.next->H'.get d=some (.deferred (some []))->Fr (fun b=>W0 b\/O b) H H'->(∀ b,W' b->b<H'.next/\(W0 b\/H.next<=b)/\b ≠ d)->PS e W' H'->Q e ⟨tm,.coll d::dfs,up,H'⟩) :
 RNG AP ⟨none,f⟩ k ⟨tm,dfs,up,H⟩ Q (.fn (.func g) pre cap):=by
 let d:=H.next
 let L:=H.next+1
 let Hd:=H.alloc (.deferred (some []))
 let HL:=Hd.alloc (.loop .ready none f k tm d)
 have hHL:HL.next=H.next+2:=rfl
 have hgL:HL.get L=some (.loop .ready none f k tm d):=xg Hd _
 have hgd:HL.get d=some (.deferred (some [])):=by rw [show HL.get d=Hd.get d from qmt (by show H.next<H.next+1;omega) _];exact xg H _
 have hfr0:Fr Em H HL:=((Fr.refl H).alloc _).alloc _
 have hold:∀ b,b<H.next->HL.get b=H.get b:=fun b hb=>hfr0.keep b hb (fun q=>q)
 obtain ⟨v,H',W',hc,hfr,hW',hres⟩:=hit L
  (fun i W H'=>∃ V:Nat->Prop,(∀ b,V b->W b)/\W L /\ ¬ V L /\ ¬ W d/\(∀ b,W b->V b\/b=L)/\P i V H'/\H'.get L=some (.loop .ready none f k tm d)/\L<H'.next)
  (fun W H'=>∃ (V:Nat->Prop) (e:AExit) (j:AJump),(∀ b,V b->W b)/\W L /\ ¬ V L /\ ¬ W d/\(∀ b,W b->V b\/b=L)/\isJump e/\endOf e=some j/\PS e V H'/\H'.get L=some (.loop .done (some j) f k tm d)/\L<H'.next)
  (fun b=>W0 b\/b=L) HL (by rw [hHL];omega)
  (fun b hb=>by
   obtain ⟨h1,h2,h3⟩:=hN b hb
   exact ⟨h1,by rw [hold b (by omega)];exact h2,fun q=>q.elim h3 fun q=>by have:L=H.next+1:=rfl;omega⟩)
  ⟨W0,fun b hb=>.inl hb,.inr rfl,fun q=>by have:=hW0 _ q;have:L=H.next+1:=rfl;omega,fun q=>q.elim (fun q=>by have:=hW0 _ q;have:d=H.next:=rfl;omega) fun q=>by have:d=H.next:=rfl;have:L=H.next+1:=rfl;omega,
   fun b hb=>hb,loc 0 W0 H HL h0 (fun b hb=>hold b (hW0 b hb)) (by rw [hHL];omega),hgL,by rw [hHL];show H.next+1<H.next+2;omega⟩
  (fun b hb=>hb.elim (fun q=>by have:=hW0 b q;rw [hHL];omega) fun q=>by rw [hHL,q];show H.next+1<H.next+2;omega)
  (fun i W H1 H2 ⟨V,v1,v2,v3,v4,v5,v6,v7,v8⟩ hs hle=>⟨V,v1,v2,v3,v4,v5,loc i V H1 H2 v6 (fun b hb=>hs b (v1 b hb)) hle,by rw [hs L v2];exact v7,ql v8 hle⟩)
  (fun W H1 H2 ⟨V,e,j,v1,v2,v3,v4,v5,v6,v7,v8,v9,v10⟩ hs hle=>⟨V,e,j,v1,v2,v3,v4,v5,v6,v7,locS e V H1 H2 v8 (fun b hb=>hs b (v1 b hb)) hle,by rw [hs L v2];exact v9,ql v10 hle⟩)
  (fun i x hx W H1 ⟨V,v1,v2,v3,v4,v5,v6,v7,v8⟩ hb hfrS=>by
   have hLn0:L=H.next+1:=rfl
   have hfr1:Fr (fun b=>W0 b\/O b) H H1:=⟨zn (by rw [hHL];omega) hfrS.next,fun b hb hw=>by rw [hfrS.keep b (by rw [hHL];omega) (fun q=>q.elim (fun q=>q.elim (fun q=>hw (.inl q)) fun q=>by omega) fun q=>hw (.inr q)),hold b hb]⟩
   have hbV:∀ b,V b->b<H1.next/\(W0 b\/H.next<=b):=fun b q=>⟨(hb b (v1 b q)).1,(hb b (v1 b q)).2.elim (fun r=>r.elim .inl fun r=>by subst r;exact (v3 q).elim) fun r=>.inr (by rw [hHL] at r;omega)⟩
   obtain ⟨tm1,hbp,hw⟩:=hbody L d i x hx (by show H.next<=H.next+1;omega) V H1 v6 hbV hfr1 v3 v8 v7
   obtain ⟨e,H2,hr,bb,rfl,W2,k1,k2,k3,k4⟩:=qvc (Q:=fun e H2=>∃ bb,e=.ret (.bool bb) /\ ∃ W2:Nat->Prop,Fr W H1 H2/\(∀ b,W2 b->b<H2.next/\(W b\/H1.next<=b)) /\
    (bb=true -> ∃ V:Nat->Prop,(∀ b,V b->W2 b)/\W2 L /\ ¬ V L /\ ¬ W2 d/\(∀ b,W2 b->V b\/b=L)/\P (i+1) V H2/\H2.get L=some (.loop .ready none f k tm d)/\L<H2.next) /\
    (bb=false -> ∃ (V:Nat->Prop) (e:AExit) (j:AJump),(∀ b,V b->W2 b)/\W2 L /\ ¬ V L /\ ¬ W2 d/\(∀ b,W2 b->V b\/b=L)/\isJump e/\endOf e=some j/\PS e V H2/\H2.get L=some (.loop .done (some j) f k tm d)/\L<H2.next)) v7 hf hk hbp
    (qd9 hw fun e st1 ⟨he,hgl,hw2⟩=>by
     subst he
     show BIND dirty (beginRound st1.H L) _
     have:beginRound st1.H L=some (st1.H.set L (.loop .busy none f k tm d)):=by unfold beginRound;rw [hgl]
     rw [this]
     refine qd9 hw2 fun e2 st2 ⟨hd2,hg2,W',w1,w2,w3⟩=>⟨hd2,?_⟩
     have hLn:L<st2.H.next:=ql v8 w2.next
     have hd1:d<H1.next:=by have:d=H.next:=rfl;have:L=H.next+1:=rfl;omega
     have fin:∀ s p,Fr W H1 (st2.H.set L (.loop s p f k tm d)):=fun s p=>⟨w2.next,fun b hb hw=>by
      rw [AHeap.get_set,qo (by rintro rfl;exact hw v2)]
      exact w2.keep b hb fun q=>q.elim (fun q=>hw (v1 b q)) fun q=>hw (by rw [q];exact v2)⟩
     have hW'L:∀ b,(W' b/\b ≠ L)->(st2.H.set L (.loop .ready none f k tm d)).get b=st2.H.get b:=fun b hb=>by rw [AHeap.get_set,qo (fun q=>hb.2 q.symm)]
     have hnV:¬ W' L:=fun q=>by
      rcases (w1 L q).2 with q|q
      ·exact v3 q
      ·omega
     have hnd:¬ W' d:=fun q=>by
      rcases (w1 d q).2 with q|q
      ·exact v4 (v1 d q)
      ·omega
     have hdL:d ≠ L:=by show H.next ≠ H.next+1;omega
     have bounds:∀ b,(W' b\/b=L)->b<st2.H.next/\(W b\/H1.next<=b):=fun b hb=>hb.elim (fun q=>⟨(w1 b q).1,(w1 b q).2.imp (v1 b) id⟩) fun q=>by subst q;exact ⟨hLn,.inl v2⟩
     rcases w3 with ⟨rfl,w3⟩|⟨hj,w3⟩
     ·show BIND dirty (setLoop st2.H L (cond true .ready .done) none) _
      have:setLoop st2.H L .ready none=some (st2.H.set L (.loop .ready none f k tm d)):=by unfold setLoop;rw [hg2]
      rw [qz,this]
      refine ⟨true,rfl,fun b=>W' b\/b=L,fin _ _,bounds,fun _=>⟨W',fun b hb=>.inl hb,.inr rfl,hnV,fun q=>q.elim hnd hdL,fun b hb=>hb,loc _ _ _ _ w3 (fun b hb=>by rw [AHeap.get_set,qo (by rintro rfl;exact hnV hb)]) (qe _),xj _ _ _,hLn⟩,fun h=>by cases h⟩
     ·obtain ⟨j,hj2⟩:∃ j,endOf e2=some j:=by cases e2<;>first|exact hj.elim|exact ⟨_,rfl⟩
      have hnn:qfu e2=false:=by cases e2<;>first|exact hj.elim|rfl
      have hmatch:∀ (A:Prop),(BIND dirty (setLoop st2.H L (cond (qfu e2) .ready .done) (endOf e2)) fun H=>∃ bb,(AEnd.ret (.bool (qfu e2))=.ret (.bool bb)) /\ ∃ W2:Nat->Prop,Fr W H1 H/\(∀ b,W2 b->b<H.next/\(W b\/H1.next<=b)) /\
       (bb=true -> ∃ V:Nat->Prop,(∀ b,V b->W2 b)/\W2 L /\ ¬ V L /\ ¬ W2 d/\(∀ b,W2 b->V b\/b=L)/\P (i+1) V H/\H.get L=some (.loop .ready none f k tm d)/\L<H.next) /\
       (bb=false -> ∃ (V:Nat->Prop) (e:AExit) (j:AJump),(∀ b,V b->W2 b)/\W2 L /\ ¬ V L /\ ¬ W2 d/\(∀ b,W2 b->V b\/b=L)/\isJump e/\endOf e=some j/\PS e V H/\H.get L=some (.loop .done (some j) f k tm d)/\L<H.next)):=fun _=>by
       have:setLoop st2.H L .done (some j)=some (st2.H.set L (.loop .done (some j) f k tm d)):=by unfold setLoop;rw [hg2]
       rw [hnn,hj2,xy,this]
       refine ⟨false,rfl,fun b=>W' b\/b=L,fin _ _,bounds,fun h=>(by cases h),fun _=>⟨W',e2,j,fun b hb=>.inl hb,.inr rfl,hnV,fun q=>q.elim hnd hdL,fun b hb=>hb,hj,hj2,locS _ _ _ _ w3 (fun b hb=>by rw [AHeap.get_set,qo (by rintro rfl;exact hnV hb)]) (qe _),xj _ _ _,hLn⟩⟩
      cases e2 with
      | normal=>exact hj.elim
      | panic _=>exact hj.elim
      | exit _=>exact hmatch True
      | goto _=>exact hmatch True
      | ret=>exact hmatch True)
   exact ⟨bb,H2,W2,hr,k1,k2,k3,k4⟩)
 have hdL:d ≠ L:=by show H.next ≠ H.next+1;omega
 have hdW:¬ ((W0 d\/d=L)\/O d):=fun q=>q.elim (fun q=>q.elim (fun q=>by have:=hW0 _ q;have:d=H.next:=rfl;omega) hdL) fun q=>by have:=(hN d (.inr q)).1;have:d=H.next:=rfl;omega
 have hgd':H'.get d=some (.deferred (some [])):=by rw [hfr.keep d (by rw [hHL];show H.next<H.next+2;omega) hdW];exact hgd
 have hd':d<H'.next:=ql (by rw [hHL];show H.next<H.next+2;omega) hfr.next
 have hout:∀ (o:AObj),Fr (fun b=>W0 b\/O b) H (H'.set L o):=fun o=>⟨zn (by rw [hHL];omega) hfr.next,fun b hb hw=>by
  have:L=H.next+1:=rfl
  rw [AHeap.get_set,qo (by omega),hfr.keep b (by rw [hHL];omega) (fun q=>q.elim (fun q=>q.elim (fun q=>hw (.inl q)) fun q=>by omega) fun q=>hw (.inr q)),hold b hb]⟩
 refine ⟨.ret v,H',hc,?_⟩
 rcases hres with ⟨V,v1,v2,v3,v4,v5,v6,v7,v8⟩|⟨V,e,j,v1,v2,v3,v4,v5,v6,v7,v8,v9,v10⟩
 ·refine ⟨.ready,none,f,k,tm,d,v7,by simp,?_⟩
  refine hend d V _ (qe _) hd' (by rw [AHeap.get_set,qo (fun q=>hdL q.symm)];exact hgd') (hout _) (fun b hb=>⟨(hW' b (v1 b hb)).1,?_,fun q=>v4 (by rw [<-q];exact v1 b hb)⟩) (loc _ _ _ _ v6 (fun b hb=>by rw [AHeap.get_set,qo (by rintro rfl;exact v3 hb)]) (qe _))
  rcases (hW' b (v1 b hb)).2 with q|q
  ·exact q.imp id fun q=>by subst q;exact (v3 hb).elim
  ·rw [hHL] at q;exact .inr (by omega)
 ·refine ⟨.done,some j,f,k,tm,d,v9,by simp,?_⟩
  have he:exitOf (some j)=e:=by cases e<;>first|exact v6.elim|(injection v7 with v7;subst v7;rfl)
  rw [he]
  refine hstop e d V _ v6 (qe _) hd' (by rw [AHeap.get_set,qo (fun q=>hdL q.symm)];exact hgd') (hout _) (fun b hb=>⟨(hW' b (v1 b hb)).1,?_,fun q=>v4 (by rw [<-q];exact v1 b hb)⟩) (locS _ _ _ _ v8 (fun b hb=>by rw [AHeap.get_set,qo (by rintro rfl;exact v3 hb)]) (qe _))
  rcases (hW' b (v1 b hb)).2 with q|q
  ·exact q.imp id fun q=>by subst q;exact (v3 hb).elim
  ·rw [hHL] at q;exact .inr (by omega)
def bindE:List Nat->List AV->Env->Option Env
 | [],[],E=>some E
 | t::ts,v::vs,E=>bindE ts vs ((t,v)::E)
 | _,_,_=>none
def AS3 (M:Mac) (ctx:Ctx) (b:Kp × ACode) (L:Nat) (lr lb:AObj) (Q:Post3):Post3:=fun e E D H=>match e with
 | .normal=>H.get L=some lr/\W M ctx b true Q E D (H.set L lb)
 | _=>False
theorem qin (M:Mac) (ctx:Ctx) (b:Kp × ACode) (L:Nat) (lr lb:AObj) (Q:Post3) (E:Env) (D:List ADef) (H:AHeap):AS3 M ctx b L lr lb Q .normal E D H=(H.get L=some lr/\W M ctx b true Q E D (H.set L lb)):=propext j8
def BD3 (P:(Nat->Prop)->AHeap->Prop) (PS:AExit->(Nat->Prop)->AHeap->Prop) (L:Nat) (lb:AObj) (W:Nat->Prop) (H1:AHeap):Post3:=fun e _ D H=>D=[]/\H.get L=some lb /\
 ∃ W':Nat->Prop,(∀ b,W' b->b<H.next/\(W b\/H1.next<=b))/\Fr (fun b=>W b\/b=L) H1 H/\(e=.normal/\P W' H\/isJump e/\PS e W' H)
theorem ESub.cons {ks:List Nat} {E:Env} {tm:T AV} (h:ESub ks E tm) {t:Nat} (v:AV) (ht:memN t ks=true):ESub ks ((t,v)::E) (tm.set t v):=fun u x hu=>by
 rw [qgb] at hu
 split at hu
 ·rename_i e;subst e;injection hu with hu;subst hu
  exact ⟨by rw [T.get_set,xc rfl],ht⟩
 ·rename_i e
  obtain ⟨h1,h2⟩:=h u x hu
  exact ⟨by rw [T.get_set,qo e,h1],h2⟩
theorem qxf {ks:List Nat}:∀ {ts:List Nat} {vs:List AV} {E E1:Env} {tm:T AV},ESub ks E tm->(∀ t ∈ ts,memN t ks=true)->bindE ts vs E=some E1 -> ∃ tm1,qhh tm ts vs=some tm1/\ESub ks E1 tm1
 | [],[],E,E1,tm,h,ht,hb=>by injection hb with hb;subst hb;exact ⟨tm,rfl,h⟩
 | [],_::_,_,_,_,_,_,hb=>nomatch hb
 | _::_,[],_,_,_,_,_,hb=>nomatch hb
 | t::ts,v::vs,E,E1,tm,h,ht,hb=>qxf (ts:=ts) (vs:=vs) (h.cons v (ht t (qcf ..))) (fun u hu=>ht u (ww _ hu)) hb
theorem RNG3.iter {f:Nat} {fn:AFunc} {k:Nat} {lp:ALoop} (hf:AP.func f=some fn) (hk:nth fn.loops k=some lp) {ks:List Nat} {ts:List Nat} (hp:lp.params=ts) (hts:∀ t ∈ ts,memN t ks=true) {pa pb:Kp × ACode} (ha:pa.1.keep=ks/\pa.2=lp.assign) (hb:pb.1.keep=ks/\pb.2=lp.body)
 {E:Env} {D:List ADef} {H:AHeap} {Q:Post3} {g:Nat} {pre cap:List AV} {N O:Nat->Prop} {H0:AHeap} {xs:List (List AV)} (hit:ITERO AP g pre cap N O H0 xs)
 (P:Nat->(Nat->Prop)->AHeap->Prop) (PS:AExit->(Nat->Prop)->AHeap->Prop) (W0:Nat->Prop)
 (hn:H0.next<=H.next) (hN:∀ b,N b\/O b->b<H0.next/\H.get b=H0.get b /\ ¬ W0 b) (hW0:∀ b,W0 b->b<H.next) (h0:P 0 W0 H)
 (loc:∀ i W H H',P i W H->(∀ b,W b->H'.get b=H.get b)->H.next<=H'.next->P i W H') (locS:∀ e W H H',PS e W H->(∀ b,W b->H'.get b=H.get b)->H.next<=H'.next->PS e W H')
 (hbody:∀ (L i:Nat) (lr lb:AObj) x,xs[i]? = some x->H.next<=L -> ∀ W' H1,P i W' H1->(∀ b,W' b->b<H1.next/\(W0 b\/H.next<=b))->Fr (fun b=>W0 b\/O b) H H1 -> ¬ W' L->L<H1.next->H1.get L=some lr ->
  ∃ E1,bindE ts x E=some E1/\W AP ⟨some L,f⟩ pa true (AS3 AP ⟨some L,f⟩ pb L lr lb (BD3 (P (i+1)) PS L lb W' H1)) E1 [] H1)
 (hend:∀ d W' H',H.next<=d->d<H'.next->H'.get d=some (.deferred (some []))->Fr (fun b=>W0 b\/O b) H H'->(∀ b,W' b->b<H'.next/\(W0 b\/H.next<=b)/\b ≠ d)->P xs.length W' H'->Q .normal E (.coll d::D) H')
 (hstop:∀ e d W' H',isJump e->H.next<=d->d<H'.next->H'.get d=some (.deferred (some []))->Fr (fun b=>W0 b\/O b) H H'->(∀ b,W' b->b<H'.next/\(W0 b\/H.next<=b)/\b ≠ d)->PS e W' H'->Q e E (.coll d::D) H') :
 RNG3 AP ks ⟨none,f⟩ k E D H Q (.fn (.func g) pre cap):=by
 intro tm up he
 refine q6m hf hk hit P PS W0 hn hN hW0 h0 loc locS ?_ (fun d W' H' h1 h2 h3 h4 h5 h6=>⟨rfl,rfl,hend d W' H' h1 h2 h3 h4 h5 h6⟩) (fun e d W' H' h0 h1 h2 h3 h4 h5 h6=>⟨rfl,rfl,hstop e d W' H' h0 h1 h2 h3 h4 h5 h6⟩)
 intro L d i x hx hL W' H1 hP hW hfr hnL hLn hgL
 obtain ⟨E1,hE1,hw⟩:=hbody L i (.loop .ready none f k tm d) (.loop .busy none f k tm d) x hx hL W' H1 hP hW hfr hnL hLn hgL
 obtain ⟨tm1,hb1,he1⟩:=qxf he hts hE1
 refine ⟨tm1,by rw [hp];exact hb1,?_⟩
 rw [W_def] at hw
 have:=W3.wp _ _ (qe _) (up:=none) hw (by rw [ha.1];exact he1)
 rw [ha.2] at this
 refine qd9 this fun e st1 ⟨hup,E',hE',hq⟩=>?_
 cases e with
 | normal =>
  obtain ⟨hg,hw2⟩:=hq
  refine ⟨rfl,hg,?_⟩
  rw [W_def] at hw2
  have:=W3.wp _ _ (qe _) (up:=none) hw2 (show ESub pb.1.keep E' st1.tm by rw [hb.1,<-ha.1];exact hE')
  rw [hb.2] at this
  rw [hup]
  refine qd9 this fun e2 st2 ⟨hup2,E2,hE2,hd,hg2,W2,k1,k2,k3⟩=>⟨hd,hg2,W2,k1,k2,k3⟩
 | _=>exact hq.elim
theorem qh1 (rs:List ARes) (Q:AEnd->AHeap->Prop) (E:Env) (d:Nat) (H:AHeap):FIN3 AP rs Q .ret E [.coll d] H=(H.get d=some (.deferred (some []))/\RES3 E (H.set d (.deferred none)) rs fun l=>Q (.ret (tupled l)) (H.set d (.deferred none))):=propext j8
end
end Go.Am
namespace Go.Am
def ITERI (AP:Mac) (g:Nat) (pre cap:List AV) (N O:Nat->Prop) (I:AHeap->Prop) (H0:AHeap) (xs:List (List AV)):Prop :=
 ∀ (L:Nat) (R:Nat->(Nat->Prop)->AHeap->Prop) (S:(Nat->Prop)->AHeap->Prop) (W0:Nat->Prop) (H:AHeap),
  H0.next<=H.next->(∀ b,N b\/O b->b<H0.next/\H.get b=H0.get b /\ ¬ W0 b)->R 0 W0 H->(∀ b,W0 b->b<H.next) ->
  (∀ i W H H',R i W H->(∀ b,W b->H'.get b=H.get b)->H.next<=H'.next->R i W H')->(∀ W H H',S W H->(∀ b,W b->H'.get b=H.get b)->H.next<=H'.next->S W H') ->
  (∀ i W H',R i W H'->I H') ->
  (∀ (i:Nat) x,xs[i]? = some x -> ∀ W H',R i W H'->(∀ b,W b->b<H'.next/\(W0 b\/H.next<=b))->Fr (fun b=>W0 b\/O b) H H' ->
   ∃ bb H'' W',ROUND AP L x H' (.ret (.bool bb)) H''/\Fr W H' H''/\(∀ b,W' b->b<H''.next/\(W b\/H'.next<=b))/\(bb=true->R (i+1) W' H'')/\(bb=false->S W' H'')) ->
  ∃ v H' W',CALL AP g (pre++(.fn (.yield L) [] []::cap)) H (.ret v) H'/\Fr (fun b=>W0 b\/O b) H H'/\(∀ b,W' b->b<H'.next/\(W0 b\/H.next<=b))/\(R xs.length W' H'\/S W' H')
section
variable {AP:Mac}
theorem q6l {f:Nat} {fn:AFunc} {k:Nat} {lp:ALoop} (hf:AP.func f=some fn) (hk:nth fn.loops k=some lp) {tm:T AV} {dfs:List ADef} {up:Option Chain} {H:AHeap} {Q:Post}
 {g:Nat} {pre cap:List AV} {N O:Nat->Prop} {I:AHeap->Prop} {H0:AHeap} {xs:List (List AV)} (hit:ITERI AP g pre cap N O I H0 xs)
 (P:Nat->(Nat->Prop)->AHeap->Prop) (PS:AExit->(Nat->Prop)->AHeap->Prop) (W0:Nat->Prop)
 (hn:H0.next<=H.next) (hN:∀ b,N b\/O b->b<H0.next/\H.get b=H0.get b /\ ¬ W0 b) (hW0:∀ b,W0 b->b<H.next) (h0:P 0 W0 H)
 (loc:∀ i W H H',P i W H->(∀ b,W b->H'.get b=H.get b)->H.next<=H'.next->P i W H') (locS:∀ e W H H',PS e W H->(∀ b,W b->H'.get b=H.get b)->H.next<=H'.next->PS e W H') (hI:∀ i W H,P i W H->I H)
 (hbody:∀ (L d i:Nat) x,xs[i]? = some x->H.next<=L -> ∀ W H1,P i W H1->(∀ b,W b->b<H1.next/\(W0 b\/H.next<=b))->Fr (fun b=>W0 b\/O b) H H1 -> ¬ W L->L<H1.next->H1.get L=some (.loop .ready none f k tm d) ->
  ∃ tm1,qhh tm lp.params x=some tm1/\WP AP ⟨some L,f⟩ lp.assign ⟨tm1,[],none,H1⟩ fun e st1=>e=.normal/\st1.H.get L=some (.loop .ready none f k tm d) /\
   WP AP ⟨some L,f⟩ lp.body ⟨st1.tm,st1.dfs,st1.up,st1.H.set L (.loop .busy none f k tm d)⟩ fun e2 st2=>st2.dfs=[]/\st2.H.get L=some (.loop .busy none f k tm d) /\
    ∃ W':Nat->Prop,(∀ b,W' b->b<st2.H.next/\(W b\/H1.next<=b))/\Fr (fun b=>W b\/b=L) H1 st2.H/\(e2=.normal/\P (i+1) W' st2.H\/isJump e2/\PS e2 W' st2.H))
 (hend:∀ d W' H',H.next<=d->d<H'.next->H'.get d=some (.deferred (some []))->Fr (fun b=>W0 b\/O b) H H'->(∀ b,W' b->b<H'.next/\(W0 b\/H.next<=b)/\b ≠ d)->P xs.length W' H'->Q .normal ⟨tm,.coll d::dfs,up,H'⟩)
 (hstop:∀ e d W' H',isJump e->H.next<=d->d<H'.next->H'.get d=some (.deferred (some []))->Fr (fun b=>W0 b\/O b) H H'->(∀ b,W' b->b<H'.next/\(W0 b\/H.next<=b)/\b ≠ d)->PS e W' H'->Q e ⟨tm,.coll d::dfs,up,H'⟩) :
 RNG AP ⟨none,f⟩ k ⟨tm,dfs,up,H⟩ Q (.fn (.func g) pre cap):=by
 let d:=H.next
 let L:=H.next+1
 let Hd:=H.alloc (.deferred (some []))
 let HL:=Hd.alloc (.loop .ready none f k tm d)
 have hHL:HL.next=H.next+2:=rfl
 have hgL:HL.get L=some (.loop .ready none f k tm d):=xg Hd _
 have hgd:HL.get d=some (.deferred (some [])):=by rw [show HL.get d=Hd.get d from qmt (by show H.next<H.next+1;omega) _];exact xg H _
 have hfr0:Fr Em H HL:=((Fr.refl H).alloc _).alloc _
 have hold:∀ b,b<H.next->HL.get b=H.get b:=fun b hb=>hfr0.keep b hb (fun q=>q)
 obtain ⟨v,H',W',hc,hfr,hW',hres⟩:=hit L
  (fun i W H'=>∃ V:Nat->Prop,(∀ b,V b->W b)/\W L /\ ¬ V L /\ ¬ W d/\(∀ b,W b->V b\/b=L)/\P i V H'/\H'.get L=some (.loop .ready none f k tm d)/\L<H'.next)
  (fun W H'=>∃ (V:Nat->Prop) (e:AExit) (j:AJump),(∀ b,V b->W b)/\W L /\ ¬ V L /\ ¬ W d/\(∀ b,W b->V b\/b=L)/\isJump e/\endOf e=some j/\PS e V H'/\H'.get L=some (.loop .done (some j) f k tm d)/\L<H'.next)
  (fun b=>W0 b\/b=L) HL (by rw [hHL];omega)
  (fun b hb=>by
   obtain ⟨h1,h2,h3⟩:=hN b hb
   exact ⟨h1,by rw [hold b (by omega)];exact h2,fun q=>q.elim h3 fun q=>by have:L=H.next+1:=rfl;omega⟩)
  ⟨W0,fun b hb=>.inl hb,.inr rfl,fun q=>by have:=hW0 _ q;have:L=H.next+1:=rfl;omega,fun q=>q.elim (fun q=>by have:=hW0 _ q;have:d=H.next:=rfl;omega) fun q=>by have:d=H.next:=rfl;have:L=H.next+1:=rfl;omega,
   fun b hb=>hb,loc 0 W0 H HL h0 (fun b hb=>hold b (hW0 b hb)) (by rw [hHL];omega),hgL,by rw [hHL];show H.next+1<H.next+2;omega⟩
  (fun b hb=>hb.elim (fun q=>by have:=hW0 b q;rw [hHL];omega) fun q=>by rw [hHL,q];show H.next+1<H.next+2;omega)
  (fun i W H1 H2 ⟨V,v1,v2,v3,v4,v5,v6,v7,v8⟩ hs hle=>⟨V,v1,v2,v3,v4,v5,loc i V H1 H2 v6 (fun b hb=>hs b (v1 b hb)) hle,by rw [hs L v2];exact v7,ql v8 hle⟩)
  (fun W H1 H2 ⟨V,e,j,v1,v2,v3,v4,v5,v6,v7,v8,v9,v10⟩ hs hle=>⟨V,e,j,v1,v2,v3,v4,v5,v6,v7,locS e V H1 H2 v8 (fun b hb=>hs b (v1 b hb)) hle,by rw [hs L v2];exact v9,ql v10 hle⟩)
  (fun i W H1 ⟨V,v1,v2,v3,v4,v5,v6,v7,v8⟩=>hI i V H1 v6)
  (fun i x hx W H1 ⟨V,v1,v2,v3,v4,v5,v6,v7,v8⟩ hb hfrS=>by
   have hLn0:L=H.next+1:=rfl
   have hfr1:Fr (fun b=>W0 b\/O b) H H1:=⟨zn (by rw [hHL];omega) hfrS.next,fun b hb hw=>by rw [hfrS.keep b (by rw [hHL];omega) (fun q=>q.elim (fun q=>q.elim (fun q=>hw (.inl q)) fun q=>by omega) fun q=>hw (.inr q)),hold b hb]⟩
   have hbV:∀ b,V b->b<H1.next/\(W0 b\/H.next<=b):=fun b q=>⟨(hb b (v1 b q)).1,(hb b (v1 b q)).2.elim (fun r=>r.elim .inl fun r=>by subst r;exact (v3 q).elim) fun r=>.inr (by rw [hHL] at r;omega)⟩
   obtain ⟨tm1,hbp,hw⟩:=hbody L d i x hx (by show H.next<=H.next+1;omega) V H1 v6 hbV hfr1 v3 v8 v7
   obtain ⟨e,H2,hr,bb,rfl,W2,k1,k2,k3,k4⟩:=qvc (Q:=fun e H2=>∃ bb,e=.ret (.bool bb) /\ ∃ W2:Nat->Prop,Fr W H1 H2/\(∀ b,W2 b->b<H2.next/\(W b\/H1.next<=b)) /\
    (bb=true -> ∃ V:Nat->Prop,(∀ b,V b->W2 b)/\W2 L /\ ¬ V L /\ ¬ W2 d/\(∀ b,W2 b->V b\/b=L)/\P (i+1) V H2/\H2.get L=some (.loop .ready none f k tm d)/\L<H2.next) /\
    (bb=false -> ∃ (V:Nat->Prop) (e:AExit) (j:AJump),(∀ b,V b->W2 b)/\W2 L /\ ¬ V L /\ ¬ W2 d/\(∀ b,W2 b->V b\/b=L)/\isJump e/\endOf e=some j/\PS e V H2/\H2.get L=some (.loop .done (some j) f k tm d)/\L<H2.next)) v7 hf hk hbp
    (qd9 hw fun e st1 ⟨he,hgl,hw2⟩=>by
     subst he
     show BIND dirty (beginRound st1.H L) _
     have:beginRound st1.H L=some (st1.H.set L (.loop .busy none f k tm d)):=by unfold beginRound;rw [hgl]
     rw [this]
     refine qd9 hw2 fun e2 st2 ⟨hd2,hg2,W',w1,w2,w3⟩=>⟨hd2,?_⟩
     have hLn:L<st2.H.next:=ql v8 w2.next
     have hd1:d<H1.next:=by have:d=H.next:=rfl;have:L=H.next+1:=rfl;omega
     have fin:∀ s p,Fr W H1 (st2.H.set L (.loop s p f k tm d)):=fun s p=>⟨w2.next,fun b hb hw=>by
      rw [AHeap.get_set,qo (by rintro rfl;exact hw v2)]
      exact w2.keep b hb fun q=>q.elim (fun q=>hw (v1 b q)) fun q=>hw (by rw [q];exact v2)⟩
     have hW'L:∀ b,(W' b/\b ≠ L)->(st2.H.set L (.loop .ready none f k tm d)).get b=st2.H.get b:=fun b hb=>by rw [AHeap.get_set,qo (fun q=>hb.2 q.symm)]
     have hnV:¬ W' L:=fun q=>by
      rcases (w1 L q).2 with q|q
      ·exact v3 q
      ·omega
     have hnd:¬ W' d:=fun q=>by
      rcases (w1 d q).2 with q|q
      ·exact v4 (v1 d q)
      ·omega
     have hdL:d ≠ L:=by show H.next ≠ H.next+1;omega
     have bounds:∀ b,(W' b\/b=L)->b<st2.H.next/\(W b\/H1.next<=b):=fun b hb=>hb.elim (fun q=>⟨(w1 b q).1,(w1 b q).2.imp (v1 b) id⟩) fun q=>by subst q;exact ⟨hLn,.inl v2⟩
     rcases w3 with ⟨rfl,w3⟩|⟨hj,w3⟩
     ·show BIND dirty (setLoop st2.H L (cond true .ready .done) none) _
      have:setLoop st2.H L .ready none=some (st2.H.set L (.loop .ready none f k tm d)):=by unfold setLoop;rw [hg2]
      rw [qz,this]
      refine ⟨true,rfl,fun b=>W' b\/b=L,fin _ _,bounds,fun _=>⟨W',fun b hb=>.inl hb,.inr rfl,hnV,fun q=>q.elim hnd hdL,fun b hb=>hb,loc _ _ _ _ w3 (fun b hb=>by rw [AHeap.get_set,qo (by rintro rfl;exact hnV hb)]) (qe _),xj _ _ _,hLn⟩,fun h=>by cases h⟩
     ·obtain ⟨j,hj2⟩:∃ j,endOf e2=some j:=by cases e2<;>first|exact hj.elim|exact ⟨_,rfl⟩
      have hnn:qfu e2=false:=by cases e2<;>first|exact hj.elim|rfl
      have hmatch:∀ (A:Prop),(BIND dirty (setLoop st2.H L (cond (qfu e2) .ready .done) (endOf e2)) fun H=>∃ bb,(AEnd.ret (.bool (qfu e2))=.ret (.bool bb)) /\ ∃ W2:Nat->Prop,Fr W H1 H/\(∀ b,W2 b->b<H.next/\(W b\/H1.next<=b)) /\
       (bb=true -> ∃ V:Nat->Prop,(∀ b,V b->W2 b)/\W2 L /\ ¬ V L /\ ¬ W2 d/\(∀ b,W2 b->V b\/b=L)/\P (i+1) V H/\H.get L=some (.loop .ready none f k tm d)/\L<H.next) /\
       (bb=false -> ∃ (V:Nat->Prop) (e:AExit) (j:AJump),(∀ b,V b->W2 b)/\W2 L /\ ¬ V L /\ ¬ W2 d/\(∀ b,W2 b->V b\/b=L)/\isJump e/\endOf e=some j/\PS e V H/\H.get L=some (.loop .done (some j) f k tm d)/\L<H.next)):=fun _=>by
       have:setLoop st2.H L .done (some j)=some (st2.H.set L (.loop .done (some j) f k tm d)):=by unfold setLoop;rw [hg2]
       rw [hnn,hj2,xy,this]
       refine ⟨false,rfl,fun b=>W' b\/b=L,fin _ _,bounds,fun h=>(by cases h),fun _=>⟨W',e2,j,fun b hb=>.inl hb,.inr rfl,hnV,fun q=>q.elim hnd hdL,fun b hb=>hb,hj,hj2,locS _ _ _ _ w3 (fun b hb=>by rw [AHeap.get_set,qo (by rintro rfl;exact hnV hb)]) (qe _),xj _ _ _,hLn⟩⟩
      cases e2 with
      | normal=>exact hj.elim
      | panic _=>exact hj.elim
      | exit _=>exact hmatch True
      | goto _=>exact hmatch True
      | ret=>exact hmatch True)
   exact ⟨bb,H2,W2,hr,k1,k2,k3,k4⟩)
 have hdL:d ≠ L:=by show H.next ≠ H.next+1;omega
 have hdW:¬ ((W0 d\/d=L)\/O d):=fun q=>q.elim (fun q=>q.elim (fun q=>by have:=hW0 _ q;have:d=H.next:=rfl;omega) hdL) fun q=>by have:=(hN d (.inr q)).1;have:d=H.next:=rfl;omega
 have hgd':H'.get d=some (.deferred (some [])):=by rw [hfr.keep d (by rw [hHL];show H.next<H.next+2;omega) hdW];exact hgd
 have hd':d<H'.next:=ql (by rw [hHL];show H.next<H.next+2;omega) hfr.next
 have hout:∀ (o:AObj),Fr (fun b=>W0 b\/O b) H (H'.set L o):=fun o=>⟨zn (by rw [hHL];omega) hfr.next,fun b hb hw=>by
  have:L=H.next+1:=rfl
  rw [AHeap.get_set,qo (by omega),hfr.keep b (by rw [hHL];omega) (fun q=>q.elim (fun q=>q.elim (fun q=>hw (.inl q)) fun q=>by omega) fun q=>hw (.inr q)),hold b hb]⟩
 refine ⟨.ret v,H',hc,?_⟩
 rcases hres with ⟨V,v1,v2,v3,v4,v5,v6,v7,v8⟩|⟨V,e,j,v1,v2,v3,v4,v5,v6,v7,v8,v9,v10⟩
 ·refine ⟨.ready,none,f,k,tm,d,v7,by simp,?_⟩
  refine hend d V _ (qe _) hd' (by rw [AHeap.get_set,qo (fun q=>hdL q.symm)];exact hgd') (hout _) (fun b hb=>⟨(hW' b (v1 b hb)).1,?_,fun q=>v4 (by rw [<-q];exact v1 b hb)⟩) (loc _ _ _ _ v6 (fun b hb=>by rw [AHeap.get_set,qo (by rintro rfl;exact v3 hb)]) (qe _))
  rcases (hW' b (v1 b hb)).2 with q|q
  ·exact q.imp id fun q=>by subst q;exact (v3 hb).elim
  ·rw [hHL] at q;exact .inr (by omega)
 ·refine ⟨.done,some j,f,k,tm,d,v9,by simp,?_⟩
  have he:exitOf (some j)=e:=by cases e<;>first|exact v6.elim|(injection v7 with v7;subst v7;rfl)
  rw [he]
  refine hstop e d V _ v6 (qe _) hd' (by rw [AHeap.get_set,qo (fun q=>hdL q.symm)];exact hgd') (hout _) (fun b hb=>⟨(hW' b (v1 b hb)).1,?_,fun q=>v4 (by rw [<-q];exact v1 b hb)⟩) (locS _ _ _ _ v8 (fun b hb=>by rw [AHeap.get_set,qo (by rintro rfl;exact v3 hb)]) (qe _))
  rcases (hW' b (v1 b hb)).2 with q|q
  ·exact q.imp id fun q=>by subst q;exact (v3 hb).elim
  ·rw [hHL] at q;exact .inr (by omega)
theorem RNG3.iteri {f:Nat} {fn:AFunc} {k:Nat} {lp:ALoop} (hf:AP.func f=some fn) (hk:nth fn.loops k=some lp) {ks:List Nat} {ts:List Nat} (hp:lp.params=ts) (hts:∀ t ∈ ts,memN t ks=true) {pa pb:Kp × ACode} (ha:pa.1.keep=ks/\pa.2=lp.assign) (hb:pb.1.keep=ks/\pb.2=lp.body)
 {E:Env} {D:List ADef} {H:AHeap} {Q:Post3} {g:Nat} {pre cap:List AV} {N O:Nat->Prop} {I:AHeap->Prop} {H0:AHeap} {xs:List (List AV)} (hit:ITERI AP g pre cap N O I H0 xs)
 (P:Nat->(Nat->Prop)->AHeap->Prop) (PS:AExit->(Nat->Prop)->AHeap->Prop) (W0:Nat->Prop)
 (hn:H0.next<=H.next) (hN:∀ b,N b\/O b->b<H0.next/\H.get b=H0.get b /\ ¬ W0 b) (hW0:∀ b,W0 b->b<H.next) (h0:P 0 W0 H)
 (loc:∀ i W H H',P i W H->(∀ b,W b->H'.get b=H.get b)->H.next<=H'.next->P i W H') (locS:∀ e W H H',PS e W H->(∀ b,W b->H'.get b=H.get b)->H.next<=H'.next->PS e W H') (hI:∀ i W H,P i W H->I H)
 (hbody:∀ (L i:Nat) (lr lb:AObj) x,xs[i]? = some x->H.next<=L -> ∀ W' H1,P i W' H1->(∀ b,W' b->b<H1.next/\(W0 b\/H.next<=b))->Fr (fun b=>W0 b\/O b) H H1 -> ¬ W' L->L<H1.next->H1.get L=some lr ->
  ∃ E1,bindE ts x E=some E1/\W AP ⟨some L,f⟩ pa true (AS3 AP ⟨some L,f⟩ pb L lr lb (BD3 (P (i+1)) PS L lb W' H1)) E1 [] H1)
 (hend:∀ d W' H',H.next<=d->d<H'.next->H'.get d=some (.deferred (some []))->Fr (fun b=>W0 b\/O b) H H'->(∀ b,W' b->b<H'.next/\(W0 b\/H.next<=b)/\b ≠ d)->P xs.length W' H'->Q .normal E (.coll d::D) H')
 (hstop:∀ e d W' H',isJump e->H.next<=d->d<H'.next->H'.get d=some (.deferred (some []))->Fr (fun b=>W0 b\/O b) H H'->(∀ b,W' b->b<H'.next/\(W0 b\/H.next<=b)/\b ≠ d)->PS e W' H'->Q e E (.coll d::D) H') :
 RNG3 AP ks ⟨none,f⟩ k E D H Q (.fn (.func g) pre cap):=by
 intro tm up he
 refine q6l hf hk hit P PS W0 hn hN hW0 h0 loc locS hI ?_ (fun d W' H' h1 h2 h3 h4 h5 h6=>⟨rfl,rfl,hend d W' H' h1 h2 h3 h4 h5 h6⟩) (fun e d W' H' h0 h1 h2 h3 h4 h5 h6=>⟨rfl,rfl,hstop e d W' H' h0 h1 h2 h3 h4 h5 h6⟩)
 intro L d i x hx hL W' H1 hP hW hfr hnL hLn hgL
 obtain ⟨E1,hE1,hw⟩:=hbody L i (.loop .ready none f k tm d) (.loop .busy none f k tm d) x hx hL W' H1 hP hW hfr hnL hLn hgL
 obtain ⟨tm1,hb1,he1⟩:=qxf he hts hE1
 refine ⟨tm1,by rw [hp];exact hb1,?_⟩
 rw [W_def] at hw
 have:=W3.wp _ _ (qe _) (up:=none) hw (by rw [ha.1];exact he1)
 rw [ha.2] at this
 refine qd9 this fun e st1 ⟨hup,E',hE',hq⟩=>?_
 cases e with
 | normal =>
  obtain ⟨hg,hw2⟩:=hq
  refine ⟨rfl,hg,?_⟩
  rw [W_def] at hw2
  have:=W3.wp _ _ (qe _) (up:=none) hw2 (show ESub pb.1.keep E' st1.tm by rw [hb.1,<-ha.1];exact hE')
  rw [hb.2] at this
  rw [hup]
  refine qd9 this fun e2 st2 ⟨hup2,E2,hE2,hd,hg2,W2,k1,k2,k3⟩=>⟨hd,hg2,W2,k1,k2,k3⟩
 | _=>exact hq.elim
end
end Go.Am
namespace Go.Am
theorem qzv {α:Type} {L E:List α} {p size:Nat} (hE:E.length=size) (hp:p+size<=L.length) (h:∀ r,r<size->L[p+r]? = E[r]?):L=L.take p++(E++L.drop (p+size)):=by
 have h1:(L.drop p).take size=E:=by
  refine vz fun r=>?_
  rcases z8 r size with q|q
  ·rw [j6,xc q,j5,h r q]
  ·rw [zr (by rw [zm];omega),zr (by omega)]
 have h2:L.drop p=E++L.drop (p+size):=by
  rw [<-h1,<-qa5,kq]
 rw [<-h2,kq]
theorem mid_part {α:Type} {L E cs:List α} {p size j n:Nat} (hE:E.length=size) (hc:cs.length=n) (hj:j+n<=size) (hp:p+size<=L.length) (h:∀ r,r<size->L[p+r]? = E[r]?) :
 L.take (p+j)++cs++L.drop (p+j+n)=L.take p++((E.take j++cs++E.drop (j+n))++L.drop (p+size)):=by
 obtain ⟨A,hA⟩:∃ A,A=L.take p:=⟨_,rfl⟩
 obtain ⟨B,hB⟩:∃ B,B=L.drop (p+size):=⟨_,rfl⟩
 have hl:A.length=p:=by rw [hA,zm];omega
 have hL:=qzv hE hp h
 rw [<-hA,<-hB] at hL
 rw [<-hA,<-hB]
 have e1:L.take (p+j)=A++E.take j:=by
  rw [hL,qep,hl,zb (by omega),kr,j9 (by omega)]
 have e2:L.drop (p+j+n)=E.drop (j+n)++B:=by
  rw [hL,qbm,hl,j7 (by omega),jj,show p+j+n-p=j+n by omega,ki (by omega)]
 rw [e1,e2];simp
section
variable {α:Type} {enc:α->List AV} {size:Nat} {H:AHeap} {v:AV} {xs:List α}
theorem qzf (hs:∀ x,(enc x).length=size) {i:Nat} {x y:α} (hx:xs[i]? = some x) {j n:Nat} {cs:List AV} (hc:cs.length=n) (hj:j+n<=size) (hy:enc y=(enc x).take j++cs++(enc x).drop (j+n)) :
 (xs.flatMap enc).take (i*size+j)++cs++(xs.flatMap enc).drop (i*size+j+n)=(xs.set i y).flatMap enc:=by
 have hi:=qdq hx
 have hb:(i+1)*size<=xs.length*size:=zt _ hi
 rw [k9] at hb
 have hl:=qej hs xs
 rw [mid_part (E:=enc x) (size:=size) (hs x) hc hj (by omega) (fun r hr=>qfb hs xs hx hr),<-hy,qk7 hs xs hx]
 simp [zj,k9]
theorem RowT.setP {e:Nat} (hs:∀ x,(enc x).length=size) (h:RowT enc e size H v xs) {i:Nat} {x y:α} (hx:xs[i]? = some x) {j n:Nat} {u:AV} (hu:u.cells.length=n) (ho:allOne u.cells=true) (hj:j+n<=size) (hy:enc y=(enc x).take j++u.cells++(enc x).drop (j+n)) :
 ∃ H',Op.store n [.ptr (slB v) (slO size v i+j),u] H=some (.undef,H')/\RowT enc e size H' v (xs.set i y)/\Fr (On (slB v)) H H':=by
 obtain ⟨b,rfl,h1,h2⟩:=h
 have hi:=qdq hx
 have hl:=qej hs xs
 have hb:(i+1)*size<=xs.length*size:=zt _ hi
 rw [k9] at hb
 have hst:=qf7 h2 (o:=i*size+j) (n:=n) (v:=u) hu (by omega) ho
 have hso:slO size (AV.slice b 0 xs.length xs.length) i=i*size:=by simp [slO]
 rw [hso]
 refine ⟨_,hst,⟨b,?_,h1,?_⟩,(Fr.refl H).set (W:=On b) (.inl rfl) _⟩
 ·rw [qt]
 ·rw [xj,qzf hs hx hu hj hy]
theorem OwnT.setP {e:Nat} (hs:∀ x,(enc x).length=size) (h:OwnT enc e size H v xs) {i:Nat} {x y:α} (hx:xs[i]? = some x) {j n:Nat} {u:AV} (hu:u.cells.length=n) (ho:allOne u.cells=true) (hj:j+n<=size) (hy:enc y=(enc x).take j++u.cells++(enc x).drop (j+n)) :
 ∃ H',Op.store n [.ptr (slB v) (slO size v i+j),u] H=some (.undef,H')/\OwnT enc e size H' v (xs.set i y)/\Fr (OnS v) H H':=by
 obtain ⟨hl,h|⟨b,rfl,h1,h2⟩⟩:=h
 ·rw [qeh.1 h.1] at hx;simp at hx
 ·have hi:=qdq hx
  have hb:(i+1)*size<=xs.length*size:=zt _ hi
  rw [k9] at hb
  have hst:=qou h2 (o:=i*size+j) (n:=n) (v:=u) hu (by omega) ho
  have hso:slO size (AV.gslice b 0 xs.length size 0 xs.length) i=i*size:=by simp [slO]
  rw [hso]
  refine ⟨_,hst,⟨?_,.inr ⟨b,?_,h1,?_⟩⟩,(Fr.refl H).set (.inl ⟨by simp,rfl⟩) _⟩
  ·rw [qej hs]
  ·rw [qt]
  ·rw [qt,xj,qzf hs hx hu hj hy]
theorem OwnT.setE {e:Nat} (hs:∀ x,(enc x).length=size) (ho:∀ x,allOne (enc x)=true) (h:OwnT enc e size H v xs) {i:Nat} {x:α} (hx:xs[i]? = some x) (y:α) :
 ∃ H',Op.store size [.ptr (slB v) (slO size v i),.agg (enc y)] H=some (.undef,H')/\OwnT enc e size H' v (xs.set i y)/\Fr (OnS v) H H':=by
 have:=h.setP hs hx (y:=y) (j:=0) (n:=size) (u:=.agg (enc y)) (by rw [xx];exact hs y) (by rw [xx];exact ho y) (by omega) (by
  rw [xx,qev,jj,j7 (by rw [hs];omega),jb])
 rw [kz] at this;exact this
theorem RowT.setE {e:Nat} (hs:∀ x,(enc x).length=size) (ho:∀ x,allOne (enc x)=true) (h:RowT enc e size H v xs) {i:Nat} {x:α} (hx:xs[i]? = some x) (y:α) :
 ∃ H',Op.store size [.ptr (slB v) (slO size v i),.agg (enc y)] H=some (.undef,H')/\RowT enc e size H' v (xs.set i y)/\Fr (On (slB v)) H H':=by
 have:=h.setP hs hx (y:=y) (j:=0) (n:=size) (u:=.agg (enc y)) (by rw [xx];exact hs y) (by rw [xx];exact ho y) (by omega) (by
  rw [xx,qev,jj,j7 (by rw [hs];omega),jb])
 rw [kz] at this;exact this
end
end Go.Am
namespace Go.Am
inductive RP {α:Type} (a b:Nat) (xs:List α):List α->Prop where
 | refl:RP a b xs xs
 | sw {ys:List α} {i j:Nat} {x y:α} (h:RP a b xs ys) (i1:a<=i) (i2:i<b) (j1:a<=j) (j2:j<b) (hx:ys[i]? = some x) (hy:ys[j]? = some y):RP a b xs ((ys.set i y).set j x)
section
variable {α:Type} {a b:Nat} {xs ys zs:List α}
theorem RP.len (h:RP a b xs ys):ys.length=xs.length:=by
 induction h with
 | refl=>rfl
 | sw h _ _ _ _ _ _ ih=>rw [qt,qt,ih]
theorem RP.out (h:RP a b xs ys) {k:Nat} (hk:k<a\/b<=k):ys[k]? = xs[k]?:=by
 induction h with
 | refl=>rfl
 | sw h i1 i2 j1 j2 _ _ ih=>rw [qw (by omega),qw (by omega),ih]
theorem RP.trans (h:RP a b xs ys) (h':RP a b ys zs):RP a b xs zs:=by
 induction h' with
 | refl=>exact h
 | sw _ i1 i2 j1 j2 hx hy ih=>exact ih.sw i1 i2 j1 j2 hx hy
theorem RP.mono {a' b':Nat} (h:RP a b xs ys) (ha:a'<=a) (hb:b<=b'):RP a' b' xs ys:=by
 induction h with
 | refl=>exact .refl
 | sw _ i1 i2 j1 j2 hx hy ih=>exact ih.sw (by omega) (by omega) (by omega) (by omega) hx hy
theorem sw_perm:∀ {ys:List α} {i j:Nat} {x y:α},ys[i]? = some x->ys[j]? = some y->((ys.set i y).set j x).Perm ys:=by
 intro ys i j x y hx hy
 have hi:=(qi.1 hx).1
 have hj:=(qi.1 hy).1
 have ex:=(qi.1 hx).2
 have ey:=(qi.1 hy).2
 have h1:∀ {l:List α} {p q:Nat} {u v:α},p<q->l[p]? = some u->l[q]? = some v->((l.set p v).set q u).Perm l:=by
  intro l
  induction l with
  | nil=>intro p q u v _ h _;simp at h
  | cons z l ih =>
   intro p q u v hpq hu hv
   cases q with
   | zero=>omega
   | succ q =>
    cases p with
    | zero =>
     simp at hu hv
     subst hu
     obtain ⟨hq,e⟩:=qi.1 hv
     show (v::l.set q z).Perm (z::l)
     have e1:l=l.take q++v::l.drop (q+1):=by rw [<-e];simp
     have e2:l.set q z=l.take q++z::l.drop (q+1):=by rw [qa6,xc hq]
     rw [e2]
     conv=>rhs;rw [e1]
     have p1:(v::(l.take q++z::l.drop (q+1))).Perm (v::z::(l.take q++l.drop (q+1))):=.cons _ List.perm_middle
     have p2:(z::(l.take q++v::l.drop (q+1))).Perm (z::v::(l.take q++l.drop (q+1))):=.cons _ List.perm_middle
     exact p1.trans ((List.Perm.swap z v _).trans p2.symm)
    | succ p =>
     simp at hu hv
     show (z::(l.set p v).set q u).Perm (z::l)
     exact .cons _ (ih (by omega) hu hv)
 rcases Nat.lt_trichotomy i j with q|q|q
 ·exact h1 q hx hy
 ·subst q
  rw [hx] at hy;injection hy with hy;subst hy
  rw [List.set_set]
  have:ys.set i x=ys:=by rw [<-ex];simp
  rw [this]
 ·rw [List.set_comm _ _ (by omega)]
  exact h1 q hy hx
theorem RP.perm (h:RP a b xs ys):ys.Perm xs:=by
 induction h with
 | refl=>exact .refl _
 | sw _ _ _ _ _ hx hy ih=>exact (sw_perm hx hy).trans ih
theorem RP.all (h:RP a b xs ys) {P:α->Prop} (hp:∀ k x,a<=k->k<b->xs[k]? = some x->P x):∀ k x,a<=k->k<b->ys[k]? = some x->P x:=by
 induction h with
 | refl=>exact hp
 | sw h i1 i2 j1 j2 hx hy ih =>
  rename_i ys i j x y
  intro k z k1 k2 hz
  have hi:=(qi.1 hx).1
  have hj:=(qi.1 hy).1
  by_cases q:j=k
  ·subst q
   rw [xn (by rw [qt];exact hj)] at hz
   injection hz with hz;subst hz;exact ih i _ i1 i2 hx
  ·rw [qw q] at hz
   by_cases q':i=k
   ·subst q'
    rw [xn hi] at hz
    injection hz with hz;subst hz;exact ih j _ j1 j2 hy
   ·rw [qw q'] at hz;exact ih k z k1 k2 hz
end
def Ord {α:Type} (f:α->Int) (a b:Nat) (xs:List α):Prop:=∀ i j x y,a<=i->i<j->j<b->xs[i]? = some x->xs[j]? = some y->f x<=f y
def OrdX {α:Type} (f:α->Int) (a0 b0 a b:Nat) (xs:List α):Prop:=∀ i j x y,a0<=i->i<j->j<b0->(i<a\/b<=j)->xs[i]? = some x->xs[j]? = some y->f x<=f y
section
variable {α:Type} {f:α->Int} {a0 b0 a b:Nat} {xs ys:List α}
theorem OrdX.start:OrdX f a0 b0 a0 b0 xs:=fun i j x y h1 h2 h3 h4=>by omega
theorem OrdX.done (h:OrdX f a0 b0 a b xs) (ho:Ord f a b xs):Ord f a0 b0 xs:=fun i j x y h1 h2 h3 hx hy=>by
 by_cases q:i<a\/b<=j
 ·exact h i j x y h1 h2 h3 q hx hy
 ·exact ho i j x y (by omega) h2 (by omega) hx hy
theorem OrdX.rp (h:OrdX f a0 b0 a b xs) (ha:a0<=a) (hb:b<=b0) (hr:RP a b xs ys):OrdX f a0 b0 a b ys:=by
 intro i j x y h1 h2 h3 h4 hx hy
 rcases h4 with q|q
 ·have hx':xs[i]? = some x:=by rw [<-hr.out (.inl q)];exact hx
  by_cases q2:a<=j/\j<b
  ·exact hr.all (P:=fun y=>f x<=f y) (fun k z k1 k2 hz=>h i k x z h1 (by omega) (by omega) (.inl q) hx' hz) j y q2.1 q2.2 hy
  ·exact h i j x y h1 h2 h3 (.inl q) hx' (by rw [<-hr.out (by omega)];exact hy)
 ·have hy':xs[j]? = some y:=by rw [<-hr.out (.inr q)];exact hy
  by_cases q2:a<=i/\i<b
  ·exact hr.all (P:=fun x=>f x<=f y) (fun k z k1 k2 hz=>h k j z y (by omega) (by omega) h3 (.inr q) hz hy') i x q2.1 q2.2 hx
  ·exact h i j x y h1 h2 h3 (.inr q) (by rw [<-hr.out (by omega)];exact hx) hy'
end
end Go.Am
