/- LqR0: DecP TraceX TraceY TraceZ Strs NumP LangT LangU LangV LangW StkP NodeM Args8 ArgN CompP MeanP Iter3 Iter4. -/
import Derived.Test.YtbimikjajohflaaGreatDoorAmRB4
import Derived.Test.YtbimikjajohflaaGreatDoorAmRB1
import Derived.Test.YtbimikjajohflaaGreatDoorAmRB5
set_option linter.unusedVariables false
set_option linter.unusedSimpArgs false
namespace Go.Am
namespace Lang
def dec (n:Nat):List UInt8:=if h:n<10 then [UInt8.ofNat (48+n)] else dec (n / 10) ++ [UInt8.ofNat (48+n % 10)]
termination_by n
decreasing_by omega
theorem qtf {n:Nat} (h:n<10):dec n=[UInt8.ofNat (48+n)]:=by rw [dec];simp [h]
theorem dec_ge {n:Nat} (h:10<=n):dec n=dec (n / 10) ++ [UInt8.ofNat (48+n % 10)]:=by rw [dec];simp [show ¬ n<10 by omega]
theorem dec_ne (n:Nat):dec n ≠ []:=by
 rw [dec];split<;>simp
theorem qtd:∀ (k n:Nat),n<10 ^ (k+1)->(dec n).length<=k+1
 | 0,n,h=>by rw [qtf (by simpa using h)];simp
 | k+1,n,h=>by
  by_cases h1:n<10
  ·rw [qtf h1];simp
  ·rw [dec_ge (by omega),qk]
   have:=qtd k (n / 10) (by rw [Nat.pow_succ] at h;omega)
   simp;omega
theorem qte {n:Nat} (h:n<18446744073709551616):(dec n).length<=20:=qtd 19 n (qf h (by decide))
end Lang
end Go.Am
namespace Go.Am
namespace Tr
open Lang (dec)
abbrev B:=List UInt8
def named (k:Int):B:=if k=1 then [98,116,108] else if k=2\/k=3 then [98,116,97,118] else if k=4\/k=5 then [98,116] else if k=6 then [98,116,99] else if k=7\/k=8 then [97,118] else []
def wordsOf (l:UInt8):List B:=if l=108 then [[],[102,97,115,116],[115,108,111,119],[115,111,102,116],[115,101,114,105,97,108]] else if l=99 then [[],[99,111,110,102,108,105,99,116],[115,117,98],[99,97,112,97,99,105,116,121],[101,118,105,99,116],[115,112,117,114,105,111,117,115],[98,117,115,121],[105,108,108,101,103,97,108],[115,111,102,116]] else []
def getN (x:Evt) (l:UInt8):Int:=if l=118 then x.value else if l=98 then x.block else if l=116 then x.try' else if l=108 then x.lane else if l=97 then x.addr else x.code
def setN (x:Evt) (l:UInt8) (n:Int):Evt:=if l=118 then { x with value:=n } else if l=98 then { x with block:=n } else if l=116 then { x with try':=n } else if l=108 then { x with lane:=n } else if l=97 then { x with addr:=n } else { x with code:=n }
def mayN (l:UInt8) (n:Int):Bool:=if l=118 then true else decide (0<=n/\((wordsOf l).length=0\/1<=n/\n<(wordsOf l).length))
def fresh (k c t:Int):Evt:=⟨k,t,c,if 7<=k then -1 else 0,0,0,0,0,0⟩
end Tr
end Go.Am
namespace Go.Am
namespace Tr
def isL (l:UInt8):Prop:=l=118\/l=98\/l=116\/l=108\/l=97\/l=99
instance (l:UInt8):Decidable (isL l):=by unfold isL;infer_instance
theorem get_set {y:Evt} {l l':UInt8} {n:Int} (hl:isL l) (hl':isL l'):getN (setN y l n) l'=if l=l' then n else getN y l':=by
 rcases hl with rfl|rfl|rfl|rfl|rfl|rfl<;>rcases hl' with rfl|rfl|rfl|rfl|rfl|rfl<;>rfl
structure EvR (x:Evt):Prop where
 v0:0<=x.value
 v:x.value<18446744073709551616
 core:x.core<9223372036854775808
 time:x.time<9223372036854775808
 kind:x.kind<9223372036854775808
 block:x.block<9223372036854775808
 tr:x.try'<9223372036854775808
 lane:x.lane<9223372036854775808
 addr:x.addr<9223372036854775808
 code:x.code<9223372036854775808
theorem EvR.get {x:Evt} (h:EvR x) {l:UInt8} (hl:isL l) (hm:mayN l (getN x l)=true):0<=getN x l/\getN x l<18446744073709551616/\(l=118\/getN x l<9223372036854775808):=by
 obtain ⟨h1,h2,h3,h4,h5,h6,h7,h8,h9,h10⟩:=h
 rcases hl with rfl|rfl|rfl|rfl|rfl|rfl
 ·exact ⟨h1,h2,.inl rfl⟩
 all_goals
  unfold mayN at hm;rw [qe (by decide)] at hm
  have:=(of_decide_eq_true hm).1
  refine ⟨this,?_,.inr ?_⟩<;>simp only [getN] at *<;>(first|omega|(simp at *;omega))
end Tr
end Go.Am
namespace Go.Am
namespace Tr
open Lang (dec qtf dec_ge dec_ne)
end Tr
end Go.Am
namespace Go.Am
theorem o_shr (k k':IntKind) (a:Int) (n:Nat):Op.bin .shr [.int k a,.int k' n]=some (.int k (a.fdiv (2 ^ (min n k.bits)))):=by
 have e:ltI (n:Int) 0=false:=by rw [qg0];simp
 simp only [Op.bin,binV,isShift,qi,shiftV,e,qv,qal]
theorem o_shl (k k':IntKind) (a:Int) (n:Nat):Op.bin .shl [.int k a,.int k' n]=some (.int k (wrapI k (a*2 ^ (min n k.bits)))):=by
 have e:ltI (n:Int) 0=false:=by rw [qg0];simp
 simp only [Op.bin,binV,isShift,qi,shiftV,e,qv,qal]
structure Aft (a:AV) (H:AHeap) (v:AV) (H':AHeap):Prop where
 fr:Fr (OnS a) H H'
 on:∀ b,OnS v b->OnS a b\/H.next<=b
theorem Aft.refl (a:AV) (H:AHeap):Aft a H a H:=⟨Fr.refl _,fun b h=>.inl h⟩
theorem Aft.trans {a v w:AV} {H H1 H2:AHeap} (h:Aft a H v H1) (h':Aft v H1 w H2):Aft a H w H2 :=
 ⟨h.fr.trans h'.fr h.on,fun b hb=>(h'.on b hb).elim (h.on b) fun q=>.inr (qx h.fr.next q)⟩
theorem Aft.em {a v:AV} {H H1 H2:AHeap} (h:Aft a H v H1) (f:Fr Em H1 H2):Aft a H v H2:=⟨h.fr.em f,h.on⟩
theorem Aft.pre {a v:AV} {H H1 H2:AHeap} (f:Fr Em H H1) (h:Aft a H1 v H2):Aft a H v H2:=(Aft.refl a H).em f |>.trans h
theorem Aft.get {a v:AV} {H H':AHeap} (h:Aft a H v H') {b:Nat} (hb:b<H.next) (hn:¬ OnS a b):H'.get b=H.get b/\b<H'.next /\ ¬ OnS v b :=
 ⟨h.fr.keep b hb hn,qf hb h.fr.next,fun q=>(h.on b q).elim hn fun r=>by omega⟩
theorem New.setOff {α:Type} {enc:α->List AV} {e size:Nat} {H0 H:AHeap} {v:AV} {xs:List α} (h:New enc e size H0 H v xs) {b:Nat} (hb:H0.next<=b) (hn:¬ OnS v b) (o:AObj):New enc e size H0 (H.set b o) v xs :=
 ⟨Own.fr h.own ((Fr.refl H).set (W:=On b) (.inl rfl) o) fun x hx (q:x=b)=>hn (by rw [<-q];exact hx),h.fr.set (.inr hb) _,h.fresh⟩
theorem Aft.setOff {a v:AV} {H H':AHeap} (h:Aft a H v H') {b:Nat} (hb:H.next<=b) (o:AObj):Aft a H v (H'.set b o):=⟨h.fr.set (.inr hb) _,h.on⟩
end Go.Am
namespace Go.Am
open Lang (dec)
end Go.Am
namespace Go.Am
namespace Lang
structure Nd where
 k:Int
 n:Int
 kids:List Int
inductive Ex where
 | num (n:Nat)
 | var (v:Nat)
 | load (a:Ex)
 | bin (o:Nat) (a b:Ex)
structure Cn where
 k:Nat
 a:Ex
 b:Ex
mutual
inductive St where
 | set (v:Nat) (a:Ex)
 | store (a b:Ex)
 | ite (c:Cn) (l:Ls)
 | ites (c:Cn) (l e:Ls)
 | loop (c:Cn) (l:Ls)
 | atom (l:Ls)
 | halt
inductive Ls where
 | nil
 | cons (s:St) (l:Ls)
end
def Ex.sz:Ex->Nat
 | .num _=>1
 | .var _=>1
 | .load a=>a.sz+1
 | .bin _ a b=>a.sz+b.sz+1
def Cn.sz (c:Cn):Nat:=c.a.sz+c.b.sz+1
mutual
def St.sz:St->Nat
 | .set _ a=>a.sz+1
 | .store a b=>a.sz+b.sz+1
 | .ite c l=>c.sz+(l.sz+1)+1
 | .ites c l e=>c.sz+(l.sz+1)+(e.sz+1)+1
 | .loop c l=>c.sz+(l.sz+1)+1
 | .atom l=>l.sz+1+1
 | .halt=>1
def Ls.sz:Ls->Nat
 | .nil=>0
 | .cons s l=>s.sz+l.sz
end
theorem Ex.pos (x:Ex):0<x.sz:=by cases x<;>simp [Ex.sz]
theorem Cn.pos (x:Cn):0<x.sz:=by simp [Cn.sz]
theorem St.pos (x:St):0<x.sz:=by cases x<;>simp [St.sz]
def Ex.enc:Ex->Nat->List Nd
 | .num n,_=>[⟨1,n,[]⟩]
 | .var v,_=>[⟨2,v,[]⟩]
 | .load a,b=>a.enc b ++ [⟨3,0,[((b+a.sz-1:Nat):Int)]⟩]
 | .bin o x y,b=>x.enc b++(y.enc (b+x.sz) ++ [⟨o,0,[((b+x.sz-1:Nat):Int),((b+x.sz+y.sz-1:Nat):Int)]⟩])
def Cn.enc (c:Cn) (b:Nat):List Nd:=c.a.enc b++(c.b.enc (b+c.a.sz) ++ [⟨c.k,0,[((b+c.a.sz-1:Nat):Int),((b+c.a.sz+c.b.sz-1:Nat):Int)]⟩])
def Ls.ends:Ls->Nat->List Nat
 | .nil,_=>[]
 | .cons s l,b=>(b+s.sz-1)::l.ends (b+s.sz)
def ints (l:List Nat):List Int:=l.map fun (n:Nat)=>(n:Int)
mutual
def St.enc:St->Nat->List Nd
 | .set v a,b=>a.enc b ++ [⟨14,v,[((b+a.sz-1:Nat):Int)]⟩]
 | .store x y,b=>x.enc b++(y.enc (b+x.sz) ++ [⟨15,0,[((b+x.sz-1:Nat):Int),((b+x.sz+y.sz-1:Nat):Int)]⟩])
 | .ite c l,b=>c.enc b++(l.enc (b+c.sz)++([⟨20,0,ints (l.ends (b+c.sz))⟩] ++ [⟨16,0,[((b+c.sz-1:Nat):Int),((b+c.sz+l.sz:Nat):Int)]⟩]))
 | .ites c l e,b=>c.enc b++(l.enc (b+c.sz)++([⟨20,0,ints (l.ends (b+c.sz))⟩]++(e.enc (b+c.sz+(l.sz+1))++([⟨20,0,ints (e.ends (b+c.sz+(l.sz+1)))⟩] ++ [⟨16,0,[((b+c.sz-1:Nat):Int),((b+c.sz+l.sz:Nat):Int),((b+c.sz+(l.sz+1)+e.sz:Nat):Int)]⟩]))))
 | .loop c l,b=>c.enc b++(l.enc (b+c.sz)++([⟨20,0,ints (l.ends (b+c.sz))⟩] ++ [⟨17,0,[((b+c.sz-1:Nat):Int),((b+c.sz+l.sz:Nat):Int)]⟩]))
 | .atom l,b=>l.enc b++([⟨20,0,ints (l.ends b)⟩] ++ [⟨18,0,[((b+l.sz:Nat):Int)]⟩])
 | .halt,_=>[⟨19,0,[]⟩]
def Ls.enc:Ls->Nat->List Nd
 | .nil,_=>[]
 | .cons s l,b=>s.enc b++l.enc (b+s.sz)
end
def Ls.encL (l:Ls) (b:Nat):List Nd:=l.enc b ++ [⟨20,0,ints (l.ends b)⟩]
theorem Ex.len:∀ (x:Ex) (b:Nat),(x.enc b).length=x.sz
 | .num _,_=>rfl
 | .var _,_=>rfl
 | .load a,b=>by simp [Ex.enc,Ex.sz,a.len b]
 | .bin o x y,b=>by simp [Ex.enc,Ex.sz,x.len b,y.len];omega
theorem Cn.len (c:Cn) (b:Nat):(c.enc b).length=c.sz:=by simp [Cn.enc,Cn.sz,Ex.len];omega
mutual
theorem St.len:∀ (x:St) (b:Nat),(x.enc b).length=x.sz
 | .set _ a,b=>by simp [St.enc,St.sz,Ex.len]
 | .store x y,b=>by simp [St.enc,St.sz,Ex.len];omega
 | .ite c l,b=>by simp [St.enc,St.sz,Cn.len,l.len];omega
 | .ites c l e,b=>by simp [St.enc,St.sz,Cn.len,l.len,e.len];omega
 | .loop c l,b=>by simp [St.enc,St.sz,Cn.len,l.len];omega
 | .atom l,b=>by simp [St.enc,St.sz,l.len]
 | .halt,_=>rfl
theorem Ls.len:∀ (x:Ls) (b:Nat),(x.enc b).length=x.sz
 | .nil,_=>rfl
 | .cons s l,b=>by simp [Ls.enc,Ls.sz,s.len,l.len]
end
theorem Ls.lenL (l:Ls) (b:Nat):(l.encL b).length=l.sz+1:=by simp [Ls.encL,Ls.len]
mutual
def St.atm:St->Bool
 | .set _ _=>false
 | .store _ _=>false
 | .ite _ l=>l.atm
 | .ites _ l e=>l.atm || e.atm
 | .loop _ l=>l.atm
 | .atom _=>true
 | .halt=>false
def Ls.atm:Ls->Bool
 | .nil=>false
 | .cons s l=>s.atm || l.atm
end
def Ex.ok:Ex->Prop
 | .num _=>True
 | .var v=>v<=7
 | .load a=>a.ok
 | .bin o a b=>4<=o/\o<=10/\a.ok/\b.ok
def Cn.ok (c:Cn):Prop:=11<=c.k/\c.k<=13/\c.a.ok/\c.b.ok
mutual
def St.ok:St->Prop
 | .set v a=>v<=7/\a.ok
 | .store a b=>a.ok/\b.ok
 | .ite c l=>c.ok/\l.ok
 | .ites c l e=>c.ok/\l.ok/\e.ok
 | .loop c l=>c.ok/\l.ok
 | .atom l=>l.ok/\l.atm=false
 | .halt=>True
def Ls.ok:Ls->Prop
 | .nil=>True
 | .cons s l=>s.ok/\l.ok
end
def cls (k:Int):Int:=if 1<=k/\k<=10 then 1 else if 11<=k/\k<=13 then 2 else if 14<=k/\k<=19 then 3 else if k=20 then 4 else 0
def shape (k n:Int) (m:Nat):Option (List Int) :=
 if (k=2\/k=14)/\7<n \/ ¬ (k=2\/k=14)/\k ≠ 1/\n ≠ 0 then none
 else if k=1\/k=2\/k=19 then some []
 else if k=3\/k=14 then some [1]
 else if (4<=k/\k<=13)\/k=15 then some [1,1]
 else if k=16/\m=3 then some [2,4,4]
 else if k=16\/k=17 then some [2,4]
 else if k=18 then some [4]
 else if k=20 then some (List.replicate m 3)
 else none
def clsAt (t:List Nd) (i:Nat):Int:=match t[i]? with
 | some x=>cls x.k
 | none=>0
inductive It where
 | e (x:Ex) | c (x:Cn) | s (x:St) | l (x:Ls)
def It.sz:It->Nat
 | .e x=>x.sz | .c x=>x.sz | .s x=>x.sz | .l x=>x.sz+1
def It.enc:It->Nat->List Nd
 | .e x=>x.enc | .c x=>x.enc | .s x=>x.enc | .l x=>x.encL
def It.cls:It->Int
 | .e _=>1 | .c _=>2 | .s _=>3 | .l _=>4
def It.atm:It->Bool
 | .e _=>false | .c _=>false | .s x=>x.atm | .l x=>x.atm
def It.ok:It->Prop
 | .e x=>x.ok | .c x=>x.ok | .s x=>x.ok | .l x=>x.ok
theorem It.pos (x:It):0<x.sz:=by cases x<;>simp [It.sz,Ex.pos,Cn.pos,St.pos]
theorem It.len (x:It) (b:Nat):(x.enc b).length=x.sz:=by cases x<;>simp [It.sz,It.enc,Ex.len,Cn.len,St.len,Ls.lenL]
def encF:List It->Nat->List Nd
 | [],_=>[]
 | x::r,b=>x.enc b++encF r (b+x.sz)
def szF:List It->Nat
 | []=>0
 | x::r=>x.sz+szF r
def endsF:List It->Nat->List Nat
 | [],_=>[]
 | x::r,b=>(b+x.sz-1)::endsF r (b+x.sz)
theorem ql3:∀ (f:List It) (b:Nat),(encF f b).length=szF f
 | [],_=>rfl
 | x::r,b=>by simp [encF,szF,It.len,ql3 r]
theorem qnm:∀ (f:List It) (b:Nat),(endsF f b).length=f.length
 | [],_=>rfl
 | x::r,b=>by simp [endsF,qnm r]
theorem It.last (x:It) (b:Nat):∃ y,(x.enc b)[x.sz-1]? = some y/\(x.ok->Lang.cls y.k=x.cls):=by
 have app:∀ (l:List Nd) (y:Nd),(l ++ [y])[l.length]? = some y:=fun l y=>by simp
 cases x with
 | e x =>
  cases x with
  | num n=>exact ⟨_,rfl,fun _=>rfl⟩
  | var v=>exact ⟨_,rfl,fun _=>rfl⟩
  | load a=>exact ⟨⟨3,0,_⟩,by have:=app (a.enc b) ⟨3,0,[((b+a.sz-1:Nat):Int)]⟩;rw [a.len] at this;exact this,fun _=>rfl⟩
  | bin o p q =>
   refine ⟨⟨o,0,[((b+p.sz-1:Nat):Int),((b+p.sz+q.sz-1:Nat):Int)]⟩,?_,fun h=>?_⟩
   ·have:=app (p.enc b++q.enc (b+p.sz)) ⟨o,0,[((b+p.sz-1:Nat):Int),((b+p.sz+q.sz-1:Nat):Int)]⟩
    rw [qk,p.len,q.len,xj] at this;exact this
   ·obtain ⟨h1,h2,_⟩:=h
    simp only [Lang.cls,It.cls];rw [qh (by omega)]
 | c c =>
  refine ⟨⟨c.k,0,[((b+c.a.sz-1:Nat):Int),((b+c.a.sz+c.b.sz-1:Nat):Int)]⟩,?_,fun h=>?_⟩
  ·have:=app (c.a.enc b++c.b.enc (b+c.a.sz)) ⟨c.k,0,[((b+c.a.sz-1:Nat):Int),((b+c.a.sz+c.b.sz-1:Nat):Int)]⟩
   rw [qk,Ex.len,Ex.len,xj] at this;exact this
  ·obtain ⟨h1,h2,_⟩:=h
   simp only [Lang.cls,It.cls];rw [qe (by omega),qh (by omega)]
 | s x =>
  have key:∀ (l:List Nd) (y:Nd),x.enc b=l ++ [y]->(x.enc b)[x.sz-1]? = some y:=fun l y h=>by
   have hl:=x.len b
   rw [h] at hl ⊢
   rw [qk] at hl
   have:x.sz-1=l.length:=by simp at hl;omega
   rw [this];exact app l y
  cases x with
  | set v a=>exact ⟨_,key _ _ rfl,fun _=>rfl⟩
  | store p q=>exact ⟨_,key (p.enc b++q.enc (b+p.sz)) ⟨15,0,[((b+p.sz-1:Nat):Int),((b+p.sz+q.sz-1:Nat):Int)]⟩ (by simp only [St.enc,xj]),fun _=>rfl⟩
  | ite c l=>exact ⟨_,key (c.enc b++(l.enc (b+c.sz) ++ [⟨20,0,ints (l.ends (b+c.sz))⟩])) _ (by simp only [St.enc,xj];rfl),fun _=>rfl⟩
  | ites c l e=>exact ⟨_,key (c.enc b++(l.enc (b+c.sz)++([⟨20,0,ints (l.ends (b+c.sz))⟩]++(e.enc (b+c.sz+(l.sz+1)) ++ [⟨20,0,ints (e.ends (b+c.sz+(l.sz+1)))⟩])))) _ (by simp only [St.enc,xj];rfl),fun _=>rfl⟩
  | loop c l=>exact ⟨_,key (c.enc b++(l.enc (b+c.sz) ++ [⟨20,0,ints (l.ends (b+c.sz))⟩])) _ (by simp only [St.enc,xj];rfl),fun _=>rfl⟩
  | atom l=>exact ⟨_,key (l.enc b ++ [⟨20,0,ints (l.ends b)⟩]) ⟨18,0,[((b+l.sz:Nat):Int)]⟩ (by simp only [St.enc,xj]),fun _=>rfl⟩
  | halt=>exact ⟨_,rfl,fun _=>rfl⟩
 | l x =>
  refine ⟨⟨20,0,ints (x.ends b)⟩,?_,fun _=>rfl⟩
  have:=app (x.enc b) ⟨20,0,ints (x.ends b)⟩
  rw [x.len] at this;exact this
end Lang
end Go.Am
namespace Go.Am
namespace Lang
def Ls.its:Ls->List It
 | .nil=>[]
 | .cons s l=>.s s::l.its
def It.ks:It->List It
 | .e (.num _)=>[] | .e (.var _)=>[] | .e (.load a)=>[.e a] | .e (.bin _ a b)=>[.e a,.e b]
 | .c x=>[.e x.a,.e x.b]
 | .s (.set _ a)=>[.e a] | .s (.store a b)=>[.e a,.e b] | .s (.ite q m)=>[.c q,.l m] | .s (.ites q m w)=>[.c q,.l m,.l w] | .s (.loop q m)=>[.c q,.l m] | .s (.atom m)=>[.l m] | .s .halt=>[]
 | .l x=>x.its
def It.kn:It->Int × Int
 | .e (.num n)=>(1,n) | .e (.var v)=>(2,v) | .e (.load _)=>(3,0) | .e (.bin o _ _)=>(o,0)
 | .c x=>(x.k,0)
 | .s (.set v _)=>(14,v) | .s (.store _ _)=>(15,0) | .s (.ite _ _)=>(16,0) | .s (.ites _ _ _)=>(16,0) | .s (.loop _ _)=>(17,0) | .s (.atom _)=>(18,0) | .s .halt=>(19,0)
 | .l _=>(20,0)
def It.nd (x:It) (b:Nat):Nd:=⟨x.kn.1,x.kn.2,ints (endsF x.ks b)⟩
theorem Ls.its_enc:∀ (l:Ls) (b:Nat),l.enc b=encF l.its b
 | .nil,_=>rfl
 | .cons s l,b=>by simp [Ls.enc,Ls.its,encF,It.enc,It.sz,l.its_enc]
theorem Ls.its_ends:∀ (l:Ls) (b:Nat),l.ends b=endsF l.its b
 | .nil,_=>rfl
 | .cons s l,b=>by simp [Ls.ends,Ls.its,endsF,It.sz,l.its_ends]
theorem Ls.its_cls:∀ (l:Ls),l.its.map It.cls=List.replicate l.its.length 3
 | .nil=>rfl
 | .cons s l=>by simp [Ls.its,It.cls,l.its_cls,List.replicate_succ]
theorem Ls.its_ok:∀ (l:Ls),l.ok -> ∀ y ∈ l.its,y.ok
 | .nil,_,y,h=>by simp [Ls.its] at h
 | .cons s l,ho,y,h=>by
  rcases xe.1 h with rfl|h
  ·exact ho.1
  ·exact Ls.its_ok l ho.2 y h
theorem Ls.its_atm:∀ (l:Ls),l.its.any It.atm=l.atm
 | .nil=>rfl
 | .cons s l=>by simp [Ls.its,It.atm,Ls.atm,l.its_atm]
theorem It.enc_eq (x:It) (b:Nat):x.enc b=encF x.ks b ++ [x.nd b]:=by
 have pos:=Ex.pos;have cpos:=Cn.pos
 have z:∀ a:Nat,a+1-1=a:=fun a=>by omega
 match x with
 | .e (.num _)=>rfl
 | .e (.var _)=>rfl
 | .e (.load a)=>simp [It.enc,Ex.enc,It.ks,encF,It.nd,It.kn,endsF,It.sz,ints]
 | .e (.bin o p q)=>simp [It.enc,Ex.enc,It.ks,encF,It.nd,It.kn,endsF,It.sz,ints]
 | .c x=>simp [It.enc,Cn.enc,It.ks,encF,It.nd,It.kn,endsF,It.sz,ints]
 | .s (.set _ a)=>simp [It.enc,St.enc,It.ks,encF,It.nd,It.kn,endsF,It.sz,ints]
 | .s (.store p q)=>simp [It.enc,St.enc,It.ks,encF,It.nd,It.kn,endsF,It.sz,ints]
 | .s (.ite q m)=>simp [It.enc,St.enc,It.ks,encF,It.nd,It.kn,endsF,It.sz,ints,Ls.encL]
 | .s (.ites q m w)=>simp [It.enc,St.enc,It.ks,encF,It.nd,It.kn,endsF,It.sz,ints,Ls.encL]
 | .s (.loop q m)=>simp [It.enc,St.enc,It.ks,encF,It.nd,It.kn,endsF,It.sz,ints,Ls.encL]
 | .s (.atom m)=>simp [It.enc,St.enc,It.ks,encF,It.nd,It.kn,endsF,It.sz,ints,Ls.encL]
 | .s .halt=>rfl
 | .l m=>simp [It.enc,Ls.encL,It.ks,It.nd,It.kn,m.its_enc,m.its_ends]
theorem It.sz_eq (x:It):x.sz=szF x.ks+1:=by
 have h:=congrArg List.length (x.enc_eq 0)
 rw [It.len,qk,ql3] at h;exact h
theorem It.ok_view (x:It) (h:x.ok):shape x.kn.1 x.kn.2 x.ks.length=some (x.ks.map It.cls)/\(∀ y ∈ x.ks,y.ok)/\x.atm=(x.ks.any It.atm || decide (x.kn.1=18))/\(x.kn.1=18->x.ks.any It.atm=false):=by
 match x,h with
 | .e (.num n),h=>exact ⟨by simp [shape,It.kn,It.ks],by simp [It.ks],by simp [It.atm,It.ks,It.kn],by simp [It.kn]⟩
 | .e (.var v),h =>
  have h:v<=7:=h
  exact ⟨by simp [shape,It.kn,It.ks];omega,by simp [It.ks],by simp [It.atm,It.ks,It.kn],by simp [It.kn]⟩
 | .e (.load a),h =>
  have h:a.ok:=h
  exact ⟨by simp [shape,It.kn,It.ks,It.cls],by simp [It.ks,It.ok,h],by simp [It.atm,It.ks,It.kn],by simp [It.kn]⟩
 | .e (.bin o a b),h =>
  obtain ⟨h1,h2,h3,h4⟩:=h
  refine ⟨?_,by simp [It.ks,It.ok,h3,h4],?_,?_⟩
  ·show shape (o:Int) 0 2=some [1,1]
   unfold shape
   rw [qe (by omega),qe (by omega),qe (by omega),qh (by omega)]
  ·have:¬ ((o:Int)=18):=by omega
   simp [It.atm,It.ks,It.kn,this]
  ·intro e;simp only [It.kn] at e;omega
 | .c x,h =>
  obtain ⟨h1,h2,h3,h4⟩:=h
  refine ⟨?_,by simp [It.ks,It.ok,h3,h4],?_,?_⟩
  ·show shape (x.k:Int) 0 2=some [1,1]
   unfold shape
   rw [qe (by omega),qe (by omega),qe (by omega),qh (by omega)]
  ·have:¬ ((x.k:Int)=18):=by omega
   simp [It.atm,It.ks,It.kn,this]
  ·intro e;simp only [It.kn] at e;omega
 | .s (.set v a),h =>
  obtain ⟨h,h'⟩:=h
  exact ⟨by simp [shape,It.kn,It.ks,It.cls];omega,by simp [It.ks,It.ok,h'],by simp [It.atm,St.atm,It.ks,It.kn],by simp [It.kn]⟩
 | .s (.store a b),h=>exact ⟨by simp [shape,It.kn,It.ks,It.cls],by simp [It.ks,It.ok,h.1,h.2],by simp [It.atm,St.atm,It.ks,It.kn],by simp [It.kn]⟩
 | .s (.ite q m),h=>exact ⟨by simp [shape,It.kn,It.ks,It.cls],by simp [It.ks,It.ok,h.1,h.2],by simp [It.atm,St.atm,It.ks,It.kn],by simp [It.kn]⟩
 | .s (.ites q m w),h=>exact ⟨by simp [shape,It.kn,It.ks,It.cls],by simp [It.ks,It.ok,h.1,h.2.1,h.2.2],by simp [It.atm,St.atm,It.ks,It.kn],by simp [It.kn]⟩
 | .s (.loop q m),h=>exact ⟨by simp [shape,It.kn,It.ks,It.cls],by simp [It.ks,It.ok,h.1,h.2],by simp [It.atm,St.atm,It.ks,It.kn],by simp [It.kn]⟩
 | .s (.atom m),h=>exact ⟨by simp [shape,It.kn,It.ks,It.cls],by simp [It.ks,It.ok,h.1],by simp [It.atm,St.atm,It.ks,It.kn],fun _=>by simp [It.ks,It.atm,h.2]⟩
 | .s .halt,h=>exact ⟨by simp [shape,It.kn,It.ks],by simp [It.ks],by simp [It.atm,St.atm,It.ks,It.kn],by simp [It.kn]⟩
 | .l m,h=>exact ⟨by simp [shape,It.kn,It.ks,m.its_cls],m.its_ok h,by simp [It.atm,It.ks,It.kn,m.its_atm],by simp [It.kn]⟩
def Ls.of:List It->Ls
 | .s x::r=>.cons x (Ls.of r)
 | _=>.nil
theorem Ls.of_its:∀ (f:List It) (n:Nat),f.map It.cls=List.replicate n 3->(Ls.of f).its=f/\((∀ y ∈ f,y.ok)->(Ls.of f).ok)
 | [],_,_=>⟨rfl,fun _=>trivial⟩
 | x::r,0,h=>by simp at h
 | x::r,n+1,h=>by
  rw [qw,List.replicate_succ,qm] at h
  obtain ⟨h1,h2⟩:=Ls.of_its r n h.2
  cases x with
  | s x=>exact ⟨by simp [Ls.of,Ls.its,h1],fun ho=>⟨ho (.s x) (by simp),h2 fun y hy=>ho y (by simp [hy])⟩⟩
  | e x=>simp [It.cls] at h
  | c x=>simp [It.cls] at h
  | l x=>simp [It.cls] at h
theorem len2 {α:Type} {f:List α} (h:f.length=2):∃ x y,f=[x,y]:=by
 cases f with
 | nil=>cases h
 | cons x f=>obtain ⟨y,rfl⟩:=List.length_eq_one_iff.1 (by simpa using h:f.length=1);exact ⟨x,y,rfl⟩
theorem len3 {α:Type} {f:List α} (h:f.length=3):∃ x y z,f=[x,y,z]:=by
 cases f with
 | nil=>cases h
 | cons x f=>obtain ⟨y,z,rfl⟩:=len2 (by simpa using h:f.length=2);exact ⟨x,y,z,rfl⟩
theorem cls_e {f:List It} (h:f.map It.cls=[1]):∃ a,f=[.e a]:=by
 obtain ⟨x,rfl⟩:=List.length_eq_one_iff.1 (by simpa using congrArg List.length h:f.length=1)
 cases x<;>simp [It.cls] at h;exact ⟨_,rfl⟩
theorem cls_l {f:List It} (h:f.map It.cls=[4]):∃ a,f=[.l a]:=by
 obtain ⟨x,rfl⟩:=List.length_eq_one_iff.1 (by simpa using congrArg List.length h:f.length=1)
 cases x<;>simp [It.cls] at h;exact ⟨_,rfl⟩
theorem cls_ee {f:List It} (h:f.map It.cls=[1,1]):∃ a b,f=[.e a,.e b]:=by
 obtain ⟨x,y,rfl⟩:=len2 (by simpa using congrArg List.length h:f.length=2)
 cases x<;>cases y<;>simp [It.cls] at h;exact ⟨_,_,rfl⟩
theorem cls_cl {f:List It} (h:f.map It.cls=[2,4]):∃ a b,f=[.c a,.l b]:=by
 obtain ⟨x,y,rfl⟩:=len2 (by simpa using congrArg List.length h:f.length=2)
 cases x<;>cases y<;>simp [It.cls] at h;exact ⟨_,_,rfl⟩
theorem cls_cll {f:List It} (h:f.map It.cls=[2,4,4]):∃ a b c,f=[.c a,.l b,.l c]:=by
 obtain ⟨x,y,z,rfl⟩:=len3 (by simpa using congrArg List.length h:f.length=3)
 cases x<;>cases y<;>cases z<;>simp [It.cls] at h;exact ⟨_,_,_,rfl⟩
theorem It.of {k n:Int} {f:List It} (hn:0<=n) (hs:shape k n f.length=some (f.map It.cls)) (hok:∀ y ∈ f,y.ok) (ha:k=18->f.any It.atm=false):∃ x:It,x.ks=f/\x.kn=(k,n)/\x.ok:=by
 unfold shape at hs
 split at hs
 ·cases hs
 rename_i h0
 split at hs
 ·rename_i h1
  have:f=[]:=by simpa using hs.symm
  subst this
  rcases h1 with rfl|rfl|rfl
  ·exact ⟨.e (.num n.toNat),rfl,by simp [It.kn];omega,trivial⟩
  ·exact ⟨.e (.var n.toNat),rfl,by simp [It.kn];omega,show n.toNat<=7 by omega⟩
  ·exact ⟨.s .halt,rfl,by simp [It.kn];omega,trivial⟩
 split at hs
 ·rename_i h1 h2
  obtain ⟨a,rfl⟩:=cls_e (zz hs).symm
  have:=hok (.e a) (by simp)
  rcases h2 with rfl|rfl
  ·exact ⟨.e (.load a),rfl,by simp [It.kn];omega,this⟩
  ·exact ⟨.s (.set n.toNat a),rfl,by simp [It.kn];omega,by omega,this⟩
 split at hs
 ·rename_i h1 h2 h3
  obtain ⟨a,b,rfl⟩:=cls_ee (zz hs).symm
  have o1:=hok (.e a) (by simp)
  have o2:=hok (.e b) (by simp)
  rcases h3 with ⟨h4,h5⟩|rfl
  ·by_cases h6:k<=10
   ·exact ⟨.e (.bin k.toNat a b),rfl,by simp [It.kn];omega,by omega,by omega,o1,o2⟩
   ·exact ⟨.c ⟨k.toNat,a,b⟩,rfl,by simp [It.kn];omega,by simp only;omega,by simp only;omega,o1,o2⟩
  ·exact ⟨.s (.store a b),rfl,by simp [It.kn];omega,o1,o2⟩
 split at hs
 ·rename_i h1 h2 h3 h4
  obtain ⟨a,b,c,rfl⟩:=cls_cll (zz hs).symm
  obtain ⟨rfl,_⟩:=h4
  exact ⟨.s (.ites a b c),rfl,by simp [It.kn];omega,hok (.c a) (by simp),hok (.l b) (by simp),hok (.l c) (by simp)⟩
 split at hs
 ·rename_i h1 h2 h3 h4 h5
  obtain ⟨a,b,rfl⟩:=cls_cl (zz hs).symm
  rcases h5 with rfl|rfl
  ·exact ⟨.s (.ite a b),rfl,by simp [It.kn];omega,hok (.c a) (by simp),hok (.l b) (by simp)⟩
  ·exact ⟨.s (.loop a b),rfl,by simp [It.kn];omega,hok (.c a) (by simp),hok (.l b) (by simp)⟩
 split at hs
 ·rename_i h1 h2 h3 h4 h5 h6
  subst h6
  obtain ⟨a,rfl⟩:=cls_l (zz hs).symm
  exact ⟨.s (.atom a),rfl,by simp [It.kn];omega,hok (.l a) (by simp),by simpa [It.atm] using ha rfl⟩
 split at hs
 ·rename_i h1 h2 h3 h4 h5 h6 h7
  subst h7
  obtain ⟨h8,h9⟩:=Ls.of_its f f.length (zz hs).symm
  exact ⟨.l (Ls.of f),h8,by simp [It.kn];omega,h9 hok⟩
 ·cases hs
theorem map_of {α β γ:Type} {p:β -> γ} {q:α -> γ} {l:List β} {m:List α} (hl:l.length=m.length) (h:∀ (k:Nat) (x:β) (y:α),l[k]? = some x->m[k]? = some y->p x=q y):l.map p=m.map q:=by
 apply List.ext_getElem?
 intro k
 rw [xb,xb]
 cases hx:l[k]? with
 | none=>rw [List.getElem?_eq_none_iff] at hx;rw [jb (by omega)];rfl
 | some x =>
  have:k<m.length:=by rw [<-hl];exact (qo.1 hx).1
  rw [xg this]
  simp only [ve]
  rw [h k x m[k] hx (xg this)]
def FlOk (fl:List Bool) (f:List It) (b:Nat):Prop:=∀ (k:Nat) e x,(endsF f b)[k]? = some e->f[k]? = some x->fl.getD e false=x.atm
theorem FlOk.any {fl:List Bool} {f:List It} {b:Nat} (h:FlOk fl f b):((endsF f b).any fun j=>fl.getD j false)=f.any It.atm:=by
 have:=map_of (qnm f b) (p:=fun j=>fl.getD j false) (q:=It.atm) h
 have e:=congrArg (fun l=>l.any id) this
 simpa [List.any_map,Function.comp_def] using e
end Lang
end Go.Am
namespace Go.Am
namespace Lang
def sgn (o:Nat):List UInt8:=if o=4 then [43] else if o=5 then [45] else if o=6 then [42] else if o=7 then [38] else if o=8 then [94] else if o=9 then [60,60] else [62,62]
def rowOf (o:Nat):Nat:=if o=4\/o=5\/o=8 then 1 else 2
def csgn (k:Nat):List UInt8:=if k=11 then [32,61,61,32] else if k=12 then [32,33,61,32] else [32,60,32]
def letter (v:Nat):List UInt8:=[UInt8.ofNat (97+v)]
def par (q:Prop) [Decidable q] (s:List UInt8):List UInt8:=if q then s else []
def Ex.txt:Ex->Nat->List UInt8
 | .num n,_=>dec n
 | .var v,_=>letter v
 | .load a,_=>[108,111,97,100,40]++a.txt 0 ++ [41]
 | .bin o a b,least=>par (rowOf o<least) [40]++a.txt (rowOf o)++([32]++sgn o ++ [32])++b.txt (rowOf o+1)++par (rowOf o<least) [41]
def Cn.txt (c:Cn):List UInt8:=c.a.txt 0++csgn c.k++c.b.txt 0
def ind (deep:Nat):List UInt8:=List.replicate (2*deep) 32
mutual
def St.txt:St->Nat->List UInt8
 | .set v a,_=>letter v ++ [32,61,32]++a.txt 0 ++ [59]
 | .store a b,_=>[115,116,111,114,101,40]++a.txt 0 ++ [44,32]++b.txt 0 ++ [41,59]
 | .ite c l,d=>[105,102,32,40]++c.txt ++ [41,32]++([123,10]++l.txt (d+1)++(ind d ++ [125]))
 | .ites c l e,d=>[105,102,32,40]++c.txt ++ [41,32]++([123,10]++l.txt (d+1)++(ind d ++ [125])) ++ [32,101,108,115,101,32]++([123,10]++e.txt (d+1)++(ind d ++ [125]))
 | .loop c l,d=>[119,104,105,108,101,32,40]++c.txt ++ [41,32]++([123,10]++l.txt (d+1)++(ind d ++ [125]))
 | .atom l,d=>[97,116,111,109,105,99,32]++([123,10]++l.txt (d+1)++(ind d ++ [125]))
 | .halt,_=>[104,97,108,116,59]
def Ls.txt:Ls->Nat->List UInt8
 | .nil,_=>[]
 | .cons s l,d=>ind d++s.txt d ++ [10]++l.txt d
end
end Lang
end Go.Am
namespace Go.Am
namespace Lang
def Seg (t:List Nd) (b:Nat) (l:List Nd):Prop:=∀ i x,l[i]? = some x->t[b+i]? = some x
theorem Seg.all (t:List Nd):Seg t 0 t:=fun i x h=>by rw [x9];exact h
theorem Seg.left {t:List Nd} {b:Nat} {l m:List Nd} (h:Seg t b (l++m)):Seg t b l:=fun i x hx=>h i x (by rw [x3 (qo.1 hx).1];exact hx)
theorem Seg.right {t:List Nd} {b:Nat} {l m:List Nd} (h:Seg t b (l++m)) {c:Nat} (hc:c=b+l.length):Seg t c m:=fun i x hx=>by
 subst hc
 have:=h (l.length+i) x (by rw [xq (by omega)];simpa using hx)
 rw [j3];exact this
theorem Seg.one {t:List Nd} {b:Nat} {x:Nd} {m:List Nd} (h:Seg t b (x::m)):t[b]? = some x:=h 0 x rfl
theorem Seg.nd {t:List Nd} {b:Nat} {x:It} (h:Seg t b (x.enc b)):t[b+x.sz-1]? = some (x.nd b)/\Seg t b (encF x.ks b):=by
 rw [It.enc_eq] at h
 refine ⟨?_,h.left⟩
 have:=(h.right (c:=b+x.sz-1) (by rw [ql3,It.sz_eq];omega)).one
 exact this
theorem Seg.cons {t:List Nd} {b:Nat} {x:It} {r:List It} (h:Seg t b (encF (x::r) b)):Seg t b (x.enc b)/\Seg t (b+x.sz) (encF r (b+x.sz)) :=
 ⟨Seg.left h,Seg.right h (by rw [It.len])⟩
theorem Seg.lt {t:List Nd} {b:Nat} {x:It} (h:Seg t b (x.enc b)):b+x.sz<=t.length:=by
 have:=(qo.1 h.nd.1).1
 have:=x.pos;omega
theorem It.sub (t:List Nd):∀ (m:Nat) (f:List It) (b n:Nat),szF f<=m->(∀ y ∈ f,y.ok)->Seg t b (encF f b)->b<=n->n<b+szF f -> ∃ (x:It) (c:Nat),x.ok/\Seg t c (x.enc c)/\n=c+x.sz-1/\b<=c:=by
 intro m
 induction m with
 | zero=>intro f b n hm _ _ h1 h2;omega
 | succ m ih =>
  intro f b n hm hok hs h1 h2
  cases f with
  | nil=>simp [szF] at h2;omega
  | cons x r =>
   obtain ⟨s1,s2⟩:=hs.cons
   have hx:=hok x (by simp)
   have hsz:=x.sz_eq
   simp only [szF] at hm h2
   rcases yf n (b+x.sz) with q|q
   ·by_cases hl:n=b+x.sz-1
    ·exact ⟨x,b,hx,s1,hl,qc _⟩
    ·exact ih x.ks b n (by omega) (x.ok_view hx).2.1 s1.nd.2 h1 (by omega)
   ·obtain ⟨y,c,k1,k2,k3,k4⟩:=ih r (b+x.sz) n (by have:=x.pos;omega) (fun y hy=>hok y (by simp [hy])) s2 q (by omega)
    exact ⟨y,c,k1,k2,k3,by omega⟩
theorem Ls.sub {p:Ls} (hp:p.ok) {n:Nat} (hn:n<(p.encL 0).length):∃ (x:It) (c:Nat),x.ok/\Seg (p.encL 0) c (x.enc c)/\n=c+x.sz-1:=by
 obtain ⟨x,c,h1,h2,h3,_⟩:=It.sub (p.encL 0) (szF [.l p]) [.l p] 0 n (qc _) (fun y hy=>by rw [wt.1 hy];exact hp) (by
  have e:encF [.l p] 0=p.encL 0:=by simp [encF,It.enc]
  rw [e];exact Seg.all _) (xu _) (by rw [Ls.lenL] at hn;simpa [szF,It.sz] using hn)
 exact ⟨x,c,h1,h2,h3⟩
theorem sgn_len (o:Nat):(sgn o).length<=2:=by unfold sgn;(repeat' split)<;>decide
theorem csgn_len (o:Nat):(csgn o).length<=4:=by unfold csgn;(repeat' split)<;>decide
theorem par_len (q:Prop) [Decidable q]:(par q [40]).length<=1/\(par q [41]).length<=1:=by unfold par;constructor<;>(split<;>decide)
def Ex.small:Ex->Prop
 | .num n=>n<18446744073709551616
 | .var _=>True
 | .load a=>a.small
 | .bin _ a b=>a.small/\b.small
def Cn.small (c:Cn):Prop:=c.a.small/\c.b.small
mutual
def St.small:St->Prop
 | .set _ a=>a.small
 | .store a b=>a.small/\b.small
 | .ite c l=>c.small/\l.small
 | .ites c l e=>c.small/\l.small/\e.small
 | .loop c l=>c.small/\l.small
 | .atom l=>l.small
 | .halt=>True
def Ls.small:Ls->Prop
 | .nil=>True
 | .cons s l=>s.small/\l.small
end
theorem Ex.txt_len:∀ (x:Ex) (d:Nat),x.small->(x.txt d).length<=30*x.sz
 | .num n,d,h=>by have:=qte (n:=n) h;simp only [Ex.txt,Ex.sz];omega
 | .var v,d,_=>by simp [Ex.txt,letter,Ex.sz]
 | .load a,d,h=>by have:=a.txt_len 0 h;simp only [Ex.txt,Ex.sz,qk,xh,zi];omega
 | .bin o a b,d,h=>by
  have:=a.txt_len (rowOf o) h.1;have:=b.txt_len (rowOf o+1) h.2;have:=sgn_len o;obtain ⟨_,_⟩:=par_len (rowOf o<d)
  simp only [Ex.txt,Ex.sz,qk,xh,zi];omega
theorem Cn.txt_len (c:Cn) (h:c.small):c.txt.length<=30*c.sz:=by
 have:=c.a.txt_len 0 h.1;have:=c.b.txt_len 0 h.2;have:=csgn_len c.k
 simp only [Cn.txt,Cn.sz,qk];omega
theorem qji (d:Nat):(ind d).length=2*d:=by simp [ind]
mutual
theorem St.txt_len:∀ (x:St) (d k:Nat),x.small->d+x.sz<=k->(x.txt d).length+(2*d+1)<=(40+8*k)*x.sz
 | .set v a,d,k,h,hd=>by
  have:=a.txt_len 0 h
  simp only [St.txt,St.sz,letter,qk,xh,zi,jd]
  have:8*k*(a.sz+1)=8*k*a.sz+8*k:=by rw [qb0,yv]
  omega
 | .store a b,d,k,h,hd=>by
  have:=a.txt_len 0 h.1;have:=b.txt_len 0 h.2
  simp only [St.sz] at hd
  have e:(40+8*k)*(a.sz+b.sz+1)=40*a.sz+8*k*a.sz+(40*b.sz+8*k*b.sz)+(40+8*k):=by simp only [qb0,yv,jd]
  simp only [St.txt,St.sz,qk,xh,zi];omega
 | .ite c l,d,k,h,hd=>by
  simp only [St.sz] at hd
  have cp:=c.pos
  have:=c.txt_len h.1;have:=l.txt_len (d+1) k h.2 (by omega);have:=qji d
  have e:(40+8*k)*(c.sz+(l.sz+1)+1)=(40+8*k)*c.sz+(40+8*k)*l.sz+(40+8*k)+(40+8*k):=by simp only [qb0,yv];omega
  have e2:30*c.sz<=(40+8*k)*c.sz:=xz _ (by omega)
  simp only [St.txt,St.sz,qk,xh,zi];omega
 | .ites c l m,d,k,h,hd=>by
  simp only [St.sz] at hd
  have cp:=c.pos
  have:=c.txt_len h.1;have:=l.txt_len (d+1) k h.2.1 (by omega);have:=m.txt_len (d+1) k h.2.2 (by omega);have:=qji d
  have e:(40+8*k)*(c.sz+(l.sz+1)+(m.sz+1)+1)=(40+8*k)*c.sz+(40+8*k)*l.sz+(40+8*k)*m.sz+(40+8*k)+(40+8*k)+(40+8*k):=by simp only [qb0,yv];omega
  have e2:30*c.sz<=(40+8*k)*c.sz:=xz _ (by omega)
  simp only [St.txt,St.sz,qk,xh,zi];omega
 | .loop c l,d,k,h,hd=>by
  simp only [St.sz] at hd
  have cp:=c.pos
  have:=c.txt_len h.1;have:=l.txt_len (d+1) k h.2 (by omega);have:=qji d
  have e:(40+8*k)*(c.sz+(l.sz+1)+1)=(40+8*k)*c.sz+(40+8*k)*l.sz+(40+8*k)+(40+8*k):=by simp only [qb0,yv];omega
  have e2:30*c.sz<=(40+8*k)*c.sz:=xz _ (by omega)
  simp only [St.txt,St.sz,qk,xh,zi];omega
 | .atom l,d,k,h,hd=>by
  simp only [St.sz] at hd
  have:=l.txt_len (d+1) k h (by omega);have:=qji d
  have e:(40+8*k)*(l.sz+1+1)=(40+8*k)*l.sz+(40+8*k)+(40+8*k):=by simp only [qb0,yv]
  simp only [St.txt,St.sz,qk,xh,zi];omega
 | .halt,d,k,h,hd=>by simp only [St.txt,St.sz,xh,zi];omega
theorem Ls.txt_len:∀ (x:Ls) (d k:Nat),x.small->d+x.sz<=k->(x.txt d).length<=(40+8*k)*x.sz
 | .nil,d,k,h,hd=>by simp [Ls.txt]
 | .cons s l,d,k,h,hd=>by
  simp only [Ls.sz] at hd
  have:=s.txt_len d k h.1 (by omega);have:=l.txt_len d k h.2 (by omega);have:=qji d
  have e:(40+8*k)*(s.sz+l.sz)=(40+8*k)*s.sz+(40+8*k)*l.sz:=qb0 ..
  simp only [Ls.txt,Ls.sz,qk,xh,zi];omega
end
end Lang
end Go.Am
namespace Go.Am
def encZ (x:Nat):List AV:=[.int .i64 (x:Int)]
theorem qtk (l:List Nat):l.flatMap encZ=l.map fun (x:Nat)=>AV.int .i64 (x:Int):=by
 induction l with
 | nil=>rfl
 | cons a l ih=>rw [jl,ih];rfl
theorem qbm (l:List Nat):(l.flatMap encZ).length=l.length:=by rw [qtk,vc]
structure Stk (e:Nat) (H0 H:AHeap) (v:AV) (xs:List Nat):Prop where
 own:(v=.nils/\xs=[]) \/ ∃ b m rest,v=.gslice b 0 m 1 0 xs.length/\b<H.next/\H0.next<=b/\m=xs.length+rest.length/\H.get b=some (.grown m 1 (xs.flatMap encZ++rest) e (0,0))
 fr:Fr Em H0 H
section
variable {e:Nat} {H0 H:AHeap} {v:AV} {xs:List Nat}
theorem Stk.nil (e:Nat) (H:AHeap):Stk e H H .nils []:=⟨.inl ⟨rfl,rfl⟩,Fr.refl H⟩
theorem Stk.fresh (h:Stk e H0 H v xs):∀ b,OnS v b->H0.next<=b/\b<H.next:=by
 rintro b ⟨h1,rfl⟩
 rcases h.own with ⟨rfl,_⟩|⟨b,m,rest,rfl,q1,q2,_⟩
 ·exact (h1 rfl).elim
 ·exact ⟨q2,q1⟩
theorem Stk.sl (h:Stk e H0 H v xs):SlT encZ 1 H v xs:=by
 rcases h.own with ⟨rfl,rfl⟩|⟨b,m,rest,rfl,q1,q2,q3,q4⟩
 ·exact ⟨rfl,rfl⟩
 ·refine ⟨by rw [qbm,yv],rfl,rfl,by omega,.inr ⟨q1,_,qgs q4,?_⟩⟩
  rw [yd,qh (by rw [qk,qbm];omega),je,kx,yv,List.take_append_of_le_length (by rw [qbm];exact qc _),xn (by rw [qbm];exact qc _)]
theorem Stk.frW {H':AHeap} {W:Nat->Prop} (h:Stk e H0 H v xs) (f:Fr W H H') (f0:Fr Em H0 H') (hw:∀ b,OnS v b -> ¬ W b):Stk e H0 H' v xs:=by
 refine ⟨?_,f0⟩
 rcases h.own with q|⟨b,m,rest,rfl,q1,q2,q3,q4⟩
 ·exact .inl q
 ·exact .inr ⟨b,m,rest,rfl,qf q1 f.next,q2,q3,by rw [f.keep b q1 (hw b ⟨by simp,rfl⟩)];exact q4⟩
theorem Stk.em {H':AHeap} (h:Stk e H0 H v xs) (f:Fr Em H H'):Stk e H0 H' v xs:=h.frW f (h.fr.em f) fun _ _ q=>q
theorem Stk.push (h:Stk e H0 H v xs) {x:Nat} {zero:List AV} {bytes:Nat} (hz:zero.length=1) (hf:(xs.length+1)*bytes<=140737488355328) (hf':xs.length+1<=140737488355328) {K:AObj->(Nat->AV)->Bool->AV->AHeap->Prop} {m:Bool}
 (hk:∀ v' H',Stk e H0 H' v' (xs ++ [x])->Fr (OnS v) H H'->(∀ b,OnS v' b->OnS v b\/H.next<=b)->K (.row [.int .i64 (x:Int)] e (0,0) true) (Op.sliceTo 1 1) m v' H') :
 B32 m (Op.buildSlice e 1 zero [(0,1)] [.int .i64 (x:Int)]) fun g o mk=>B32 g (Op.append e 1 bytes [v,mk H.next] (H.alloc o)) (K o mk):=by
 have hb:Op.buildSlice e 1 zero [(0,1)] [.int .i64 (x:Int)]=some (.row [.int .i64 (x:Int)] e (0,0) true,Op.sliceTo 1 1):=qq2 e 1 zero (.int .i64 (x:Int)) hz rfl
 rw [hb]
 have hfr:Fr Em H (H.alloc (.row [.int .i64 (x:Int)] e (0,0) true)):=(Fr.refl H).alloc _
 have hx:Sl (H.alloc (.row [.int .i64 (x:Int)] e (0,0) true)) 1 (Op.sliceTo 1 1 H.next) 1 [.int .i64 (x:Int)]:=sl_new rfl
 have e1:∀ n,Nat.beq n n=true:=fun n=>by simp
 have ha:allOne [AV.int .i64 (x:Int)]=true:=rfl
 have hlt:Nat.blt 0 1=true:=rfl
 have h10:Nat.beq 1 0=false:=rfl
 have hfit:=qtn hf hf'
 refine B32.intro rfl ?_
 rcases h.own with ⟨rfl,rfl⟩|⟨b,mm,rest,rfl,q1,q2,q3,q4⟩
 ·have hfit:fits 1 bytes=true:=by simpa using hfit
  refine B32.intro (a:=.gslice (H.next+1) 0 1 1 0 1) (b:=(H.alloc (.row [.int .i64 (x:Int)] e (0,0) true)).alloc (.grown 1 1 [.int .i64 (x:Int)] e (0,0))) ?_ (hk _ _ ⟨.inr ⟨H.next+1,1,[],rfl,?_,?_,rfl,?_⟩,?_⟩ ((hfr.alloc _).mono fun _ _ q=>q.elim) fun b hb=>.inr ?_)
  ·simp only [Op.append,hx.lenV,hx.first,qd,ha,qi,appendV,h10,qv,hfit,hlt,jk,grownV,x4]
  ·rw [x4,x4];omega
  ·have:=h.fr.next;omega
  ·exact xa ..
  ·exact (h.fr.em hfr).alloc _
  ·rw [hb.2];show H.next<=H.next+1;omega
 ·have q4':(H.alloc (.row [.int .i64 (x:Int)] e (0,0) true)).get b=some (.grown mm 1 (xs.flatMap encZ++rest) e (0,0)):=by rw [qep q1];exact q4
  cases rest with
  | nil =>
   have hm:mm=xs.length:=by simpa using q3
   subst hm
   have h3:Nat.ble (0+xs.length+1) xs.length=false:=by cases hq:Nat.ble (0+xs.length+1) xs.length with|false=>rfl|true=>rw [jo] at hq;omega
   have h4:=ww (show 0+xs.length<=xs.length by omega)
   have h5:=ww (xu (xs.length*1))
   refine B32.intro (a:=.gslice (H.next+1) 0 (xs.length+1) 1 0 (xs.length+1)) (b:=((H.alloc (.row [.int .i64 (x:Int)] e (0,0) true)).kill b).alloc (.grown (xs.length+1) 1 (xs.flatMap encZ ++ [.int .i64 (x:Int)]) e (0,0))) ?_ (hk _ _ ⟨.inr ⟨H.next+1,xs.length+1,[],?_,?_,?_,?_,?_⟩,?_⟩ ?_ fun b hb=>.inr ?_)
   ·simp only [Op.append,hx.lenV,hx.first,qd,ha,qi,appendV,h10,qv,e1,h4,hlt,jk,h3,hfit,q4',h5,grownV,qdv,x4,vk,zy,Nat.beq]
   ·rw [qk];rfl
   ·rw [x4,qdv,x4];omega
   ·have:=h.fr.next;omega
   ·rw [qk];rfl
   ·rw [zy,List.flatMap_append]
    have:=xa ((H.alloc (.row [.int .i64 (x:Int)] e (0,0) true)).kill b) (.grown (xs.length+1) 1 (xs.flatMap encZ ++ [.int .i64 (x:Int)]) e (0,0))
    rw [qdv,x4] at this
    exact this
   ·exact ((h.fr.em hfr).kill (.inr q2)).alloc _
   ·exact (Fr.kill (W:=OnS (AV.gslice b 0 xs.length 1 0 xs.length)) (hfr.mono fun _ _ q=>q.elim) (.inl ⟨by simp,rfl⟩)).alloc _
   ·rw [hb.2];show H.next<=H.next+1;omega
  | cons r rest =>
   have h3:=ww (show 0+xs.length+1<=mm by simp at q3;omega)
   have h4:=ww (show 0+xs.length<=mm by omega)
   have hst:(H.alloc (.row [.int .i64 (x:Int)] e (0,0) true)).store b ((0+xs.length)*1) [.int .i64 (x:Int)]=some ((H.alloc (.row [.int .i64 (x:Int)] e (0,0) true)).set b (.grown mm 1 ((xs ++ [x]).flatMap encZ++rest) e (0,0))):=by
    have ht:thawed (0,0) ((0+xs.length)*1) (lenL [AV.int .i64 (x:Int)])=true:=by simp [thawed]
    simp only [AHeap.store,ha,qi,q4',ht,qdh]
    rw [qh (by rw [qk,qbm];simp),qd]
    congr 4
    rw [x9,yv,List.take_append_of_le_length (by rw [qbm];exact qc _),xn (by rw [qbm];exact qc _),List.flatMap_append]
    ·rfl
    ·rw [x9,yv,show [AV.int .i64 (x:Int)].length=1 from rfl,yo,jz (by rw [qbm];omega),qbm]
     simp
   refine B32.intro (a:=.gslice b 0 mm 1 0 (xs.length+1)) (b:=(H.alloc (.row [.int .i64 (x:Int)] e (0,0) true)).set b (.grown mm 1 ((xs ++ [x]).flatMap encZ++rest) e (0,0))) ?_ (hk _ _ ⟨.inr ⟨b,mm,rest,?_,?_,q2,?_,?_⟩,?_⟩ ?_ fun c hc=>.inl ⟨by simp,hc.2⟩)
   ·simp only [Op.append,hx.lenV,hx.first,qd,ha,qi,appendV,h10,qv,e1,h4,hlt,jk,h3,hst]
   ·rw [qk];rfl
   ·rw [set_next,x4];omega
   ·rw [qk];simp at q3 ⊢;omega
   ·exact xc ..
   ·exact (h.fr.em hfr).set (.inr q2) _
   ·exact Fr.set (W:=OnS (AV.gslice b 0 mm 1 0 xs.length)) (hfr.mono fun _ _ q=>q.elim) (.inl ⟨by simp,rfl⟩) _
end
end Go.Am
namespace Go.Am
open Lang
def encI (x:Int):List AV:=[.int .i64 x]
def encN (z:Nd × AV):List AV:=[.int .i64 z.1.k,.int .u64 z.1.n,z.2]
theorem qin (z:Nd × AV):(encN z).length=3:=rfl
abbrev nodeV (x:Nd) (a:AV):AV:=.agg [.int .i64 x.k,.int .u64 x.n,a]
structure Nds (H:AHeap) (v:AV) (ts:List Nd):Prop where
 ex:∃ zs:List (Nd × AV),zs.map (·.1)=ts/\SlT encN 3 H v zs /\ ∀ z ∈ zs,SlT encI 1 H z.2 z.1.kids
section
variable {H H':AHeap} {v:AV} {ts:List Nd}
theorem Nds.em (h:Nds H v ts) (f:Fr Em H H'):Nds H' v ts:=by
 obtain ⟨zs,h1,h2,h3⟩:=h.ex
 exact ⟨zs,h1,h2.em f,fun z hz=>(h3 z hz).em f⟩
theorem Nds.len (h:Nds H v ts):Op.lenSl [v]=some (.int .i64 ts.length):=by
 obtain ⟨zs,h1,h2,h3⟩:=h.ex
 rw [h2.len,<-h1,vc]
theorem Nds.get (h:Nds H v ts) {i:Nat} {x:Nd} (hx:ts[i]? = some x):∃ a,SlT encI 1 H a x.kids/\oneCell a=true /\
 (∀ k,Op.indexSl 3 [v,.int k (i:Int)]=some (.ptr (slB v) (slO 3 v i)))/\Op.loadN 3 [.ptr (slB v) (slO 3 v i)] H=some (nodeV x a) /\
 Op.load1 [.ptr (slB v) (slO 3 v i)] H=some (.int .i64 x.k)/\Op.load1 [.ptr (slB v) (slO 3 v i+1)] H=some (.int .u64 x.n)/\Op.load1 [.ptr (slB v) (slO 3 v i+2)] H=some a:=by
 obtain ⟨zs,h1,h2,h3⟩:=h.ex
 obtain ⟨z,hz,rfl⟩:∃ z,zs[i]? = some z/\z.1=x:=by
  rw [<-h1,xb] at hx
  cases hq:zs[i]? with
  | none=>rw [hq] at hx;cases hx
  | some z=>rw [hq] at hx;injection hx with hx;exact ⟨z,rfl,hx⟩
 have ha:=h3 z (z4 hz)
 refine ⟨z.2,ha,ha.one,fun k=>h2.idx hz rfl k,h2.loadN qin (by decide) hz,h2.load0 qin hz (by decide),h2.load1 qin hz (j:=1) (by decide),h2.load1 qin hz (j:=2) (by decide)⟩
end
end Go.Am
namespace Go.Am
open Go.RowKit
section
variable {P:Program}
def Wt (P:Program) (t:TypeId) {Hh:Type} (d:DataW Hh):Prop:=∀ x ∈ DataW.weights P t d,x<=reachBytes
theorem qq9 {Hh:Type} {e:TypeId} {x:Nat} {d:DataW Hh}:∀ {l:List (DataW Hh)},d ∈ l->x ∈ DataW.weights P e d->x ∈ DataW.weightsAll P e l
 | y::l,h,hx=>by
  rw [DataW.weightsAll,xw]
  rcases xe.1 h with rfl|h
  ·exact .inl hx
  ·exact .inr (qq9 h hx)
def RdW (P:Program) (t:TypeId) (R:AHeap->List AV->Prop):Prop :=
 (∀ H H' l,R H l->Fr Em H H'->R H' l) /\ ∀ {Hh:Type} (enc:TypeId × Value->Hh) (W:World) (held:Bool) (fuel:Nat) (cs:List Value) (d:DataW Hh) (ps:List MemPlace),
  DataW.trod enc P W 0 (fun _=>true) held fuel t cs=some (d,ps)->Wt P t d -> ∀ (θ:Th) (n:Nat) (gl:GL),Good W θ n gl -> ∃ θ' n' gl' l,Step W θ n gl θ' n' gl'/\VRL (Lt n') θ' l cs/\R (zr gl' n') l
theorem RdP.toW {t:TypeId} {R:AHeap->List AV->Prop} (h:RdP P t R):RdW P t R:=⟨h.1,fun enc W held fuel cs d ps ht _=>h.2 enc W held fuel cs d ps ht⟩
theorem qq5 {e:TypeId} {R:AHeap->List AV->Prop} (hR:RdW P e R) {Hh:Type} (enc:TypeId × Value->Hh) (W:World) (held:Bool) (fuel:Nat):∀ (css:List (List Value)),(∀ cs ∈ css,∃ x,DataW.trod enc P W 0 (fun _=>true) held fuel e cs=some x/\Wt P e x.1) ->
 ∀ (θ:Th) (n:Nat) (gl:GL),Good W θ n gl -> ∃ (θ':Th) (n':Nat) (gl':GL) (ls:List (List AV)),Step W θ n gl θ' n' gl'/\VRL (Lt n') θ' ls.flatten css.flatten/\ls.length=css.length /\ ∀ (i:Nat) l cs,ls[i]? = some l->css[i]? = some cs->R (zr gl' n') l/\l.length=cs.length
 | [],_,θ,n,gl,hg=>⟨θ,n,gl,[],Step.refl hg,.nil,rfl,fun i l cs h=>by simp at h⟩
 | cs::css,h,θ,n,gl,hg=>by
  obtain ⟨x,hx,hw⟩:=h cs (by simp)
  obtain ⟨θ1,n1,gl1,l,s1,v1,r1⟩:=hR.2 enc W held fuel cs x.1 x.2 hx hw θ n gl hg
  obtain ⟨θ2,n2,gl2,ls,s2,v2,q2,q3⟩:=qq5 hR enc W held fuel css (fun c hc=>h c (by simp [hc])) θ1 n1 gl1 s1.good
  refine ⟨θ2,n2,gl2,l::ls,s1.trans s2,?_,by simp [q2],fun i l' cs' h1 h2=>?_⟩
  ·rw [qam,qam]
   exact (v1.up s2.ag fun b hb=>qf hb s2.le).app v2
  ·cases i with
   | zero =>
    simp at h1 h2;subst h1;subst h2
    exact ⟨hR.1 _ _ _ r1 s2.fr,v1.length.symm⟩
   | succ i=>exact q3 i l' cs' (by simpa using h1) (by simpa using h2)
def SlW (P:Program) (e:TypeId) (R:AHeap->List AV->Prop) (size:Nat) (H:AHeap) (u:AV):Prop:=SlR R size H u /\ ∀ k,lenV u=some k->k*P.bytesOf e<=reachBytes
theorem qoj {t e:TypeId} {R:AHeap->List AV->Prop} (ht:P.underlying t=some (.slice e)) (hR:RdW P e R) (hs:0<P.cellsOf e):RdW P t fun H l=>∃ u,l=[u]/\SlW P e R (P.cellsOf e) H u:=by
 refine ⟨fun H H' l ⟨u,h1,h2,h3⟩ f=>⟨u,h1,h2.em hR.1 f,h3⟩,?_⟩
 intro Hh enc W held fuel cs0 d ps h hwt θ n gl hg
 cases fuel with
 | zero=>cases h
 | succ f =>
  have key:cs0=[.slice none 0 0] \/ ∃ a len cap,cs0=[.slice (some a) len cap]/\len<=cap/\(∀ i,i<len -> ∃ cs x,W.cells? 0 (a.add (i*P.cellsOf e)) (P.cellsOf e)=some cs/\DataW.trod enc P W 0 (fun _=>true) held f e cs=some x/\Wt P e x.1)/\len*P.bytesOf e<=reachBytes/\(len<cap -> ∃ cs,W.cells? 0 (a.add (len*P.cellsOf e)) (P.cellsOf e)=some cs):=by
   simp only [DataW.trod,ht] at h
   split at h<;>first|(cases h;done) | skip
   all_goals first|(rename_i h1;cases h1;done) | skip
   ·left;rfl
   ·right
    rename_i e' a len cap h1
    injection h1 with h1;injection h1 with h1;subst h1
    split at h
    ·rename_i hb
     simp only [qa,kq,qt] at h
     obtain ⟨elems,he,rest,hre,hdd⟩:=h
     injection hdd with hdd _
     have hw1:=hwt ((elems.length+rest.length)*P.bytesOf e) (by rw [<-hdd,DataW.weights,ht];simp)
     have hel0:elems.length=len:=by have:=mapM_some_length he;simpa using this
     refine ⟨a,len,cap,rfl,hb.2.1,fun i hi=>?_,qx (xz _ (by omega)) hw1,fun hlt=>?_⟩
     ·have hl:=mapM_some_length he
      have:=mapM_some_get he i i (by simp [hi])
      have hi':i<elems.length:=by rw [hl];simpa using hi
      rw [xg hi'] at this
      obtain ⟨cs,q1,q2⟩:=qa.1 this
      refine ⟨cs,_,q1,q2,fun x hx=>hwt x ?_⟩
      rw [<-hdd,DataW.weights,ht]
      exact js _ (xw.2 (.inl (qq9 (List.mem_map_of_mem (List.getElem_mem hi')) hx)))
     ·have hl:=mapM_some_length hre
      have:=mapM_some_get hre 0 0 (by rw [List.getElem?_range (by omega)])
      have hi':0<rest.length:=by rw [hl];simp;omega
      rw [xg hi',jy] at this
      obtain ⟨cs,q1,q2⟩:=qa.1 this
      exact ⟨cs,q1⟩
    ·cases h
  rcases key with rfl|⟨a,len,cap,rfl,hlc,hel,hbig,hre⟩
  ·exact ⟨θ,n,gl,[.nils],Step.refl hg,fun _ _=>rfl,.nils,rfl,⟨[],by simp,⟨by simp,rfl⟩,.inl rfl⟩,(fun k hk=>by injection hk with hk;subst hk;simp)⟩
  ·obtain ⟨k,o,s⟩:=a
   by_cases h0:cap=0
   ·subst h0
    have:len=0:=by omega
    subst this
    have hst:=Step.bare' hg k o (encSpot s)
    refine ⟨_,_,_,[.eslice n],hst,.one ?_,.eslice n,rfl,⟨[],by simp,⟨by simp,rfl,qy n⟩,.inr (qy n)⟩,(fun k hk=>by injection hk with hk;subst hk;simp)⟩
    intro θ' hθ
    obtain ⟨q1,q2,q3⟩:=θ.add_new n k o (encSpot s)
    obtain ⟨r1,r2,r3⟩:=hθ n (qy n)
    simp only [conc,r1,r2,r3,q1,q2,q3,spot_enc]
   ·have hsp:s=none:=by
     by_cases hl0:len=0
     ·subst hl0
      obtain ⟨cs,hc⟩:=hre (by omega)
      rw [je] at hc
      exact qhc hs (by simpa [Addr.add] using hc)
     ·obtain ⟨cs,x,hc,_,_⟩:=hel 0 (by omega)
      rw [je] at hc
      exact qhc hs (by simpa [Addr.add] using hc)
    subst hsp
    by_cases hl0:len=0
    ·subst hl0
     refine ⟨_,_,_,[.slice n 0 0 cap],Step.bare hg k o,.one ?_,.slice n 0 0 cap,rfl,⟨[],by simp,⟨by simp,rfl,xu _,.inl rfl⟩,.inr (qy n)⟩,(fun k hk=>by injection hk with hk;subst hk;simp)⟩
     have:=VR.slice (D:=Lt (n+1)) (θ:=θ.add n k o 0) (b:=n) (o:=0) (n:=0) (c:=cap) (qy n:Lt (n+1) n)
     obtain ⟨q1,q2,_⟩:=θ.add_new n k o 0
     simpa [conc,q1,q2] using this
    ·have hex:∀ i:Nat,∃ cs,i<len->W.cells? 0 ⟨k,o+i*P.cellsOf e,none⟩ (P.cellsOf e)=some cs /\ ∃ x,DataW.trod enc P W 0 (fun _=>true) held f e cs=some x/\Wt P e x.1:=fun i=>by
      by_cases hi:i<len
      ·obtain ⟨cs,x,h1,h2⟩:=hel i hi
       rw [vw] at h1
       exact ⟨cs,fun _=>⟨h1,x,h2⟩⟩
      ·exact ⟨[],fun h=>(hi h).elim⟩
     obtain ⟨F,hF⟩:=Classical.axiomOfChoice hex
     let css:=(List.range len).map F
     have hcl:css.length=len:=by simp [css]
     have hcg:∀ (i:Nat) c,css[i]? = some c->i<len/\c=F i:=fun i c hc=>by
      simp only [css,xb,qt] at hc
      obtain ⟨j,hj,rfl⟩:=hc
      have hi:i<len:=by have:=qcc hj;simpa using this
      rw [List.getElem?_range hi] at hj
      injection hj with hj;subst hj
      exact ⟨hi,rfl⟩
     obtain ⟨arr,e',fz,hh,_,_⟩:=qhj hs (hF 0 (by omega)).1
     obtain ⟨arr',e2,fz2,hh',_,hle⟩:=qhj hs (hF (len-1) (by omega)).1
     rw [hh] at hh';injection hh' with hh';injection hh' with q1 q2 q3;subst q1
     have hmul:(len-1)*P.cellsOf e+P.cellsOf e=len*P.cellsOf e:=by rw [<-kc];congr 1;omega
     have hone:∀ (i:Nat) c,css[i]? = some c->c=(arr.toList.drop (o+i*P.cellsOf e)).take (P.cellsOf e)/\c.length=P.cellsOf e:=fun i c hc=>by
      obtain ⟨hi,rfl⟩:=hcg i c hc
      obtain ⟨arr',e2,fz2,hh',h6,h7⟩:=qhj hs (hF i hi).1
      rw [hh] at hh';injection hh' with hh';injection hh' with q1 q2 q3;subst q1
      exact ⟨h6,by rw [h6];simp;omega⟩
     have hcat:css.flatten=(arr.toList.drop o).take (len*P.cellsOf e):=by rw [qh2 hone,hcl]
     obtain ⟨θ1,n1,gl1,ls,s1,v1,l1,r1⟩:=qq5 hR enc W held f css (fun c hc=>by
      obtain ⟨i,hi⟩:=yt.1 hc
      obtain ⟨hi',rfl⟩:=hcg i c hi
      exact (hF i hi').2) θ n gl hg
     rw [hcat] at v1
     have hsz:o+len*P.cellsOf e<=arr.size:=by omega
     have hls:ls.length=len:=by rw [l1,hcl]
     have hflen:ls.flatten.length=len*P.cellsOf e:=by rw [<-v1.length,km,yb,zu];omega
     have hrow:=Step.row (l:=ls.flatten) (k:=k) (off:=o) (pre:=arr.toList.take o) (cs:=(arr.toList.drop o).take (len*P.cellsOf e)) (post:=arr.toList.drop (o+len*P.cellsOf e)) (e:=e') (fz:=fz) s1.good (by
      rw [hh];congr 2
      have hq:arr.toList.take o++(arr.toList.drop o).take (len*P.cellsOf e)++arr.toList.drop (o+len*P.cellsOf e)=arr.toList:=by
       rw [xj,<-we,yu,yu]
      rw [hq]) (by simp;omega) v1
     refine ⟨_,_,_,[.slice n1 0 len cap],s1.trans hrow,.one ?_,.slice n1 0 len cap,rfl,⟨ls,fun l hl=>?_,⟨by rw [hflen,hls],hls.symm,by rw [hls];exact hlc,.inr ⟨qy n1,ls.flatten,xm (fz:=(0,0)) (e:=0) (ow:=false) ?_,?_⟩⟩,.inr (qy n1)⟩,fun k hk=>by injection hk with hk;subst hk;exact hbig⟩
     ·have:=VR.slice (D:=Lt (n1+1)) (θ:=θ1.add n1 k o 0) (b:=n1) (o:=0) (n:=len) (c:=cap) (qy n1:Lt (n1+1) n1)
      obtain ⟨q1,q2,_⟩:=θ1.add_new n1 k o 0
      simpa [conc,q1,q2] using this
     ·obtain ⟨i,hi⟩:=yt.1 hl
      have hil:i<css.length:=by rw [<-l1];exact qcc hi
      obtain ⟨q1,q2⟩:=r1 i l css[i] hi (by simp [hil])
      exact ⟨hR.1 _ _ _ q1 hrow.fr,by rw [q2];exact (hone i _ (by simp [hil])).2⟩
     ·show (qa1 ((n1,ls.flatten)::gl1) .nil).get n1=_
      rw [qa1,T.get_set,qh rfl]
     ·rw [hls,yd,qh (by omega),kx,xn (by omega)]
def qdf:List (AHeap->List AV->Prop)->AHeap->List AV->Prop
 | [],_,l=>l=[]
 | R::Rs,H,l=>∃ a b,l=a++b/\R H a/\qdf Rs H b
theorem qdf.em:∀ {Rs:List (AHeap->List AV->Prop)},(∀ R ∈ Rs,∀ H H' l,R H l->Fr Em H H'->R H' l) -> ∀ H H' l,qdf Rs H l->Fr Em H H'->qdf Rs H' l
 | [],_,_,_,_,h,_=>h
 | R::Rs,hm,H,H',l,⟨a,b,h1,h2,h3⟩,f=>⟨a,b,h1,hm R (by simp) _ _ _ h2 f,qdf.em (fun S hS=>hm S (by simp [hS])) _ _ _ h3 f⟩
theorem qoi {Hh:Type} (enc:TypeId × Value->Hh) (W:World) (held:Bool) (fuel:Nat) {cs:List Value}:∀ {fs:List (TypeId × Nat × (AHeap->List AV->Prop))} {k:Nat} {xs:List (DataW Hh × List MemPlace)},
 (∀ f ∈ fs,RdW P f.1 f.2.2)->(∀ (j:Nat) f,fs[j]? = some f->f.2.1=k+((fs.take j).map fun f=>P.cellsOf f.1).sum) ->
 fs.mapM (fun f=>DataW.trod enc P W 0 (fun _=>true) held fuel f.1 ((cs.drop f.2.1).take (P.cellsOf f.1)))=some xs->(∀ x ∈ DataW.weightsEach P (fs.map (·.1)) (xs.map (·.1)),x<=reachBytes) ->
 k+(fs.map fun f=>P.cellsOf f.1).sum<=cs.length -> ∀ (θ:Th) (n:Nat) (gl:GL),Good W θ n gl ->
 ∃ θ' n' gl' l,Step W θ n gl θ' n' gl'/\VRL (Lt n') θ' l ((cs.drop k).take ((fs.map fun f=>P.cellsOf f.1).sum))/\qdf (fs.map (·.2.2)) (zr gl' n') l
 | [],k,xs,_,_,_,_,_,θ,n,gl,hg=>⟨θ,n,gl,[],Step.refl hg,by simpa using VRL.nil,rfl⟩
 | f::fs,k,xs,hf,ho,hm,hw,hl,θ,n,gl,hg=>by
  simp only [List.mapM_cons,Option.bind_eq_bind,qa,Option.pure_def,qb] at hm
  obtain ⟨y,hy,ys,hys,rfl⟩:=hm
  simp only [qw,DataW.weightsEach,xw] at hw
  have h0:f.2.1=k:=by have:=ho 0 f rfl;simpa using this
  obtain ⟨θ1,n1,gl1,a,s1,v1,r1⟩:=(hf f (by simp)).2 enc W held fuel _ y.1 y.2 hy (fun x hx=>hw x (.inl hx)) θ n gl hg
  simp only [qw,List.sum_cons] at hl
  obtain ⟨θ2,n2,gl2,b,s2,v2,r2⟩:=qoi enc W held fuel (cs:=cs) (fs:=fs) (k:=k+P.cellsOf f.1) (fun g hg=>hf g (by simp [hg])) (fun j g hg=>by
   have:=ho (j+1) g (by simpa using hg)
   simp only [List.take_succ_cons,qw,List.sum_cons] at this
   omega) hys (fun x hx=>hw x (.inr hx)) (by omega) θ1 n1 gl1 s1.good
  refine ⟨θ2,n2,gl2,a++b,s1.trans s2,?_,a,b,rfl,(hf f (by simp)).1 _ _ _ r1 s2.fr,r2⟩
  rw [h0] at v1
  rw [qw,List.sum_cons,List.take_add,we]
  exact (v1.up s2.ag fun b hb=>qf hb s2.le).app v2
theorem qqz {H:Type} {g:TypeId->List Value->Option (DataW H × List MemPlace)} {cs:List Value}:∀ {fs:List Field} {Rs:List (AHeap->List AV->Prop)},fs.length=Rs.length ->
 fs.mapM (fun f=>g f.type ((cs.drop f.offset).take (P.cellsOf f.type)))=((fs.zip Rs).map fun x=>(x.1.type,x.1.offset,x.2)).mapM (fun f=>g f.1 ((cs.drop f.2.1).take (P.cellsOf f.1)))
 | [],[],_=>rfl
 | f::fs,R::Rs,h=>by simp only [wu,qw,List.mapM_cons,qqz (fs:=fs) (Rs:=Rs) (by simpa using h)]
theorem qlh {t:TypeId} {fs:Array Field} {Rs:List (AHeap->List AV->Prop)} (h:P.underlying t=some (.struct fs)) (hn:fs.toList.length=Rs.length) (hR:∀ x ∈ fs.toList.zip Rs,RdW P x.1.type x.2)
 (ho:qds P 0 fs.toList=true) (hc:(fs.toList.map fun f=>P.cellsOf f.type).sum=P.cellsOf t):RdW P t fun H l=>qdf Rs H l:=by
 refine ⟨qdf.em fun R hR'=>?_,?_⟩
 ·obtain ⟨i,hi⟩:=yt.1 hR'
  have hil:i<fs.toList.length:=by rw [hn];exact qcc hi
  have hz:(fs.toList.zip Rs)[i]? = some (fs.toList[i],R):=by rw [List.getElem?_zip_eq_some];exact ⟨by simp [xg hil],hi⟩
  exact (hR _ (z4 hz)).1
 intro Hh enc W held fuel cs d ps ht hwt θ n gl hg
 cases fuel with
 | zero=>cases ht
 | succ f =>
  have hlen:cs.length=P.cellsOf t /\ ∃ xs,fs.toList.mapM (fun g=>DataW.trod enc P W 0 (fun _=>true) held f g.type ((cs.drop g.offset).take (P.cellsOf g.type)))=some xs /\ ∀ x ∈ DataW.weightsEach P (fs.toList.map (·.type)) (xs.map (·.1)),x<=reachBytes:=by
   simp only [DataW.trod,h] at ht
   split at ht
   ·rename_i hl
    obtain ⟨xs,hm,hdd⟩:=qt.1 ht
    injection hdd with hdd _
    exact ⟨hl,xs,hm,fun x hx=>hwt x (by rw [<-hdd,DataW.weights,h];exact hx)⟩
   ·cases ht
  obtain ⟨hl,xs,hm,hw⟩:=hlen
  rw [qqz (Rs:=Rs) hn] at hm
  have e1:((fs.toList.zip Rs).map fun x=>(x.1.type,x.1.offset,x.2)).map (fun f=>P.cellsOf f.1)=fs.toList.map fun f=>P.cellsOf f.type:=by
   rw [j9]
   have:((fs.toList.zip Rs).map fun x=>P.cellsOf x.1.type)=(fs.toList.zip Rs |>.map Prod.fst).map fun f=>P.cellsOf f.type:=by rw [j9];rfl
   rw [List.map_fst_zip (by omega)] at this
   exact this
  have e0:((fs.toList.zip Rs).map fun x=>(x.1.type,x.1.offset,x.2)).map (·.1)=fs.toList.map (·.type):=by
   rw [j9]
   have:((fs.toList.zip Rs).map fun x=>x.1.type)=(fs.toList.zip Rs |>.map Prod.fst).map (·.type):=by rw [j9];rfl
   rw [List.map_fst_zip (by omega)] at this
   exact this
  have e2:((fs.toList.zip Rs).map fun x=>(x.1.type,x.1.offset,x.2)).map (·.2.2)=Rs:=by
   rw [j9]
   have:((fs.toList.zip Rs).map fun x=>x.2)=Rs:=by rw [List.map_snd_zip (by omega)]
   exact this
  obtain ⟨θ',n',gl',l,s,v,r⟩:=qoi enc W held f (cs:=cs) (k:=0) (fs:=(fs.toList.zip Rs).map fun x=>(x.1.type,x.1.offset,x.2)) (fun g hg=>by
   obtain ⟨x,hx,rfl⟩:=List.mem_map.1 hg
   exact hR x hx) (fun j g hg=>by
   simp only [xb,qt,List.getElem?_zip_eq_some] at hg
   obtain ⟨x,⟨hx1,hx2⟩,rfl⟩:=hg
   have:=fieldsOk ho j x.1 hx1
   rw [List.map_take,e1,<-List.map_take];exact this) hm (by rw [e0];exact hw) (by rw [e1,hc,hl];omega) θ n gl hg
  rw [e2] at r
  rw [e1,hc,kx,xn (by omega)] at v
  exact ⟨θ',n',gl',l,s,v,r⟩
end
end Go.Am
namespace Go.Am
open Go.RowKit Lang
section
variable {P:Program}
theorem RdW.imp {t:TypeId} {R R':AHeap->List AV->Prop} (h:RdW P t R) (hm:∀ H H' l,R' H l->Fr Em H H'->R' H' l) (hi:∀ H l,R H l->R' H l):RdW P t R' :=
 ⟨hm,fun enc W held fuel cs d ps ht hw θ n gl hg=>by
  obtain ⟨θ',n',gl',l,s,v,r⟩:=h.2 enc W held fuel cs d ps ht hw θ n gl hg
  exact ⟨θ',n',gl',l,s,v,hi _ _ r⟩⟩
theorem qna {α β:Type} {f:α->TypeId} {Q:TypeId -> β->Prop}:∀ (l:List α) (R:List β),(∀ x ∈ (l.map f).zip R,Q x.1 x.2) -> ∀ x ∈ l.zip R,Q (f x.1) x.2
 | [],_,_,x,h=>by simp at h
 | _::_,[],_,x,h=>by simp at h
 | a::l,b::R,hq,x,h=>by
  rcases xe.1 h with rfl|h
  ·exact hq (f a,b) (by simp)
  ·exact qna l R (fun y hy=>hq y (by simp [hy])) x h
theorem rdw_ints {tK tI:TypeId} {k:IntKind} (uK:P.underlying tK=some (.slice tI)) (uI:P.underlying tI=some (.int k)) (cI:P.cellsOf tI=1) :
 RdW P tK fun H l=>∃ u,l=[u] /\ ∃ xs:List Int,SlT (fun x=>[AV.int k x]) 1 H u xs/\xs.length*P.bytesOf tI<=reachBytes /\ ∀ x ∈ xs,(Lit.int k x).wf=true:=by
 refine (qoj uK (qj1 (qgy uI)).toW (by rw [cI];decide)).imp ?_ fun H l h=>?_
 ·rintro H H' l ⟨u,h1,xs,h2,h3,h4⟩ f;exact ⟨u,h1,xs,h2.em f,h3,h4⟩
 ·obtain ⟨u,rfl,h1,h2⟩:=h
  rw [cI] at h1
  obtain ⟨xs,h3,h4⟩:=slt_of (enc:=fun x=>[AV.int k x]) (Q:=fun x=>(Lit.int k x).wf=true) (fun l h=>by obtain ⟨n,h1,h2⟩:=h;exact ⟨n,h1,h2⟩) h1
  exact ⟨u,rfl,xs,h3,h2 _ (Sl.lenV h3),h4⟩
theorem qra {k:IntKind} {n:Int} (h:(Lit.int k n).wf=true):k.min<=n/\n<=k.max:=by
 simpa only [Lit.wf,qj,jq] using h
theorem wf_u64' {n:Int} (h:(Lit.int .u64 n).wf=true):0<=n/\n<18446744073709551616:=by
 have:=qra h
 have h1:IntKind.max .u64=18446744073709551615:=by decide
 have h2:IntKind.min .u64=0:=by decide
 omega
theorem wf_i64' {n:Int} (h:(Lit.int .i64 n).wf=true):-9223372036854775808<=n/\n<9223372036854775808:=by
 have:=qra h
 have h1:IntKind.max .i64=9223372036854775807:=by decide
 have h2:IntKind.min .i64 = -9223372036854775808:=by decide
 omega
structure NdsArg (H:AHeap) (u:AV) (ts:List Nd):Prop where
 nds:Nds H u ts
 len:ts.length*40<=reachBytes
 kids:∀ x ∈ ts,x.kids.length*8<=reachBytes
 lo:∀ x ∈ ts,0<=x.n
 hi:∀ x ∈ ts,x.n<18446744073709551616
end
end Go.Am
namespace Go.Am
namespace Lang
structure Ins where
 op:Int
 a:Int
 b:Int
 c:Int
 imm:Int
structure CW where
 l:List Ins
 d:Bool
structure Frm where
 vars:Int
 base:Int
 many:Int
def Frm.ok (f:Frm):Prop:=0<=f.vars/\f.vars<=4096/\0<=f.base/\f.base<=4096/\0<=f.many/\f.many<=4096
def CW.put (w:CW) (x:Ins):CW:=⟨w.l ++ [x],w.d⟩
def CW.goto (w:CW) (i:Nat):CW:=⟨w.l.modify i fun x=>{ x with imm:=((w.l.length:Nat):Int) },w.d⟩
def CW.bounds (f:Frm) (r:Nat) (w:CW):CW:=CW.goto (((w.put ⟨2,6,0,0,f.many⟩).put ⟨16,(r:Nat),6,0,0⟩).put ⟨0,0,0,0,0⟩) (w.l.length+1)
def Ex.cmp (f:Frm):Ex->Nat->CW->CW
 | .num n,r,w=>if 6<=r then ⟨w.l,true⟩ else w.put ⟨2,(r:Nat),0,0,wrapI .i64 (n:Nat)⟩
 | .var v,r,w=>if 6<=r then ⟨w.l,true⟩ else w.put ⟨11,(r:Nat),7,0,f.vars+(v:Nat)⟩
 | .load a,r,w=>if 6<=r then ⟨w.l,true⟩ else ((a.cmp f r w).bounds f r).put ⟨11,(r:Nat),(r:Nat),0,f.base⟩
 | .bin o a b,r,w=>if 6<=r then ⟨w.l,true⟩ else (b.cmp f (r+1) (a.cmp f r w)).put ⟨(o:Nat),(r:Nat),(r:Nat),((r+1:Nat):Int),0⟩
def Cn.cmp (f:Frm) (c:Cn) (w:CW):CW :=
 let v:=c.b.cmp f 1 (c.a.cmp f 0 w)
 CW.goto ((v.put ⟨((c.k+3:Nat):Int),0,1,0,0⟩).put ⟨13,0,0,0,0⟩) v.l.length
mutual
def St.cmp (f:Frm):St->CW->CW
 | .set v a,w=>(a.cmp f 0 w).put ⟨12,0,7,0,f.vars+(v:Nat)⟩
 | .store a b,w=>((b.cmp f 1 (a.cmp f 0 w)).bounds f 0).put ⟨12,1,0,0,f.base⟩
 | .ite c l,w=>(l.cmp f (c.cmp f w)).goto ((c.cmp f w).l.length-1)
 | .ites c l e,w =>
  let v:=l.cmp f (c.cmp f w)
  (e.cmp f ((v.put ⟨13,0,0,0,0⟩).goto ((c.cmp f w).l.length-1))).goto v.l.length
 | .loop c l,w=>CW.goto ((l.cmp f (c.cmp f w)).put ⟨13,0,0,0,((w.l.length:Nat):Int)⟩) ((c.cmp f w).l.length-1)
 | .atom l,w=>(l.cmp f (w.put ⟨17,0,0,0,0⟩)).put ⟨18,0,0,0,0⟩
 | .halt,w=>w.put ⟨1,0,0,0,0⟩
def Ls.cmp (f:Frm):Ls->CW->CW
 | .nil,w=>w
 | .cons s l,w=>l.cmp f (s.cmp f w)
end
theorem CW.put_len (w:CW) (x:Ins):(w.put x).l.length=w.l.length+1:=by simp [CW.put]
theorem CW.put_d (w:CW) (x:Ins):(w.put x).d=w.d:=rfl
theorem CW.goto_len (w:CW) (i:Nat):(w.goto i).l.length=w.l.length:=by simp [CW.goto]
theorem CW.goto_d (w:CW) (i:Nat):(w.goto i).d=w.d:=rfl
theorem CW.bounds_len (f:Frm) (r:Nat) (w:CW):(w.bounds f r).l.length=w.l.length+3:=by simp [CW.bounds,CW.goto_len,CW.put_len]
theorem CW.bounds_d (f:Frm) (r:Nat) (w:CW):(w.bounds f r).d=w.d:=rfl
theorem Ex.cmp_len (f:Frm):∀ (x:Ex) (r:Nat) (w:CW),w.l.length<=(x.cmp f r w).l.length/\(x.cmp f r w).l.length<=w.l.length+4*x.sz
 | .num n,r,w=>by simp only [Ex.cmp,Ex.sz];split<;>simp [CW.put_len]
 | .var v,r,w=>by simp only [Ex.cmp,Ex.sz];split<;>simp [CW.put_len]
 | .load a,r,w=>by
  have:=a.cmp_len f r w
  simp only [Ex.cmp,Ex.sz];split<;>simp only [CW.put_len,CW.bounds_len]<;>omega
 | .bin o a b,r,w=>by
  have:=a.cmp_len f r w
  have:=b.cmp_len f (r+1) (a.cmp f r w)
  simp only [Ex.cmp,Ex.sz];split<;>simp only [CW.put_len]<;>omega
theorem Cn.cmp_len (f:Frm) (c:Cn) (w:CW):w.l.length+2<=(c.cmp f w).l.length/\(c.cmp f w).l.length<=w.l.length+4*c.sz:=by
 have:=c.a.cmp_len f 0 w
 have:=c.b.cmp_len f 1 (c.a.cmp f 0 w)
 simp only [Cn.cmp,Cn.sz,CW.goto_len,CW.put_len];omega
mutual
theorem St.cmp_len (f:Frm):∀ (x:St) (w:CW),w.l.length<=(x.cmp f w).l.length/\(x.cmp f w).l.length<=w.l.length+4*x.sz
 | .set v a,w=>by
  have:=a.cmp_len f 0 w
  simp only [St.cmp,St.sz,CW.put_len];omega
 | .store a b,w=>by
  have:=a.cmp_len f 0 w
  have:=b.cmp_len f 1 (a.cmp f 0 w)
  simp only [St.cmp,St.sz,CW.put_len,CW.bounds_len];omega
 | .ite c l,w=>by
  have:=c.cmp_len f w
  have:=l.cmp_len f (c.cmp f w)
  simp only [St.cmp,St.sz,CW.goto_len];omega
 | .ites c l e,w=>by
  have:=c.cmp_len f w
  have:=l.cmp_len f (c.cmp f w)
  have:=e.cmp_len f (((l.cmp f (c.cmp f w)).put ⟨13,0,0,0,0⟩).goto ((c.cmp f w).l.length-1))
  simp only [CW.goto_len,CW.put_len] at this
  simp only [St.cmp,St.sz,CW.goto_len];omega
 | .loop c l,w=>by
  have:=c.cmp_len f w
  have:=l.cmp_len f (c.cmp f w)
  simp only [St.cmp,St.sz,CW.goto_len,CW.put_len];omega
 | .atom l,w=>by
  have:=l.cmp_len f (w.put ⟨17,0,0,0,0⟩)
  simp only [CW.put_len] at this
  simp only [St.cmp,St.sz,CW.put_len];omega
 | .halt,w=>by simp [St.cmp,St.sz,CW.put_len]
theorem Ls.cmp_len (f:Frm):∀ (x:Ls) (w:CW),w.l.length<=(x.cmp f w).l.length/\(x.cmp f w).l.length<=w.l.length+4*x.sz
 | .nil,w=>by simp [Ls.cmp]
 | .cons s l,w=>by
  have:=s.cmp_len f w
  have:=l.cmp_len f (s.cmp f w)
  simp only [Ls.cmp,Ls.sz];omega
end
def Ex.needs:Ex->Nat
 | .num _=>1
 | .var _=>1
 | .load a=>a.needs
 | .bin _ a b=>max a.needs (1+b.needs)
theorem Ex.needs_pos:∀ (x:Ex),1<=x.needs
 | .num _=>qc _
 | .var _=>qc _
 | .load a=>a.needs_pos
 | .bin _ a b=>qx a.needs_pos (Nat.le_max_left ..)
def It.deep1:It->Bool
 | .c q=>decide (6<q.a.needs) || decide (6<1+q.b.needs)
 | .s (.set _ a)=>decide (6<a.needs)
 | .s (.store a b)=>decide (6<a.needs) || decide (6<1+b.needs)
 | _=>false
def Ex.all:Ex->List It
 | .num n=>[.e (.num n)]
 | .var n=>[.e (.var n)]
 | .load a=>a.all ++ [.e (.load a)]
 | .bin o a b=>a.all++(b.all ++ [.e (.bin o a b)])
def Cn.all (c:Cn):List It:=c.a.all++(c.b.all ++ [.c c])
mutual
def St.all:St->List It
 | .set v a=>a.all ++ [.s (.set v a)]
 | .store a b=>a.all++(b.all ++ [.s (.store a b)])
 | .ite c l=>c.all++((l.all ++ [.l l]) ++ [.s (.ite c l)])
 | .ites c l e=>c.all++((l.all ++ [.l l])++((e.all ++ [.l e]) ++ [.s (.ites c l e)]))
 | .loop c l=>c.all++((l.all ++ [.l l]) ++ [.s (.loop c l)])
 | .atom l=>(l.all ++ [.l l]) ++ [.s (.atom l)]
 | .halt=>[.s .halt]
def Ls.all:Ls->List It
 | .nil=>[]
 | .cons s l=>s.all++l.all
end
def It.all:It->List It
 | .e x=>x.all
 | .c x=>x.all
 | .s x=>x.all
 | .l x=>x.all ++ [It.l x]
def allF:List It->List It
 | []=>[]
 | x::r=>x.all++allF r
theorem Ls.all_its:∀ (l:Ls),allF l.its=l.all
 | .nil=>by simp [Ls.its,allF,Ls.all]
 | .cons s l=>by simp [Ls.its,allF,Ls.all,It.all,l.all_its]
theorem It.all_eq (x:It):x.all=allF x.ks ++ [x]:=by
 match x with
 | .e (.num _)=>simp [It.all,Ex.all,It.ks,allF]
 | .e (.var _)=>simp [It.all,Ex.all,It.ks,allF]
 | .e (.load a)=>simp [It.all,Ex.all,It.ks,allF]
 | .e (.bin o a b)=>simp [It.all,Ex.all,It.ks,allF]
 | .c q=>simp [It.all,Cn.all,It.ks,allF]
 | .s (.set _ a)=>simp [It.all,St.all,It.ks,allF]
 | .s (.store a b)=>simp [It.all,St.all,It.ks,allF]
 | .s (.ite q m)=>simp [It.all,St.all,It.ks,allF]
 | .s (.ites q m w)=>simp [It.all,St.all,It.ks,allF]
 | .s (.loop q m)=>simp [It.all,St.all,It.ks,allF]
 | .s (.atom m)=>simp [It.all,St.all,It.ks,allF]
 | .s .halt=>simp [It.all,St.all,It.ks,allF]
 | .l m=>simp [It.all,It.ks,m.all_its]
theorem qqo:∀ (m:Nat) (f:List It),szF f<=m->(allF f).length=szF f:=by
 intro m
 induction m with
 | zero =>
  intro f hm
  cases f with
  | nil=>rfl
  | cons x r=>have:=x.pos;simp only [szF] at hm;omega
 | succ m ih =>
  intro f hm
  cases f with
  | nil=>rfl
  | cons x r =>
   have hs:=x.sz_eq
   have hp:=x.pos
   simp only [szF] at hm
   have h1:=ih x.ks (by omega)
   have h2:=ih r (by omega)
   simp only [allF,szF,qk,It.all_eq,xh,zi];omega
theorem It.all_len (x:It):x.all.length=x.sz:=by
 have:=qqo _ x.ks (qc _)
 have hs:=x.sz_eq
 rw [x.all_eq,qk,this,xh,zi];omega
theorem It.at (t:List Nd):∀ (m:Nat) (f:List It) (b n:Nat) (y:It),szF f<=m->(∀ y ∈ f,y.ok)->Seg t b (encF f b)->(allF f)[n]? = some y -> ∃ c,y.ok/\Seg t c (y.enc c)/\b+n=c+y.sz-1:=by
 intro m
 induction m with
 | zero =>
  intro f b n y hm _ _ h
  cases f with
  | nil=>cases h
  | cons x r=>have:=x.pos;simp only [szF] at hm;omega
 | succ m ih =>
  intro f b n y hm hok hs h
  cases f with
  | nil=>cases h
  | cons x r =>
   obtain ⟨s1,s2⟩:=hs.cons
   have hx:=hok x (by simp)
   have hsz:=x.sz_eq
   have hp:=x.pos
   simp only [szF] at hm
   simp only [allF] at h
   rcases yf n x.sz with q|q
   ·rw [x3 (by rw [x.all_len];exact q),x.all_eq] at h
    have hl:=qqo _ x.ks (qc _)
    by_cases hn:n=x.sz-1
    ·rw [xq (by omega),hl,hn,show x.sz-1-szF x.ks=0 by omega] at h
     injection h with h;subst h
     exact ⟨b,hx,s1,by omega⟩
    ·rw [x3 (by omega)] at h
     exact ih x.ks b n y (by omega) (x.ok_view hx).2.1 s1.nd.2 h
   ·rw [xq (by rw [x.all_len];exact q),x.all_len] at h
    obtain ⟨c,k1,k2,k3⟩:=ih r (b+x.sz) (n-x.sz) y (by omega) (fun y hy=>hok y (by simp [hy])) s2 h
    exact ⟨c,k1,k2,by omega⟩
theorem Ls.at {p:Ls} (hp:p.ok) {n:Nat} {y:It} (h:((It.l p).all)[n]? = some y):∃ c,y.ok/\Seg (p.encL 0) c (y.enc c)/\n=c+y.sz-1:=by
 obtain ⟨c,h1,h2,h3⟩:=It.at (p.encL 0) (szF [.l p]) [.l p] 0 n y (qc _) (fun y hy=>by rw [wt.1 hy];exact hp) (by
  have e:encF [.l p] 0=p.encL 0:=by simp [encF,It.enc]
  rw [e];exact Seg.all _) (by simpa [allF] using h)
 exact ⟨c,h1,h2,by omega⟩
theorem Ex.all_deep:∀ (x:Ex),x.all.any It.deep1=false
 | .num _=>rfl
 | .var _=>rfl
 | .load a=>by simp only [Ex.all,ke,a.all_deep,yr,vn,It.deep1,kw]
 | .bin o a b=>by simp only [Ex.all,ke,a.all_deep,b.all_deep,yr,vn,It.deep1,kw]
theorem Cn.all_deep (c:Cn):c.all.any It.deep1=(It.c c).deep1:=by
 simp only [Cn.all,ke,Ex.all_deep,yr,vn,kw,Bool.false_or]
theorem Ex.cmp_d (f:Frm):∀ (x:Ex) (r:Nat) (w:CW),(x.cmp f r w).d=(w.d || decide (6<r+x.needs))
 | .num n,r,w=>by
  show _=(w.d || decide (6<r+1))
  simp only [Ex.cmp]
  split
  ·rw [zh (by omega),Bool.or_true]
  ·rw [zm (by omega),kw,CW.put_d]
 | .var n,r,w=>by
  show _=(w.d || decide (6<r+1))
  simp only [Ex.cmp]
  split
  ·rw [zh (by omega),Bool.or_true]
  ·rw [zm (by omega),kw,CW.put_d]
 | .load a,r,w=>by
  have:=a.needs_pos
  show _=(w.d || decide (6<r+a.needs))
  simp only [Ex.cmp]
  split
  ·rw [zh (by omega),Bool.or_true]
  ·rw [CW.put_d,CW.bounds_d,a.cmp_d f r w]
 | .bin o a b,r,w=>by
  have:=a.needs_pos
  show _=(w.d || decide (6<r+max a.needs (1+b.needs)))
  simp only [Ex.cmp]
  split
  ·rw [zh (by omega),Bool.or_true]
  ·rw [CW.put_d,b.cmp_d f,a.cmp_d f,qak]
   congr 1
   have hm:max a.needs (1+b.needs)=a.needs/\1+b.needs<=a.needs\/max a.needs (1+b.needs)=1+b.needs/\a.needs<=1+b.needs:=by
    rcases Nat.le_total a.needs (1+b.needs) with q|q
    ·exact .inr ⟨Nat.max_eq_right q,q⟩
    ·exact .inl ⟨Nat.max_eq_left q,q⟩
   generalize max a.needs (1+b.needs)=m at hm ⊢
   by_cases h1:6<r+a.needs
   ·rw [zh h1,Bool.true_or,zh (show 6<r+m by omega)]
   ·by_cases h2:6<r+1+b.needs
    ·rw [zh h2,Bool.or_true,zh (show 6<r+m by omega)]
    ·rw [zm h1,zm h2,zm (show ¬ 6<r+m by omega)];rfl
theorem Cn.cmp_d (f:Frm) (c:Cn) (w:CW):(c.cmp f w).d=(w.d || (It.c c).deep1):=by
 simp only [Cn.cmp,CW.goto_d,CW.put_d,Ex.cmp_d,It.deep1,x9,qak]
mutual
theorem St.cmp_d (f:Frm):∀ (x:St) (w:CW),(x.cmp f w).d=(w.d || x.all.any It.deep1)
 | .set v a,w=>by simp only [St.cmp,St.all,CW.put_d,Ex.cmp_d,ke,Ex.all_deep,yr,vn,It.deep1,x9,kw,Bool.false_or]
 | .store a b,w=>by simp only [St.cmp,St.all,CW.put_d,CW.bounds_d,Ex.cmp_d,ke,Ex.all_deep,yr,vn,It.deep1,x9,kw,Bool.false_or,qak]
 | .ite c l,w=>by simp only [St.cmp,St.all,CW.goto_d,l.cmp_d f,Cn.cmp_d,ke,Cn.all_deep,yr,vn,It.deep1,kw,qak]
 | .ites c l e,w=>by simp only [St.cmp,St.all,CW.goto_d,CW.put_d,e.cmp_d f,l.cmp_d f,Cn.cmp_d,ke,Cn.all_deep,yr,vn,It.deep1,kw,qak]
 | .loop c l,w=>by simp only [St.cmp,St.all,CW.goto_d,CW.put_d,l.cmp_d f,Cn.cmp_d,ke,Cn.all_deep,yr,vn,It.deep1,kw,qak]
 | .atom l,w=>by simp only [St.cmp,St.all,CW.put_d,l.cmp_d f,ke,yr,vn,It.deep1,kw]
 | .halt,w=>by simp [St.cmp,St.all,CW.put_d,It.deep1]
theorem Ls.cmp_d (f:Frm):∀ (x:Ls) (w:CW),(x.cmp f w).d=(w.d || x.all.any It.deep1)
 | .nil,w=>by simp [Ls.cmp,Ls.all]
 | .cons s l,w=>by simp only [Ls.cmp,Ls.all,l.cmp_d f,s.cmp_d f,ke,qak]
end
end Lang
end Go.Am
namespace Go.Am
namespace Lang
def opI (o:Nat) (x y:Int):Int :=
 if o=4 then wrapI .u64 (x+y) else if o=5 then wrapI .u64 (x-y) else if o=6 then wrapI .u64 (x*y)
 else if o=7 then wrapI .u64 ((BitVec.ofInt 64 x &&& BitVec.ofInt 64 y).toNat) else if o=8 then wrapI .u64 ((BitVec.ofInt 64 x ^^^ BitVec.ofInt 64 y).toNat)
 else if o=9 then wrapI .u64 (x*2 ^ (y % 64).toNat) else wrapI .u64 (x / 2 ^ (y % 64).toNat)
structure MS where
 w:List Int
 v:List Int
 left:Nat
 blk:Nat
 hlt:Bool
 err:Nat
def Ex.val (w v:List Int):Ex->Option Int
 | .num n=>some n
 | .var x=>v[x]?
 | .load a=>match a.val w v with
  | some u=>w[u.toNat]?
  | none=>none
 | .bin o a b=>match a.val w v with
  | some x=>match b.val w v with
   | some y=>some (opI o x y)
   | none=>none
  | none=>none
def Cn.so (w v:List Int) (c:Cn):Option Bool:=match c.a.val w v with
 | some x=>match c.b.val w v with
  | some y=>some (if c.k=11 then decide (x=y) else if c.k=12 then decide (x ≠ y) else decide (x<y))
  | none=>none
 | none=>none
def MS.on (s:MS):Prop:=s.hlt=false/\s.err=0
instance (s:MS):Decidable s.on:=inferInstanceAs (Decidable (_/\_))
def MS.pay (s:MS):MS:=if s.left=0 then { s with err:=190 } else { s with left:=s.left-1 }
def loopF (c:List Int->List Int->Option Bool) (body:MS->MS):Nat->MS->MS
 | 0,s=>s
 | n+1,s=>if s.on then (if s.left=0 then s.pay else match c s.w s.v with
  | none=>{ s.pay with err:=111 }
  | some false=>s.pay
  | some true=>loopF c body n (body s.pay)) else s
mutual
def St.run:St->Bool->MS->MS
 | .set x a,_,s=>if s.left=0 then s.pay else match a.val s.w s.v with
  | some y=>{ s.pay with v:=s.v.set x y }
  | none=>{ s.pay with err:=111 }
 | .store a b,_,s=>if s.left=0 then s.pay else match a.val s.w s.v with
  | some u=>match b.val s.w s.v with
   | some y=>if u.toNat<s.w.length then { s.pay with w:=s.w.set u.toNat y } else { s.pay with err:=111 }
   | none=>{ s.pay with err:=111 }
  | none=>{ s.pay with err:=111 }
 | .ite c l,i,s=>if s.left=0 then s.pay else match c.so s.w s.v with
  | none=>{ s.pay with err:=111 }
  | some true=>l.run i s.pay
  | some false=>s.pay
 | .ites c l m,i,s=>if s.left=0 then s.pay else match c.so s.w s.v with
  | none=>{ s.pay with err:=111 }
  | some true=>l.run i s.pay
  | some false=>m.run i s.pay
 | .loop c l,i,s=>loopF c.so (l.run i) (s.left+1) s
 | .atom l,i,s=>if s.left=0 then s.pay else if (l.run true s.pay).err=0 then { l.run true s.pay with blk:=(l.run true s.pay).blk+1 } else { l.run true s.pay with w:=s.w,v:=s.v }
 | .halt,i,s=>if s.left=0 then s.pay else if i=true then { s.pay with err:=111 } else { s.pay with hlt:=true }
def Ls.run:Ls->Bool->MS->MS
 | .nil,_,s=>s
 | .cons x l,i,s=>if s.on then l.run i (x.run i s) else s
end
theorem Ls.run_off (l:Ls) (i:Bool) {s:MS} (h:¬ s.on):l.run i s=s:=by
 cases l with
 | nil=>rfl
 | cons x l=>simp only [Ls.run,qe h]
theorem qla {I:MS->Prop} {c:List Int->List Int->Option Bool} {body:MS->MS} (hp:∀ s,I s->s.on->I s.pay) (he:∀ s,I s->I { s.pay with err:=111 }) (hb:∀ s,I s->s.on->I (body s)):∀ (n:Nat) (s:MS),I s->I (loopF c body n s)
 | 0,s,h=>h
 | n+1,s,h=>by
  unfold loopF
  split
  ·rename_i hon
   split
   ·exact hp s h hon
   ·rename_i hl
    have hon':s.pay.on:=by unfold MS.pay;rw [qe hl];exact hon
    split
    ·exact he s h
    ·exact hp s h hon
    ·exact qla hp he hb n _ (hb _ (hp s h hon) hon')
  ·exact h
structure Les (s r:MS):Prop where
 left:r.left<=s.left
 w:r.w.length=s.w.length
 v:r.v.length=s.v.length
theorem Les.refl (s:MS):Les s s:=⟨qc _,rfl,rfl⟩
theorem Les.trans {a b c:MS} (h:Les a b) (h':Les b c):Les a c:=⟨qx h'.left h.left,h'.w.trans h.w,h'.v.trans h.v⟩
theorem Les.pay (s:MS):Les s s.pay:=by unfold MS.pay;split<;>exact ⟨by simp,rfl,rfl⟩
theorem Les.bad {s r:MS} (h:Les s r) (e:Nat):Les s { r with err:=e }:=⟨h.left,h.w,h.v⟩
mutual
theorem St.les:∀ (x:St) (i:Bool) (s:MS),Les s (x.run i s)
 | .set x a,i,s=>by
  simp only [St.run];(repeat' split)
  ·exact Les.pay s
  ·have:=Les.pay s;exact ⟨this.left,this.w,by simp⟩
  ·exact (Les.pay s).bad _
 | .store a b,i,s=>by
  simp only [St.run];(repeat' split)
  ·exact Les.pay s
  ·have:=Les.pay s;exact ⟨this.left,by simp,this.v⟩
  all_goals exact (Les.pay s).bad _
 | .ite c l,i,s=>by
  simp only [St.run];(repeat' split)
  ·exact Les.pay s
  ·exact (Les.pay s).bad _
  ·exact (Les.pay s).trans (l.les i _)
  ·exact Les.pay s
 | .ites c l m,i,s=>by
  simp only [St.run];(repeat' split)
  ·exact Les.pay s
  ·exact (Les.pay s).bad _
  ·exact (Les.pay s).trans (l.les i _)
  ·exact (Les.pay s).trans (m.les i _)
 | .loop c l,i,s=>by
  simp only [St.run]
  exact qla (I:=Les s) (fun r h _=>h.trans (Les.pay r)) (fun r h=>(h.trans (Les.pay r)).bad _) (fun r h _=>h.trans (l.les i r)) _ s (Les.refl s)
 | .atom l,i,s=>by
  have h:=(Les.pay s).trans (l.les true s.pay)
  simp only [St.run];(repeat' split)
  ·exact Les.pay s
  ·exact ⟨h.left,h.w,h.v⟩
  ·exact ⟨h.left,rfl,rfl⟩
 | .halt,i,s=>by
  have:=Les.pay s
  simp only [St.run];(repeat' split)<;>exact ⟨this.left,this.w,this.v⟩
theorem Ls.les:∀ (x:Ls) (i:Bool) (s:MS),Les s (x.run i s)
 | .nil,i,s=>Les.refl s
 | .cons x l,i,s=>by
  simp only [Ls.run];split
  ·exact (x.les i s).trans (l.les i _)
  ·exact Les.refl s
end
def MS.add (m:Nat) (s:MS):MS:={ s with left:=s.left+m }
theorem qqm (m:Nat) (s:MS):(s.add m).on ↔ s.on:=xx
theorem qfx {m:Nat} {s:MS} (h:s.left ≠ 0):(s.add m).pay=s.pay.add m:=by
 unfold MS.pay MS.add;rw [qe h,qe (by simp only;omega)];simp only [MS.mk.injEq,true_and,z8];omega
theorem qf4 {s:MS} (h:s.left=0):s.pay.err=190:=by unfold MS.pay;rw [qh h]
theorem qoa {s:MS} (h:s.left ≠ 0) (ho:s.on):s.pay.on:=by unfold MS.pay;rw [qe h];exact ho
theorem qtr {c:List Int->List Int->Option Bool} {body:MS->MS} (n:Nat) {s:MS} (h:¬ s.on):loopF c body n s=s:=by cases n<;>simp [loopF,h]
theorem not_on {s:MS} (h:s.err ≠ 0):¬ s.on:=fun q=>h q.2
theorem qnx {m:Nat} {c:List Int->List Int->Option Bool} {body:MS->MS} (hl:∀ s,(body s).left<=s.left) (hb:∀ s,s.on->(body s).err ≠ 190->body (s.add m)=(body s).add m) :
 ∀ (n n':Nat) (s:MS),s.left<n->s.left+m<n'->(loopF c body n s).err ≠ 190->loopF c body n' (s.add m)=(loopF c body n s).add m
 | 0,_,s,h,_,_=>by omega
 | n+1,0,s,_,h,_=>by omega
 | n+1,n'+1,s,h,h',he=>by
  unfold loopF at he ⊢
  by_cases hon:s.on
  ·rw [qh hon] at he ⊢
   rw [qh ((qqm m s).2 hon)]
   by_cases h0:s.left=0
   ·rw [qh h0] at he;exact absurd (qf4 h0) he
   ·rw [qe h0] at he ⊢
    rw [qe (show ¬ (s.add m).left=0 by simp only [MS.add];omega),qfx h0]
    have e:c (s.add m).w (s.add m).v=c s.w s.v:=rfl
    rw [e]
    cases hc:c s.w s.v with
    | none=>rfl
    | some q =>
     rw [hc] at he
     cases q with
     | false=>rfl
     | true =>
      simp only at he ⊢
      have hbe:(body s.pay).err ≠ 190:=fun q=>by
       rw [qtr n (not_on (by rw [q];decide)),q] at he;exact he rfl
      rw [hb _ (qoa h0 hon) hbe]
      have h1:=hl s.pay
      have h2:s.pay.left+1=s.left:=by unfold MS.pay;rw [qe h0];simp only;omega
      exact qnx hl hb n n' _ (by omega) (by omega) he
  ·rw [qe hon];rw [qe (fun q=>hon ((qqm m s).1 q))]
mutual
theorem St.more (m:Nat):∀ (x:St) (i:Bool) (s:MS),s.on->(x.run i s).err ≠ 190->x.run i (s.add m)=(x.run i s).add m
 | .set x a,i,s,ho,he=>by
  simp only [St.run] at he ⊢
  by_cases h0:s.left=0
  ·rw [qh h0] at he;exact absurd (qf4 h0) he
  rw [qe h0,qe (show ¬ (s.add m).left=0 by simp only [MS.add];omega),qfx h0]
  show (match a.val s.w s.v with|some y=>_|none=>_)=_
  cases a.val s.w s.v<;>rfl
 | .store a b,i,s,ho,he=>by
  simp only [St.run] at he ⊢
  by_cases h0:s.left=0
  ·rw [qh h0] at he;exact absurd (qf4 h0) he
  rw [qe h0,qe (show ¬ (s.add m).left=0 by simp only [MS.add];omega),qfx h0]
  show (match a.val s.w s.v with|some u=>(match b.val s.w s.v with|some y=>if u.toNat<s.w.length then _ else _|none=>_) | none=>_)=_
  cases a.val s.w s.v with
  | none=>rfl
  | some u =>
   cases b.val s.w s.v with
   | none=>rfl
   | some y=>simp only;split<;>rfl
 | .ite c l,i,s,ho,he=>by
  simp only [St.run] at he ⊢
  by_cases h0:s.left=0
  ·rw [qh h0] at he;exact absurd (qf4 h0) he
  rw [qe h0] at he ⊢
  rw [qe (show ¬ (s.add m).left=0 by simp only [MS.add];omega),qfx h0]
  show (match c.so s.w s.v with|none=>_|some true=>_|some false=>_)=_
  cases hc:c.so s.w s.v with
  | none=>rfl
  | some q =>
   rw [hc] at he
   cases q with
   | false=>rfl
   | true=>exact l.more m i _ (qoa h0 ho) he
 | .ites c l e,i,s,ho,he=>by
  simp only [St.run] at he ⊢
  by_cases h0:s.left=0
  ·rw [qh h0] at he;exact absurd (qf4 h0) he
  rw [qe h0] at he ⊢
  rw [qe (show ¬ (s.add m).left=0 by simp only [MS.add];omega),qfx h0]
  show (match c.so s.w s.v with|none=>_|some true=>_|some false=>_)=_
  cases hc:c.so s.w s.v with
  | none=>rfl
  | some q =>
   rw [hc] at he
   cases q with
   | false=>exact e.more m i _ (qoa h0 ho) he
   | true=>exact l.more m i _ (qoa h0 ho) he
 | .loop c l,i,s,ho,he=>by
  simp only [St.run] at he ⊢
  exact qnx (fun s=>(l.les i s).left) (fun s h1 h2=>l.more m i s h1 h2) _ _ _ (by omega) (by simp only [MS.add];omega) he
 | .atom l,i,s,ho,he=>by
  simp only [St.run] at he ⊢
  by_cases h0:s.left=0
  ·rw [qh h0] at he;exact absurd (qf4 h0) he
  rw [qe h0] at he ⊢
  have hl:(l.run true s.pay).err ≠ 190:=by
   split at he
   ·rename_i q;rw [q];decide
   ·exact he
  rw [qe (show ¬ (s.add m).left=0 by simp only [MS.add];omega),qfx h0,l.more m true _ (qoa h0 ho) hl]
  by_cases q:(l.run true s.pay).err=0
  ·rw [qh q,qh (show ((l.run true s.pay).add m).err=0 from q)];rfl
  ·rw [qe q,qe (show ¬ ((l.run true s.pay).add m).err=0 from q)];rfl
 | .halt,i,s,ho,he=>by
  simp only [St.run] at he ⊢
  by_cases h0:s.left=0
  ·rw [qh h0] at he;exact absurd (qf4 h0) he
  rw [qe h0,qe (show ¬ (s.add m).left=0 by simp only [MS.add];omega),qfx h0]
  cases i<;>rfl
theorem Ls.more (m:Nat):∀ (x:Ls) (i:Bool) (s:MS),s.on->(x.run i s).err ≠ 190->x.run i (s.add m)=(x.run i s).add m
 | .nil,i,s,ho,he=>rfl
 | .cons x l,i,s,ho,he=>by
  simp only [Ls.run] at he ⊢
  rw [qh ho] at he ⊢
  rw [qh ((qqm m s).2 ho)]
  have hx:(x.run i s).err ≠ 190:=fun q=>by
   rw [l.run_off i (not_on (by rw [q];decide)),q] at he;exact he rfl
  rw [x.more m i s ho hx]
  by_cases hon:(x.run i s).on
  ·exact l.more m i _ hon he
  ·rw [l.run_off i hon,l.run_off i (fun q=>hon ((qqm m _).1 q))]
end
end Lang
end Go.Am
namespace Go.Am
def ITERO (AP:Mac) (g:Nat) (pre cap:List AV) (N O:Nat->Prop) (H0:AHeap) (xs:List (List AV)):Prop :=
 ∀ (L:Nat) (R:Nat->(Nat->Prop)->AHeap->Prop) (S:(Nat->Prop)->AHeap->Prop) (W0:Nat->Prop) (H:AHeap),
  H0.next<=H.next->(∀ b,N b\/O b->b<H0.next/\H.get b=H0.get b /\ ¬ W0 b)->R 0 W0 H->(∀ b,W0 b->b<H.next) ->
  (∀ i W H H',R i W H->(∀ b,W b->H'.get b=H.get b)->H.next<=H'.next->R i W H')->(∀ W H H',S W H->(∀ b,W b->H'.get b=H.get b)->H.next<=H'.next->S W H') ->
  (∀ (i:Nat) x,xs[i]? = some x -> ∀ W H',R i W H'->(∀ b,W b->b<H'.next/\(W0 b\/H.next<=b))->Fr (fun b=>W0 b\/O b) H H' ->
   ∃ bb H'' W',ROUND AP L x H' (.ret (.bool bb)) H''/\Fr W H' H''/\(∀ b,W' b->b<H''.next/\(W b\/H'.next<=b))/\(bb=true->R (i+1) W' H'')/\(bb=false->S W' H'')) ->
  ∃ v H' W',CALL AP g (pre++(.fn (.yield L) [] []::cap)) H (.ret v) H'/\Fr (fun b=>W0 b\/O b) H H'/\(∀ b,W' b->b<H'.next/\(W0 b\/H.next<=b))/\(R xs.length W' H'\/S W' H')
section
variable {AP:Mac}
theorem qt8 {f:Nat} {fn:AFunc} {k:Nat} {lp:ALoop} (hf:AP.func f=some fn) (hk:nth fn.loops k=some lp) {tm:T AV} {dfs:List ADef} {up:Option Chain} {H:AHeap} {Q:Post}
 {g:Nat} {pre cap:List AV} {N O:Nat->Prop} {H0:AHeap} {xs:List (List AV)} (hit:ITERO AP g pre cap N O H0 xs)
 (P:Nat->(Nat->Prop)->AHeap->Prop) (PS:AExit->(Nat->Prop)->AHeap->Prop) (W0:Nat->Prop)
 (hn:H0.next<=H.next) (hN:∀ b,N b\/O b->b<H0.next/\H.get b=H0.get b /\ ¬ W0 b) (hW0:∀ b,W0 b->b<H.next) (h0:P 0 W0 H)
 (loc:∀ i W H H',P i W H->(∀ b,W b->H'.get b=H.get b)->H.next<=H'.next->P i W H') (locS:∀ e W H H',PS e W H->(∀ b,W b->H'.get b=H.get b)->H.next<=H'.next->PS e W H')
 (hbody:∀ (L d i:Nat) x,xs[i]? = some x->H.next<=L -> ∀ W H1,P i W H1->(∀ b,W b->b<H1.next/\(W0 b\/H.next<=b))->Fr (fun b=>W0 b\/O b) H H1 -> ¬ W L->L<H1.next->H1.get L=some (.loop .ready none f k tm d) ->
  ∃ tm1,qb2 tm lp.params x=some tm1/\WP AP ⟨some L,f⟩ lp.assign ⟨tm1,[],none,H1⟩ fun e st1=>e=.normal/\st1.H.get L=some (.loop .ready none f k tm d) /\
   WP AP ⟨some L,f⟩ lp.body ⟨st1.tm,st1.dfs,st1.up,st1.H.set L (.loop .busy none f k tm d)⟩ fun e2 st2=>st2.dfs=[]/\st2.H.get L=some (.loop .busy none f k tm d) /\
    ∃ W':Nat->Prop,(∀ b,W' b->b<st2.H.next/\(W b\/H1.next<=b))/\Fr (fun b=>W b\/b=L) H1 st2.H/\(e2=.normal/\P (i+1) W' st2.H\/isJump e2/\PS e2 W' st2.H))
 (hend:∀ d W' H',H.next<=d->d<H'.next->H'.get d=some (.deferred (some []))->Fr (fun b=>W0 b\/O b) H H'->(∀ b,W' b->b<H'.next/\(W0 b\/H.next<=b)/\b ≠ d)->P xs.length W' H'->Q .normal ⟨tm,.coll d::dfs,up,H'⟩)
 (hstop:∀ e d W' H',isJump e->H.next<=d->d<H'.next->H'.get d=some (.deferred (some []))->Fr (fun b=>W0 b\/O b) H H'->(∀ b,W' b->b<H'.next/\(W0 b\/H.next<=b)/\b ≠ d)->PS e W' H'->Q e ⟨tm,.coll d::dfs,up,H'⟩) :
 RNG AP ⟨none,f⟩ k ⟨tm,dfs,up,H⟩ Q (.fn (.func g) pre cap):=by
 let d:=H.next
 let L:=H.next+1
 let Hd:=H.alloc (.deferred (some []))
 let HL:=Hd.alloc (.loop .ready none f k tm d)
 have hHL:HL.next=H.next+2:=rfl
 have hgL:HL.get L=some (.loop .ready none f k tm d):=xa Hd _
 have hgd:HL.get d=some (.deferred (some [])):=by rw [show HL.get d=Hd.get d from qep (by show H.next<H.next+1;omega) _];exact xa H _
 have hfr0:Fr Em H HL:=((Fr.refl H).alloc _).alloc _
 have hold:∀ b,b<H.next->HL.get b=H.get b:=fun b hb=>hfr0.keep b hb (fun q=>q)
 obtain ⟨v,H',W',hc,hfr,hW',hres⟩:=hit L
  (fun i W H'=>∃ V:Nat->Prop,(∀ b,V b->W b)/\W L /\ ¬ V L /\ ¬ W d/\(∀ b,W b->V b\/b=L)/\P i V H'/\H'.get L=some (.loop .ready none f k tm d)/\L<H'.next)
  (fun W H'=>∃ (V:Nat->Prop) (e:AExit) (j:AJump),(∀ b,V b->W b)/\W L /\ ¬ V L /\ ¬ W d/\(∀ b,W b->V b\/b=L)/\isJump e/\endOf e=some j/\PS e V H'/\H'.get L=some (.loop .done (some j) f k tm d)/\L<H'.next)
  (fun b=>W0 b\/b=L) HL (by rw [hHL];omega)
  (fun b hb=>by
   obtain ⟨h1,h2,h3⟩:=hN b hb
   exact ⟨h1,by rw [hold b (by omega)];exact h2,fun q=>q.elim h3 fun q=>by have:L=H.next+1:=rfl;omega⟩)
  ⟨W0,fun b hb=>.inl hb,.inr rfl,fun q=>by have:=hW0 _ q;have:L=H.next+1:=rfl;omega,fun q=>q.elim (fun q=>by have:=hW0 _ q;have:d=H.next:=rfl;omega) fun q=>by have:d=H.next:=rfl;have:L=H.next+1:=rfl;omega,
   fun b hb=>hb,loc 0 W0 H HL h0 (fun b hb=>hold b (hW0 b hb)) (by rw [hHL];omega),hgL,by rw [hHL];show H.next+1<H.next+2;omega⟩
  (fun b hb=>hb.elim (fun q=>by have:=hW0 b q;rw [hHL];omega) fun q=>by rw [hHL,q];show H.next+1<H.next+2;omega)
  (fun i W H1 H2 ⟨V,v1,v2,v3,v4,v5,v6,v7,v8⟩ hs hle=>⟨V,v1,v2,v3,v4,v5,loc i V H1 H2 v6 (fun b hb=>hs b (v1 b hb)) hle,by rw [hs L v2];exact v7,qf v8 hle⟩)
  (fun W H1 H2 ⟨V,e,j,v1,v2,v3,v4,v5,v6,v7,v8,v9,v10⟩ hs hle=>⟨V,e,j,v1,v2,v3,v4,v5,v6,v7,locS e V H1 H2 v8 (fun b hb=>hs b (v1 b hb)) hle,by rw [hs L v2];exact v9,qf v10 hle⟩)
  (fun i x hx W H1 ⟨V,v1,v2,v3,v4,v5,v6,v7,v8⟩ hb hfrS=>by
   have hLn0:L=H.next+1:=rfl
   have hfr1:Fr (fun b=>W0 b\/O b) H H1:=⟨qx (by rw [hHL];omega) hfrS.next,fun b hb hw=>by rw [hfrS.keep b (by rw [hHL];omega) (fun q=>q.elim (fun q=>q.elim (fun q=>hw (.inl q)) fun q=>by omega) fun q=>hw (.inr q)),hold b hb]⟩
   have hbV:∀ b,V b->b<H1.next/\(W0 b\/H.next<=b):=fun b q=>⟨(hb b (v1 b q)).1,(hb b (v1 b q)).2.elim (fun r=>r.elim .inl fun r=>by subst r;exact (v3 q).elim) fun r=>.inr (by rw [hHL] at r;omega)⟩
   obtain ⟨tm1,hbp,hw⟩:=hbody L d i x hx (by show H.next<=H.next+1;omega) V H1 v6 hbV hfr1 v3 v8 v7
   obtain ⟨e,H2,hr,bb,rfl,W2,k1,k2,k3,k4⟩:=qj6 (Q:=fun e H2=>∃ bb,e=.ret (.bool bb) /\ ∃ W2:Nat->Prop,Fr W H1 H2/\(∀ b,W2 b->b<H2.next/\(W b\/H1.next<=b)) /\
    (bb=true -> ∃ V:Nat->Prop,(∀ b,V b->W2 b)/\W2 L /\ ¬ V L /\ ¬ W2 d/\(∀ b,W2 b->V b\/b=L)/\P (i+1) V H2/\H2.get L=some (.loop .ready none f k tm d)/\L<H2.next) /\
    (bb=false -> ∃ (V:Nat->Prop) (e:AExit) (j:AJump),(∀ b,V b->W2 b)/\W2 L /\ ¬ V L /\ ¬ W2 d/\(∀ b,W2 b->V b\/b=L)/\isJump e/\endOf e=some j/\PS e V H2/\H2.get L=some (.loop .done (some j) f k tm d)/\L<H2.next)) v7 hf hk hbp
    (vj hw fun e st1 ⟨he,hgl,hw2⟩=>by
     subst he
     show BIND dirty (beginRound st1.H L) _
     have:beginRound st1.H L=some (st1.H.set L (.loop .busy none f k tm d)):=by unfold beginRound;rw [hgl]
     rw [this]
     refine vj hw2 fun e2 st2 ⟨hd2,hg2,W',w1,w2,w3⟩=>⟨hd2,?_⟩
     have hLn:L<st2.H.next:=qf v8 w2.next
     have hd1:d<H1.next:=by have:d=H.next:=rfl;have:L=H.next+1:=rfl;omega
     have fin:∀ s p,Fr W H1 (st2.H.set L (.loop s p f k tm d)):=fun s p=>⟨w2.next,fun b hb hw=>by
      rw [AHeap.get_set,qe (by rintro rfl;exact hw v2)]
      exact w2.keep b hb fun q=>q.elim (fun q=>hw (v1 b q)) fun q=>hw (by rw [q];exact v2)⟩
     have hW'L:∀ b,(W' b/\b ≠ L)->(st2.H.set L (.loop .ready none f k tm d)).get b=st2.H.get b:=fun b hb=>by rw [AHeap.get_set,qe (fun q=>hb.2 q.symm)]
     have hnV:¬ W' L:=fun q=>by
      rcases (w1 L q).2 with q|q
      ·exact v3 q
      ·omega
     have hnd:¬ W' d:=fun q=>by
      rcases (w1 d q).2 with q|q
      ·exact v4 (v1 d q)
      ·omega
     have hdL:d ≠ L:=by show H.next ≠ H.next+1;omega
     have bounds:∀ b,(W' b\/b=L)->b<st2.H.next/\(W b\/H1.next<=b):=fun b hb=>hb.elim (fun q=>⟨(w1 b q).1,(w1 b q).2.imp (v1 b) id⟩) fun q=>by subst q;exact ⟨hLn,.inl v2⟩
     rcases w3 with ⟨rfl,w3⟩|⟨hj,w3⟩
     ·show BIND dirty (setLoop st2.H L (cond true .ready .done) none) _
      have:setLoop st2.H L .ready none=some (st2.H.set L (.loop .ready none f k tm d)):=by unfold setLoop;rw [hg2]
      rw [qi,this]
      refine ⟨true,rfl,fun b=>W' b\/b=L,fin _ _,bounds,fun _=>⟨W',fun b hb=>.inl hb,.inr rfl,hnV,fun q=>q.elim hnd hdL,fun b hb=>hb,loc _ _ _ _ w3 (fun b hb=>by rw [AHeap.get_set,qe (by rintro rfl;exact hnV hb)]) (qc _),xc _ _ _,hLn⟩,fun h=>by cases h⟩
     ·obtain ⟨j,hj2⟩:∃ j,endOf e2=some j:=by cases e2<;>first|exact hj.elim|exact ⟨_,rfl⟩
      have hnn:qap e2=false:=by cases e2<;>first|exact hj.elim|rfl
      have hmatch:∀ (A:Prop),(BIND dirty (setLoop st2.H L (cond (qap e2) .ready .done) (endOf e2)) fun H=>∃ bb,(AEnd.ret (.bool (qap e2))=.ret (.bool bb)) /\ ∃ W2:Nat->Prop,Fr W H1 H/\(∀ b,W2 b->b<H.next/\(W b\/H1.next<=b)) /\
       (bb=true -> ∃ V:Nat->Prop,(∀ b,V b->W2 b)/\W2 L /\ ¬ V L /\ ¬ W2 d/\(∀ b,W2 b->V b\/b=L)/\P (i+1) V H/\H.get L=some (.loop .ready none f k tm d)/\L<H.next) /\
       (bb=false -> ∃ (V:Nat->Prop) (e:AExit) (j:AJump),(∀ b,V b->W2 b)/\W2 L /\ ¬ V L /\ ¬ W2 d/\(∀ b,W2 b->V b\/b=L)/\isJump e/\endOf e=some j/\PS e V H/\H.get L=some (.loop .done (some j) f k tm d)/\L<H.next)):=fun _=>by
       have:setLoop st2.H L .done (some j)=some (st2.H.set L (.loop .done (some j) f k tm d)):=by unfold setLoop;rw [hg2]
       rw [hnn,hj2,qv,this]
       refine ⟨false,rfl,fun b=>W' b\/b=L,fin _ _,bounds,fun h=>(by cases h),fun _=>⟨W',e2,j,fun b hb=>.inl hb,.inr rfl,hnV,fun q=>q.elim hnd hdL,fun b hb=>hb,hj,hj2,locS _ _ _ _ w3 (fun b hb=>by rw [AHeap.get_set,qe (by rintro rfl;exact hnV hb)]) (qc _),xc _ _ _,hLn⟩⟩
      cases e2 with
      | normal=>exact hj.elim
      | panic _=>exact hj.elim
      | exit _=>exact hmatch True
      | goto _=>exact hmatch True
      | ret=>exact hmatch True)
   exact ⟨bb,H2,W2,hr,k1,k2,k3,k4⟩)
 have hdL:d ≠ L:=by show H.next ≠ H.next+1;omega
 have hdW:¬ ((W0 d\/d=L)\/O d):=fun q=>q.elim (fun q=>q.elim (fun q=>by have:=hW0 _ q;have:d=H.next:=rfl;omega) hdL) fun q=>by have:=(hN d (.inr q)).1;have:d=H.next:=rfl;omega
 have hgd':H'.get d=some (.deferred (some [])):=by rw [hfr.keep d (by rw [hHL];show H.next<H.next+2;omega) hdW];exact hgd
 have hd':d<H'.next:=qf (by rw [hHL];show H.next<H.next+2;omega) hfr.next
 have hout:∀ (o:AObj),Fr (fun b=>W0 b\/O b) H (H'.set L o):=fun o=>⟨qx (by rw [hHL];omega) hfr.next,fun b hb hw=>by
  have:L=H.next+1:=rfl
  rw [AHeap.get_set,qe (by omega),hfr.keep b (by rw [hHL];omega) (fun q=>q.elim (fun q=>q.elim (fun q=>hw (.inl q)) fun q=>by omega) fun q=>hw (.inr q)),hold b hb]⟩
 refine ⟨.ret v,H',hc,?_⟩
 rcases hres with ⟨V,v1,v2,v3,v4,v5,v6,v7,v8⟩|⟨V,e,j,v1,v2,v3,v4,v5,v6,v7,v8,v9,v10⟩
 ·refine ⟨.ready,none,f,k,tm,d,v7,by simp,?_⟩
  refine hend d V _ (qc _) hd' (by rw [AHeap.get_set,qe (fun q=>hdL q.symm)];exact hgd') (hout _) (fun b hb=>⟨(hW' b (v1 b hb)).1,?_,fun q=>v4 (by rw [<-q];exact v1 b hb)⟩) (loc _ _ _ _ v6 (fun b hb=>by rw [AHeap.get_set,qe (by rintro rfl;exact v3 hb)]) (qc _))
  rcases (hW' b (v1 b hb)).2 with q|q
  ·exact q.imp id fun q=>by subst q;exact (v3 hb).elim
  ·rw [hHL] at q;exact .inr (by omega)
 ·refine ⟨.done,some j,f,k,tm,d,v9,by simp,?_⟩
  have he:exitOf (some j)=e:=by cases e<;>first|exact v6.elim|(injection v7 with v7;subst v7;rfl)
  rw [he]
  refine hstop e d V _ v6 (qc _) hd' (by rw [AHeap.get_set,qe (fun q=>hdL q.symm)];exact hgd') (hout _) (fun b hb=>⟨(hW' b (v1 b hb)).1,?_,fun q=>v4 (by rw [<-q];exact v1 b hb)⟩) (locS _ _ _ _ v8 (fun b hb=>by rw [AHeap.get_set,qe (by rintro rfl;exact v3 hb)]) (qc _))
  rcases (hW' b (v1 b hb)).2 with q|q
  ·exact q.imp id fun q=>by subst q;exact (v3 hb).elim
  ·rw [hHL] at q;exact .inr (by omega)
def bindE:List Nat->List AV->Env->Option Env
 | [],[],E=>some E
 | t::ts,v::vs,E=>bindE ts vs ((t,v)::E)
 | _,_,_=>none
def AS3 (M:Mac) (ctx:Ctx) (b:Kp × ACode) (L:Nat) (lr lb:AObj) (Q:Post3):Post3:=fun e E D H=>match e with
 | .normal=>H.get L=some lr/\W M ctx b true Q E D (H.set L lb)
 | _=>False
theorem qks (M:Mac) (ctx:Ctx) (b:Kp × ACode) (L:Nat) (lr lb:AObj) (Q:Post3) (E:Env) (D:List ADef) (H:AHeap):AS3 M ctx b L lr lb Q .normal E D H=(H.get L=some lr/\W M ctx b true Q E D (H.set L lb)):=propext xx
def BD3 (P:(Nat->Prop)->AHeap->Prop) (PS:AExit->(Nat->Prop)->AHeap->Prop) (L:Nat) (lb:AObj) (W:Nat->Prop) (H1:AHeap):Post3:=fun e _ D H=>D=[]/\H.get L=some lb /\
 ∃ W':Nat->Prop,(∀ b,W' b->b<H.next/\(W b\/H1.next<=b))/\Fr (fun b=>W b\/b=L) H1 H/\(e=.normal/\P W' H\/isJump e/\PS e W' H)
theorem ESub.cons {ks:List Nat} {E:Env} {tm:T AV} (h:ESub ks E tm) {t:Nat} (v:AV) (ht:memN t ks=true):ESub ks ((t,v)::E) (tm.set t v):=fun u x hu=>by
 rw [qa7] at hu
 split at hu
 ·rename_i e;subst e;injection hu with hu;subst hu
  exact ⟨by rw [T.get_set,qh rfl],ht⟩
 ·rename_i e
  obtain ⟨h1,h2⟩:=h u x hu
  exact ⟨by rw [T.get_set,qe e,h1],h2⟩
theorem ql0 {ks:List Nat}:∀ {ts:List Nat} {vs:List AV} {E E1:Env} {tm:T AV},ESub ks E tm->(∀ t ∈ ts,memN t ks=true)->bindE ts vs E=some E1 -> ∃ tm1,qb2 tm ts vs=some tm1/\ESub ks E1 tm1
 | [],[],E,E1,tm,h,ht,hb=>by injection hb with hb;subst hb;exact ⟨tm,rfl,h⟩
 | [],_::_,_,_,_,_,_,hb=>nomatch hb
 | _::_,[],_,_,_,_,_,hb=>nomatch hb
 | t::ts,v::vs,E,E1,tm,h,ht,hb=>ql0 (ts:=ts) (vs:=vs) (h.cons v (ht t (ky ..))) (fun u hu=>ht u (js _ hu)) hb
theorem RNG3.iter {f:Nat} {fn:AFunc} {k:Nat} {lp:ALoop} (hf:AP.func f=some fn) (hk:nth fn.loops k=some lp) {ks:List Nat} {ts:List Nat} (hp:lp.params=ts) (hts:∀ t ∈ ts,memN t ks=true) {pa pb:Kp × ACode} (ha:pa.1.keep=ks/\pa.2=lp.assign) (hb:pb.1.keep=ks/\pb.2=lp.body)
 {E:Env} {D:List ADef} {H:AHeap} {Q:Post3} {g:Nat} {pre cap:List AV} {N O:Nat->Prop} {H0:AHeap} {xs:List (List AV)} (hit:ITERO AP g pre cap N O H0 xs)
 (P:Nat->(Nat->Prop)->AHeap->Prop) (PS:AExit->(Nat->Prop)->AHeap->Prop) (W0:Nat->Prop)
 (hn:H0.next<=H.next) (hN:∀ b,N b\/O b->b<H0.next/\H.get b=H0.get b /\ ¬ W0 b) (hW0:∀ b,W0 b->b<H.next) (h0:P 0 W0 H)
 (loc:∀ i W H H',P i W H->(∀ b,W b->H'.get b=H.get b)->H.next<=H'.next->P i W H') (locS:∀ e W H H',PS e W H->(∀ b,W b->H'.get b=H.get b)->H.next<=H'.next->PS e W H')
 (hbody:∀ (L i:Nat) (lr lb:AObj) x,xs[i]? = some x->H.next<=L -> ∀ W' H1,P i W' H1->(∀ b,W' b->b<H1.next/\(W0 b\/H.next<=b))->Fr (fun b=>W0 b\/O b) H H1 -> ¬ W' L->L<H1.next->H1.get L=some lr ->
  ∃ E1,bindE ts x E=some E1/\W AP ⟨some L,f⟩ pa true (AS3 AP ⟨some L,f⟩ pb L lr lb (BD3 (P (i+1)) PS L lb W' H1)) E1 [] H1)
 (hend:∀ d W' H',H.next<=d->d<H'.next->H'.get d=some (.deferred (some []))->Fr (fun b=>W0 b\/O b) H H'->(∀ b,W' b->b<H'.next/\(W0 b\/H.next<=b)/\b ≠ d)->P xs.length W' H'->Q .normal E (.coll d::D) H')
 (hstop:∀ e d W' H',isJump e->H.next<=d->d<H'.next->H'.get d=some (.deferred (some []))->Fr (fun b=>W0 b\/O b) H H'->(∀ b,W' b->b<H'.next/\(W0 b\/H.next<=b)/\b ≠ d)->PS e W' H'->Q e E (.coll d::D) H') :
 RNG3 AP ks ⟨none,f⟩ k E D H Q (.fn (.func g) pre cap):=by
 intro tm up he
 refine qt8 hf hk hit P PS W0 hn hN hW0 h0 loc locS ?_ (fun d W' H' h1 h2 h3 h4 h5 h6=>⟨rfl,rfl,hend d W' H' h1 h2 h3 h4 h5 h6⟩) (fun e d W' H' h0 h1 h2 h3 h4 h5 h6=>⟨rfl,rfl,hstop e d W' H' h0 h1 h2 h3 h4 h5 h6⟩)
 intro L d i x hx hL W' H1 hP hW hfr hnL hLn hgL
 obtain ⟨E1,hE1,hw⟩:=hbody L i (.loop .ready none f k tm d) (.loop .busy none f k tm d) x hx hL W' H1 hP hW hfr hnL hLn hgL
 obtain ⟨tm1,hb1,he1⟩:=ql0 he hts hE1
 refine ⟨tm1,by rw [hp];exact hb1,?_⟩
 rw [W_def] at hw
 have:=W3.wp _ _ (qc _) (up:=none) hw (by rw [ha.1];exact he1)
 rw [ha.2] at this
 refine vj this fun e st1 ⟨hup,E',hE',hq⟩=>?_
 cases e with
 | normal =>
  obtain ⟨hg,hw2⟩:=hq
  refine ⟨rfl,hg,?_⟩
  rw [W_def] at hw2
  have:=W3.wp _ _ (qc _) (up:=none) hw2 (show ESub pb.1.keep E' st1.tm by rw [hb.1,<-ha.1];exact hE')
  rw [hb.2] at this
  rw [hup]
  refine vj this fun e2 st2 ⟨hup2,E2,hE2,hd,hg2,W2,k1,k2,k3⟩=>⟨hd,hg2,W2,k1,k2,k3⟩
 | _=>exact hq.elim
theorem qnc (rs:List ARes) (Q:AEnd->AHeap->Prop) (E:Env) (d:Nat) (H:AHeap):FIN3 AP rs Q .ret E [.coll d] H=(H.get d=some (.deferred (some []))/\RES3 E (H.set d (.deferred none)) rs fun l=>Q (.ret (tupled l)) (H.set d (.deferred none))):=propext xx
end
end Go.Am
namespace Go.Am
def ITERG (AP:Mac) (g:Nat) (pre cap:List AV) (N O:Nat->Prop) (H0:AHeap) (xs:List (List AV)) (F:(Nat->Prop)->AHeap->Prop):Prop :=
 ∀ (L:Nat) (R:Nat->(Nat->Prop)->AHeap->Prop) (S:(Nat->Prop)->AHeap->Prop) (W0:Nat->Prop) (H:AHeap),
  H0.next<=H.next->(∀ b,N b\/O b->b<H0.next/\H.get b=H0.get b /\ ¬ W0 b)->R 0 W0 H->(∀ b,W0 b->b<H.next) ->
  (∀ i W H H',R i W H->(∀ b,W b->H'.get b=H.get b)->H.next<=H'.next->R i W H')->(∀ W H H',S W H->(∀ b,W b->H'.get b=H.get b)->H.next<=H'.next->S W H') ->
  (∀ (i:Nat) x,xs[i]? = some x -> ∀ W H',R i W H'->(∀ b,W b->b<H'.next/\(W0 b\/H.next<=b))->Fr (fun b=>W0 b\/O b) H H' ->
   ∃ bb H'' W',ROUND AP L x H' (.ret (.bool bb)) H''/\Fr W H' H''/\(∀ b,W' b->b<H''.next/\(W b\/H'.next<=b))/\(bb=true->R (i+1) W' H'')/\(bb=false->S W' H'')) ->
  ∃ v H' W',CALL AP g (pre++(.fn (.yield L) [] []::cap)) H (.ret v) H'/\Fr (fun b=>W0 b\/O b) H H'/\(∀ b,W' b->b<H'.next/\(W0 b\/H.next<=b))/\((R xs.length W' H' /\ ∃ V,(∀ b,V b->b<H'.next /\ ¬ W' b/\(O b\/H.next<=b))/\F V H')\/S W' H')
section
variable {AP:Mac}
theorem qt7 {f:Nat} {fn:AFunc} {k:Nat} {lp:ALoop} (hf:AP.func f=some fn) (hk:nth fn.loops k=some lp) {tm:T AV} {dfs:List ADef} {up:Option Chain} {H:AHeap} {Q:Post}
 {g:Nat} {pre cap:List AV} {N O:Nat->Prop} {H0:AHeap} {xs:List (List AV)} {F:(Nat->Prop)->AHeap->Prop} (floc:∀ V H H',F V H->(∀ b,V b->H'.get b=H.get b)->H.next<=H'.next->F V H') (hit:ITERG AP g pre cap N O H0 xs F)
 (P:Nat->(Nat->Prop)->AHeap->Prop) (PS:AExit->(Nat->Prop)->AHeap->Prop) (W0:Nat->Prop)
 (hn:H0.next<=H.next) (hN:∀ b,N b\/O b->b<H0.next/\H.get b=H0.get b /\ ¬ W0 b) (hW0:∀ b,W0 b->b<H.next) (h0:P 0 W0 H)
 (loc:∀ i W H H',P i W H->(∀ b,W b->H'.get b=H.get b)->H.next<=H'.next->P i W H') (locS:∀ e W H H',PS e W H->(∀ b,W b->H'.get b=H.get b)->H.next<=H'.next->PS e W H')
 (hbody:∀ (L d i:Nat) x,xs[i]? = some x->H.next<=L -> ∀ W H1,P i W H1->(∀ b,W b->b<H1.next/\(W0 b\/H.next<=b))->Fr (fun b=>W0 b\/O b) H H1 -> ¬ W L->L<H1.next->H1.get L=some (.loop .ready none f k tm d) ->
  ∃ tm1,qb2 tm lp.params x=some tm1/\WP AP ⟨some L,f⟩ lp.assign ⟨tm1,[],none,H1⟩ fun e st1=>e=.normal/\st1.H.get L=some (.loop .ready none f k tm d) /\
   WP AP ⟨some L,f⟩ lp.body ⟨st1.tm,st1.dfs,st1.up,st1.H.set L (.loop .busy none f k tm d)⟩ fun e2 st2=>st2.dfs=[]/\st2.H.get L=some (.loop .busy none f k tm d) /\
    ∃ W':Nat->Prop,(∀ b,W' b->b<st2.H.next/\(W b\/H1.next<=b))/\Fr (fun b=>W b\/b=L) H1 st2.H/\(e2=.normal/\P (i+1) W' st2.H\/isJump e2/\PS e2 W' st2.H))
 (hend:∀ d W' H',H.next<=d->d<H'.next->H'.get d=some (.deferred (some []))->Fr (fun b=>W0 b\/O b) H H'->(∀ b,W' b->b<H'.next/\(W0 b\/H.next<=b)/\b ≠ d)->P xs.length W' H'->(∃ V,(∀ b,V b->b<H'.next/\b ≠ d /\ ¬ W' b/\(O b\/H.next<=b))/\F V H')->Q .normal ⟨tm,.coll d::dfs,up,H'⟩)
 (hstop:∀ e d W' H',isJump e->H.next<=d->d<H'.next->H'.get d=some (.deferred (some []))->Fr (fun b=>W0 b\/O b) H H'->(∀ b,W' b->b<H'.next/\(W0 b\/H.next<=b)/\b ≠ d)->PS e W' H'->Q e ⟨tm,.coll d::dfs,up,H'⟩) :
 RNG AP ⟨none,f⟩ k ⟨tm,dfs,up,H⟩ Q (.fn (.func g) pre cap):=by
 let d:=H.next
 let L:=H.next+1
 let Hd:=H.alloc (.deferred (some []))
 let HL:=Hd.alloc (.loop .ready none f k tm d)
 have hHL:HL.next=H.next+2:=rfl
 have hgL:HL.get L=some (.loop .ready none f k tm d):=xa Hd _
 have hgd:HL.get d=some (.deferred (some [])):=by rw [show HL.get d=Hd.get d from qep (by show H.next<H.next+1;omega) _];exact xa H _
 have hfr0:Fr Em H HL:=((Fr.refl H).alloc _).alloc _
 have hold:∀ b,b<H.next->HL.get b=H.get b:=fun b hb=>hfr0.keep b hb (fun q=>q)
 obtain ⟨v,H',W',hc,hfr,hW',hres⟩:=hit L
  (fun i W H'=>∃ V:Nat->Prop,(∀ b,V b->W b)/\W L /\ ¬ V L /\ ¬ W d/\(∀ b,W b->V b\/b=L)/\P i V H'/\H'.get L=some (.loop .ready none f k tm d)/\L<H'.next)
  (fun W H'=>∃ (V:Nat->Prop) (e:AExit) (j:AJump),(∀ b,V b->W b)/\W L /\ ¬ V L /\ ¬ W d/\(∀ b,W b->V b\/b=L)/\isJump e/\endOf e=some j/\PS e V H'/\H'.get L=some (.loop .done (some j) f k tm d)/\L<H'.next)
  (fun b=>W0 b\/b=L) HL (by rw [hHL];omega)
  (fun b hb=>by
   obtain ⟨h1,h2,h3⟩:=hN b hb
   exact ⟨h1,by rw [hold b (by omega)];exact h2,fun q=>q.elim h3 fun q=>by have:L=H.next+1:=rfl;omega⟩)
  ⟨W0,fun b hb=>.inl hb,.inr rfl,fun q=>by have:=hW0 _ q;have:L=H.next+1:=rfl;omega,fun q=>q.elim (fun q=>by have:=hW0 _ q;have:d=H.next:=rfl;omega) fun q=>by have:d=H.next:=rfl;have:L=H.next+1:=rfl;omega,
   fun b hb=>hb,loc 0 W0 H HL h0 (fun b hb=>hold b (hW0 b hb)) (by rw [hHL];omega),hgL,by rw [hHL];show H.next+1<H.next+2;omega⟩
  (fun b hb=>hb.elim (fun q=>by have:=hW0 b q;rw [hHL];omega) fun q=>by rw [hHL,q];show H.next+1<H.next+2;omega)
  (fun i W H1 H2 ⟨V,v1,v2,v3,v4,v5,v6,v7,v8⟩ hs hle=>⟨V,v1,v2,v3,v4,v5,loc i V H1 H2 v6 (fun b hb=>hs b (v1 b hb)) hle,by rw [hs L v2];exact v7,qf v8 hle⟩)
  (fun W H1 H2 ⟨V,e,j,v1,v2,v3,v4,v5,v6,v7,v8,v9,v10⟩ hs hle=>⟨V,e,j,v1,v2,v3,v4,v5,v6,v7,locS e V H1 H2 v8 (fun b hb=>hs b (v1 b hb)) hle,by rw [hs L v2];exact v9,qf v10 hle⟩)
  (fun i x hx W H1 ⟨V,v1,v2,v3,v4,v5,v6,v7,v8⟩ hb hfrS=>by
   have hLn0:L=H.next+1:=rfl
   have hfr1:Fr (fun b=>W0 b\/O b) H H1:=⟨qx (by rw [hHL];omega) hfrS.next,fun b hb hw=>by rw [hfrS.keep b (by rw [hHL];omega) (fun q=>q.elim (fun q=>q.elim (fun q=>hw (.inl q)) fun q=>by omega) fun q=>hw (.inr q)),hold b hb]⟩
   have hbV:∀ b,V b->b<H1.next/\(W0 b\/H.next<=b):=fun b q=>⟨(hb b (v1 b q)).1,(hb b (v1 b q)).2.elim (fun r=>r.elim .inl fun r=>by subst r;exact (v3 q).elim) fun r=>.inr (by rw [hHL] at r;omega)⟩
   obtain ⟨tm1,hbp,hw⟩:=hbody L d i x hx (by show H.next<=H.next+1;omega) V H1 v6 hbV hfr1 v3 v8 v7
   obtain ⟨e,H2,hr,bb,rfl,W2,k1,k2,k3,k4⟩:=qj6 (Q:=fun e H2=>∃ bb,e=.ret (.bool bb) /\ ∃ W2:Nat->Prop,Fr W H1 H2/\(∀ b,W2 b->b<H2.next/\(W b\/H1.next<=b)) /\
    (bb=true -> ∃ V:Nat->Prop,(∀ b,V b->W2 b)/\W2 L /\ ¬ V L /\ ¬ W2 d/\(∀ b,W2 b->V b\/b=L)/\P (i+1) V H2/\H2.get L=some (.loop .ready none f k tm d)/\L<H2.next) /\
    (bb=false -> ∃ (V:Nat->Prop) (e:AExit) (j:AJump),(∀ b,V b->W2 b)/\W2 L /\ ¬ V L /\ ¬ W2 d/\(∀ b,W2 b->V b\/b=L)/\isJump e/\endOf e=some j/\PS e V H2/\H2.get L=some (.loop .done (some j) f k tm d)/\L<H2.next)) v7 hf hk hbp
    (vj hw fun e st1 ⟨he,hgl,hw2⟩=>by
     subst he
     show BIND dirty (beginRound st1.H L) _
     have:beginRound st1.H L=some (st1.H.set L (.loop .busy none f k tm d)):=by unfold beginRound;rw [hgl]
     rw [this]
     refine vj hw2 fun e2 st2 ⟨hd2,hg2,W',w1,w2,w3⟩=>⟨hd2,?_⟩
     have hLn:L<st2.H.next:=qf v8 w2.next
     have hd1:d<H1.next:=by have:d=H.next:=rfl;have:L=H.next+1:=rfl;omega
     have fin:∀ s p,Fr W H1 (st2.H.set L (.loop s p f k tm d)):=fun s p=>⟨w2.next,fun b hb hw=>by
      rw [AHeap.get_set,qe (by rintro rfl;exact hw v2)]
      exact w2.keep b hb fun q=>q.elim (fun q=>hw (v1 b q)) fun q=>hw (by rw [q];exact v2)⟩
     have hW'L:∀ b,(W' b/\b ≠ L)->(st2.H.set L (.loop .ready none f k tm d)).get b=st2.H.get b:=fun b hb=>by rw [AHeap.get_set,qe (fun q=>hb.2 q.symm)]
     have hnV:¬ W' L:=fun q=>by
      rcases (w1 L q).2 with q|q
      ·exact v3 q
      ·omega
     have hnd:¬ W' d:=fun q=>by
      rcases (w1 d q).2 with q|q
      ·exact v4 (v1 d q)
      ·omega
     have hdL:d ≠ L:=by show H.next ≠ H.next+1;omega
     have bounds:∀ b,(W' b\/b=L)->b<st2.H.next/\(W b\/H1.next<=b):=fun b hb=>hb.elim (fun q=>⟨(w1 b q).1,(w1 b q).2.imp (v1 b) id⟩) fun q=>by subst q;exact ⟨hLn,.inl v2⟩
     rcases w3 with ⟨rfl,w3⟩|⟨hj,w3⟩
     ·show BIND dirty (setLoop st2.H L (cond true .ready .done) none) _
      have:setLoop st2.H L .ready none=some (st2.H.set L (.loop .ready none f k tm d)):=by unfold setLoop;rw [hg2]
      rw [qi,this]
      refine ⟨true,rfl,fun b=>W' b\/b=L,fin _ _,bounds,fun _=>⟨W',fun b hb=>.inl hb,.inr rfl,hnV,fun q=>q.elim hnd hdL,fun b hb=>hb,loc _ _ _ _ w3 (fun b hb=>by rw [AHeap.get_set,qe (by rintro rfl;exact hnV hb)]) (qc _),xc _ _ _,hLn⟩,fun h=>by cases h⟩
     ·obtain ⟨j,hj2⟩:∃ j,endOf e2=some j:=by cases e2<;>first|exact hj.elim|exact ⟨_,rfl⟩
      have hnn:qap e2=false:=by cases e2<;>first|exact hj.elim|rfl
      have hmatch:∀ (A:Prop),(BIND dirty (setLoop st2.H L (cond (qap e2) .ready .done) (endOf e2)) fun H=>∃ bb,(AEnd.ret (.bool (qap e2))=.ret (.bool bb)) /\ ∃ W2:Nat->Prop,Fr W H1 H/\(∀ b,W2 b->b<H.next/\(W b\/H1.next<=b)) /\
       (bb=true -> ∃ V:Nat->Prop,(∀ b,V b->W2 b)/\W2 L /\ ¬ V L /\ ¬ W2 d/\(∀ b,W2 b->V b\/b=L)/\P (i+1) V H/\H.get L=some (.loop .ready none f k tm d)/\L<H.next) /\
       (bb=false -> ∃ (V:Nat->Prop) (e:AExit) (j:AJump),(∀ b,V b->W2 b)/\W2 L /\ ¬ V L /\ ¬ W2 d/\(∀ b,W2 b->V b\/b=L)/\isJump e/\endOf e=some j/\PS e V H/\H.get L=some (.loop .done (some j) f k tm d)/\L<H.next)):=fun _=>by
       have:setLoop st2.H L .done (some j)=some (st2.H.set L (.loop .done (some j) f k tm d)):=by unfold setLoop;rw [hg2]
       rw [hnn,hj2,qv,this]
       refine ⟨false,rfl,fun b=>W' b\/b=L,fin _ _,bounds,fun h=>(by cases h),fun _=>⟨W',e2,j,fun b hb=>.inl hb,.inr rfl,hnV,fun q=>q.elim hnd hdL,fun b hb=>hb,hj,hj2,locS _ _ _ _ w3 (fun b hb=>by rw [AHeap.get_set,qe (by rintro rfl;exact hnV hb)]) (qc _),xc _ _ _,hLn⟩⟩
      cases e2 with
      | normal=>exact hj.elim
      | panic _=>exact hj.elim
      | exit _=>exact hmatch True
      | goto _=>exact hmatch True
      | ret=>exact hmatch True)
   exact ⟨bb,H2,W2,hr,k1,k2,k3,k4⟩)
 have hdL:d ≠ L:=by show H.next ≠ H.next+1;omega
 have hdW:¬ ((W0 d\/d=L)\/O d):=fun q=>q.elim (fun q=>q.elim (fun q=>by have:=hW0 _ q;have:d=H.next:=rfl;omega) hdL) fun q=>by have:=(hN d (.inr q)).1;have:d=H.next:=rfl;omega
 have hgd':H'.get d=some (.deferred (some [])):=by rw [hfr.keep d (by rw [hHL];show H.next<H.next+2;omega) hdW];exact hgd
 have hd':d<H'.next:=qf (by rw [hHL];show H.next<H.next+2;omega) hfr.next
 have hout:∀ (o:AObj),Fr (fun b=>W0 b\/O b) H (H'.set L o):=fun o=>⟨qx (by rw [hHL];omega) hfr.next,fun b hb hw=>by
  have:L=H.next+1:=rfl
  rw [AHeap.get_set,qe (by omega),hfr.keep b (by rw [hHL];omega) (fun q=>q.elim (fun q=>q.elim (fun q=>hw (.inl q)) fun q=>by omega) fun q=>hw (.inr q)),hold b hb]⟩
 refine ⟨.ret v,H',hc,?_⟩
 rcases hres with ⟨⟨V,v1,v2,v3,v4,v5,v6,v7,v8⟩,VF,vf,hF⟩|⟨V,e,j,v1,v2,v3,v4,v5,v6,v7,v8,v9,v10⟩
 ·refine ⟨.ready,none,f,k,tm,d,v7,by simp,?_⟩
  refine hend d V _ (qc _) hd' (by rw [AHeap.get_set,qe (fun q=>hdL q.symm)];exact hgd') (hout _) (fun b hb=>⟨(hW' b (v1 b hb)).1,?_,fun q=>v4 (by rw [<-q];exact v1 b hb)⟩) (loc _ _ _ _ v6 (fun b hb=>by rw [AHeap.get_set,qe (by rintro rfl;exact v3 hb)]) (qc _)) ⟨VF,fun b hb=>⟨(vf b hb).1,?_,fun q=>(vf b hb).2.1 (v1 b q),(vf b hb).2.2.imp id fun q=>by rw [hHL] at q;omega⟩,floc VF _ _ hF (fun b hb=>by rw [AHeap.get_set,qe (by rintro rfl;exact (vf _ hb).2.1 v2)]) (qc _)⟩
  ·rcases (hW' b (v1 b hb)).2 with q|q
   ·exact q.imp id fun q=>by subst q;exact (v3 hb).elim
   ·rw [hHL] at q;exact .inr (by omega)
  ·have hdn:d=H.next:=rfl
   rcases (vf b hb).2.2 with q|q
   ·have:=(hN b (.inr q)).1;omega
   ·rw [hHL] at q;omega
 ·refine ⟨.done,some j,f,k,tm,d,v9,by simp,?_⟩
  have he:exitOf (some j)=e:=by cases e<;>first|exact v6.elim|(injection v7 with v7;subst v7;rfl)
  rw [he]
  refine hstop e d V _ v6 (qc _) hd' (by rw [AHeap.get_set,qe (fun q=>hdL q.symm)];exact hgd') (hout _) (fun b hb=>⟨(hW' b (v1 b hb)).1,?_,fun q=>v4 (by rw [<-q];exact v1 b hb)⟩) (locS _ _ _ _ v8 (fun b hb=>by rw [AHeap.get_set,qe (by rintro rfl;exact v3 hb)]) (qc _))
  rcases (hW' b (v1 b hb)).2 with q|q
  ·exact q.imp id fun q=>by subst q;exact (v3 hb).elim
  ·rw [hHL] at q;exact .inr (by omega)
theorem RNG3.iterg {f:Nat} {fn:AFunc} {k:Nat} {lp:ALoop} (hf:AP.func f=some fn) (hk:nth fn.loops k=some lp) {ks:List Nat} {ts:List Nat} (hp:lp.params=ts) (hts:∀ t ∈ ts,memN t ks=true) {pa pb:Kp × ACode} (ha:pa.1.keep=ks/\pa.2=lp.assign) (hb:pb.1.keep=ks/\pb.2=lp.body)
 {E:Env} {D:List ADef} {H:AHeap} {Q:Post3} {g:Nat} {pre cap:List AV} {N O:Nat->Prop} {H0:AHeap} {xs:List (List AV)} {F:(Nat->Prop)->AHeap->Prop} (floc:∀ V H H',F V H->(∀ b,V b->H'.get b=H.get b)->H.next<=H'.next->F V H') (hit:ITERG AP g pre cap N O H0 xs F)
 (P:Nat->(Nat->Prop)->AHeap->Prop) (PS:AExit->(Nat->Prop)->AHeap->Prop) (W0:Nat->Prop)
 (hn:H0.next<=H.next) (hN:∀ b,N b\/O b->b<H0.next/\H.get b=H0.get b /\ ¬ W0 b) (hW0:∀ b,W0 b->b<H.next) (h0:P 0 W0 H)
 (loc:∀ i W H H',P i W H->(∀ b,W b->H'.get b=H.get b)->H.next<=H'.next->P i W H') (locS:∀ e W H H',PS e W H->(∀ b,W b->H'.get b=H.get b)->H.next<=H'.next->PS e W H')
 (hbody:∀ (L i:Nat) (lr lb:AObj) x,xs[i]? = some x->H.next<=L -> ∀ W' H1,P i W' H1->(∀ b,W' b->b<H1.next/\(W0 b\/H.next<=b))->Fr (fun b=>W0 b\/O b) H H1 -> ¬ W' L->L<H1.next->H1.get L=some lr ->
  ∃ E1,bindE ts x E=some E1/\W AP ⟨some L,f⟩ pa true (AS3 AP ⟨some L,f⟩ pb L lr lb (BD3 (P (i+1)) PS L lb W' H1)) E1 [] H1)
 (hend:∀ d W' H',H.next<=d->d<H'.next->H'.get d=some (.deferred (some []))->Fr (fun b=>W0 b\/O b) H H'->(∀ b,W' b->b<H'.next/\(W0 b\/H.next<=b)/\b ≠ d)->P xs.length W' H'->(∃ V,(∀ b,V b->b<H'.next/\b ≠ d /\ ¬ W' b/\(O b\/H.next<=b))/\F V H')->Q .normal E (.coll d::D) H')
 (hstop:∀ e d W' H',isJump e->H.next<=d->d<H'.next->H'.get d=some (.deferred (some []))->Fr (fun b=>W0 b\/O b) H H'->(∀ b,W' b->b<H'.next/\(W0 b\/H.next<=b)/\b ≠ d)->PS e W' H'->Q e E (.coll d::D) H') :
 RNG3 AP ks ⟨none,f⟩ k E D H Q (.fn (.func g) pre cap):=by
 intro tm up he
 refine qt7 hf hk floc hit P PS W0 hn hN hW0 h0 loc locS ?_ (fun d W' H' h1 h2 h3 h4 h5 h6 h7=>⟨rfl,rfl,hend d W' H' h1 h2 h3 h4 h5 h6 h7⟩) (fun e d W' H' h0 h1 h2 h3 h4 h5 h6=>⟨rfl,rfl,hstop e d W' H' h0 h1 h2 h3 h4 h5 h6⟩)
 intro L d i x hx hL W' H1 hP hW hfr hnL hLn hgL
 obtain ⟨E1,hE1,hw⟩:=hbody L i (.loop .ready none f k tm d) (.loop .busy none f k tm d) x hx hL W' H1 hP hW hfr hnL hLn hgL
 obtain ⟨tm1,hb1,he1⟩:=ql0 he hts hE1
 refine ⟨tm1,by rw [hp];exact hb1,?_⟩
 rw [W_def] at hw
 have:=W3.wp _ _ (qc _) (up:=none) hw (by rw [ha.1];exact he1)
 rw [ha.2] at this
 refine vj this fun e st1 ⟨hup,E',hE',hq⟩=>?_
 cases e with
 | normal =>
  obtain ⟨hg,hw2⟩:=hq
  refine ⟨rfl,hg,?_⟩
  rw [W_def] at hw2
  have:=W3.wp _ _ (qc _) (up:=none) hw2 (show ESub pb.1.keep E' st1.tm by rw [hb.1,<-ha.1];exact hE')
  rw [hb.2] at this
  rw [hup]
  refine vj this fun e2 st2 ⟨hup2,E2,hE2,hd,hg2,W2,k1,k2,k3⟩=>⟨hd,hg2,W2,k1,k2,k3⟩
 | _=>exact hq.elim
theorem ITERG.o {g:Nat} {pre cap:List AV} {N O:Nat->Prop} {H0:AHeap} {xs:List (List AV)} {F:(Nat->Prop)->AHeap->Prop} (h:ITERG AP g pre cap N O H0 xs F):ITERO AP g pre cap N O H0 xs:=by
 intro L R S W0 H h1 h2 h3 h4 h5 h6 h7
 obtain ⟨v,H',W',q1,q2,q3,q4⟩:=h L R S W0 H h1 h2 h3 h4 h5 h6 h7
 exact ⟨v,H',W',q1,q2,q3,q4.imp (fun q=>q.1) id⟩
end
end Go.Am
