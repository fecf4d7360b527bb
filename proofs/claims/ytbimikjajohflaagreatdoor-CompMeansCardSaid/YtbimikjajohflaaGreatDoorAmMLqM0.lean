/- LqM0: DecP TraceX TraceY TraceZ Strs NumP LangT LangU LangV LangW StkP NodeM Args8 ArgN CompP MeanP MeanS Iter3 Iter4. -/
import Derived.Test.YtbimikjajohflaaGreatDoorAmMB4
import Derived.Test.YtbimikjajohflaaGreatDoorAmMB1
import Derived.Test.YtbimikjajohflaaGreatDoorAmMB5
set_option linter.unusedVariables false
set_option linter.unusedSimpArgs false
namespace Go.Am
namespace Lang
def dec (n:Nat):List UInt8:=if h:n<10 then [UInt8.ofNat (48+n)] else dec (n / 10) ++ [UInt8.ofNat (48+n % 10)]
termination_by n
decreasing_by omega
theorem dec_lt {n:Nat} (h:n<10):dec n=[UInt8.ofNat (48+n)]:=by rw [dec];simp [h]
theorem dec_ge {n:Nat} (h:10<=n):dec n=dec (n / 10) ++ [UInt8.ofNat (48+n % 10)]:=by rw [dec];simp [show ¬ n<10 by omega]
theorem dec_ne (n:Nat):dec n ≠ []:=by
 rw [dec];split<;>simp
theorem xdd:∀ (k n:Nat),n<10 ^ (k+1)->(dec n).length<=k+1
 | 0,n,h=>by rw [dec_lt (by simpa using h)];simp
 | k+1,n,h=>by
  by_cases h1:n<10
  ·rw [dec_lt h1];simp
  ·rw [dec_ge (by omega),qg];have:=xdd k (n / 10) (by rw [yU] at h;omega);simp;omega
theorem q4o {n:Nat} (h:n<18446744073709551616):(dec n).length<=20:=xdd 19 n (qe h (by decide))
end Lang
end Go.Am
namespace Go.Am
namespace Tr
open Lang (dec)
abbrev B:=List UInt8
def named (k:Int):B:=if k=1 then [98,116,108] else if k=2\/k=3 then [98,116,97,118] else if k=4\/k=5 then [98,116] else if k=6 then [98,116,99] else if k=7\/k=8 then [97,118] else []
def pT (l:UInt8):List B:=if l=108 then [[],[102,97,115,116],[115,108,111,119],[115,111,102,116],[115,101,114,105,97,108]] else if l=99 then [[],[99,111,110,102,108,105,99,116],[115,117,98],[99,97,112,97,99,105,116,121],[101,118,105,99,116],[115,112,117,114,105,111,117,115],[98,117,115,121],[105,108,108,101,103,97,108],[115,111,102,116]] else []
def oX (x:sJ) (l:UInt8):Int:=if l=118 then x.value else if l=98 then x.block else if l=116 then x.AZ else if l=108 then x.lane else if l=97 then x.addr else x.code
def NJ (x:sJ) (l:UInt8) (n:Int):sJ:=if l=118 then { x with value:=n } else if l=98 then { x with block:=n } else if l=116 then { x with AZ:=n } else if l=108 then { x with lane:=n } else if l=97 then { x with addr:=n } else { x with code:=n }
def Kb (l:UInt8) (n:Int):Bool:=if l=118 then true else decide (0<=n/\((pT l).length=0\/1<=n/\n<(pT l).length))
def fresh (k c t:Int):sJ:=⟨k,t,c,if 7<=k then -1 else 0,0,0,0,0,0⟩
end Tr
end Go.Am
namespace Go.Am
namespace Tr
theorem ofNat_lt {n:Nat} (h:n<256):(UInt8.ofNat n).toNat=n:=by simp [FD];omega
theorem toNat_ofNat (c:UInt8):UInt8.ofNat c.toNat=c:=by simp
def J9 (l:UInt8):Prop:=l=118\/l=98\/l=116\/l=108\/l=97\/l=99
instance (l:UInt8):Decidable (J9 l):=by unfold J9;infer_instance
theorem aI {y:sJ} {l l':UInt8} {n:Int} (hl:J9 l) (hl':J9 l'):oX (NJ y l n) l'=if l=l' then n else oX y l':=by
 rcases hl with rfl|rfl|rfl|rfl|rfl|rfl<;>rcases hl' with rfl|rfl|rfl|rfl|rfl|rfl<;>rfl
structure EvR (x:sJ):Prop where
 v0:0<=x.value
 v:x.value<18446744073709551616
 core:x.core<9223372036854775808
 time:x.time<9223372036854775808
 kind:x.kind<9223372036854775808
 block:x.block<9223372036854775808
 tr:x.AZ<9223372036854775808
 lane:x.lane<9223372036854775808
 addr:x.addr<9223372036854775808
 code:x.code<9223372036854775808
theorem EvR.get {x:sJ} (h:EvR x) {l:UInt8} (hl:J9 l) (hm:Kb l (oX x l)=true):0<=oX x l/\oX x l<18446744073709551616/\(l=118\/oX x l<9223372036854775808):=by
 obtain ⟨h1,h2,h3,h4,h5,h6,h7,h8,h9,h10⟩:=h;rcases hl with rfl|rfl|rfl|rfl|rfl|rfl
 ·exact ⟨h1,h2,.inl rfl⟩
 all_goals
  unfold Kb at hm;rw [qc (by decide)] at hm;have:=(of_decide_eq_true hm).1;refine ⟨this,?_,.inr ?_⟩<;>simp only [oX] at *<;>(first|omega|(simp at *;omega))
end Tr
end Go.Am
namespace Go.Am
namespace Tr
open Lang (dec dec_lt dec_ge dec_ne)
end Tr
end Go.Am
namespace Go.Am
theorem Lp (H:AHeap) (b:Nat) (o o':bg):(H.set b o).set b o'=H.set b o':=by simp only [AHeap.set,T.set,T.put,T.nc]
theorem q7u (s:List UInt8):Op.fo [.str s]=some (.cW s 0,Op.ptrTo):=rfl
theorem xee {H:AHeap} {b p:Nat} {s:List UInt8} {c:UInt8} (h:H.get b=some (.cW s p)) (hc:s[p]? = some c) (h1:c.toNat<128) :
 Op.ez [.ptr b 0] H=some (.tuple [.bool true,.int .i64 p,.int .i32 c.toNat],H.set b (.cW s (p+1))):=by
 have e:Nat.blt c.toNat 128=true:=xP h1;simp only [Op.ez,h,gM,hc,e,ql,ek]
theorem xed {H:AHeap} {b p:Nat} {s:List UInt8} (h:H.get b=some (.cW s p)) (hc:s.length<=p):Op.ez [.ptr b 0] H=some (.tuple [.bool false],H):=by
 simp only [Op.ez,h,gM,je hc]
theorem Ma {len size b o:Nat} {k:IntKind} {j:Int} {i:Nat} (hj:j=i) (hi:i<len):Op.bp len size [.ptr b o,.int k j]=some (.ptr b (o+i*size)):=by
 simp only [Op.bp,xZ hj hi,qd]
theorem M9 {s:List UInt8} {k:IntKind} {j:Int} {i:Nat} {c:UInt8} (hj:j=i) (hc:s[i]? = some c):Op.aY [.str s,.int k j]=some (.int .u8 c.toNat):=by
 have hi:i<s.length:=(qv.1 hc).1;simp only [Op.aY,xZ hj hi,qd,gM,hc]
theorem pO (k k':IntKind) (a:Int) (n:Nat):Op.bin .shr [.int k a,.int k' n]=some (.int k (a.fdiv (2 ^ (min n k.bits)))):=by
 have e:oC (n:Int) 0=false:=by rw [p8];simp
 simp only [Op.bin,iH,df,ql,nL,e,xa,yB]
theorem BQ (k k':IntKind) (a:Int) (n:Nat):Op.bin .shl [.int k a,.int k' n]=some (.int k (ae k (a*2 ^ (min n k.bits)))):=by
 have e:oC (n:Int) 0=false:=by rw [p8];simp
 simp only [Op.bin,iH,df,ql,nL,e,xa,yB]
theorem ub (H:AHeap) (c:List AV) (e:Nat) (fz:Nat × Nat) (ow:Bool):Sl (H.alloc (.row c e fz ow)) 1 (.slice H.next 0 c.length c.length) c.length c:=by
 refine ⟨by omega,rfl,qf _,.inr ⟨by rw [xk];omega,c,qy (qp H _),?_⟩⟩;rw [mB,qk (by omega)];simp
def sI (s:List UInt8):List AV:=[.str s]
theorem q8x (s:List UInt8):(sI s).length=1:=rfl
theorem xdk (l:List (List UInt8)):l.flatMap sI=l.map AV.str:=by
 induction l with
 | nil=>rfl
 | cons a l ih=>rw [jl,ih];rfl
def np (c:UInt8):List AV:=[.int .u8 c.toNat]
theorem K9 (l:List UInt8):l.flatMap np=l.map λ c=>AV.int .u8 c.toNat:=by
 induction l with
 | nil=>rfl
 | cons a l ih=>rw [jl,ih];rfl
theorem q6h (H:AHeap) (ws:List (List UInt8)) (e n:Nat) (fz:Nat × Nat) (ow:Bool) (hn:ws.length=n):cU sI 1 (H.alloc (.row (ws.map AV.str) e fz ow)) (.slice H.next 0 n n) ws:=by
 have:=ub H (ws.map AV.str) e fz ow;rw [vo,hn] at this;unfold cU;rw [xdk,hn];exact this
structure nS (a:AV) (H:AHeap) (v:AV) (H':AHeap):Prop where
 fr:Fr (bL a) H H'
 on:∀ b,bL v b->bL a b\/H.next<=b
theorem nS.refl (a:AV) (H:AHeap):nS a H a H:=⟨Fr.refl _,λ b h=>.inl h⟩
theorem nS.trans {a v w:AV} {H H1 H2:AHeap} (h:nS a H v H1) (h':nS v H1 w H2):nS a H w H2 :=
 ⟨h.fr.trans h'.fr h.on,λ b hb=>(h'.on b hb).elim (h.on b) λ q=>.inr (xz h.fr.next q)⟩
theorem nS.em {a v:AV} {H H1 H2:AHeap} (h:nS a H v H1) (f:Fr Em H1 H2):nS a H v H2:=⟨h.fr.em f,h.on⟩
theorem nS.pre {a v:AV} {H H1 H2:AHeap} (f:Fr Em H H1) (h:nS a H1 v H2):nS a H v H2:=(nS.refl a H).em f |>.trans h
theorem nS.get {a v:AV} {H H':AHeap} (h:nS a H v H') {b:Nat} (hb:b<H.next) (hn:¬ bL a b):H'.get b=H.get b/\b<H'.next /\ ¬ bL v b :=
 ⟨h.fr.aj b hb hn,qe hb h.fr.next,λ q=>(h.on b q).elim hn λ r=>by omega⟩
theorem iN.gT {α:Type} {enc:α->List AV} {e size:Nat} {H0 H:AHeap} {v:AV} {xs:List α} (h:iN enc e size H0 H v xs) {b:Nat} (hb:H0.next<=b) (hn:¬ bL v b) (o:bg):iN enc e size H0 (H.set b o) v xs :=
 ⟨Own.fr h.own ((Fr.refl H).set (W:=On b) (.inl rfl) o) λ x hx (q:x=b)=>hn (by rw [<-q];exact hx),h.fr.set (.inr hb) _,h.fresh⟩
theorem nS.gT {a v:AV} {H H':AHeap} (h:nS a H v H') {b:Nat} (hb:H.next<=b) (o:bg):nS a H v (H'.set b o):=⟨h.fr.set (.inr hb) _,h.on⟩
theorem q4v (H:AHeap) (s:List UInt8):firstCells H 1 s.length (.str s)=some (s.map λ c=>AV.int .u8 c.toNat):=by
 show cond (Nat.beq 1 1) (some ((s.take s.length).map λ c=>AV.int .u8 c.toNat)) none=_;rw [Jq];rfl
theorem Nj (s:List UInt8):dE (.str s)=some s.length:=by show some (bW s)=_;rw [nU]
end Go.Am
namespace Go.Am
open Lang (dec)
theorem wC {k:IntKind} {a:Nat} {b:Int} (hb:0<b):Op.bin .rem [.int k (a:Int),.int k b]=some (.int k ((a % b.toNat:Nat):Int)):=by
 rw [qO k _ _ (by omega),FJ (by omega)];congr 2;rw [Int.natCast_emod];congr 1;omega
theorem AF {a:Nat} {b:Int} (hb:0<b) (ha:a<18446744073709551616):Op.bin .quo [.int .u64 (a:Int),.int .u64 b]=some (.int .u64 ((a / b.toNat:Nat):Int)):=by
 rw [Ci .u64 _ _ (by omega),Int.tdiv_eq_ediv_of_nonneg (by omega)];have e:(a:Int) / b=((a / b.toNat:Nat):Int):=by rw [Int.natCast_ediv];congr 1;omega
 have h1:a / b.toNat<=a:=Gy ..;rw [e];generalize a / b.toNat=q at h1 ⊢;rw [ww (by omega) (by omega)]
theorem MX {a:Nat} {b:Int} (hb:0<b) (ha:a<4294967296):Op.bin .quo [.int .u32 (a:Int),.int .u32 b]=some (.int .u32 ((a / b.toNat:Nat):Int)):=by
 rw [Ci .u32 _ _ (by omega),Int.tdiv_eq_ediv_of_nonneg (by omega)];have e:(a:Int) / b=((a / b.toNat:Nat):Int):=by rw [Int.natCast_ediv];congr 1;omega
 have h1:a / b.toNat<=a:=Gy ..;rw [e];generalize a / b.toNat=q at h1 ⊢;rw [Iv];congr 2;omega
theorem pK {k k':IntKind} {a n:Nat} (h:n<=k.bits):Op.bin .shr [.int k (a:Int),.int k' (n:Int)]=some (.int k ((a / 2 ^ n:Nat):Int)):=by
 rw [pO,BO h,K3 _ (by exact_mod_cast Nat.le_of_lt (Nat.pow_pos (by decide)))];simp
theorem pW {n:Nat} (h:n<4294967296):ae .u32 (n:Int)=n:=by rw [Iv];omega
theorem Cq {n:Nat} (h:n<9223372036854775808):ae .i64 (n:Int)=n:=by rw [JA];omega
theorem I9 {n:Nat} (h:n<256):ae .u8 (n:Int)=n:=by rw [sO];omega
theorem N0 {n:Nat} (h:n<100):ae .u32 ((n:Int)*2)=((n*2:Nat):Int):=by rw [Iv];omega
theorem PJ {n:Nat} (h:n<1000):ae .u32 ((n:Int)+1)=((n+1:Nat):Int):=by rw [Iv];omega
theorem PE {n:Nat} (h:n<100):ae .u32 (48+(n:Int))=((48+n:Nat):Int):=by rw [Iv];omega
theorem zL {a:Nat} (h:a<9223372036854775807):ae .i64 ((a:Int)+1)=((a+1:Nat):Int):=by rw [JA];omega
theorem OW {n:Nat} {c:Int} (h0:0<=c) (h1:c.toNat<=n) (h:n<9223372036854775808):ae .i64 ((n:Int)-c)=((n-c.toNat:Nat):Int):=by rw [JA];omega
theorem K7 {k:IntKind} {a d mx:Nat} (h:a<=mx):bound (some (.int k (a:Int))) d mx=some a:=by
 show cond (Nat.ble a mx) (some a) none=_;rw [mo h];rfl
theorem qzm {s:List UInt8} {k k':IntKind} {a b:Nat} (h1:a<=b) (h2:b<=s.length):Op.cz [some 0,some 1] [.str s,.int k (a:Int),.int k' (b:Int)]=some (.str ((s.take b).drop a)):=by
 show (bound (some (.int k' (b:Int))) s.length s.length).bind _=_;rw [K7 h2,qd];show (bound (some (.int k (a:Int))) 0 b).bind _=_;rw [K7 h1];rfl
theorem qzn {s:List UInt8} {k:IntKind} {b:Nat} (h:b<=s.length):Op.cz [none,some 0] [.str s,.int k (b:Int)]=some (.str (s.take b)):=by
 show (bound (some (.int k (b:Int))) s.length s.length).bind _=_;rw [K7 h];rfl
theorem q7k {n p b:Nat} {k:IntKind} (h:b<=n) (hn:0<n):Op.eN n 1 [none,some 0,none] [.ptr p 0,.int k (b:Int)]=some (.slice p 0 b n):=by
 have e:Nat.beq n 0=false:=oQ (by omega);have e1:bound none n n=some n:=rfl;have e2:bound none 0 b=some 0:=rfl;simp only [Op.eN,arg,I5,qd,du,K7 h,e1,e2,e,xa,zH,oJ,jv]
theorem qyj (l:List UInt8):bytesOf (l.map λ c=>AV.int .u8 c.toNat)=some l:=by
 induction l with
 | nil=>rfl
 | cons a l ih =>
  show (byteOf (.int .u8 a.toNat)).bind (λ b=>(bytesOf (l.map λ c=>AV.int .u8 c.toNat)).bind λ r=>some (b::r))=_;rw [ih];simp [byteOf]
def kK (n i:Nat):Nat:=48+n / 10 ^ i % 10
theorem Pv:∀ (d n:Nat),n<10 ^ (d+1)->(d=0\/10 ^ d<=n)->(dec n).length=d+1
 | 0,n,h,_=>by rw [Lang.dec_lt (by simpa using h)];rfl
 | d+1,n,h,h'=>by
  have h':10 ^ (d+1)<=n:=h'.resolve_left (by omega);have hp:0<10 ^ d:=Nat.pow_pos (by decide);have h10:10<=n:=by rw [yU] at h';omega
  rw [Lang.dec_ge h10,qg,List.length_singleton,Pv d (n / 10) (by rw [yU] at h;omega) (.inr (by rw [yU] at h';omega))]
theorem xdc:∀ (d n:Nat),n<10 ^ (d+1)->(d=0\/10 ^ d<=n) -> ∀ j,j<=d->(dec n)[j]? = some (UInt8.ofNat (kK n (d-j)))
 | 0,n,h,_,j,hj=>by
  have hn:n<10:=by simpa using h
  obtain rfl:j=0:=by omega
  rw [Lang.dec_lt hn];simp [kK,Gm hn]
 | d+1,n,h,h',j,hj=>by
  have h':10 ^ (d+1)<=n:=h'.resolve_left (by omega);have hp:0<10 ^ d:=Nat.pow_pos (by decide);have h10:10<=n:=by rw [yU] at h';omega
  have q1:n / 10<10 ^ (d+1):=by rw [yU] at h;omega
  have q2:d=0\/10 ^ d<=n / 10:=.inr (by rw [yU] at h';omega);have hl:=Pv d (n / 10) q1 q2;rw [Lang.dec_ge h10]
  by_cases e:j=d+1
  ·subst e;rw [xn (by omega),hl];simp [kK]
  ·rw [xi (by omega),xdc d (n / 10) q1 q2 j (by omega)];have:d+1-j=(d-j)+1:=by omega
   rw [kK,kK,this,yU,Nat.mul_comm (10 ^ (d-j)) 10,FI]
theorem xde (n i j:Nat):kK (n / 10 ^ i) j=kK n (i+j):=by rw [kK,kK,FI,<-zN]
end Go.Am
namespace Go.Am
namespace Lang
structure Nd where
 k:Int
 n:Int
 kids:List Int
inductive Ex where
 | num (n:Nat)
 | var (v:Nat)
 | load (a:Ex)
 | bin (o:Nat) (a b:Ex)
structure Cn where
 k:Nat
 a:Ex
 b:Ex
mutual
inductive St where
 | set (v:Nat) (a:Ex)
 | store (a b:Ex)
 | ite (c:Cn) (l:Ls)
 | cG (c:Cn) (l e:Ls)
 | loop (c:Cn) (l:Ls)
 | atom (l:Ls)
 | halt
inductive Ls where
 | nil
 | cons (s:St) (l:Ls)
end
def Ex.sz:Ex->Nat
 | .num _=>1
 | .var _=>1
 | .load a=>a.sz+1
 | .bin _ a b=>a.sz+b.sz+1
def Cn.sz (c:Cn):Nat:=c.a.sz+c.b.sz+1
mutual
def St.sz:St->Nat
 | .set _ a=>a.sz+1
 | .store a b=>a.sz+b.sz+1
 | .ite c l=>c.sz+(l.sz+1)+1
 | .cG c l e=>c.sz+(l.sz+1)+(e.sz+1)+1
 | .loop c l=>c.sz+(l.sz+1)+1
 | .atom l=>l.sz+1+1
 | .halt=>1
def Ls.sz:Ls->Nat
 | .nil=>0
 | .cons s l=>s.sz+l.sz
end
theorem Ex.pos (x:Ex):0<x.sz:=by cases x<;>simp [Ex.sz]
theorem Cn.pos (x:Cn):0<x.sz:=by simp [Cn.sz]
theorem St.pos (x:St):0<x.sz:=by cases x<;>simp [St.sz]
def Ex.enc:Ex->Nat->List Nd
 | .num n,_=>[⟨1,n,[]⟩]
 | .var v,_=>[⟨2,v,[]⟩]
 | .load a,b=>a.enc b ++ [⟨3,0,[((b+a.sz-1:Nat):Int)]⟩]
 | .bin o x y,b=>x.enc b++(y.enc (b+x.sz) ++ [⟨o,0,[((b+x.sz-1:Nat):Int),((b+x.sz+y.sz-1:Nat):Int)]⟩])
def Cn.enc (c:Cn) (b:Nat):List Nd:=c.a.enc b++(c.b.enc (b+c.a.sz) ++ [⟨c.k,0,[((b+c.a.sz-1:Nat):Int),((b+c.a.sz+c.b.sz-1:Nat):Int)]⟩])
def Ls.ends:Ls->Nat->List Nat
 | .nil,_=>[]
 | .cons s l,b=>(b+s.sz-1)::l.ends (b+s.sz)
def ints (l:List Nat):List Int:=l.map λ (n:Nat)=>(n:Int)
mutual
def St.enc:St->Nat->List Nd
 | .set v a,b=>a.enc b ++ [⟨14,v,[((b+a.sz-1:Nat):Int)]⟩]
 | .store x y,b=>x.enc b++(y.enc (b+x.sz) ++ [⟨15,0,[((b+x.sz-1:Nat):Int),((b+x.sz+y.sz-1:Nat):Int)]⟩])
 | .ite c l,b=>c.enc b++(l.enc (b+c.sz)++([⟨20,0,ints (l.ends (b+c.sz))⟩] ++ [⟨16,0,[((b+c.sz-1:Nat):Int),((b+c.sz+l.sz:Nat):Int)]⟩]))
 | .cG c l e,b=>c.enc b++(l.enc (b+c.sz)++([⟨20,0,ints (l.ends (b+c.sz))⟩]++(e.enc (b+c.sz+(l.sz+1))++([⟨20,0,ints (e.ends (b+c.sz+(l.sz+1)))⟩] ++ [⟨16,0,[((b+c.sz-1:Nat):Int),((b+c.sz+l.sz:Nat):Int),((b+c.sz+(l.sz+1)+e.sz:Nat):Int)]⟩]))))
 | .loop c l,b=>c.enc b++(l.enc (b+c.sz)++([⟨20,0,ints (l.ends (b+c.sz))⟩] ++ [⟨17,0,[((b+c.sz-1:Nat):Int),((b+c.sz+l.sz:Nat):Int)]⟩]))
 | .atom l,b=>l.enc b++([⟨20,0,ints (l.ends b)⟩] ++ [⟨18,0,[((b+l.sz:Nat):Int)]⟩])
 | .halt,_=>[⟨19,0,[]⟩]
def Ls.enc:Ls->Nat->List Nd
 | .nil,_=>[]
 | .cons s l,b=>s.enc b++l.enc (b+s.sz)
end
def Ls.cu (l:Ls) (b:Nat):List Nd:=l.enc b ++ [⟨20,0,ints (l.ends b)⟩]
theorem Ex.len:∀ (x:Ex) (b:Nat),(x.enc b).length=x.sz
 | .num _,_=>rfl
 | .var _,_=>rfl
 | .load a,b=>by simp [Ex.enc,Ex.sz,a.len b]
 | .bin o x y,b=>by simp [Ex.enc,Ex.sz,x.len b,y.len];omega
theorem Cn.len (c:Cn) (b:Nat):(c.enc b).length=c.sz:=by simp [Cn.enc,Cn.sz,Ex.len];omega
mutual
theorem St.len:∀ (x:St) (b:Nat),(x.enc b).length=x.sz
 | .set _ a,b=>by simp [St.enc,St.sz,Ex.len]
 | .store x y,b=>by simp [St.enc,St.sz,Ex.len];omega
 | .ite c l,b=>by simp [St.enc,St.sz,Cn.len,l.len];omega
 | .cG c l e,b=>by simp [St.enc,St.sz,Cn.len,l.len,e.len];omega
 | .loop c l,b=>by simp [St.enc,St.sz,Cn.len,l.len];omega
 | .atom l,b=>by simp [St.enc,St.sz,l.len]
 | .halt,_=>rfl
theorem Ls.len:∀ (x:Ls) (b:Nat),(x.enc b).length=x.sz
 | .nil,_=>rfl
 | .cons s l,b=>by simp [Ls.enc,Ls.sz,s.len,l.len]
end
theorem Ls.bW (l:Ls) (b:Nat):(l.cu b).length=l.sz+1:=by simp [Ls.cu,Ls.len]
mutual
def St.dq:St->Bool
 | .set _ _=>false
 | .store _ _=>false
 | .ite _ l=>l.dq
 | .cG _ l e=>l.dq || e.dq
 | .loop _ l=>l.dq
 | .atom _=>true
 | .halt=>false
def Ls.dq:Ls->Bool
 | .nil=>false
 | .cons s l=>s.dq || l.dq
end
def Ex.ok:Ex->Prop
 | .num _=>True
 | .var v=>v<=7
 | .load a=>a.ok
 | .bin o a b=>4<=o/\o<=10/\a.ok/\b.ok
def Cn.ok (c:Cn):Prop:=11<=c.k/\c.k<=13/\c.a.ok/\c.b.ok
mutual
def St.ok:St->Prop
 | .set v a=>v<=7/\a.ok
 | .store a b=>a.ok/\b.ok
 | .ite c l=>c.ok/\l.ok
 | .cG c l e=>c.ok/\l.ok/\e.ok
 | .loop c l=>c.ok/\l.ok
 | .atom l=>l.ok/\l.dq=false
 | .halt=>True
def Ls.ok:Ls->Prop
 | .nil=>True
 | .cons s l=>s.ok/\l.ok
end
def cls (k:Int):Int:=if 1<=k/\k<=10 then 1 else if 11<=k/\k<=13 then 2 else if 14<=k/\k<=19 then 3 else if k=20 then 4 else 0
def shape (k n:Int) (m:Nat):Option (List Int) :=
 if (k=2\/k=14)/\7<n \/ ¬ (k=2\/k=14)/\k ≠ 1/\n ≠ 0 then none
 else if k=1\/k=2\/k=19 then some []
 else if k=3\/k=14 then some [1]
 else if (4<=k/\k<=13)\/k=15 then some [1,1]
 else if k=16/\m=3 then some [2,4,4]
 else if k=16\/k=17 then some [2,4]
 else if k=18 then some [4]
 else if k=20 then some (List.replicate m 3)
 else none
def dN (t:List Nd) (i:Nat):Int:=match t[i]? with
 | some x=>cls x.k
 | none=>0
def eD (t:List Nd) (x:Nd) (i:Nat) (st:List Nat) (fl:List Bool):Option (List Nat × List Bool) :=
 match shape x.k x.n x.kids.length with
 | none=>none
 | some want =>
  if want.length=x.kids.length/\want.length<=st.length/\x.kids=ints (st.drop (st.length-want.length))/\(st.drop (st.length-want.length)).map (dN t)=want then
   let a:=(st.drop (st.length-want.length)).any λ j=>fl.getD j false
   if x.k=18/\a=true then none else some (st.take (st.length-want.length) ++ [i],fl ++ [a || decide (x.k=18)])
  else none
def lW (t:List Nd):List Nd->Nat->List Nat->List Bool->Bool
 | [],_,st,_=>decide (st.length=1)
 | x::r,i,st,fl=>match eD t x i st fl with
  | none=>false
  | some (st',fl')=>lW t r (i+1) st' fl'
def kU (t:List Nd):Int:=match t[t.length-1]? with
 | some x=>x.k
 | none=>0
def lu (t:List Nd):Bool:=decide (1<=t.length/\t.length<=2000/\kU t=20) && lW t t 0 [] []
inductive It where
 | e (x:Ex) | c (x:Cn) | s (x:St) | l (x:Ls)
def It.sz:It->Nat
 | .e x=>x.sz | .c x=>x.sz | .s x=>x.sz | .l x=>x.sz+1
def It.enc:It->Nat->List Nd
 | .e x=>x.enc | .c x=>x.enc | .s x=>x.enc | .l x=>x.cu
def It.cls:It->Int
 | .e _=>1 | .c _=>2 | .s _=>3 | .l _=>4
def It.dq:It->Bool
 | .e _=>false | .c _=>false | .s x=>x.dq | .l x=>x.dq
def It.ok:It->Prop
 | .e x=>x.ok | .c x=>x.ok | .s x=>x.ok | .l x=>x.ok
theorem It.pos (x:It):0<x.sz:=by cases x<;>simp [It.sz,Ex.pos,Cn.pos,St.pos]
theorem It.len (x:It) (b:Nat):(x.enc b).length=x.sz:=by cases x<;>simp [It.sz,It.enc,Ex.len,Cn.len,St.len,Ls.bW]
def cq:List It->Nat->List Nd
 | [],_=>[]
 | x::r,b=>x.enc b++cq r (b+x.sz)
def dF:List It->Nat
 | []=>0
 | x::r=>x.sz+dF r
def aH:List It->Nat->List Nat
 | [],_=>[]
 | x::r,b=>(b+x.sz-1)::aH r (b+x.sz)
theorem Lw:∀ (f:List It) (b:Nat),(cq f b).length=dF f
 | [],_=>rfl
 | x::r,b=>by simp [cq,dF,It.len,Lw r]
theorem nV:∀ (f:List It) (b:Nat),(aH f b).length=f.length
 | [],_=>rfl
 | x::r,b=>by simp [aH,nV r]
theorem OQ:∀ (f g:List It) (b:Nat),cq (f++g) b=cq f b++cq g (b+dF f)
 | [],g,b=>by simp [cq,dF]
 | x::r,g,b=>by simp [cq,dF,OQ r,vj]
theorem F0:∀ (f g:List It) (b:Nat),aH (f++g) b=aH f b++aH g (b+dF f)
 | [],g,b=>by simp [aH,dF]
 | x::r,g,b=>by simp [aH,dF,F0 r,vj]
theorem N2:∀ (f g:List It),dF (f++g)=dF f+dF g
 | [],g=>by simp [dF]
 | x::r,g=>by simp [dF,N2 r,vj]
theorem It.last (x:It) (b:Nat):∃ y,(x.enc b)[x.sz-1]? = some y/\(x.ok->Lang.cls y.k=x.cls):=by
 have app:∀ (l:List Nd) (y:Nd),(l ++ [y])[l.length]? = some y:=λ l y=>by simp
 cases x with
 | e x =>
  cases x with
  | num n=>exact ⟨_,rfl,λ _=>rfl⟩
  | var v=>exact ⟨_,rfl,λ _=>rfl⟩
  | load a=>exact ⟨⟨3,0,_⟩,by have:=app (a.enc b) ⟨3,0,[((b+a.sz-1:Nat):Int)]⟩;rw [a.len] at this;exact this,λ _=>rfl⟩
  | bin o p q =>
   refine ⟨⟨o,0,[((b+p.sz-1:Nat):Int),((b+p.sz+q.sz-1:Nat):Int)]⟩,?_,λ h=>?_⟩
   ·have:=app (p.enc b++q.enc (b+p.sz)) ⟨o,0,[((b+p.sz-1:Nat):Int),((b+p.sz+q.sz-1:Nat):Int)]⟩;rw [qg,p.len,q.len,qt] at this;exact this
   ·obtain ⟨h1,h2,_⟩:=h;simp only [Lang.cls,It.cls];rw [qk (by omega)]
 | c c =>
  refine ⟨⟨c.k,0,[((b+c.a.sz-1:Nat):Int),((b+c.a.sz+c.b.sz-1:Nat):Int)]⟩,?_,λ h=>?_⟩
  ·have:=app (c.a.enc b++c.b.enc (b+c.a.sz)) ⟨c.k,0,[((b+c.a.sz-1:Nat):Int),((b+c.a.sz+c.b.sz-1:Nat):Int)]⟩;rw [qg,Ex.len,Ex.len,qt] at this;exact this
  ·obtain ⟨h1,h2,_⟩:=h;simp only [Lang.cls,It.cls];rw [qc (by omega),qk (by omega)]
 | s x =>
  have key:∀ (l:List Nd) (y:Nd),x.enc b=l ++ [y]->(x.enc b)[x.sz-1]? = some y:=λ l y h=>by
   have hl:=x.len b;rw [h] at hl ⊢;rw [qg] at hl;have:x.sz-1=l.length:=by simp at hl;omega
   rw [this];exact app l y
  cases x with
  | set v a=>exact ⟨_,key _ _ rfl,λ _=>rfl⟩
  | store p q=>exact ⟨_,key (p.enc b++q.enc (b+p.sz)) ⟨15,0,[((b+p.sz-1:Nat):Int),((b+p.sz+q.sz-1:Nat):Int)]⟩ (by simp only [St.enc,qt]),λ _=>rfl⟩
  | ite c l=>exact ⟨_,key (c.enc b++(l.enc (b+c.sz) ++ [⟨20,0,ints (l.ends (b+c.sz))⟩])) _ (by simp only [St.enc,qt];rfl),λ _=>rfl⟩
  | cG c l e=>exact ⟨_,key (c.enc b++(l.enc (b+c.sz)++([⟨20,0,ints (l.ends (b+c.sz))⟩]++(e.enc (b+c.sz+(l.sz+1)) ++ [⟨20,0,ints (e.ends (b+c.sz+(l.sz+1)))⟩])))) _ (by simp only [St.enc,qt];rfl),λ _=>rfl⟩
  | loop c l=>exact ⟨_,key (c.enc b++(l.enc (b+c.sz) ++ [⟨20,0,ints (l.ends (b+c.sz))⟩])) _ (by simp only [St.enc,qt];rfl),λ _=>rfl⟩
  | atom l=>exact ⟨_,key (l.enc b ++ [⟨20,0,ints (l.ends b)⟩]) ⟨18,0,[((b+l.sz:Nat):Int)]⟩ (by simp only [St.enc,qt]),λ _=>rfl⟩
  | halt=>exact ⟨_,rfl,λ _=>rfl⟩
 | l x =>
  refine ⟨⟨20,0,ints (x.ends b)⟩,?_,λ _=>rfl⟩;have:=app (x.enc b) ⟨20,0,ints (x.ends b)⟩;rw [x.len] at this;exact this
end Lang
end Go.Am
namespace Go.Am
namespace Lang
def Ls.kL:Ls->List It
 | .nil=>[]
 | .cons s l=>.s s::l.kL
def It.ks:It->List It
 | .e (.num _)=>[] | .e (.var _)=>[] | .e (.load a)=>[.e a] | .e (.bin _ a b)=>[.e a,.e b]
 | .c x=>[.e x.a,.e x.b]
 | .s (.set _ a)=>[.e a] | .s (.store a b)=>[.e a,.e b] | .s (.ite q m)=>[.c q,.l m] | .s (.cG q m w)=>[.c q,.l m,.l w] | .s (.loop q m)=>[.c q,.l m] | .s (.atom m)=>[.l m] | .s .halt=>[]
 | .l x=>x.kL
def It.kn:It->Int × Int
 | .e (.num n)=>(1,n) | .e (.var v)=>(2,v) | .e (.load _)=>(3,0) | .e (.bin o _ _)=>(o,0)
 | .c x=>(x.k,0)
 | .s (.set v _)=>(14,v) | .s (.store _ _)=>(15,0) | .s (.ite _ _)=>(16,0) | .s (.cG _ _ _)=>(16,0) | .s (.loop _ _)=>(17,0) | .s (.atom _)=>(18,0) | .s .halt=>(19,0)
 | .l _=>(20,0)
def It.nd (x:It) (b:Nat):Nd:=⟨x.kn.1,x.kn.2,ints (aH x.ks b)⟩
theorem Ls.ni:∀ (l:Ls) (b:Nat),l.enc b=cq l.kL b
 | .nil,_=>rfl
 | .cons s l,b=>by simp [Ls.enc,Ls.kL,cq,It.enc,It.sz,l.ni]
theorem Ls.fv:∀ (l:Ls) (b:Nat),l.ends b=aH l.kL b
 | .nil,_=>rfl
 | .cons s l,b=>by simp [Ls.ends,Ls.kL,aH,It.sz,l.fv]
theorem Ls.pY:∀ (l:Ls),l.kL.map It.cls=List.replicate l.kL.length 3
 | .nil=>rfl
 | .cons s l=>by simp [Ls.kL,It.cls,l.pY,wz]
theorem Ls.sU:∀ (l:Ls),l.ok -> ∀ y ∈ l.kL,y.ok
 | .nil,_,y,h=>by simp [Ls.kL] at h
 | .cons s l,ho,y,h=>by
  rcases x8.1 h with rfl|h
  ·exact ho.1
  ·exact Ls.sU l ho.2 y h
theorem Ls.qB:∀ (l:Ls),l.kL.any It.dq=l.dq
 | .nil=>rfl
 | .cons s l=>by simp [Ls.kL,It.dq,Ls.dq,l.qB]
theorem It.nv (x:It) (b:Nat):x.enc b=cq x.ks b ++ [x.nd b]:=by
 have pos:=Ex.pos;have cpos:=Cn.pos;have z:∀ a:Nat,a+1-1=a:=λ a=>by omega
 match x with
 | .e (.num _)=>rfl
 | .e (.var _)=>rfl
 | .e (.load a)=>simp [It.enc,Ex.enc,It.ks,cq,It.nd,It.kn,aH,It.sz,ints]
 | .e (.bin o p q)=>simp [It.enc,Ex.enc,It.ks,cq,It.nd,It.kn,aH,It.sz,ints]
 | .c x=>simp [It.enc,Cn.enc,It.ks,cq,It.nd,It.kn,aH,It.sz,ints]
 | .s (.set _ a)=>simp [It.enc,St.enc,It.ks,cq,It.nd,It.kn,aH,It.sz,ints]
 | .s (.store p q)=>simp [It.enc,St.enc,It.ks,cq,It.nd,It.kn,aH,It.sz,ints]
 | .s (.ite q m)=>simp [It.enc,St.enc,It.ks,cq,It.nd,It.kn,aH,It.sz,ints,Ls.cu]
 | .s (.cG q m w)=>simp [It.enc,St.enc,It.ks,cq,It.nd,It.kn,aH,It.sz,ints,Ls.cu]
 | .s (.loop q m)=>simp [It.enc,St.enc,It.ks,cq,It.nd,It.kn,aH,It.sz,ints,Ls.cu]
 | .s (.atom m)=>simp [It.enc,St.enc,It.ks,cq,It.nd,It.kn,aH,It.sz,ints,Ls.cu]
 | .s .halt=>rfl
 | .l m=>simp [It.enc,Ls.cu,It.ks,It.nd,It.kn,m.ni,m.fv]
theorem It.kO (x:It):x.sz=dF x.ks+1:=by
 have h:=congrArg List.length (x.nv 0);rw [It.len,qg,Lw] at h;exact h
theorem It.kM (x:It) (h:x.ok):shape x.kn.1 x.kn.2 x.ks.length=some (x.ks.map It.cls)/\(∀ y ∈ x.ks,y.ok)/\x.dq=(x.ks.any It.dq || decide (x.kn.1=18))/\(x.kn.1=18->x.ks.any It.dq=false):=by
 match x,h with
 | .e (.num n),h=>exact ⟨by simp [shape,It.kn,It.ks],by simp [It.ks],by simp [It.dq,It.ks,It.kn],by simp [It.kn]⟩
 | .e (.var v),h =>
  have h:v<=7:=h;exact ⟨by simp [shape,It.kn,It.ks];omega,by simp [It.ks],by simp [It.dq,It.ks,It.kn],by simp [It.kn]⟩
 | .e (.load a),h =>
  have h:a.ok:=h;exact ⟨by simp [shape,It.kn,It.ks,It.cls],by simp [It.ks,It.ok,h],by simp [It.dq,It.ks,It.kn],by simp [It.kn]⟩
 | .e (.bin o a b),h =>
  obtain ⟨h1,h2,h3,h4⟩:=h;refine ⟨?_,by simp [It.ks,It.ok,h3,h4],?_,?_⟩
  ·show shape (o:Int) 0 2=some [1,1];unfold shape;rw [qc (by omega),qc (by omega),qc (by omega),qk (by omega)]
  ·have:¬ ((o:Int)=18):=by omega
   simp [It.dq,It.ks,It.kn,this]
  ·intro e;simp only [It.kn] at e;omega
 | .c x,h =>
  obtain ⟨h1,h2,h3,h4⟩:=h;refine ⟨?_,by simp [It.ks,It.ok,h3,h4],?_,?_⟩
  ·show shape (x.k:Int) 0 2=some [1,1];unfold shape;rw [qc (by omega),qc (by omega),qc (by omega),qk (by omega)]
  ·have:¬ ((x.k:Int)=18):=by omega
   simp [It.dq,It.ks,It.kn,this]
  ·intro e;simp only [It.kn] at e;omega
 | .s (.set v a),h =>
  obtain ⟨h,h'⟩:=h;exact ⟨by simp [shape,It.kn,It.ks,It.cls];omega,by simp [It.ks,It.ok,h'],by simp [It.dq,St.dq,It.ks,It.kn],by simp [It.kn]⟩
 | .s (.store a b),h=>exact ⟨by simp [shape,It.kn,It.ks,It.cls],by simp [It.ks,It.ok,h.1,h.2],by simp [It.dq,St.dq,It.ks,It.kn],by simp [It.kn]⟩
 | .s (.ite q m),h=>exact ⟨by simp [shape,It.kn,It.ks,It.cls],by simp [It.ks,It.ok,h.1,h.2],by simp [It.dq,St.dq,It.ks,It.kn],by simp [It.kn]⟩
 | .s (.cG q m w),h=>exact ⟨by simp [shape,It.kn,It.ks,It.cls],by simp [It.ks,It.ok,h.1,h.2.1,h.2.2],by simp [It.dq,St.dq,It.ks,It.kn],by simp [It.kn]⟩
 | .s (.loop q m),h=>exact ⟨by simp [shape,It.kn,It.ks,It.cls],by simp [It.ks,It.ok,h.1,h.2],by simp [It.dq,St.dq,It.ks,It.kn],by simp [It.kn]⟩
 | .s (.atom m),h=>exact ⟨by simp [shape,It.kn,It.ks,It.cls],by simp [It.ks,It.ok,h.1],by simp [It.dq,St.dq,It.ks,It.kn],λ _=>by simp [It.ks,It.dq,h.2]⟩
 | .s .halt,h=>exact ⟨by simp [shape,It.kn,It.ks],by simp [It.ks],by simp [It.dq,St.dq,It.ks,It.kn],by simp [It.kn]⟩
 | .l m,h=>exact ⟨by simp [shape,It.kn,It.ks,m.pY],m.sU h,by simp [It.dq,It.ks,It.kn,m.qB],by simp [It.kn]⟩
def Ls.of:List It->Ls
 | .s x::r=>.cons x (Ls.of r)
 | _=>.nil
theorem Ls.xK:∀ (f:List It) (n:Nat),f.map It.cls=List.replicate n 3->(Ls.of f).kL=f/\((∀ y ∈ f,y.ok)->(Ls.of f).ok)
 | [],_,_=>⟨rfl,λ _=>trivial⟩
 | x::r,0,h=>by simp at h
 | x::r,n+1,h=>by
  rw [xx,wz,xc] at h;obtain ⟨h1,h2⟩:=Ls.xK r n h.2;cases x with
  | s x=>exact ⟨by simp [Ls.of,Ls.kL,h1],λ ho=>⟨ho (.s x) (by simp),h2 λ y hy=>ho y (by simp [hy])⟩⟩
  | e x=>simp [It.cls] at h
  | c x=>simp [It.cls] at h
  | l x=>simp [It.cls] at h
theorem gu {α:Type} {f:List α} (h:f.length=2):∃ x y,f=[x,y]:=by
 cases f with
 | nil=>cases h
 | cons x f=>obtain ⟨y,rfl⟩:=List.length_eq_one_iff.1 (by simpa using h:f.length=1);exact ⟨x,y,rfl⟩
theorem MA {α:Type} {f:List α} (h:f.length=3):∃ x y z,f=[x,y,z]:=by
 cases f with
 | nil=>cases h
 | cons x f=>obtain ⟨y,z,rfl⟩:=gu (by simpa using h:f.length=2);exact ⟨x,y,z,rfl⟩
theorem JQ {f:List It} (h:f.map It.cls=[1]):∃ a,f=[.e a]:=by
 obtain ⟨x,rfl⟩:=List.length_eq_one_iff.1 (by simpa using congrArg List.length h:f.length=1);cases x<;>simp [It.cls] at h;exact ⟨_,rfl⟩
theorem JD {f:List It} (h:f.map It.cls=[4]):∃ a,f=[.l a]:=by
 obtain ⟨x,rfl⟩:=List.length_eq_one_iff.1 (by simpa using congrArg List.length h:f.length=1);cases x<;>simp [It.cls] at h;exact ⟨_,rfl⟩
theorem DE {f:List It} (h:f.map It.cls=[1,1]):∃ a b,f=[.e a,.e b]:=by
 obtain ⟨x,y,rfl⟩:=gu (by simpa using congrArg List.length h:f.length=2);cases x<;>cases y<;>simp [It.cls] at h;exact ⟨_,_,rfl⟩
theorem CK {f:List It} (h:f.map It.cls=[2,4]):∃ a b,f=[.c a,.l b]:=by
 obtain ⟨x,y,rfl⟩:=gu (by simpa using congrArg List.length h:f.length=2);cases x<;>cases y<;>simp [It.cls] at h;exact ⟨_,_,rfl⟩
theorem zF {f:List It} (h:f.map It.cls=[2,4,4]):∃ a b c,f=[.c a,.l b,.l c]:=by
 obtain ⟨x,y,z,rfl⟩:=MA (by simpa using congrArg List.length h:f.length=3);cases x<;>cases y<;>cases z<;>simp [It.cls] at h;exact ⟨_,_,_,rfl⟩
theorem It.of {k n:Int} {f:List It} (hn:0<=n) (hs:shape k n f.length=some (f.map It.cls)) (hok:∀ y ∈ f,y.ok) (ha:k=18->f.any It.dq=false):∃ x:It,x.ks=f/\x.kn=(k,n)/\x.ok:=by
 unfold shape at hs;split at hs
 ·cases hs
 rename_i h0;split at hs
 ·rename_i h1;have:f=[]:=by simpa using hs.symm
  subst this;rcases h1 with rfl|rfl|rfl
  ·exact ⟨.e (.num n.toNat),rfl,by simp [It.kn];omega,trivial⟩
  ·exact ⟨.e (.var n.toNat),rfl,by simp [It.kn];omega,show n.toNat<=7 by omega⟩
  ·exact ⟨.s .halt,rfl,by simp [It.kn];omega,trivial⟩
 split at hs
 ·rename_i h1 h2;obtain ⟨a,rfl⟩:=JQ (yn hs).symm;have:=hok (.e a) (by simp);rcases h2 with rfl|rfl
  ·exact ⟨.e (.load a),rfl,by simp [It.kn];omega,this⟩
  ·exact ⟨.s (.set n.toNat a),rfl,by simp [It.kn];omega,by omega,this⟩
 split at hs
 ·rename_i h1 h2 h3;obtain ⟨a,b,rfl⟩:=DE (yn hs).symm;have o1:=hok (.e a) (by simp);have o2:=hok (.e b) (by simp);rcases h3 with ⟨h4,h5⟩|rfl
  ·by_cases h6:k<=10
   ·exact ⟨.e (.bin k.toNat a b),rfl,by simp [It.kn];omega,by omega,by omega,o1,o2⟩
   ·exact ⟨.c ⟨k.toNat,a,b⟩,rfl,by simp [It.kn];omega,by simp only;omega,by simp only;omega,o1,o2⟩
  ·exact ⟨.s (.store a b),rfl,by simp [It.kn];omega,o1,o2⟩
 split at hs
 ·rename_i h1 h2 h3 h4;obtain ⟨a,b,c,rfl⟩:=zF (yn hs).symm;obtain ⟨rfl,_⟩:=h4;exact ⟨.s (.cG a b c),rfl,by simp [It.kn];omega,hok (.c a) (by simp),hok (.l b) (by simp),hok (.l c) (by simp)⟩
 split at hs
 ·rename_i h1 h2 h3 h4 h5;obtain ⟨a,b,rfl⟩:=CK (yn hs).symm;rcases h5 with rfl|rfl
  ·exact ⟨.s (.ite a b),rfl,by simp [It.kn];omega,hok (.c a) (by simp),hok (.l b) (by simp)⟩
  ·exact ⟨.s (.loop a b),rfl,by simp [It.kn];omega,hok (.c a) (by simp),hok (.l b) (by simp)⟩
 split at hs
 ·rename_i h1 h2 h3 h4 h5 h6;subst h6;obtain ⟨a,rfl⟩:=JD (yn hs).symm;exact ⟨.s (.atom a),rfl,by simp [It.kn];omega,hok (.l a) (by simp),by simpa [It.dq] using ha rfl⟩
 split at hs
 ·rename_i h1 h2 h3 h4 h5 h6 h7;subst h7;obtain ⟨h8,h9⟩:=Ls.xK f f.length (yn hs).symm;exact ⟨.l (Ls.of f),h8,by simp [It.kn];omega,h9 hok⟩
 ·cases hs
theorem K5:∀ (f:List It) (b k:Nat) (x:It),f[k]? = some x -> ∃ c,(aH f b)[k]? = some (c+x.sz-1)/\b<=c/\c+x.sz<=b+dF f /\ ∃ u v,cq f b=u++(x.enc c++v)/\b+u.length=c
 | [],b,k,x,h=>by simp at h
 | y::r,b,0,x,h=>by
  simp at h;subst h;exact ⟨b,by simp [aH],qf _,by simp [dF],[],cq r (b+y.sz),by simp [cq],by simp⟩
 | y::r,b,k+1,x,h=>by
  obtain ⟨c,h1,h2,h3,u,v,h4,h5⟩:=K5 r (b+y.sz) k x (by simpa using h);exact ⟨c,by simpa [aH] using h1,by omega,by simp [dF];omega,y.enc b++u,v,by simp [cq,h4],by simp [It.len];omega⟩
theorem tO {α β γ:Type} {p:β -> γ} {q:α -> γ} {l:List β} {m:List α} (hl:l.length=m.length) (h:∀ (k:Nat) (x:β) (y:α),l[k]? = some x->m[k]? = some y->p x=q y):l.map p=m.map q:=by
 apply Df;intro k;rw [xj,xj];cases hx:l[k]? with
 | none=>rw [List.getElem?_eq_none_iff] at hx;rw [je (by omega)];rfl
 | some x =>
  have:k<m.length:=by rw [<-hl];exact (qv.1 hx).1
  rw [za this];simp only [AM];rw [h k x m[k] hx (za this)]
theorem q8u {t:List Nd} {f:List It} {b:Nat} {u v:List Nd} (ht:t=u++(cq f b++v)) (hu:u.length=b) (hok:∀ y ∈ f,y.ok):(aH f b).map (dN t)=f.map It.cls:=by
 refine tO (nV f b) λ k e x he hx=>?_;obtain ⟨c,h1,h2,h3,p,q,h4,h5⟩:=K5 f b k x hx;rw [h1] at he;injection he with he;subst he
 obtain ⟨y,hy,hc⟩:=x.last c;have hp:=x.pos;have hlen:=x.len c;have:t[c+x.sz-1]? = some y:=by
  rw [ht,h4,xn (by omega),qt,xn (by omega),qt,xi (by omega)];rw [<-hy];congr 1;omega
 unfold dN;rw [this];exact hc (hok x (xv hx))
def tA (fl:List Bool) (f:List It) (b:Nat):Prop:=∀ (k:Nat) e x,(aH f b)[k]? = some e->f[k]? = some x->fl.getD e false=x.dq
theorem tA.any {fl:List Bool} {f:List It} {b:Nat} (h:tA fl f b):((aH f b).any λ j=>fl.getD j false)=f.any It.dq:=by
 have:=tO (nV f b) (p:=λ j=>fl.getD j false) (q:=It.dq) h;have e:=congrArg (λ l=>l.any id) this
 simpa [List.any_map,Function.comp_def] using e
theorem q8w {α:Type} {a b:List α} {n:Nat} (h:n=a.length):(a++b).drop n=b:=by subst h;simp
theorem q9o {α:Type} {a b:List α} {n:Nat} (h:n=a.length):(a++b).take n=a:=by subst h;simp
theorem q5i (t:List Nd) (hn:∀ x ∈ t,0<=x.n):∀ (r:List Nd) (i:Nat) (st:List Nat) (fl:List Bool) (f:List It),t=cq f 0++r->i=dF f->st=aH f 0->fl.length=i->tA fl f 0->(∀ y ∈ f,y.ok) ->
 lW t r i st fl=true -> ∃ x:It,t=x.enc 0/\x.ok
 | [],i,st,fl,f,ht,hi,hst,hfl,hfo,hok,h=>by
  have h:st.length=1:=by simpa [lW] using h
  rw [hst,nV] at h
  match f,h with
  | [x],_=>exact ⟨x,by simpa [cq] using ht,hok x (by simp)⟩
 | x::r,i,st,fl,f,ht,hi,hst,hfl,hfo,hok,h=>by
  have hx0:0<=x.n:=hn x (by rw [ht];simp);unfold lW at h;unfold eD at h;cases hs:shape x.k x.n x.kids.length with
  | none=>rw [hs] at h;simp at h
  | some want =>
   rw [hs] at h;simp only at h;split at h
   ·cases h
   rename_i st' fl' hm;split at hm
   ·rename_i hc;obtain ⟨c1,c2,c3,c4⟩:=hc;have hfl2:want.length<=f.length:=by rw [hst,nV] at c2;exact c2
    -- the top of the forest
    obtain ⟨f1,f2,rfl,hf2⟩:∃ f1 f2,f=f1++f2/\f2.length=want.length:=⟨f.take (f.length-want.length),f.drop (f.length-want.length),(BC ..).symm,by rw [tY];omega⟩
    have hd:st.length-want.length=(aH f1 0).length:=by rw [hst,nV,nV,qg];omega
    have hst2:st=aH f1 0++aH f2 (dF f1):=by rw [hst,F0,x6]
    have hdrop:st.drop (st.length-want.length)=aH f2 (dF f1):=by rw [hd,hst2,q8w rfl]
    have htake:st.take (st.length-want.length)=aH f1 0:=by rw [hd,hst2,q9o rfl]
    rw [hdrop] at c3 c4;rw [OQ,qt,x6] at ht;have hcls:=q8u (u:=cq f1 0) (f:=f2) (b:=dF f1) ht (Lw f1 0) (λ y hy=>hok y (by simp [hy]));rw [hcls] at c4;have hfo2:tA fl f2 (dF f1):=λ k e y h1 h2=>by
     refine hfo (f1.length+k) e y ?_ ?_
     ·rw [F0,xn (by rw [nV];omega),nV,x6];simpa using h1
     ·rw [xn (by omega)];simpa using h2
    rw [hdrop,htake] at hm;rw [hfo2.any] at hm;split at hm
    ·cases hm
    rename_i hat;injection hm with hm
    injection hm with hm1 hm2
    obtain ⟨y,hy1,hy2,hy3⟩:=It.of (k:=x.k) (n:=x.n) (f:=f2) hx0 (by rw [hf2,c1,hs,c4]) (λ y hy=>hok y (by simp [hy])) (λ e=>by
     cases hq:f2.any It.dq with
     | false=>rfl
     | true=>exact (hat ⟨e,hq⟩).elim)
    have hnd:y.nd (dF f1)=x:=by
     unfold It.nd;rw [hy1,hy2,<-c3]
    have henc:y.enc (dF f1)=cq f2 (dF f1) ++ [x]:=by rw [It.nv,hy1,hnd]
    have hsz:y.sz=dF f2+1:=by rw [It.kO,hy1]
    have hi':i=dF f1+dF f2:=by rw [hi,N2]
    refine q5i t hn r (i+1) st' fl' (f1 ++ [y]) ?_ ?_ ?_ ?_ ?_ ?_ h
    ·rw [ht,OQ,x6];simp [cq,henc]
    ·rw [N2];simp [dF,hsz];omega
    ·rw [<-hm1,F0,x6];simp [aH,hsz];omega
    ·rw [<-hm2];simp [hfl]
    ·intro k e z h1 h2;rw [F0] at h1;rw [<-hm2]
     by_cases hk:k<f1.length
     ·rw [xi (by rw [nV];exact hk)] at h1;rw [xi hk] at h2;have h3:=hfo k e z (by rw [F0,xi (by rw [nV];exact hk)];exact h1) (by rw [xi hk];exact h2);rw [<-h3];have he:e<fl.length:=by
       obtain ⟨c,g1,g2,g3,_⟩:=K5 f1 0 k z h2;rw [h1] at g1;injection g1 with g1;have:=z.pos;rw [hfl];omega
      simp only [yf];rw [xi he]
     ·rw [xn (by omega)] at h2;have hk0:k-f1.length=0:=by
       rcases Nat.eq_zero_or_pos (k-f1.length) with q|q
       ·exact q
       ·rw [je (by simp;omega)] at h2;cases h2
      rw [hk0] at h2;have hz:y=z:=by simpa using h2
      subst hz;rw [xn (by rw [nV];omega),nV,hk0] at h1;have he:e=fl.length:=by simp [aH,hsz] at h1;omega
      subst he;obtain ⟨_,_,v3,_⟩:=y.kM hy3;rw [v3,hy1,hy2];simp
    ·intro z hz;rcases zy.1 hz with hz|hz
     ·exact hok z (by simp [hz])
     ·rw [yk.1 hz];exact hy3
   ·cases hm
theorem P5 (t:List Nd):∀ (n:Nat) (f:List It),dF f<=n->(∀ y ∈ f,y.ok) -> ∀ (i:Nat) (u r:List Nd) (st:List Nat) (fl:List Bool),t=u++(cq f i++r)->u.length=i->fl.length=i ->
 ∃ fl',fl'.length=i+dF f/\(∀ j,j<i->fl'.getD j false=fl.getD j false)/\tA fl' f i/\lW t (cq f i++r) i st fl=lW t r (i+dF f) (st++aH f i) fl'
 | n,[],_,_,i,u,r,st,fl,ht,hu,hfl=>⟨fl,by simpa [dF] using hfl,λ j _=>rfl,λ k e x h=>by simp [aH] at h,by simp [cq,dF,aH]⟩
 | 0,x::f,hn,_,_,_,_,_,_,_,_,_=>by have:=x.pos;simp [dF] at hn;omega
 | n+1,x::f,hn,hok,i,u,r,st,fl,ht,hu,hfl=>by
  have hxo:=hok x (by simp);obtain ⟨v1,v2,v3,v4⟩:=x.kM hxo;have hxs:=x.kO;have hn':x.sz+dF f<=n+1:=hn
  -- what the item is made of
  have e1:cq (x::f) i++r=cq x.ks i++(x.nd i::(cq f (i+x.sz)++r)):=by simp [cq,x.nv]
  obtain ⟨fl1,a1,a2,a3,a4⟩:=P5 t n x.ks (by omega) v2 i u (x.nd i::(cq f (i+x.sz)++r)) st fl (by rw [ht,e1]) hu hfl
  -- kL node
  have hcls:=q8u (t:=t) (f:=x.ks) (b:=i) (u:=u) (v:=x.nd i::(cq f (i+x.sz)++r)) (by rw [ht,e1]) hu v2;have hl:(x.nd i).kids.length=x.ks.length:=by simp [It.nd,ints,nV]
  have hd:(st++aH x.ks i).drop ((st++aH x.ks i).length-x.ks.length)=aH x.ks i:=q8w (by rw [qg,nV];omega);have htk:(st++aH x.ks i).take ((st++aH x.ks i).length-x.ks.length)=st:=q9o (by rw [qg,nV];omega);have hstep:eD t (x.nd i) (i+dF x.ks) (st++aH x.ks i) fl1=some (st ++ [i+dF x.ks],fl1 ++ [x.dq]):=by
   unfold eD;have hs:shape (x.nd i).k (x.nd i).n (x.nd i).kids.length=some (x.ks.map It.cls):=by rw [hl];exact v1
   rw [hs];simp only [vo];rw [qk ⟨hl.symm,by rw [qg,nV];omega,by rw [hd];rfl,by rw [hd,hcls]⟩,hd,htk,a3.any];have hk:(x.nd i).k=x.kn.1:=rfl;rw [qc (λ⟨q1,q2⟩=>by rw [v4 (hk ▸ q1)] at q2;cases q2),hk,<-v3]
  have hgo:lW t (x.nd i::(cq f (i+x.sz)++r)) (i+dF x.ks) (st++aH x.ks i) fl1=lW t (cq f (i+x.sz)++r) (i+x.sz) (st ++ [i+dF x.ks]) (fl1 ++ [x.dq]):=by
   rw [show i+x.sz=i+dF x.ks+1 by omega]
   conv=>lhs;unfold lW
   rw [hstep]
  -- the rest
  obtain ⟨fl2,b1,b2,b3,b4⟩:=P5 t n f (by have:=x.pos;omega) (λ y hy=>hok y (by simp [hy])) (i+x.sz) (u++x.enc i) r (st ++ [i+dF x.ks]) (fl1 ++ [x.dq]) (by rw [ht];simp [cq]) (by simp [It.len,hu]) (by simp [a1];omega);refine ⟨fl2,by rw [b1];simp [dF];omega,λ j hj=>?_,λ k e y h1 h2=>?_,?_⟩
  ·rw [b2 j (by have:=x.pos;omega),<-a2 j hj];simp only [yf];rw [xi (by omega)]
  ·cases k with
   | zero =>
    simp [aH] at h1 h2;subst h1;subst h2;rw [b2 _ (by have:=x.pos;omega)];have:i+x.sz-1=fl1.length:=by omega
    rw [this];simp
   | succ k=>exact b3 k e y (by simpa [aH] using h1) (by simpa using h2)
  ·rw [e1,a4,hgo,b4];simp only [aH,dF,qt,ur,zn];rw [show i+x.sz-1=i+dF x.ks by omega,show i+x.sz+dF f=i+(x.sz+dF f) by omega]
theorem q89 {t:List Nd} (hn:∀ x ∈ t,0<=x.n):lu t=true ↔ ∃ p:Ls,t=p.cu 0/\p.ok/\p.sz+1<=2000:=by
 constructor
 ·intro h;unfold lu at h;rw [qx,yh] at h;obtain ⟨⟨h1,h2,h3⟩,h4⟩:=h;obtain ⟨x,hx,ho⟩:=q5i t hn t 0 [] [] [] (by simp [cq]) rfl rfl rfl (λ k e y h=>by simp [aH] at h) (λ y h=>by cases h) h4;obtain ⟨y,hy,hc⟩:=x.last 0;have hl:t.length=x.sz:=by rw [hx,It.len]
  have hc:=hc ho;unfold kU at h3;rw [hl,hx,hy] at h3;simp only at h3;rw [h3] at hc;cases x with
  | l p=>exact ⟨p,hx,ho,by rw [hl] at h2;exact h2⟩
  | e x=>simp [cls,It.cls] at hc
  | c x=>simp [cls,It.cls] at hc
  | s x=>simp [cls,It.cls] at hc
 ·rintro ⟨p,rfl,ho,hs⟩;have hl:=p.bW 0;obtain ⟨y,hy,hc⟩:=(It.l p).last 0;unfold lu;rw [qx,yh];refine ⟨⟨by omega,by omega,?_⟩,?_⟩
  ·unfold kU Ls.cu;rw [qg,Ls.len];simp [Ls.len]
  ·obtain ⟨fl',_,_,_,h⟩:=P5 (p.cu 0) (dF [.l p]) [.l p] (qf _) (λ y hy=>by rw [yk.1 hy];exact ho) 0 [] [] [] [] (by simp [cq,It.enc]) rfl rfl;have e:cq [.l p] 0 ++ []=p.cu 0:=by simp [cq,It.enc]
   rw [e] at h;rw [h];simp [lW,aH]
end Lang
end Go.Am
namespace Go.Am
namespace Lang
def nY (o:Nat):List UInt8:=if o=4 then [43] else if o=5 then [45] else if o=6 then [42] else if o=7 then [38] else if o=8 then [94] else if o=9 then [60,60] else [62,62]
def rowOf (o:Nat):Nat:=if o=4\/o=5\/o=8 then 1 else 2
def py (k:Nat):List UInt8:=if k=11 then [32,61,61,32] else if k=12 then [32,33,61,32] else [32,60,32]
def letter (v:Nat):List UInt8:=[UInt8.ofNat (97+v)]
def par (q:Prop) [Decidable q] (s:List UInt8):List UInt8:=if q then s else []
def Ex.cR:Ex->Nat->List UInt8
 | .num n,_=>dec n
 | .var v,_=>letter v
 | .load a,_=>[108,111,97,100,40]++a.cR 0 ++ [41]
 | .bin o a b,least=>par (rowOf o<least) [40]++a.cR (rowOf o)++([32]++nY o ++ [32])++b.cR (rowOf o+1)++par (rowOf o<least) [41]
def Cn.cR (c:Cn):List UInt8:=c.a.cR 0++py c.k++c.b.cR 0
def ind (deep:Nat):List UInt8:=List.replicate (2*deep) 32
mutual
def St.cR:St->Nat->List UInt8
 | .set v a,_=>letter v ++ [32,61,32]++a.cR 0 ++ [59]
 | .store a b,_=>[115,116,111,114,101,40]++a.cR 0 ++ [44,32]++b.cR 0 ++ [41,59]
 | .ite c l,d=>[105,102,32,40]++c.cR ++ [41,32]++([123,10]++l.cR (d+1)++(ind d ++ [125]))
 | .cG c l e,d=>[105,102,32,40]++c.cR ++ [41,32]++([123,10]++l.cR (d+1)++(ind d ++ [125])) ++ [32,101,108,115,101,32]++([123,10]++e.cR (d+1)++(ind d ++ [125]))
 | .loop c l,d=>[119,104,105,108,101,32,40]++c.cR ++ [41,32]++([123,10]++l.cR (d+1)++(ind d ++ [125]))
 | .atom l,d=>[97,116,111,109,105,99,32]++([123,10]++l.cR (d+1)++(ind d ++ [125]))
 | .halt,_=>[104,97,108,116,59]
def Ls.cR:Ls->Nat->List UInt8
 | .nil,_=>[]
 | .cons s l,d=>ind d++s.cR d ++ [10]++l.cR d
end
def mK (c:UInt8) (o p:Int):Int × Int:=if c=40\/c=123 then (o+1,max p (o+1)) else if c=41\/c=125 then (o-1,p) else (o,p)
def scan:List UInt8->Int × Int->Int × Int
 | [],q=>q
 | c::s,q=>scan s (mK c q.1 q.2)
theorem tC (a b:List UInt8) (q:Int × Int):scan (a++b) q=scan b (scan a q):=by
 induction a generalizing q with
 | nil=>rfl
 | cons c a ih=>exact ih _
end Lang
end Go.Am
namespace Go.Am
namespace Lang
def bj (t:List Nd) (b:Nat) (l:List Nd):Prop:=∀ i x,l[i]? = some x->t[b+i]? = some x
theorem bj.all (t:List Nd):bj t 0 t:=λ i x h=>by rw [x6];exact h
theorem bj.left {t:List Nd} {b:Nat} {l m:List Nd} (h:bj t b (l++m)):bj t b l:=λ i x hx=>h i x (by rw [xi (qv.1 hx).1];exact hx)
theorem bj.right {t:List Nd} {b:Nat} {l m:List Nd} (h:bj t b (l++m)) {c:Nat} (hc:c=b+l.length):bj t c m:=λ i x hx=>by
 subst hc;have:=h (l.length+i) x (by rw [xn (by omega)];simpa using hx);rw [vj];exact this
theorem bj.one {t:List Nd} {b:Nat} {x:Nd} {m:List Nd} (h:bj t b (x::m)):t[b]? = some x:=h 0 x rfl
theorem bj.nd {t:List Nd} {b:Nat} {x:It} (h:bj t b (x.enc b)):t[b+x.sz-1]? = some (x.nd b)/\bj t b (cq x.ks b):=by
 rw [It.nv] at h;refine ⟨?_,h.left⟩;have:=(h.right (c:=b+x.sz-1) (by rw [Lw,It.kO];omega)).one;exact this
theorem bj.cons {t:List Nd} {b:Nat} {x:It} {r:List It} (h:bj t b (cq (x::r) b)):bj t b (x.enc b)/\bj t (b+x.sz) (cq r (b+x.sz)) :=
 ⟨bj.left h,bj.right h (by rw [It.len])⟩
theorem bj.lt {t:List Nd} {b:Nat} {x:It} (h:bj t b (x.enc b)):b+x.sz<=t.length:=by
 have:=(qv.1 h.nd.1).1;have:=x.pos;omega
theorem It.sub (t:List Nd):∀ (m:Nat) (f:List It) (b n:Nat),dF f<=m->(∀ y ∈ f,y.ok)->bj t b (cq f b)->b<=n->n<b+dF f -> ∃ (x:It) (c:Nat),x.ok/\bj t c (x.enc c)/\n=c+x.sz-1/\b<=c:=by
 intro m
 induction m with
 | zero=>intro f b n hm _ _ h1 h2;omega
 | succ m ih =>
  intro f b n hm hok hs h1 h2;cases f with
  | nil=>simp [dF] at h2;omega
  | cons x r =>
   obtain ⟨s1,s2⟩:=hs.cons;have hx:=hok x (by simp);have hsz:=x.kO;simp only [dF] at hm h2;rcases kg n (b+x.sz) with q|q
   ·by_cases hl:n=b+x.sz-1
    ·exact ⟨x,b,hx,s1,hl,qf _⟩
    ·exact ih x.ks b n (by omega) (x.kM hx).2.1 s1.nd.2 h1 (by omega)
   ·obtain ⟨y,c,k1,k2,k3,k4⟩:=ih r (b+x.sz) n (by have:=x.pos;omega) (λ y hy=>hok y (by simp [hy])) s2 q (by omega);exact ⟨y,c,k1,k2,k3,by omega⟩
theorem Ls.sub {p:Ls} (hp:p.ok) {n:Nat} (hn:n<(p.cu 0).length):∃ (x:It) (c:Nat),x.ok/\bj (p.cu 0) c (x.enc c)/\n=c+x.sz-1:=by
 obtain ⟨x,c,h1,h2,h3,_⟩:=It.sub (p.cu 0) (dF [.l p]) [.l p] 0 n (qf _) (λ y hy=>by rw [yk.1 hy];exact hp) (by
  have e:cq [.l p] 0=p.cu 0:=by simp [cq,It.enc]
  rw [e];exact bj.all _) (ja _) (by rw [Ls.bW] at hn;simpa [dF,It.sz] using hn)
 exact ⟨x,c,h1,h2,h3⟩
theorem xe0 (o:Nat):(nY o).length<=2:=by unfold nY;(repeat' split)<;>decide
theorem q8v (o:Nat):(py o).length<=4:=by unfold py;(repeat' split)<;>decide
theorem xei (q:Prop) [Decidable q]:(par q [40]).length<=1/\(par q [41]).length<=1:=by unfold par;constructor<;>(split<;>decide)
def Ex.small:Ex->Prop
 | .num n=>n<18446744073709551616
 | .var _=>True
 | .load a=>a.small
 | .bin _ a b=>a.small/\b.small
def Cn.small (c:Cn):Prop:=c.a.small/\c.b.small
mutual
def St.small:St->Prop
 | .set _ a=>a.small
 | .store a b=>a.small/\b.small
 | .ite c l=>c.small/\l.small
 | .cG c l e=>c.small/\l.small/\e.small
 | .loop c l=>c.small/\l.small
 | .atom l=>l.small
 | .halt=>True
def Ls.small:Ls->Prop
 | .nil=>True
 | .cons s l=>s.small/\l.small
end
theorem Ex.bK:∀ (x:Ex) (d:Nat),x.small->(x.cR d).length<=30*x.sz
 | .num n,d,h=>by have:=q4o (n:=n) h;simp only [Ex.cR,Ex.sz];omega
 | .var v,d,_=>by simp [Ex.cR,letter,Ex.sz]
 | .load a,d,h=>by have:=a.bK 0 h;simp only [Ex.cR,Ex.sz,qg,qn,qw];omega
 | .bin o a b,d,h=>by
  have:=a.bK (rowOf o) h.1;have:=b.bK (rowOf o+1) h.2;have:=xe0 o;obtain ⟨_,_⟩:=xei (rowOf o<d);simp only [Ex.cR,Ex.sz,qg,qn,qw];omega
theorem Cn.bK (c:Cn) (h:c.small):c.cR.length<=30*c.sz:=by
 have:=c.a.bK 0 h.1;have:=c.b.bK 0 h.2;have:=q8v c.k;simp only [Cn.cR,Cn.sz,qg];omega
theorem sr (d:Nat):(ind d).length=2*d:=by simp [ind]
mutual
theorem St.bK:∀ (x:St) (d k:Nat),x.small->d+x.sz<=k->(x.cR d).length+(2*d+1)<=(40+8*k)*x.sz
 | .set v a,d,k,h,hd=>by
  have:=a.bK 0 h;simp only [St.cR,St.sz,letter,qg,qn,qw,nW];have:8*k*(a.sz+1)=8*k*a.sz+8*k:=by rw [pF,oK]
  omega
 | .store a b,d,k,h,hd=>by
  have:=a.bK 0 h.1;have:=b.bK 0 h.2;simp only [St.sz] at hd;have e:(40+8*k)*(a.sz+b.sz+1)=40*a.sz+8*k*a.sz+(40*b.sz+8*k*b.sz)+(40+8*k):=by simp only [pF,oK,nW]
  simp only [St.cR,St.sz,qg,qn,qw];omega
 | .ite c l,d,k,h,hd=>by
  simp only [St.sz] at hd;have cp:=c.pos;have:=c.bK h.1;have:=l.bK (d+1) k h.2 (by omega);have:=sr d;have e:(40+8*k)*(c.sz+(l.sz+1)+1)=(40+8*k)*c.sz+(40+8*k)*l.sz+(40+8*k)+(40+8*k):=by simp only [pF,oK];omega
  have e2:30*c.sz<=(40+8*k)*c.sz:=jm _ (by omega);simp only [St.cR,St.sz,qg,qn,qw];omega
 | .cG c l m,d,k,h,hd=>by
  simp only [St.sz] at hd;have cp:=c.pos;have:=c.bK h.1;have:=l.bK (d+1) k h.2.1 (by omega);have:=m.bK (d+1) k h.2.2 (by omega);have:=sr d;have e:(40+8*k)*(c.sz+(l.sz+1)+(m.sz+1)+1)=(40+8*k)*c.sz+(40+8*k)*l.sz+(40+8*k)*m.sz+(40+8*k)+(40+8*k)+(40+8*k):=by simp only [pF,oK];omega
  have e2:30*c.sz<=(40+8*k)*c.sz:=jm _ (by omega);simp only [St.cR,St.sz,qg,qn,qw];omega
 | .loop c l,d,k,h,hd=>by
  simp only [St.sz] at hd;have cp:=c.pos;have:=c.bK h.1;have:=l.bK (d+1) k h.2 (by omega);have:=sr d;have e:(40+8*k)*(c.sz+(l.sz+1)+1)=(40+8*k)*c.sz+(40+8*k)*l.sz+(40+8*k)+(40+8*k):=by simp only [pF,oK];omega
  have e2:30*c.sz<=(40+8*k)*c.sz:=jm _ (by omega);simp only [St.cR,St.sz,qg,qn,qw];omega
 | .atom l,d,k,h,hd=>by
  simp only [St.sz] at hd;have:=l.bK (d+1) k h (by omega);have:=sr d;have e:(40+8*k)*(l.sz+1+1)=(40+8*k)*l.sz+(40+8*k)+(40+8*k):=by simp only [pF,oK]
  simp only [St.cR,St.sz,qg,qn,qw];omega
 | .halt,d,k,h,hd=>by simp only [St.cR,St.sz,qn,qw];omega
theorem Ls.bK:∀ (x:Ls) (d k:Nat),x.small->d+x.sz<=k->(x.cR d).length<=(40+8*k)*x.sz
 | .nil,d,k,h,hd=>by simp [Ls.cR]
 | .cons s l,d,k,h,hd=>by
  simp only [Ls.sz] at hd;have:=s.bK d k h.1 (by omega);have:=l.bK d k h.2 (by omega);have:=sr d;have e:(40+8*k)*(s.sz+l.sz)=(40+8*k)*s.sz+(40+8*k)*l.sz:=pF ..;simp only [Ls.cR,Ls.sz,qg,qn,qw];omega
end
end Lang
end Go.Am
namespace Go.Am
def kC (x:Nat):List AV:=[.int .i64 (x:Int)]
theorem ND (x:Nat):(kC x).length=1:=rfl
theorem xdl (l:List Nat):l.flatMap kC=l.map λ (x:Nat)=>AV.int .i64 (x:Int):=by
 induction l with
 | nil=>rfl
 | cons a l ih=>rw [jl,ih];rfl
theorem yC (l:List Nat):(l.flatMap kC).length=l.length:=by rw [xdl,vo]
structure nA (e:Nat) (H0 H:AHeap) (v:AV) (xs:List Nat):Prop where
 own:(v=.nils/\xs=[]) \/ ∃ b m rest,v=.gslice b 0 m 1 0 xs.length/\b<H.next/\H0.next<=b/\m=xs.length+rest.length/\H.get b=some (.grown m 1 (xs.flatMap kC++rest) e (0,0))
 fr:Fr Em H0 H
section
variable {e:Nat} {H0 H:AHeap} {v:AV} {xs:List Nat}
theorem nA.nil (e:Nat) (H:AHeap):nA e H H .nils []:=⟨.inl ⟨rfl,rfl⟩,Fr.refl H⟩
theorem nA.fresh (h:nA e H0 H v xs):∀ b,bL v b->H0.next<=b/\b<H.next:=by
 rintro b ⟨h1,rfl⟩;rcases h.own with ⟨rfl,_⟩|⟨b,m,rest,rfl,q1,q2,_⟩
 ·exact (h1 rfl).elim
 ·exact ⟨q2,q1⟩
theorem nA.sl (h:nA e H0 H v xs):cU kC 1 H v xs:=by
 rcases h.own with ⟨rfl,rfl⟩|⟨b,m,rest,rfl,q1,q2,q3,q4⟩
 ·exact ⟨rfl,rfl⟩
 ·refine ⟨by rw [yC,oK],rfl,rfl,by omega,.inr ⟨q1,_,qts q4,?_⟩⟩;rw [mB,qk (by rw [qg,yC];omega),oJ,xq,oK,Jh (by rw [yC];exact qf _),xo (by rw [yC];exact qf _)]
theorem nA.Ht {H':AHeap} {W:Nat->Prop} (h:nA e H0 H v xs) (f:Fr W H H') (f0:Fr Em H0 H') (hw:∀ b,bL v b -> ¬ W b):nA e H0 H' v xs:=by
 refine ⟨?_,f0⟩;rcases h.own with q|⟨b,m,rest,rfl,q1,q2,q3,q4⟩
 ·exact .inl q
 ·exact .inr ⟨b,m,rest,rfl,qe q1 f.next,q2,q3,by rw [f.aj b q1 (hw b ⟨by simp,rfl⟩)];exact q4⟩
theorem nA.em {H':AHeap} (h:nA e H0 H v xs) (f:Fr Em H H'):nA e H0 H' v xs:=h.Ht f (h.fr.em f) λ _ _ q=>q
theorem nA.cut (h:nA e H0 H v xs) {k:Nat} (hk:k<=xs.length) {z:Int} (hz:z=k) (kk:IntKind) :
 ∃ v',Op.bc 1 [none,some 0,none] [v,.int kk z]=some v'/\nA e H0 H v' (xs.take k) /\ ∀ b,bL v' b->bL v b:=by
 rcases h.own with ⟨rfl,rfl⟩|⟨b,m,rest,rfl,q1,q2,q3,q4⟩
 ·have:k=0:=by simpa using hk
  subst this;refine ⟨.nils,?_,⟨.inl ⟨rfl,rfl⟩,h.fr⟩,λ b hb=>hb⟩;have hbn:bound none 0 0=some 0:=rfl;simp [Op.bc,arg,gM,du,hbn,sg hz (qf 0)]
 ·have e1:∀ n,Nat.beq n n=true:=λ n=>by simp
  have hb1:∀ d m,bound none d m=some d:=λ _ _=>rfl;have hkm:=mo (show k<=m-0 by omega);refine ⟨.gslice b (0+0) m 1 (cond (Nat.beq 0 0) 0 (0*1)) (k-0),by simp only [Op.bc,arg,gM,kq,qd,du,hb1,sg hz (show k<=m-0 by omega),e1,hkm,mo (ja m),kp,ql],⟨.inr ⟨b,m,(xs.drop k).flatMap kC++rest,?_,q1,q2,?_,?_⟩,h.fr⟩,λ b hb=>⟨by simp,hb.2⟩⟩
  ·rw [ky,BO hk];rfl
  ·rw [ky,qg,yC,tY];omega
  ·rw [q4,<-qt,<-Eo,BC]
theorem nA.push (h:nA e H0 H v xs) {x:Nat} {zero:List AV} {bytes:Nat} (hz:zero.length=1) (hf:(xs.length+1)*bytes<=140737488355328) (hf':xs.length+1<=140737488355328) {K:bg->(Nat->AV)->Bool->AV->AHeap->Prop} {m:Bool}
 (hk:∀ v' H',nA e H0 H' v' (xs ++ [x])->Fr (bL v) H H'->(∀ b,bL v' b->bL v b\/H.next<=b)->K (.row [.int .i64 (x:Int)] e (0,0) true) (Op.sliceTo 1 1) m v' H') :
 bA m (Op.buildSlice e 1 zero [(0,1)] [.int .i64 (x:Int)]) λ g o mk=>bA g (Op.append e 1 bytes [v,mk H.next] (H.alloc o)) (K o mk):=by
 have hb:Op.buildSlice e 1 zero [(0,1)] [.int .i64 (x:Int)]=some (.row [.int .i64 (x:Int)] e (0,0) true,Op.sliceTo 1 1):=xE e 1 zero (.int .i64 (x:Int)) hz rfl;rw [hb];have hfr:Fr Em H (H.alloc (.row [.int .i64 (x:Int)] e (0,0) true)):=(Fr.refl H).alloc _;have hx:Sl (H.alloc (.row [.int .i64 (x:Int)] e (0,0) true)) 1 (Op.sliceTo 1 1 H.next) 1 [.int .i64 (x:Int)]:=DA rfl;have e1:∀ n,Nat.beq n n=true:=λ n=>by simp
 have ha:bh [AV.int .i64 (x:Int)]=true:=rfl;have aT:Nat.blt 0 1=true:=rfl;have h10:Nat.beq 1 0=false:=rfl;have hfit:=Ox hf hf';refine bA.intro rfl ?_;rcases h.own with ⟨rfl,rfl⟩|⟨b,mm,rest,rfl,q1,q2,q3,q4⟩
 ·have hfit:fits 1 bytes=true:=by simpa using hfit
  refine bA.intro (a:=.gslice (H.next+1) 0 1 1 0 1) (b:=(H.alloc (.row [.int .i64 (x:Int)] e (0,0) true)).alloc (.grown 1 1 [.int .i64 (x:Int)] e (0,0))) ?_ (hk _ _ ⟨.inr ⟨H.next+1,1,[],rfl,?_,?_,rfl,?_⟩,?_⟩ ((hfr.alloc _).mono λ _ _ q=>q.elim) λ b hb=>.inr ?_)
  ·simp only [Op.append,hx.dE,hx.first,qd,ha,ql,dk,h10,xa,hfit,aT,kp,cX,xk]
  ·rw [xk,xk];omega
  ·have:=h.fr.next;omega
  ·exact qp ..
  ·exact (h.fr.em hfr).alloc _
  ·rw [hb.2];show H.next<=H.next+1;omega
 ·have q4':(H.alloc (.row [.int .i64 (x:Int)] e (0,0) true)).get b=some (.grown mm 1 (xs.flatMap kC++rest) e (0,0)):=by rw [rN q1];exact q4
  cases rest with
  | nil =>
   have hm:mm=xs.length:=by simpa using q3
   subst hm;have h3:Nat.ble (0+xs.length+1) xs.length=false:=by cases hq:Nat.ble (0+xs.length+1) xs.length with|false=>rfl|true=>rw [wq] at hq;omega
   have h4:=mo (show 0+xs.length<=xs.length by omega);have h5:=mo (ja (xs.length*1));refine bA.intro (a:=.gslice (H.next+1) 0 (xs.length+1) 1 0 (xs.length+1)) (b:=((H.alloc (.row [.int .i64 (x:Int)] e (0,0) true)).kill b).alloc (.grown (xs.length+1) 1 (xs.flatMap kC ++ [.int .i64 (x:Int)]) e (0,0))) ?_ (hk _ _ ⟨.inr ⟨H.next+1,xs.length+1,[],?_,?_,?_,?_,?_⟩,?_⟩ ?_ λ b hb=>.inr ?_)
   ·simp only [Op.append,hx.dE,hx.first,qd,ha,ql,dk,h10,xa,e1,h4,aT,kp,h3,hfit,q4',h5,cX,Ap,xk,mb,kh,Nat.beq]
   ·rw [qg];rfl
   ·rw [xk,Ap,xk];omega
   ·have:=h.fr.next;omega
   ·rw [qg];rfl
   ·rw [kh,Eo];have:=qp ((H.alloc (.row [.int .i64 (x:Int)] e (0,0) true)).kill b) (.grown (xs.length+1) 1 (xs.flatMap kC ++ [.int .i64 (x:Int)]) e (0,0));rw [Ap,xk] at this;exact this
   ·exact ((h.fr.em hfr).kill (.inr q2)).alloc _
   ·exact (Fr.kill (W:=bL (AV.gslice b 0 xs.length 1 0 xs.length)) (hfr.mono λ _ _ q=>q.elim) (.inl ⟨by simp,rfl⟩)).alloc _
   ·rw [hb.2];show H.next<=H.next+1;omega
  | cons r rest =>
   have h3:=mo (show 0+xs.length+1<=mm by simp at q3;omega);have h4:=mo (show 0+xs.length<=mm by omega);have hst:(H.alloc (.row [.int .i64 (x:Int)] e (0,0) true)).store b ((0+xs.length)*1) [.int .i64 (x:Int)]=some ((H.alloc (.row [.int .i64 (x:Int)] e (0,0) true)).set b (.grown mm 1 ((xs ++ [x]).flatMap kC++rest) e (0,0))):=by
    have ht:cC (0,0) ((0+xs.length)*1) (bW [AV.int .i64 (x:Int)])=true:=by simp [cC]
    simp only [AHeap.store,ha,ql,q4',ht,sd];rw [qk (by rw [qg,yC];simp),qd];congr 4;rw [x6,oK,Jh (by rw [yC];exact qf _),xo (by rw [yC];exact qf _),Eo]
    ·rfl
    ·rw [x6,oK,show [AV.int .i64 (x:Int)].length=1 from rfl,Cr,kc (by rw [yC];omega),yC];simp
   refine bA.intro (a:=.gslice b 0 mm 1 0 (xs.length+1)) (b:=(H.alloc (.row [.int .i64 (x:Int)] e (0,0) true)).set b (.grown mm 1 ((xs ++ [x]).flatMap kC++rest) e (0,0))) ?_ (hk _ _ ⟨.inr ⟨b,mm,rest,?_,?_,q2,?_,?_⟩,?_⟩ ?_ λ c hc=>.inl ⟨by simp,hc.2⟩)
   ·simp only [Op.append,hx.dE,hx.first,qd,ha,ql,dk,h10,xa,e1,h4,aT,kp,h3,hst]
   ·rw [qg];rfl
   ·rw [FB,xk];omega
   ·rw [qg];simp at q3 ⊢;omega
   ·exact xd ..
   ·exact (h.fr.em hfr).set (.inr q2) _
   ·exact Fr.set (W:=bL (AV.gslice b 0 mm 1 0 xs.length)) (hfr.mono λ _ _ q=>q.elim) (.inl ⟨by simp,rfl⟩) _
end
end Go.Am
namespace Go.Am
open Lang
def eB (x:Int):List AV:=[.int .i64 x]
theorem wX (x:Int):(eB x).length=1:=rfl
theorem MY (l:List Int):l.flatMap eB=l.map λ x=>AV.int .i64 x:=by
 induction l with
 | nil=>rfl
 | cons a l ih=>rw [jl,ih];rfl
def CP (z:Nd × AV):List AV:=[.int .i64 z.1.k,.int .u64 z.1.n,z.2]
theorem zM (z:Nd × AV):(CP z).length=3:=rfl
abbrev gj (x:Nd) (a:AV):AV:=.agg [.int .i64 x.k,.int .u64 x.n,a]
structure eT (H:AHeap) (v:AV) (ts:List Nd):Prop where
 ex:∃ zs:List (Nd × AV),zs.map (·.1)=ts/\cU CP 3 H v zs /\ ∀ z ∈ zs,cU eB 1 H z.2 z.1.kids
section
variable {H H':AHeap} {v:AV} {ts:List Nd}
theorem eT.em (h:eT H v ts) (f:Fr Em H H'):eT H' v ts:=by
 obtain ⟨zs,h1,h2,h3⟩:=h.ex;exact ⟨zs,h1,h2.em f,λ z hz=>(h3 z hz).em f⟩
theorem eT.len (h:eT H v ts):Op.aS [v]=some (.int .i64 ts.length):=by
 obtain ⟨zs,h1,h2,h3⟩:=h.ex;rw [h2.len,<-h1,vo]
theorem eT.get (h:eT H v ts) {i:Nat} {x:Nd} (hx:ts[i]? = some x):∃ a,cU eB 1 H a x.kids/\aD a=true /\
 (∀ k,Op.aJ 3 [v,.int k (i:Int)]=some (.ptr (dK v) (eU 3 v i)))/\Op.au 3 [.ptr (dK v) (eU 3 v i)] H=some (gj x a) /\
 Op.aa [.ptr (dK v) (eU 3 v i)] H=some (.int .i64 x.k)/\Op.aa [.ptr (dK v) (eU 3 v i+1)] H=some (.int .u64 x.n)/\Op.aa [.ptr (dK v) (eU 3 v i+2)] H=some a:=by
 obtain ⟨zs,h1,h2,h3⟩:=h.ex;obtain ⟨z,hz,rfl⟩:∃ z,zs[i]? = some z/\z.1=x:=by
  rw [<-h1,xj] at hx;cases hq:zs[i]? with
  | none=>rw [hq] at hx;cases hx
  | some z=>rw [hq] at hx;injection hx with hx;exact ⟨z,rfl,hx⟩
 have ha:=h3 z (xv hz);refine ⟨z.2,ha,ha.one,λ k=>h2.idx hz rfl k,h2.au zM (by decide) hz,h2.gU zM hz (by decide),h2.aa zM hz (j:=1) (by decide),h2.aa zM hz (j:=2) (by decide)⟩
theorem eT.vP (h:eT H v ts) {i:Nat} {x:Nd} (hx:ts[i]? = some x) (f:Fr Em H H'):∃ a,cU eB 1 H a x.kids/\aD a=true /\
 (∀ k,Op.aJ 3 [v,.int k (i:Int)]=some (.ptr (dK v) (eU 3 v i)))/\Op.au 3 [.ptr (dK v) (eU 3 v i)] H'=some (gj x a) /\
 Op.aa [.ptr (dK v) (eU 3 v i)] H'=some (.int .i64 x.k)/\Op.aa [.ptr (dK v) (eU 3 v i+1)] H'=some (.int .u64 x.n)/\Op.aa [.ptr (dK v) (eU 3 v i+2)] H'=some a:=by
 obtain ⟨zs,h1,h2,h3⟩:=h.ex;obtain ⟨z,hz,rfl⟩:∃ z,zs[i]? = some z/\z.1=x:=by
  rw [<-h1,xj] at hx;cases hq:zs[i]? with
  | none=>rw [hq] at hx;cases hx
  | some z=>rw [hq] at hx;injection hx with hx;exact ⟨z,rfl,hx⟩
 have ha:=h3 z (xv hz);have h2:=h2.em f;refine ⟨z.2,ha,ha.one,λ k=>h2.idx hz rfl k,h2.au zM (by decide) hz,h2.gU zM hz (by decide),h2.aa zM hz (j:=1) (by decide),h2.aa zM hz (j:=2) (by decide)⟩
theorem cU.tE {a:AV} {ks:List Int} (h:cU eB 1 H a ks) {i:Nat} {x:Int} (hx:ks[i]? = some x):(∀ k,Op.aJ 1 [a,.int k (i:Int)]=some (.ptr (dK a) (eU 1 a i)))/\Op.aa [.ptr (dK a) (eU 1 a i)] H=some (.int .i64 x) :=
 ⟨λ k=>h.idx hx rfl k,by rw [h.gU wX hx (by decide)];rfl⟩
end
theorem JI (H:AHeap) (x:Nd) {a:AV} (ha:aD a=true) (e:Nat):Op.store 3 [.ptr H.next 0,gj x a] (H.alloc (OR [.int .i64 0,.int .u64 0,.nils] e))=some (.undef,H.alloc (OR [.int .i64 x.k,.int .u64 x.n,a] e)) :=
 JK H [.int .i64 0,.int .u64 0,.nils] e 3 (gj x a) rfl rfl (by simp [AV.cells,qyb,MH,qzr,ha])
theorem vU (H:AHeap) (x:Nd) (a:AV) (e:Nat):Op.au 3 [.ptr H.next 0] (H.alloc (OR [.int .i64 x.k,.int .u64 x.n,a] e))=some (gj x a):=xd0 H _ e (0,0) true 3 rfl
end Go.Am
namespace Go.Am
open Go.RowKit
section
variable {P:Program}
def Wt (P:Program) (t:TypeId) {Hh:Type} (d:DataW Hh):Prop:=∀ x ∈ DataW.weights P t d,x<=reachBytes
theorem q9s {Hh:Type} {e:TypeId} {x:Nat} {d:DataW Hh}:∀ {l:List (DataW Hh)},d ∈ l->x ∈ DataW.weights P e d->x ∈ DataW.weightsAll P e l
 | y::l,h,hx=>by
  rw [DataW.weightsAll,zy];rcases x8.1 h with rfl|h
  ·exact .inl hx
  ·exact .inr (q9s h hx)
def oT (P:Program) (t:TypeId) (R:AHeap->List AV->Prop):Prop :=
 (∀ H H' l,R H l->Fr Em H H'->R H' l) /\ ∀ {Hh:Type} (enc:TypeId × Value->Hh) (W:World) (held:Bool) (fuel:Nat) (cs:List Value) (d:DataW Hh) (ps:List MemPlace),
  DataW.trod enc P W 0 (λ _=>true) held fuel t cs=some (d,ps)->Wt P t d -> ∀ (θ:Th) (n:Nat) (gl:GL),Good W θ n gl -> ∃ θ' n' gl' l,Step W θ n gl θ' n' gl'/\bG (Lt n') θ' l cs/\R (yp gl' n') l
theorem OI.Nr {t:TypeId} {R:AHeap->List AV->Prop} (h:OI P t R):oT P t R:=⟨h.1,λ enc W held fuel cs d ps ht _=>h.2 enc W held fuel cs d ps ht⟩
theorem q9k {e:TypeId} {R:AHeap->List AV->Prop} (hR:oT P e R) {Hh:Type} (enc:TypeId × Value->Hh) (W:World) (held:Bool) (fuel:Nat):∀ (css:List (List Value)),(∀ cs ∈ css,∃ x,DataW.trod enc P W 0 (λ _=>true) held fuel e cs=some x/\Wt P e x.1) ->
 ∀ (θ:Th) (n:Nat) (gl:GL),Good W θ n gl -> ∃ (θ':Th) (n':Nat) (gl':GL) (ls:List (List AV)),Step W θ n gl θ' n' gl'/\bG (Lt n') θ' ls.flatten css.flatten/\ls.length=css.length /\ ∀ (i:Nat) l cs,ls[i]? = some l->css[i]? = some cs->R (yp gl' n') l/\l.length=cs.length
 | [],_,θ,n,gl,hg=>⟨θ,n,gl,[],Step.refl hg,.nil,rfl,λ i l cs h=>by simp at h⟩
 | cs::css,h,θ,n,gl,hg=>by
  obtain ⟨x,hx,hw⟩:=h cs (by simp);obtain ⟨θ1,n1,gl1,l,s1,v1,r1⟩:=hR.2 enc W held fuel cs x.1 x.2 hx hw θ n gl hg;obtain ⟨θ2,n2,gl2,ls,s2,v2,q2,q3⟩:=q9k hR enc W held fuel css (λ c hc=>h c (by simp [hc])) θ1 n1 gl1 s1.bC;refine ⟨θ2,n2,gl2,l::ls,s1.trans s2,?_,by simp [q2],λ i l' cs' h1 h2=>?_⟩
  ·rw [Kl,Kl];exact (v1.up s2.ag λ b hb=>qe hb s2.le).app v2
  ·cases i with
   | zero =>
    simp at h1 h2;subst h1;subst h2;exact ⟨hR.1 _ _ _ r1 s2.fr,v1.length.symm⟩
   | succ i=>exact q3 i l' cs' (by simpa using h1) (by simpa using h2)
def SlW (P:Program) (e:TypeId) (R:AHeap->List AV->Prop) (size:Nat) (H:AHeap) (u:AV):Prop:=Kg R size H u /\ ∀ k,dE u=some k->k*P.bytesOf e<=reachBytes
theorem q53 {t e:TypeId} {R:AHeap->List AV->Prop} (ht:P.underlying t=some (.slice e)) (hR:oT P e R) (hs:0<P.cellsOf e):oT P t λ H l=>∃ u,l=[u]/\SlW P e R (P.cellsOf e) H u:=by
 refine ⟨λ H H' l ⟨u,h1,h2,h3⟩ f=>⟨u,h1,h2.em hR.1 f,h3⟩,?_⟩;intro Hh enc W held fuel cs0 d ps h hwt θ n gl hg;cases fuel with
 | zero=>cases h
 | succ f =>
  have key:cs0=[.slice none 0 0] \/ ∃ a len cap,cs0=[.slice (some a) len cap]/\len<=cap/\(∀ i,i<len -> ∃ cs x,W.cells? 0 (a.add (i*P.cellsOf e)) (P.cellsOf e)=some cs/\DataW.trod enc P W 0 (λ _=>true) held f e cs=some x/\Wt P e x.1)/\len*P.bytesOf e<=reachBytes/\(len<cap -> ∃ cs,W.cells? 0 (a.add (len*P.cellsOf e)) (P.cellsOf e)=some cs):=by
   simp only [DataW.trod,ht] at h;split at h<;>first|(cases h;done) | skip
   all_goals first|(rename_i h1;cases h1;done) | skip
   ·left;rfl
   ·right;rename_i e' a len cap h1;injection h1 with h1;injection h1 with h1;subst h1
    split at h
    ·rename_i hb;simp only [qa,iW,xr] at h;obtain ⟨elems,he,rest,hre,hdd⟩:=h;injection hdd with hdd _
     have hw1:=hwt ((elems.length+rest.length)*P.bytesOf e) (by rw [<-hdd,DataW.weights,ht];simp);have hel0:elems.length=len:=by have:=mapM_some_length he;simpa using this
     refine ⟨a,len,cap,rfl,hb.2.1,λ i hi=>?_,xz (jm _ (by omega)) hw1,λ aT=>?_⟩
     ·have hl:=mapM_some_length he;have:=mapM_some_get he i i (by simp [hi]);have hi':i<elems.length:=by rw [hl];simpa using hi
      rw [za hi'] at this;obtain ⟨cs,q1,q2⟩:=qa.1 this;refine ⟨cs,_,q1,q2,λ x hx=>hwt x ?_⟩;rw [<-hdd,DataW.weights,ht];exact BZ _ (zy.2 (.inl (q9s (List.mem_map_of_mem (List.getElem_mem hi')) hx)))
     ·have hl:=mapM_some_length hre;have:=mapM_some_get hre 0 0 (by rw [List.getElem?_range (by omega)]);have hi':0<rest.length:=by rw [hl];simp;omega
      rw [za hi',jv] at this;obtain ⟨cs,q1,q2⟩:=qa.1 this;exact ⟨cs,q1⟩
    ·cases h
  rcases key with rfl|⟨a,len,cap,rfl,hlc,hel,hbig,hre⟩
  ·exact ⟨θ,n,gl,[.nils],Step.refl hg,λ _ _=>rfl,.nils,rfl,⟨[],by simp,⟨by simp,rfl⟩,.inl rfl⟩,(λ k hk=>by injection hk with hk;subst hk;simp)⟩
  ·obtain ⟨k,o,s⟩:=a
   by_cases h0:cap=0
   ·subst h0;have:len=0:=by omega
    subst this;have hst:=Step.Ke hg k o (ny s);refine ⟨_,_,_,[.eslice n],hst,.one ?_,.eslice n,rfl,⟨[],by simp,⟨by simp,rfl,x9 n⟩,.inr (x9 n)⟩,(λ k hk=>by injection hk with hk;subst hk;simp)⟩;intro θ' hθ;obtain ⟨q1,q2,q3⟩:=θ.dy n k o (ny s);obtain ⟨r1,r2,r3⟩:=hθ n (x9 n);simp only [ao,r1,r2,r3,q1,q2,q3,xC]
   ·have hsp:s=none:=by
     by_cases hl0:len=0
     ·subst hl0;obtain ⟨cs,hc⟩:=hre (by omega);rw [oJ] at hc;exact quz hs (by simpa [Addr.add] using hc)
     ·obtain ⟨cs,x,hc,_,_⟩:=hel 0 (by omega);rw [oJ] at hc;exact quz hs (by simpa [Addr.add] using hc)
    subst hsp
    by_cases hl0:len=0
    ·subst hl0;refine ⟨_,_,_,[.slice n 0 0 cap],Step.bare hg k o,.one ?_,.slice n 0 0 cap,rfl,⟨[],by simp,⟨by simp,rfl,ja _,.inl rfl⟩,.inr (x9 n)⟩,(λ k hk=>by injection hk with hk;subst hk;simp)⟩;have:=VR.slice (D:=Lt (n+1)) (θ:=θ.add n k o 0) (b:=n) (o:=0) (n:=0) (c:=cap) (x9 n:Lt (n+1) n);obtain ⟨q1,q2,_⟩:=θ.dy n k o 0
     simpa [ao,q1,q2] using this
    ·have hex:∀ i:Nat,∃ cs,i<len->W.cells? 0 ⟨k,o+i*P.cellsOf e,none⟩ (P.cellsOf e)=some cs /\ ∃ x,DataW.trod enc P W 0 (λ _=>true) held f e cs=some x/\Wt P e x.1:=λ i=>by
      by_cases hi:i<len
      ·obtain ⟨cs,x,h1,h2⟩:=hel i hi;rw [o7] at h1;exact ⟨cs,λ _=>⟨h1,x,h2⟩⟩
      ·exact ⟨[],λ h=>(hi h).elim⟩
     obtain ⟨F,hF⟩:=Classical.axiomOfChoice hex
     let css:=(List.range len).map F
     have hcl:css.length=len:=by simp [css]
     have hcg:∀ (i:Nat) c,css[i]? = some c->i<len/\c=F i:=λ i c hc=>by
      simp only [css,xj,xr] at hc;obtain ⟨j,hj,rfl⟩:=hc;have hi:i<len:=by have:=BH hj;simpa using this
      rw [List.getElem?_range hi] at hj;injection hj with hj;subst hj
      exact ⟨hi,rfl⟩
     obtain ⟨arr,e',fz,hh,_,_⟩:=Mo hs (hF 0 (by omega)).1;obtain ⟨arr',e2,fz2,hh',_,hle⟩:=Mo hs (hF (len-1) (by omega)).1;rw [hh] at hh';injection hh' with hh';injection hh' with q1 q2 q3;subst q1
     have hmul:(len-1)*P.cellsOf e+P.cellsOf e=len*P.cellsOf e:=by rw [<-qI];congr 1;omega
     have hone:∀ (i:Nat) c,css[i]? = some c->c=(arr.toList.drop (o+i*P.cellsOf e)).take (P.cellsOf e)/\c.length=P.cellsOf e:=λ i c hc=>by
      obtain ⟨hi,rfl⟩:=hcg i c hc;obtain ⟨arr',e2,fz2,hh',h6,h7⟩:=Mo hs (hF i hi).1;rw [hh] at hh';injection hh' with hh';injection hh' with q1 q2 q3;subst q1
      exact ⟨h6,by rw [h6];simp;omega⟩
     have hcat:css.flatten=(arr.toList.drop o).take (len*P.cellsOf e):=by rw [qws hone,hcl]
     obtain ⟨θ1,n1,gl1,ls,s1,v1,l1,r1⟩:=q9k hR enc W held f css (λ c hc=>by
      obtain ⟨i,hi⟩:=J8.1 hc;obtain ⟨hi',rfl⟩:=hcg i c hi;exact (hF i hi').2) θ n gl hg
     rw [hcat] at v1;have hsz:o+len*P.cellsOf e<=arr.size:=by omega
     have hls:ls.length=len:=by rw [l1,hcl]
     have hflen:ls.flatten.length=len*P.cellsOf e:=by rw [<-v1.length,ky,tY,wx];omega
     have hrow:=Step.row (l:=ls.flatten) (k:=k) (off:=o) (pre:=arr.toList.take o) (cs:=(arr.toList.drop o).take (len*P.cellsOf e)) (post:=arr.toList.drop (o+len*P.cellsOf e)) (e:=e') (fz:=fz) s1.bC (by
      rw [hh];congr 2;have hq:arr.toList.take o++(arr.toList.drop o).take (len*P.cellsOf e)++arr.toList.drop (o+len*P.cellsOf e)=arr.toList:=by
       rw [qt,<-Co,BC,BC]
      rw [hq]) (by simp;omega) v1
     refine ⟨_,_,_,[.slice n1 0 len cap],s1.trans hrow,.one ?_,.slice n1 0 len cap,rfl,⟨ls,λ l hl=>?_,⟨by rw [hflen,hls],hls.symm,by rw [hls];exact hlc,.inr ⟨x9 n1,ls.flatten,qy (fz:=(0,0)) (e:=0) (ow:=false) ?_,?_⟩⟩,.inr (x9 n1)⟩,λ k hk=>by injection hk with hk;subst hk;exact hbig⟩
     ·have:=VR.slice (D:=Lt (n1+1)) (θ:=θ1.add n1 k o 0) (b:=n1) (o:=0) (n:=len) (c:=cap) (x9 n1:Lt (n1+1) n1);obtain ⟨q1,q2,_⟩:=θ1.dy n1 k o 0
      simpa [ao,q1,q2] using this
     ·obtain ⟨i,hi⟩:=J8.1 hl;have hil:i<css.length:=by rw [<-l1];exact BH hi
      obtain ⟨q1,q2⟩:=r1 i l css[i] hi (by simp [hil]);exact ⟨hR.1 _ _ _ q1 hrow.fr,by rw [q2];exact (hone i _ (by simp [hil])).2⟩
     ·show (yA ((n1,ls.flatten)::gl1) .nil).get n1=_;rw [yA,T.aI,qk rfl]
     ·rw [hls,mB,qk (by omega),xq,xo (by omega)]
def Cm:List (AHeap->List AV->Prop)->AHeap->List AV->Prop
 | [],_,l=>l=[]
 | R::Rs,H,l=>∃ a b,l=a++b/\R H a/\Cm Rs H b
theorem Cm.em:∀ {Rs:List (AHeap->List AV->Prop)},(∀ R ∈ Rs,∀ H H' l,R H l->Fr Em H H'->R H' l) -> ∀ H H' l,Cm Rs H l->Fr Em H H'->Cm Rs H' l
 | [],_,_,_,_,h,_=>h
 | R::Rs,hm,H,H',l,⟨a,b,h1,h2,h3⟩,f=>⟨a,b,h1,hm R (by simp) _ _ _ h2 f,Cm.em (λ S hS=>hm S (by simp [hS])) _ _ _ h3 f⟩
theorem q52 {Hh:Type} (enc:TypeId × Value->Hh) (W:World) (held:Bool) (fuel:Nat) {cs:List Value}:∀ {fs:List (TypeId × Nat × (AHeap->List AV->Prop))} {k:Nat} {xs:List (DataW Hh × List MemPlace)},
 (∀ f ∈ fs,oT P f.1 f.2.2)->(∀ (j:Nat) f,fs[j]? = some f->f.2.1=k+((fs.take j).map λ f=>P.cellsOf f.1).sum) ->
 fs.mapM (λ f=>DataW.trod enc P W 0 (λ _=>true) held fuel f.1 ((cs.drop f.2.1).take (P.cellsOf f.1)))=some xs->(∀ x ∈ DataW.weightsEach P (fs.map (·.1)) (xs.map (·.1)),x<=reachBytes) ->
 k+(fs.map λ f=>P.cellsOf f.1).sum<=cs.length -> ∀ (θ:Th) (n:Nat) (gl:GL),Good W θ n gl ->
 ∃ θ' n' gl' l,Step W θ n gl θ' n' gl'/\bG (Lt n') θ' l ((cs.drop k).take ((fs.map λ f=>P.cellsOf f.1).sum))/\Cm (fs.map (·.2.2)) (yp gl' n') l
 | [],k,xs,_,_,_,_,_,θ,n,gl,hg=>⟨θ,n,gl,[],Step.refl hg,by simpa using bG.nil,rfl⟩
 | f::fs,k,xs,hf,ho,hm,hw,hl,θ,n,gl,hg=>by
  simp only [DL,Option.bind_eq_bind,qa,Option.pure_def,qb] at hm;obtain ⟨y,hy,ys,hys,rfl⟩:=hm;simp only [xx,DataW.weightsEach,zy] at hw;have h0:f.2.1=k:=by have:=ho 0 f rfl;simpa using this
  obtain ⟨θ1,n1,gl1,a,s1,v1,r1⟩:=(hf f (by simp)).2 enc W held fuel _ y.1 y.2 hy (λ x hx=>hw x (.inl hx)) θ n gl hg;simp only [xx,DN] at hl;obtain ⟨θ2,n2,gl2,b,s2,v2,r2⟩:=q52 enc W held fuel (cs:=cs) (fs:=fs) (k:=k+P.cellsOf f.1) (λ g hg=>hf g (by simp [hg])) (λ j g hg=>by
   have:=ho (j+1) g (by simpa using hg);simp only [z9,xx,DN] at this;omega) hys (λ x hx=>hw x (.inr hx)) (by omega) θ1 n1 gl1 s1.bC
  refine ⟨θ2,n2,gl2,a++b,s1.trans s2,?_,a,b,rfl,(hf f (by simp)).1 _ _ _ r1 s2.fr,r2⟩;rw [h0] at v1;rw [xx,DN,List.take_add,Co];exact (v1.up s2.ag λ b hb=>qe hb s2.le).app v2
theorem q88 {H:Type} {g:TypeId->List Value->Option (DataW H × List MemPlace)} {cs:List Value}:∀ {fs:List Field} {Rs:List (AHeap->List AV->Prop)},fs.length=Rs.length ->
 fs.mapM (λ f=>g f.type ((cs.drop f.offset).take (P.cellsOf f.type)))=((fs.zip Rs).map λ x=>(x.1.type,x.1.offset,x.2)).mapM (λ f=>g f.1 ((cs.drop f.2.1).take (P.cellsOf f.1)))
 | [],[],_=>rfl
 | f::fs,R::Rs,h=>by simp only [Fz,xx,DL,q88 (fs:=fs) (Rs:=Rs) (by simpa using h)]
theorem xbs {t:TypeId} {fs:Array Field} {Rs:List (AHeap->List AV->Prop)} (h:P.underlying t=some (.struct fs)) (hn:fs.toList.length=Rs.length) (hR:∀ x ∈ fs.toList.zip Rs,oT P x.1.type x.2)
 (ho:Gp P 0 fs.toList=true) (hc:(fs.toList.map λ f=>P.cellsOf f.type).sum=P.cellsOf t):oT P t λ H l=>Cm Rs H l:=by
 refine ⟨Cm.em λ R hR'=>?_,?_⟩
 ·obtain ⟨i,hi⟩:=J8.1 hR';have hil:i<fs.toList.length:=by rw [hn];exact BH hi
  have hz:(fs.toList.zip Rs)[i]? = some (fs.toList[i],R):=by rw [List.getElem?_zip_eq_some];exact ⟨by simp [za hil],hi⟩
  exact (hR _ (xv hz)).1
 intro Hh enc W held fuel cs d ps ht hwt θ n gl hg;cases fuel with
 | zero=>cases ht
 | succ f =>
  have hlen:cs.length=P.cellsOf t /\ ∃ xs,fs.toList.mapM (λ g=>DataW.trod enc P W 0 (λ _=>true) held f g.type ((cs.drop g.offset).take (P.cellsOf g.type)))=some xs /\ ∀ x ∈ DataW.weightsEach P (fs.toList.map (·.type)) (xs.map (·.1)),x<=reachBytes:=by
   simp only [DataW.trod,h] at ht;split at ht
   ·rename_i hl;obtain ⟨xs,hm,hdd⟩:=xr.1 ht;injection hdd with hdd _
    exact ⟨hl,xs,hm,λ x hx=>hwt x (by rw [<-hdd,DataW.weights,h];exact hx)⟩
   ·cases ht
  obtain ⟨hl,xs,hm,hw⟩:=hlen;rw [q88 (Rs:=Rs) hn] at hm;have e1:((fs.toList.zip Rs).map λ x=>(x.1.type,x.1.offset,x.2)).map (λ f=>P.cellsOf f.1)=fs.toList.map λ f=>P.cellsOf f.type:=by
   rw [vu];have:((fs.toList.zip Rs).map λ x=>P.cellsOf x.1.type)=(fs.toList.zip Rs |>.map Prod.fst).map λ f=>P.cellsOf f.type:=by rw [vu];rfl
   rw [List.map_fst_zip (by omega)] at this;exact this
  have e0:((fs.toList.zip Rs).map λ x=>(x.1.type,x.1.offset,x.2)).map (·.1)=fs.toList.map (·.type):=by
   rw [vu];have:((fs.toList.zip Rs).map λ x=>x.1.type)=(fs.toList.zip Rs |>.map Prod.fst).map (·.type):=by rw [vu];rfl
   rw [List.map_fst_zip (by omega)] at this;exact this
  have e2:((fs.toList.zip Rs).map λ x=>(x.1.type,x.1.offset,x.2)).map (·.2.2)=Rs:=by
   rw [vu];have:((fs.toList.zip Rs).map λ x=>x.2)=Rs:=by rw [List.map_snd_zip (by omega)]
   exact this
  obtain ⟨θ',n',gl',l,s,v,r⟩:=q52 enc W held f (cs:=cs) (k:=0) (fs:=(fs.toList.zip Rs).map λ x=>(x.1.type,x.1.offset,x.2)) (λ g hg=>by
   obtain ⟨x,hx,rfl⟩:=DH.1 hg;exact hR x hx) (λ j g hg=>by
   simp only [xj,xr,List.getElem?_zip_eq_some] at hg;obtain ⟨x,⟨hx1,hx2⟩,rfl⟩:=hg;have:=q81 ho j x.1 hx1;rw [List.map_take,e1,<-List.map_take];exact this) hm (by rw [e0];exact hw) (by rw [e1,hc,hl];omega) θ n gl hg
  rw [e2] at r;rw [e1,hc,xq,xo (by omega)] at v;exact ⟨θ',n',gl',l,s,v,r⟩
end
end Go.Am
namespace Go.Am
open Go.RowKit Lang
section
variable {P:Program}
theorem oT.imp {t:TypeId} {R R':AHeap->List AV->Prop} (h:oT P t R) (hm:∀ H H' l,R' H l->Fr Em H H'->R' H' l) (hi:∀ H l,R H l->R' H l):oT P t R' :=
 ⟨hm,λ enc W held fuel cs d ps ht hw θ n gl hg=>by
  obtain ⟨θ',n',gl',l,s,v,r⟩:=h.2 enc W held fuel cs d ps ht hw θ n gl hg;exact ⟨θ',n',gl',l,s,v,hi _ _ r⟩⟩
theorem q9u {α β:Type} {f:α->TypeId} {Q:TypeId -> β->Prop}:∀ (l:List α) (R:List β),(∀ x ∈ (l.map f).zip R,Q x.1 x.2) -> ∀ x ∈ l.zip R,Q (f x.1) x.2
 | [],_,_,x,h=>by simp at h
 | _::_,[],_,x,h=>by simp at h
 | a::l,b::R,hq,x,h=>by
  rcases x8.1 h with rfl|h
  ·exact hq (f a,b) (by simp)
  ·exact q9u l R (λ y hy=>hq y (by simp [hy])) x h
theorem q9j {tK tI:TypeId} {k:IntKind} (uK:P.underlying tK=some (.slice tI)) (uI:P.underlying tI=some (.int k)) (cI:P.cellsOf tI=1) :
 oT P tK λ H l=>∃ u,l=[u] /\ ∃ xs:List Int,cU (λ x=>[AV.int k x]) 1 H u xs/\xs.length*P.bytesOf tI<=reachBytes /\ ∀ x ∈ xs,(Lit.int k x).wf=true:=by
 refine (q53 uK (OD (Jb uI)).Nr (by rw [cI];decide)).imp ?_ λ H l h=>?_
 ·rintro H H' l ⟨u,h1,xs,h2,h3,h4⟩ f;exact ⟨u,h1,xs,h2.em f,h3,h4⟩
 ·obtain ⟨u,rfl,h1,h2⟩:=h;rw [cI] at h1;obtain ⟨xs,h3,h4⟩:=vW (enc:=λ x=>[AV.int k x]) (Q:=λ x=>(Lit.int k x).wf=true) (λ l h=>by obtain ⟨n,h1,h2⟩:=h;exact ⟨n,h1,h2⟩) h1;exact ⟨u,rfl,xs,h3,h2 _ (Sl.dE h3),h4⟩
theorem tL {k:IntKind} {n:Int} (h:(Lit.int k n).wf=true):k.min<=n/\n<=k.max:=by
 simpa only [Lit.wf,qx,yh] using h
theorem ng {n:Int} (h:(Lit.int .u64 n).wf=true):0<=n/\n<18446744073709551616:=by
 have:=tL h;have h1:IntKind.max .u64=18446744073709551615:=by decide
 have h2:IntKind.min .u64=0:=by decide
 omega
structure sP (H:AHeap) (u:AV) (ts:List Nd):Prop where
 IA:eT H u ts
 len:ts.length*40<=reachBytes
 kids:∀ x ∈ ts,x.kids.length*8<=reachBytes
 lo:∀ x ∈ ts,0<=x.n
 hi:∀ x ∈ ts,x.n<18446744073709551616
theorem xep {tS tN tK tI tU:TypeId} {fs:Array Field} (uS:P.underlying tS=some (.slice tN)) (uN:P.underlying tN=some (.struct fs)) (hty:fs.toList.map (·.type)=[tI,tU,tK]) (uI:P.underlying tI=some (.int .i64)) (uU:P.underlying tU=some (.int .u64)) (uK:P.underlying tK=some (.slice tI))
 (cI:P.cellsOf tI=1) (cN:P.cellsOf tN=3) (ho:Gp P 0 fs.toList=true) (hc:(fs.toList.map λ f=>P.cellsOf f.type).sum=P.cellsOf tN) (bI:P.bytesOf tI=8) (bN:P.bytesOf tN=40) :
 oT P tS λ H l=>∃ u ts,l=[u]/\sP H u ts:=by
 have hn:fs.toList.length=3:=by have:=congrArg List.length hty;simpa using this
 have hN:=xbs (Rs:=[λ _ l=>kY .i64 l,λ _ l=>kY .u64 l,λ H l=>∃ u,l=[u] /\ ∃ xs:List Int,cU (λ x=>[AV.int .i64 x]) 1 H u xs/\xs.length*P.bytesOf tI<=reachBytes /\ ∀ x ∈ xs,(Lit.int .i64 x).wf=true]) uN (by rw [hn];rfl)
  (q9u (f:=Field.type) (Q:=oT P) _ _ (by
   rw [hty];intro x hx;simp only [Fz,List.zip_nil_right,x8,List.mem_nil_iff,or_false] at hx;rcases hx with rfl|rfl|rfl
   ·exact (OD (Jb uI)).Nr
   ·exact (OD (Jb uU)).Nr
   ·exact q9j uK uI cI)) ho hc
 refine (q53 uS hN (by rw [cN];decide)).imp ?_ λ H l h=>?_
 ·rintro H H' l ⟨u,ts,h1,h2⟩ f;exact ⟨u,ts,h1,h2.IA.em f,h2.len,h2.kids,h2.lo,h2.hi⟩
 ·obtain ⟨u,rfl,h1,h2⟩:=h;rw [cN] at h1;obtain ⟨zs,h3,h4⟩:=vW (enc:=CP) (Q:=λ z=>cU eB 1 H z.2 z.1.kids/\z.1.kids.length*8<=reachBytes/\0<=z.1.n/\z.1.n<18446744073709551616) (λ l h=>by
   obtain ⟨_,_,rfl,⟨k,rfl,_⟩,_,_,rfl,⟨n,rfl,hw⟩,_,_,rfl,⟨v,rfl,xs,q1,q2,_⟩,rfl⟩:=h;have:=ng hw;rw [bI] at q2;exact ⟨(⟨k,n,xs⟩,v),rfl,q1,q2,this.1,this.2⟩) h1
  refine ⟨u,zs.map (·.1),rfl,⟨⟨zs,rfl,h3,λ z hz=>(h4 z hz).1⟩,?_,?_,?_,?_⟩⟩
  ·rw [vo,<-bN];exact h2 _ (Sl.dE h3)
  ·intro x hx;obtain ⟨z,hz,rfl⟩:=DH.1 hx;exact (h4 z hz).2.1
  ·intro x hx;obtain ⟨z,hz,rfl⟩:=DH.1 hx;exact (h4 z hz).2.2.1
  ·intro x hx;obtain ⟨z,hz,rfl⟩:=DH.1 hx;exact (h4 z hz).2.2.2
end
end Go.Am
namespace Go.Am
namespace Lang
structure bB where
 op:Int
 a:Int
 b:Int
 c:Int
 mA:Int
structure CW where
 l:List bB
 d:Bool
structure cF where
 vars:Int
 base:Int
 many:Int
def cF.ok (f:cF):Prop:=0<=f.vars/\f.vars<=4096/\0<=f.base/\f.base<=4096/\0<=f.many/\f.many<=4096
def CW.put (w:CW) (x:bB):CW:=⟨w.l ++ [x],w.d⟩
def CW.goto (w:CW) (i:Nat):CW:=⟨w.l.modify i λ x=>{ x with mA:=((w.l.length:Nat):Int) },w.d⟩
def CW.bounds (f:cF) (r:Nat) (w:CW):CW:=CW.goto (((w.put ⟨2,6,0,0,f.many⟩).put ⟨16,(r:Nat),6,0,0⟩).put ⟨0,0,0,0,0⟩) (w.l.length+1)
def Ex.cmp (f:cF):Ex->Nat->CW->CW
 | .num n,r,w=>if 6<=r then ⟨w.l,true⟩ else w.put ⟨2,(r:Nat),0,0,ae .i64 (n:Nat)⟩
 | .var v,r,w=>if 6<=r then ⟨w.l,true⟩ else w.put ⟨11,(r:Nat),7,0,f.vars+(v:Nat)⟩
 | .load a,r,w=>if 6<=r then ⟨w.l,true⟩ else ((a.cmp f r w).bounds f r).put ⟨11,(r:Nat),(r:Nat),0,f.base⟩
 | .bin o a b,r,w=>if 6<=r then ⟨w.l,true⟩ else (b.cmp f (r+1) (a.cmp f r w)).put ⟨(o:Nat),(r:Nat),(r:Nat),((r+1:Nat):Int),0⟩
def Cn.cmp (f:cF) (c:Cn) (w:CW):CW :=
 let v:=c.b.cmp f 1 (c.a.cmp f 0 w)
 CW.goto ((v.put ⟨((c.k+3:Nat):Int),0,1,0,0⟩).put ⟨13,0,0,0,0⟩) v.l.length
mutual
def St.cmp (f:cF):St->CW->CW
 | .set v a,w=>(a.cmp f 0 w).put ⟨12,0,7,0,f.vars+(v:Nat)⟩
 | .store a b,w=>((b.cmp f 1 (a.cmp f 0 w)).bounds f 0).put ⟨12,1,0,0,f.base⟩
 | .ite c l,w=>(l.cmp f (c.cmp f w)).goto ((c.cmp f w).l.length-1)
 | .cG c l e,w =>
  let v:=l.cmp f (c.cmp f w)
  (e.cmp f ((v.put ⟨13,0,0,0,0⟩).goto ((c.cmp f w).l.length-1))).goto v.l.length
 | .loop c l,w=>CW.goto ((l.cmp f (c.cmp f w)).put ⟨13,0,0,0,((w.l.length:Nat):Int)⟩) ((c.cmp f w).l.length-1)
 | .atom l,w=>(l.cmp f (w.put ⟨17,0,0,0,0⟩)).put ⟨18,0,0,0,0⟩
 | .halt,w=>w.put ⟨1,0,0,0,0⟩
def Ls.cmp (f:cF):Ls->CW->CW
 | .nil,w=>w
 | .cons s l,w=>l.cmp f (s.cmp f w)
end
theorem CW.aZ (w:CW) (x:bB):(w.put x).l.length=w.l.length+1:=by simp [CW.put]
theorem CW.gY (w:CW) (x:bB):(w.put x).d=w.d:=rfl
theorem CW.dI (w:CW) (i:Nat):(w.goto i).l.length=w.l.length:=by simp [CW.goto]
theorem CW.nx (w:CW) (i:Nat):(w.goto i).d=w.d:=rfl
theorem CW.gx (f:cF) (r:Nat) (w:CW):(w.bounds f r).l.length=w.l.length+3:=by simp [CW.bounds,CW.dI,CW.aZ]
theorem CW.oI (f:cF) (r:Nat) (w:CW):(w.bounds f r).d=w.d:=rfl
theorem Ex.aV (f:cF):∀ (x:Ex) (r:Nat) (w:CW),w.l.length<=(x.cmp f r w).l.length/\(x.cmp f r w).l.length<=w.l.length+4*x.sz
 | .num n,r,w=>by simp only [Ex.cmp,Ex.sz];split<;>simp [CW.aZ]
 | .var v,r,w=>by simp only [Ex.cmp,Ex.sz];split<;>simp [CW.aZ]
 | .load a,r,w=>by
  have:=a.aV f r w;simp only [Ex.cmp,Ex.sz];split<;>simp only [CW.aZ,CW.gx]<;>omega
 | .bin o a b,r,w=>by
  have:=a.aV f r w;have:=b.aV f (r+1) (a.cmp f r w);simp only [Ex.cmp,Ex.sz];split<;>simp only [CW.aZ]<;>omega
theorem Cn.aV (f:cF) (c:Cn) (w:CW):w.l.length+2<=(c.cmp f w).l.length/\(c.cmp f w).l.length<=w.l.length+4*c.sz:=by
 have:=c.a.aV f 0 w;have:=c.b.aV f 1 (c.a.cmp f 0 w);simp only [Cn.cmp,Cn.sz,CW.dI,CW.aZ];omega
mutual
theorem St.aV (f:cF):∀ (x:St) (w:CW),w.l.length<=(x.cmp f w).l.length/\(x.cmp f w).l.length<=w.l.length+4*x.sz
 | .set v a,w=>by
  have:=a.aV f 0 w;simp only [St.cmp,St.sz,CW.aZ];omega
 | .store a b,w=>by
  have:=a.aV f 0 w;have:=b.aV f 1 (a.cmp f 0 w);simp only [St.cmp,St.sz,CW.aZ,CW.gx];omega
 | .ite c l,w=>by
  have:=c.aV f w;have:=l.aV f (c.cmp f w);simp only [St.cmp,St.sz,CW.dI];omega
 | .cG c l e,w=>by
  have:=c.aV f w;have:=l.aV f (c.cmp f w);have:=e.aV f (((l.cmp f (c.cmp f w)).put ⟨13,0,0,0,0⟩).goto ((c.cmp f w).l.length-1));simp only [CW.dI,CW.aZ] at this;simp only [St.cmp,St.sz,CW.dI];omega
 | .loop c l,w=>by
  have:=c.aV f w;have:=l.aV f (c.cmp f w);simp only [St.cmp,St.sz,CW.dI,CW.aZ];omega
 | .atom l,w=>by
  have:=l.aV f (w.put ⟨17,0,0,0,0⟩);simp only [CW.aZ] at this;simp only [St.cmp,St.sz,CW.aZ];omega
 | .halt,w=>by simp [St.cmp,St.sz,CW.aZ]
theorem Ls.aV (f:cF):∀ (x:Ls) (w:CW),w.l.length<=(x.cmp f w).l.length/\(x.cmp f w).l.length<=w.l.length+4*x.sz
 | .nil,w=>by simp [Ls.cmp]
 | .cons s l,w=>by
  have:=s.aV f w;have:=l.aV f (s.cmp f w);simp only [Ls.cmp,Ls.sz];omega
end
def Ex.cS:Ex->Nat
 | .num _=>1
 | .var _=>1
 | .load a=>a.cS
 | .bin _ a b=>max a.cS (1+b.cS)
theorem Ex.ir:∀ (x:Ex),1<=x.cS
 | .num _=>qf _
 | .var _=>qf _
 | .load a=>a.ir
 | .bin _ a b=>xz a.ir (Nat.le_max_left ..)
def It.fb:It->Bool
 | .c q=>decide (6<q.a.cS) || decide (6<1+q.b.cS)
 | .s (.set _ a)=>decide (6<a.cS)
 | .s (.store a b)=>decide (6<a.cS) || decide (6<1+b.cS)
 | _=>false
def Ex.all:Ex->List It
 | .num n=>[.e (.num n)]
 | .var n=>[.e (.var n)]
 | .load a=>a.all ++ [.e (.load a)]
 | .bin o a b=>a.all++(b.all ++ [.e (.bin o a b)])
def Cn.all (c:Cn):List It:=c.a.all++(c.b.all ++ [.c c])
mutual
def St.all:St->List It
 | .set v a=>a.all ++ [.s (.set v a)]
 | .store a b=>a.all++(b.all ++ [.s (.store a b)])
 | .ite c l=>c.all++((l.all ++ [.l l]) ++ [.s (.ite c l)])
 | .cG c l e=>c.all++((l.all ++ [.l l])++((e.all ++ [.l e]) ++ [.s (.cG c l e)]))
 | .loop c l=>c.all++((l.all ++ [.l l]) ++ [.s (.loop c l)])
 | .atom l=>(l.all ++ [.l l]) ++ [.s (.atom l)]
 | .halt=>[.s .halt]
def Ls.all:Ls->List It
 | .nil=>[]
 | .cons s l=>s.all++l.all
end
def It.all:It->List It
 | .e x=>x.all
 | .c x=>x.all
 | .s x=>x.all
 | .l x=>x.all ++ [It.l x]
def fE:List It->List It
 | []=>[]
 | x::r=>x.all++fE r
theorem Ls.qF:∀ (l:Ls),fE l.kL=l.all
 | .nil=>by simp [Ls.kL,fE,Ls.all]
 | .cons s l=>by simp [Ls.kL,fE,Ls.all,It.all,l.qF]
theorem It.all_eq (x:It):x.all=fE x.ks ++ [x]:=by
 match x with
 | .e (.num _)=>simp [It.all,Ex.all,It.ks,fE]
 | .e (.var _)=>simp [It.all,Ex.all,It.ks,fE]
 | .e (.load a)=>simp [It.all,Ex.all,It.ks,fE]
 | .e (.bin o a b)=>simp [It.all,Ex.all,It.ks,fE]
 | .c q=>simp [It.all,Cn.all,It.ks,fE]
 | .s (.set _ a)=>simp [It.all,St.all,It.ks,fE]
 | .s (.store a b)=>simp [It.all,St.all,It.ks,fE]
 | .s (.ite q m)=>simp [It.all,St.all,It.ks,fE]
 | .s (.cG q m w)=>simp [It.all,St.all,It.ks,fE]
 | .s (.loop q m)=>simp [It.all,St.all,It.ks,fE]
 | .s (.atom m)=>simp [It.all,St.all,It.ks,fE]
 | .s .halt=>simp [It.all,St.all,It.ks,fE]
 | .l m=>simp [It.all,It.ks,m.qF]
theorem q8q:∀ (m:Nat) (f:List It),dF f<=m->(fE f).length=dF f:=by
 intro m
 induction m with
 | zero =>
  intro f hm;cases f with
  | nil=>rfl
  | cons x r=>have:=x.pos;simp only [dF] at hm;omega
 | succ m ih =>
  intro f hm;cases f with
  | nil=>rfl
  | cons x r =>
   have hs:=x.kO;have hp:=x.pos;simp only [dF] at hm;have h1:=ih x.ks (by omega);have h2:=ih r (by omega);simp only [fE,dF,qg,It.all_eq,qn,qw];omega
theorem It.nH (x:It):x.all.length=x.sz:=by
 have:=q8q _ x.ks (qf _);have hs:=x.kO;rw [x.all_eq,qg,this,qn,qw];omega
theorem It.at (t:List Nd):∀ (m:Nat) (f:List It) (b n:Nat) (y:It),dF f<=m->(∀ y ∈ f,y.ok)->bj t b (cq f b)->(fE f)[n]? = some y -> ∃ c,y.ok/\bj t c (y.enc c)/\b+n=c+y.sz-1:=by
 intro m
 induction m with
 | zero =>
  intro f b n y hm _ _ h;cases f with
  | nil=>cases h
  | cons x r=>have:=x.pos;simp only [dF] at hm;omega
 | succ m ih =>
  intro f b n y hm hok hs h;cases f with
  | nil=>cases h
  | cons x r =>
   obtain ⟨s1,s2⟩:=hs.cons;have hx:=hok x (by simp);have hsz:=x.kO;have hp:=x.pos;simp only [dF] at hm;simp only [fE] at h;rcases kg n x.sz with q|q
   ·rw [xi (by rw [x.nH];exact q),x.all_eq] at h;have hl:=q8q _ x.ks (qf _)
    by_cases hn:n=x.sz-1
    ·rw [xn (by omega),hl,hn,show x.sz-1-dF x.ks=0 by omega] at h;injection h with h;subst h
     exact ⟨b,hx,s1,by omega⟩
    ·rw [xi (by omega)] at h;exact ih x.ks b n y (by omega) (x.kM hx).2.1 s1.nd.2 h
   ·rw [xn (by rw [x.nH];exact q),x.nH] at h;obtain ⟨c,k1,k2,k3⟩:=ih r (b+x.sz) (n-x.sz) y (by omega) (λ y hy=>hok y (by simp [hy])) s2 h;exact ⟨c,k1,k2,by omega⟩
theorem Ls.at {p:Ls} (hp:p.ok) {n:Nat} {y:It} (h:((It.l p).all)[n]? = some y):∃ c,y.ok/\bj (p.cu 0) c (y.enc c)/\n=c+y.sz-1:=by
 obtain ⟨c,h1,h2,h3⟩:=It.at (p.cu 0) (dF [.l p]) [.l p] 0 n y (qf _) (λ y hy=>by rw [yk.1 hy];exact hp) (by
  have e:cq [.l p] 0=p.cu 0:=by simp [cq,It.enc]
  rw [e];exact bj.all _) (by simpa [fE] using h)
 exact ⟨c,h1,h2,by omega⟩
theorem Ex.dG:∀ (x:Ex),x.all.any It.fb=false
 | .num _=>rfl
 | .var _=>rfl
 | .load a=>by simp only [Ex.all,yM,a.dG,Bf,Bc,It.fb,rR]
 | .bin o a b=>by simp only [Ex.all,yM,a.dG,b.dG,Bf,Bc,It.fb,rR]
theorem Cn.dG (c:Cn):c.all.any It.fb=(It.c c).fb:=by
 simp only [Cn.all,yM,Ex.dG,Bf,Bc,rR,Bool.false_or]
theorem Ex.dT (f:cF):∀ (x:Ex) (r:Nat) (w:CW),(x.cmp f r w).d=(w.d || decide (6<r+x.cS))
 | .num n,r,w=>by
  show _=(w.d || decide (6<r+1));simp only [Ex.cmp];split
  ·rw [jd (by omega),Bool.or_true]
  ·rw [jf (by omega),rR,CW.gY]
 | .var n,r,w=>by
  show _=(w.d || decide (6<r+1));simp only [Ex.cmp];split
  ·rw [jd (by omega),Bool.or_true]
  ·rw [jf (by omega),rR,CW.gY]
 | .load a,r,w=>by
  have:=a.ir;show _=(w.d || decide (6<r+a.cS));simp only [Ex.cmp];split
  ·rw [jd (by omega),Bool.or_true]
  ·rw [CW.gY,CW.oI,a.dT f r w]
 | .bin o a b,r,w=>by
  have:=a.ir;show _=(w.d || decide (6<r+max a.cS (1+b.cS)));simp only [Ex.cmp];split
  ·rw [jd (by omega),Bool.or_true]
  ·rw [CW.gY,b.dT f,a.dT f,Fg];congr 1;have hm:max a.cS (1+b.cS)=a.cS/\1+b.cS<=a.cS\/max a.cS (1+b.cS)=1+b.cS/\a.cS<=1+b.cS:=by
    rcases Nat.le_total a.cS (1+b.cS) with q|q
    ·exact .inr ⟨Nat.max_eq_right q,q⟩
    ·exact .inl ⟨Nat.max_eq_left q,q⟩
   generalize max a.cS (1+b.cS)=m at hm ⊢
   by_cases h1:6<r+a.cS
   ·rw [jd h1,Bool.true_or,jd (show 6<r+m by omega)]
   ·by_cases h2:6<r+1+b.cS
    ·rw [jd h2,Bool.or_true,jd (show 6<r+m by omega)]
    ·rw [jf h1,jf h2,jf (show ¬ 6<r+m by omega)];rfl
theorem Cn.dT (f:cF) (c:Cn) (w:CW):(c.cmp f w).d=(w.d || (It.c c).fb):=by
 simp only [Cn.cmp,CW.nx,CW.gY,Ex.dT,It.fb,x6,Fg]
mutual
theorem St.dT (f:cF):∀ (x:St) (w:CW),(x.cmp f w).d=(w.d || x.all.any It.fb)
 | .set v a,w=>by simp only [St.cmp,St.all,CW.gY,Ex.dT,yM,Ex.dG,Bf,Bc,It.fb,x6,rR,Bool.false_or]
 | .store a b,w=>by simp only [St.cmp,St.all,CW.gY,CW.oI,Ex.dT,yM,Ex.dG,Bf,Bc,It.fb,x6,rR,Bool.false_or,Fg]
 | .ite c l,w=>by simp only [St.cmp,St.all,CW.nx,l.dT f,Cn.dT,yM,Cn.dG,Bf,Bc,It.fb,rR,Fg]
 | .cG c l e,w=>by simp only [St.cmp,St.all,CW.nx,CW.gY,e.dT f,l.dT f,Cn.dT,yM,Cn.dG,Bf,Bc,It.fb,rR,Fg]
 | .loop c l,w=>by simp only [St.cmp,St.all,CW.nx,CW.gY,l.dT f,Cn.dT,yM,Cn.dG,Bf,Bc,It.fb,rR,Fg]
 | .atom l,w=>by simp only [St.cmp,St.all,CW.gY,l.dT f,yM,Bf,Bc,It.fb,rR]
 | .halt,w=>by simp [St.cmp,St.all,CW.gY,It.fb]
theorem Ls.dT (f:cF):∀ (x:Ls) (w:CW),(x.cmp f w).d=(w.d || x.all.any It.fb)
 | .nil,w=>by simp [Ls.cmp,Ls.all]
 | .cons s l,w=>by simp only [Ls.cmp,Ls.all,l.dT f,s.dT f,yM,Fg]
end
end Lang
end Go.Am
namespace Go.Am
namespace Lang
def jX (o:Nat) (x y:Int):Int :=
 if o=4 then ae .u64 (x+y) else if o=5 then ae .u64 (x-y) else if o=6 then ae .u64 (x*y)
 else if o=7 then ae .u64 ((BitVec.ofInt 64 x &&& BitVec.ofInt 64 y).toNat) else if o=8 then ae .u64 ((BitVec.ofInt 64 x ^^^ BitVec.ofInt 64 y).toNat)
 else if o=9 then ae .u64 (x*2 ^ (y % 64).toNat) else ae .u64 (x / 2 ^ (y % 64).toNat)
structure MS where
 w:List Int
 v:List Int
 left:Nat
 aN:Nat
 aT:Bool
 err:Nat
def Ex.val (w v:List Int):Ex->Option Int
 | .num n=>some n
 | .var x=>v[x]?
 | .load a=>match a.val w v with
  | some u=>w[u.toNat]?
  | none=>none
 | .bin o a b=>match a.val w v with
  | some x=>match b.val w v with
   | some y=>some (jX o x y)
   | none=>none
  | none=>none
def Cn.so (w v:List Int) (c:Cn):Option Bool:=match c.a.val w v with
 | some x=>match c.b.val w v with
  | some y=>some (if c.k=11 then decide (x=y) else if c.k=12 then decide (x ≠ y) else decide (x<y))
  | none=>none
 | none=>none
def MS.on (s:MS):Prop:=s.aT=false/\s.err=0
instance (s:MS):Decidable s.on:=inferInstanceAs (Decidable (_/\_))
def MS.bx (s:MS):MS:=if s.left=0 then { s with err:=190 } else { s with left:=s.left-1 }
def eX (c:List Int->List Int->Option Bool) (body:MS->MS):Nat->MS->MS
 | 0,s=>s
 | n+1,s=>if s.on then (if s.left=0 then s.bx else match c s.w s.v with
  | none=>{ s.bx with err:=111 }
  | some false=>s.bx
  | some true=>eX c body n (body s.bx)) else s
mutual
def St.run:St->Bool->MS->MS
 | .set x a,_,s=>if s.left=0 then s.bx else match a.val s.w s.v with
  | some y=>{ s.bx with v:=s.v.set x y }
  | none=>{ s.bx with err:=111 }
 | .store a b,_,s=>if s.left=0 then s.bx else match a.val s.w s.v with
  | some u=>match b.val s.w s.v with
   | some y=>if u.toNat<s.w.length then { s.bx with w:=s.w.set u.toNat y } else { s.bx with err:=111 }
   | none=>{ s.bx with err:=111 }
  | none=>{ s.bx with err:=111 }
 | .ite c l,i,s=>if s.left=0 then s.bx else match c.so s.w s.v with
  | none=>{ s.bx with err:=111 }
  | some true=>l.run i s.bx
  | some false=>s.bx
 | .cG c l m,i,s=>if s.left=0 then s.bx else match c.so s.w s.v with
  | none=>{ s.bx with err:=111 }
  | some true=>l.run i s.bx
  | some false=>m.run i s.bx
 | .loop c l,i,s=>eX c.so (l.run i) (s.left+1) s
 | .atom l,i,s=>if s.left=0 then s.bx else if (l.run true s.bx).err=0 then { l.run true s.bx with aN:=(l.run true s.bx).aN+1 } else { l.run true s.bx with w:=s.w,v:=s.v }
 | .halt,i,s=>if s.left=0 then s.bx else if i=true then { s.bx with err:=111 } else { s.bx with aT:=true }
def Ls.run:Ls->Bool->MS->MS
 | .nil,_,s=>s
 | .cons x l,i,s=>if s.on then l.run i (x.run i s) else s
end
theorem Ls.nC (l:Ls) (i:Bool) {s:MS} (h:¬ s.on):l.run i s=s:=by
 cases l with
 | nil=>rfl
 | cons x l=>simp only [Ls.run,qc h]
theorem NS {I:MS->Prop} {c:List Int->List Int->Option Bool} {body:MS->MS} (hp:∀ s,I s->s.on->I s.bx) (he:∀ s,I s->I { s.bx with err:=111 }) (hb:∀ s,I s->s.on->I (body s)):∀ (n:Nat) (s:MS),I s->I (eX c body n s)
 | 0,s,h=>h
 | n+1,s,h=>by
  unfold eX;split
  ·rename_i hon;split
   ·exact hp s h hon
   ·rename_i hl;have hon':s.bx.on:=by unfold MS.bx;rw [qc hl];exact hon
    split
    ·exact he s h
    ·exact hp s h hon
    ·exact NS hp he hb n _ (hb _ (hp s h hon) hon')
  ·exact h
structure gL (s r:MS):Prop where
 left:r.left<=s.left
 w:r.w.length=s.w.length
 v:r.v.length=s.v.length
theorem gL.refl (s:MS):gL s s:=⟨qf _,rfl,rfl⟩
theorem gL.trans {a b c:MS} (h:gL a b) (h':gL b c):gL a c:=⟨xz h'.left h.left,h'.w.trans h.w,h'.v.trans h.v⟩
theorem gL.bx (s:MS):gL s s.bx:=by unfold MS.bx;split<;>exact ⟨by simp,rfl,rfl⟩
theorem gL.gE {s r:MS} (h:gL s r) (e:Nat):gL s { r with err:=e }:=⟨h.left,h.w,h.v⟩
mutual
theorem St.tX:∀ (x:St) (i:Bool) (s:MS),gL s (x.run i s)
 | .set x a,i,s=>by
  simp only [St.run];(repeat' split)
  ·exact gL.bx s
  ·have:=gL.bx s;exact ⟨this.left,this.w,by simp⟩
  ·exact (gL.bx s).gE _
 | .store a b,i,s=>by
  simp only [St.run];(repeat' split)
  ·exact gL.bx s
  ·have:=gL.bx s;exact ⟨this.left,by simp,this.v⟩
  all_goals exact (gL.bx s).gE _
 | .ite c l,i,s=>by
  simp only [St.run];(repeat' split)
  ·exact gL.bx s
  ·exact (gL.bx s).gE _
  ·exact (gL.bx s).trans (l.tX i _)
  ·exact gL.bx s
 | .cG c l m,i,s=>by
  simp only [St.run];(repeat' split)
  ·exact gL.bx s
  ·exact (gL.bx s).gE _
  ·exact (gL.bx s).trans (l.tX i _)
  ·exact (gL.bx s).trans (m.tX i _)
 | .loop c l,i,s=>by
  simp only [St.run];exact NS (I:=gL s) (λ r h _=>h.trans (gL.bx r)) (λ r h=>(h.trans (gL.bx r)).gE _) (λ r h _=>h.trans (l.tX i r)) _ s (gL.refl s)
 | .atom l,i,s=>by
  have h:=(gL.bx s).trans (l.tX true s.bx);simp only [St.run];(repeat' split)
  ·exact gL.bx s
  ·exact ⟨h.left,h.w,h.v⟩
  ·exact ⟨h.left,rfl,rfl⟩
 | .halt,i,s=>by
  have:=gL.bx s;simp only [St.run];(repeat' split)<;>exact ⟨this.left,this.w,this.v⟩
theorem Ls.tX:∀ (x:Ls) (i:Bool) (s:MS),gL s (x.run i s)
 | .nil,i,s=>gL.refl s
 | .cons x l,i,s=>by
  simp only [Ls.run];split
  ·exact (x.tX i s).trans (l.tX i _)
  ·exact gL.refl s
end
def MS.add (m:Nat) (s:MS):MS:={ s with left:=s.left+m }
theorem Ba {s:MS} (h:s.left=0):s.bx.err=190:=by unfold MS.bx;rw [qk h]
theorem xd2 {c:List Int->List Int->Option Bool} {body:MS->MS} (n:Nat) {s:MS} (h:¬ s.on):eX c body n s=s:=by cases n<;>simp [eX,h]
end Lang
end Go.Am
namespace Go.Am
namespace Lang
def Sm (s r:MS):Prop:=r.left+r.aN<=s.left+s.aN
theorem Sm.refl (s:MS):Sm s s:=qf _
theorem Sm.trans {a b c:MS} (h:Sm a b) (h':Sm b c):Sm a c:=xz h' h
theorem Sm.bx (s:MS):Sm s s.bx:=by unfold Sm MS.bx;split<;>simp only<;>omega
theorem Sm.gE {s r:MS} (h:Sm s r) (e:Nat):Sm s { r with err:=e }:=h
mutual
theorem St.sm:∀ (x:St) (i:Bool) (s:MS),Sm s (x.run i s)
 | .set x a,i,s=>by
  simp only [St.run];(repeat' split)
  ·exact Sm.bx s
  ·exact Sm.bx s
  ·exact (Sm.bx s).gE _
 | .store a b,i,s=>by
  simp only [St.run];(repeat' split)
  ·exact Sm.bx s
  ·exact Sm.bx s
  all_goals exact (Sm.bx s).gE _
 | .ite c l,i,s=>by
  simp only [St.run];(repeat' split)
  ·exact Sm.bx s
  ·exact (Sm.bx s).gE _
  ·exact (Sm.bx s).trans (l.sm i _)
  ·exact Sm.bx s
 | .cG c l m,i,s=>by
  simp only [St.run];(repeat' split)
  ·exact Sm.bx s
  ·exact (Sm.bx s).gE _
  ·exact (Sm.bx s).trans (l.sm i _)
  ·exact (Sm.bx s).trans (m.sm i _)
 | .loop c l,i,s=>by
  simp only [St.run];exact NS (I:=Sm s) (λ r h _=>h.trans (Sm.bx r)) (λ r h=>(h.trans (Sm.bx r)).gE _) (λ r h _=>h.trans (l.sm i r)) _ s (Sm.refl s)
 | .atom l,i,s=>by
  have h:=l.sm true s.bx;simp only [St.run];(repeat' split)
  ·exact Sm.bx s
  ·rename_i hl _;unfold Sm at h ⊢;have e:s.bx = { s with left:=s.left-1 }:=by unfold MS.bx;rw [qc hl]
   rw [e] at h ⊢;simp only at h ⊢;omega
  ·exact (Sm.bx s).trans h
 | .halt,i,s=>by
  simp only [St.run];(repeat' split)<;>exact Sm.bx s
theorem Ls.sm:∀ (x:Ls) (i:Bool) (s:MS),Sm s (x.run i s)
 | .nil,i,s=>Sm.refl s
 | .cons x l,i,s=>by
  simp only [Ls.run];split
  ·exact (x.sm i s).trans (l.sm i _)
  ·exact Sm.refl s
end
end Lang
end Go.Am
namespace Go.Am
def HK (AP:aO) (g:Nat) (pre cap:List AV) (N O:Nat->Prop) (H0:AHeap) (xs:List (List AV)):Prop :=
 ∀ (L:Nat) (R:Nat->(Nat->Prop)->AHeap->Prop) (S:(Nat->Prop)->AHeap->Prop) (W0:Nat->Prop) (H:AHeap),
  H0.next<=H.next->(∀ b,N b\/O b->b<H0.next/\H.get b=H0.get b /\ ¬ W0 b)->R 0 W0 H->(∀ b,W0 b->b<H.next) ->
  (∀ i W H H',R i W H->(∀ b,W b->H'.get b=H.get b)->H.next<=H'.next->R i W H')->(∀ W H H',S W H->(∀ b,W b->H'.get b=H.get b)->H.next<=H'.next->S W H') ->
  (∀ (i:Nat) x,xs[i]? = some x -> ∀ W H',R i W H'->(∀ b,W b->b<H'.next/\(W0 b\/H.next<=b))->Fr (λ b=>W0 b\/O b) H H' ->
   ∃ bb H'' W',jN AP L x H' (.ret (.bool bb)) H''/\Fr W H' H''/\(∀ b,W' b->b<H''.next/\(W b\/H'.next<=b))/\(bb=true->R (i+1) W' H'')/\(bb=false->S W' H'')) ->
  ∃ v H' W',CALL AP g (pre++(.fn (.yield L) [] []::cap)) H (.ret v) H'/\Fr (λ b=>W0 b\/O b) H H'/\(∀ b,W' b->b<H'.next/\(W0 b\/H.next<=b))/\(R xs.length W' H'\/S W' H')
section
variable {AP:aO}
def xS:List Nat->List AV->Env->Option Env
 | [],[],E=>some E
 | t::ts,v::vs,E=>xS ts vs ((t,v)::E)
 | _,_,_=>none
def AS3 (M:aO) (ctx:Ctx) (b:Kp × ab) (L:Nat) (lr lb:bg) (Q:aK):aK:=λ e E D H=>match e with
 | .normal=>H.get L=some lr/\W M ctx b true Q E D (H.set L lb)
 | _=>False
theorem q9v (M:aO) (ctx:Ctx) (b:Kp × ab) (L:Nat) (lr lb:bg) (Q:aK) (E:Env) (D:List aC) (H:AHeap):AS3 M ctx b L lr lb Q .normal E D H=(H.get L=some lr/\W M ctx b true Q E D (H.set L lb)):=propext zg
def BD3 (P:(Nat->Prop)->AHeap->Prop) (PS:aF->(Nat->Prop)->AHeap->Prop) (L:Nat) (lb:bg) (W:Nat->Prop) (H1:AHeap):aK:=λ e _ D H=>D=[]/\H.get L=some lb /\
 ∃ W':Nat->Prop,(∀ b,W' b->b<H.next/\(W b\/H1.next<=b))/\Fr (λ b=>W b\/b=L) H1 H/\(e=.normal/\P W' H\/iI e/\PS e W' H)
theorem ey.cons {ks:List Nat} {E:Env} {tm:T AV} (h:ey ks E tm) {t:Nat} (v:AV) (ht:cA t ks=true):ey ks ((t,v)::E) (tm.set t v):=λ u x hu=>by
 rw [oR] at hu;split at hu
 ·rename_i e;subst e;injection hu with hu;subst hu
  exact ⟨by rw [T.aI,qk rfl],ht⟩
 ·rename_i e;obtain ⟨h1,h2⟩:=h u x hu;exact ⟨by rw [T.aI,qc e,h1],h2⟩
theorem q8t {ks:List Nat}:∀ {ts:List Nat} {vs:List AV} {E E1:Env} {tm:T AV},ey ks E tm->(∀ t ∈ ts,cA t ks=true)->xS ts vs E=some E1 -> ∃ tm1,Gq tm ts vs=some tm1/\ey ks E1 tm1
 | [],[],E,E1,tm,h,ht,hb=>by injection hb with hb;subst hb;exact ⟨tm,rfl,h⟩
 | [],_::_,_,_,_,_,_,hb=>nomatch hb
 | _::_,[],_,_,_,_,_,hb=>nomatch hb
 | t::ts,v::vs,E,E1,tm,h,ht,hb=>q8t (ts:=ts) (vs:=vs) (h.cons v (ht t (EZ ..))) (λ u hu=>ht u (BZ _ hu)) hb
theorem xci (rs:List di) (Q:bE->AHeap->Prop) (E:Env) (d:Nat) (H:AHeap):aU AP rs Q .ret E [.ic d] H=(H.get d=some (.deferred (some []))/\dR E (H.set d (.deferred none)) rs λ l=>Q (.ret (dt l)) (H.set d (.deferred none))):=propext zg
end
end Go.Am
namespace Go.Am
def oF (AP:aO) (g:Nat) (pre cap:List AV) (N O:Nat->Prop) (H0:AHeap) (xs:List (List AV)) (F:(Nat->Prop)->AHeap->Prop):Prop :=
 ∀ (L:Nat) (R:Nat->(Nat->Prop)->AHeap->Prop) (S:(Nat->Prop)->AHeap->Prop) (W0:Nat->Prop) (H:AHeap),
  H0.next<=H.next->(∀ b,N b\/O b->b<H0.next/\H.get b=H0.get b /\ ¬ W0 b)->R 0 W0 H->(∀ b,W0 b->b<H.next) ->
  (∀ i W H H',R i W H->(∀ b,W b->H'.get b=H.get b)->H.next<=H'.next->R i W H')->(∀ W H H',S W H->(∀ b,W b->H'.get b=H.get b)->H.next<=H'.next->S W H') ->
  (∀ (i:Nat) x,xs[i]? = some x -> ∀ W H',R i W H'->(∀ b,W b->b<H'.next/\(W0 b\/H.next<=b))->Fr (λ b=>W0 b\/O b) H H' ->
   ∃ bb H'' W',jN AP L x H' (.ret (.bool bb)) H''/\Fr W H' H''/\(∀ b,W' b->b<H''.next/\(W b\/H'.next<=b))/\(bb=true->R (i+1) W' H'')/\(bb=false->S W' H'')) ->
  ∃ v H' W',CALL AP g (pre++(.fn (.yield L) [] []::cap)) H (.ret v) H'/\Fr (λ b=>W0 b\/O b) H H'/\(∀ b,W' b->b<H'.next/\(W0 b\/H.next<=b))/\((R xs.length W' H' /\ ∃ V,(∀ b,V b->b<H'.next /\ ¬ W' b/\(O b\/H.next<=b))/\F V H')\/S W' H')
section
variable {AP:aO}
theorem xes {f:Nat} {fn:aq} {k:Nat} {lp:cP} (hf:AP.func f=some fn) (hk:nth fn.loops k=some lp) {tm:T AV} {az:List aC} {up:Option ah} {H:AHeap} {Q:aX}
 {g:Nat} {pre cap:List AV} {N O:Nat->Prop} {H0:AHeap} {xs:List (List AV)} {F:(Nat->Prop)->AHeap->Prop} (floc:∀ V H H',F V H->(∀ b,V b->H'.get b=H.get b)->H.next<=H'.next->F V H') (hit:oF AP g pre cap N O H0 xs F)
 (P:Nat->(Nat->Prop)->AHeap->Prop) (PS:aF->(Nat->Prop)->AHeap->Prop) (W0:Nat->Prop)
 (hn:H0.next<=H.next) (hN:∀ b,N b\/O b->b<H0.next/\H.get b=H0.get b /\ ¬ W0 b) (hW0:∀ b,W0 b->b<H.next) (h0:P 0 W0 H)
 (loc:∀ i W H H',P i W H->(∀ b,W b->H'.get b=H.get b)->H.next<=H'.next->P i W H') (locS:∀ e W H H',PS e W H->(∀ b,W b->H'.get b=H.get b)->H.next<=H'.next->PS e W H')
 (hbody:∀ (L d i:Nat) x,xs[i]? = some x->H.next<=L -> ∀ W H1,P i W H1->(∀ b,W b->b<H1.next/\(W0 b\/H.next<=b))->Fr (λ b=>W0 b\/O b) H H1 -> ¬ W L->L<H1.next->H1.get L=some (.loop .ready none f k tm d) ->
  ∃ tm1,Gq tm lp.params x=some tm1/\WP AP ⟨some L,f⟩ lp.assign ⟨tm1,[],none,H1⟩ λ e c8=>e=.normal/\c8.H.get L=some (.loop .ready none f k tm d) /\
   WP AP ⟨some L,f⟩ lp.body ⟨c8.tm,c8.az,c8.up,c8.H.set L (.loop .busy none f k tm d)⟩ λ e2 st2=>st2.az=[]/\st2.H.get L=some (.loop .busy none f k tm d) /\
    ∃ W':Nat->Prop,(∀ b,W' b->b<st2.H.next/\(W b\/H1.next<=b))/\Fr (λ b=>W b\/b=L) H1 st2.H/\(e2=.normal/\P (i+1) W' st2.H\/iI e2/\PS e2 W' st2.H))
 (hend:∀ d W' H',H.next<=d->d<H'.next->H'.get d=some (.deferred (some []))->Fr (λ b=>W0 b\/O b) H H'->(∀ b,W' b->b<H'.next/\(W0 b\/H.next<=b)/\b ≠ d)->P xs.length W' H'->(∃ V,(∀ b,V b->b<H'.next/\b ≠ d /\ ¬ W' b/\(O b\/H.next<=b))/\F V H')->Q .normal ⟨tm,.ic d::az,up,H'⟩)
 (hstop:∀ e d W' H',iI e->H.next<=d->d<H'.next->H'.get d=some (.deferred (some []))->Fr (λ b=>W0 b\/O b) H H'->(∀ b,W' b->b<H'.next/\(W0 b\/H.next<=b)/\b ≠ d)->PS e W' H'->Q e ⟨tm,.ic d::az,up,H'⟩) :
 ET AP ⟨none,f⟩ k ⟨tm,az,up,H⟩ Q (.fn (.func g) pre cap):=by
 let d:=H.next
 let L:=H.next+1
 let Hd:=H.alloc (.deferred (some []))
 let HL:=Hd.alloc (.loop .ready none f k tm d)
 have hHL:HL.next=H.next+2:=rfl
 have hgL:HL.get L=some (.loop .ready none f k tm d):=qp Hd _;have hgd:HL.get d=some (.deferred (some [])):=by rw [show HL.get d=Hd.get d from rN (by show H.next<H.next+1;omega) _];exact qp H _
 have hfr0:Fr Em H HL:=((Fr.refl H).alloc _).alloc _;have hold:∀ b,b<H.next->HL.get b=H.get b:=λ b hb=>hfr0.aj b hb (λ q=>q)
 obtain ⟨v,H',W',hc,hfr,hW',hres⟩:=hit L
  (λ i W H'=>∃ V:Nat->Prop,(∀ b,V b->W b)/\W L /\ ¬ V L /\ ¬ W d/\(∀ b,W b->V b\/b=L)/\P i V H'/\H'.get L=some (.loop .ready none f k tm d)/\L<H'.next)
  (λ W H'=>∃ (V:Nat->Prop) (e:aF) (j:gh),(∀ b,V b->W b)/\W L /\ ¬ V L /\ ¬ W d/\(∀ b,W b->V b\/b=L)/\iI e/\kZ e=some j/\PS e V H'/\H'.get L=some (.loop .done (some j) f k tm d)/\L<H'.next)
  (λ b=>W0 b\/b=L) HL (by rw [hHL];omega)
  (λ b hb=>by
   obtain ⟨h1,h2,h3⟩:=hN b hb;exact ⟨h1,by rw [hold b (by omega)];exact h2,λ q=>q.elim h3 λ q=>by have:L=H.next+1:=rfl;omega⟩)
  ⟨W0,λ b hb=>.inl hb,.inr rfl,λ q=>by have:=hW0 _ q;have:L=H.next+1:=rfl;omega,λ q=>q.elim (λ q=>by have:=hW0 _ q;have:d=H.next:=rfl;omega) λ q=>by have:d=H.next:=rfl;have:L=H.next+1:=rfl;omega,
   λ b hb=>hb,loc 0 W0 H HL h0 (λ b hb=>hold b (hW0 b hb)) (by rw [hHL];omega),hgL,by rw [hHL];show H.next+1<H.next+2;omega⟩
  (λ b hb=>hb.elim (λ q=>by have:=hW0 b q;rw [hHL];omega) λ q=>by rw [hHL,q];show H.next+1<H.next+2;omega)
  (λ i W H1 H2 ⟨V,v1,v2,v3,v4,v5,v6,v7,v8⟩ hs hle=>⟨V,v1,v2,v3,v4,v5,loc i V H1 H2 v6 (λ b hb=>hs b (v1 b hb)) hle,by rw [hs L v2];exact v7,qe v8 hle⟩)
  (λ W H1 H2 ⟨V,e,j,v1,v2,v3,v4,v5,v6,v7,v8,v9,v10⟩ hs hle=>⟨V,e,j,v1,v2,v3,v4,v5,v6,v7,locS e V H1 H2 v8 (λ b hb=>hs b (v1 b hb)) hle,by rw [hs L v2];exact v9,qe v10 hle⟩)
  (λ i x hx W H1 ⟨V,v1,v2,v3,v4,v5,v6,v7,v8⟩ hb hfrS=>by
   have hLn0:L=H.next+1:=rfl
   have hfr1:Fr (λ b=>W0 b\/O b) H H1:=⟨xz (by rw [hHL];omega) hfrS.next,λ b hb hw=>by rw [hfrS.aj b (by rw [hHL];omega) (λ q=>q.elim (λ q=>q.elim (λ q=>hw (.inl q)) λ q=>by omega) λ q=>hw (.inr q)),hold b hb]⟩
   have hbV:∀ b,V b->b<H1.next/\(W0 b\/H.next<=b):=λ b q=>⟨(hb b (v1 b q)).1,(hb b (v1 b q)).2.elim (λ r=>r.elim .inl λ r=>by subst r;exact (v3 q).elim) λ r=>.inr (by rw [hHL] at r;omega)⟩
   obtain ⟨tm1,hbp,hw⟩:=hbody L d i x hx (by show H.next<=H.next+1;omega) V H1 v6 hbV hfr1 v3 v8 v7;obtain ⟨e,H2,hr,bb,rfl,W2,k1,k2,k3,k4⟩:=q7z (Q:=λ e H2=>∃ bb,e=.ret (.bool bb) /\ ∃ W2:Nat->Prop,Fr W H1 H2/\(∀ b,W2 b->b<H2.next/\(W b\/H1.next<=b)) /\
    (bb=true -> ∃ V:Nat->Prop,(∀ b,V b->W2 b)/\W2 L /\ ¬ V L /\ ¬ W2 d/\(∀ b,W2 b->V b\/b=L)/\P (i+1) V H2/\H2.get L=some (.loop .ready none f k tm d)/\L<H2.next) /\
    (bb=false -> ∃ (V:Nat->Prop) (e:aF) (j:gh),(∀ b,V b->W2 b)/\W2 L /\ ¬ V L /\ ¬ W2 d/\(∀ b,W2 b->V b\/b=L)/\iI e/\kZ e=some j/\PS e V H2/\H2.get L=some (.loop .done (some j) f k tm d)/\L<H2.next)) v7 hf hk hbp
    (oN hw λ e c8 ⟨he,hgl,hw2⟩=>by
     subst he;show bJ ai (beginRound c8.H L) _;have:beginRound c8.H L=some (c8.H.set L (.loop .busy none f k tm d)):=by unfold beginRound;rw [hgl]
     rw [this];refine oN hw2 λ e2 st2 ⟨hd2,hg2,W',w1,w2,w3⟩=>⟨hd2,?_⟩
     have hLn:L<st2.H.next:=qe v8 w2.next
     have hd1:d<H1.next:=by have:d=H.next:=rfl;have:L=H.next+1:=rfl;omega
     have fin:∀ s p,Fr W H1 (st2.H.set L (.loop s p f k tm d)):=λ s p=>⟨w2.next,λ b hb hw=>by
      rw [AHeap.aI,qc (by rintro rfl;exact hw v2)];exact w2.aj b hb λ q=>q.elim (λ q=>hw (v1 b q)) λ q=>hw (by rw [q];exact v2)⟩
     have hW'L:∀ b,(W' b/\b ≠ L)->(st2.H.set L (.loop .ready none f k tm d)).get b=st2.H.get b:=λ b hb=>by rw [AHeap.aI,qc (λ q=>hb.2 q.symm)]
     have hnV:¬ W' L:=λ q=>by
      rcases (w1 L q).2 with q|q
      ·exact v3 q
      ·omega
     have hnd:¬ W' d:=λ q=>by
      rcases (w1 d q).2 with q|q
      ·exact v4 (v1 d q)
      ·omega
     have hdL:d ≠ L:=by show H.next ≠ H.next+1;omega
     have bounds:∀ b,(W' b\/b=L)->b<st2.H.next/\(W b\/H1.next<=b):=λ b hb=>hb.elim (λ q=>⟨(w1 b q).1,(w1 b q).2.imp (v1 b) id⟩) λ q=>by subst q;exact ⟨hLn,.inl v2⟩
     rcases w3 with ⟨rfl,w3⟩|⟨hj,w3⟩
     ·show bJ ai (dm st2.H L (cond true .ready .done) none) _;have:dm st2.H L .ready none=some (st2.H.set L (.loop .ready none f k tm d)):=by unfold dm;rw [hg2]
      rw [ql,this];refine ⟨true,rfl,λ b=>W' b\/b=L,fin _ _,bounds,λ _=>⟨W',λ b hb=>.inl hb,.inr rfl,hnV,λ q=>q.elim hnd hdL,λ b hb=>hb,loc _ _ _ _ w3 (λ b hb=>by rw [AHeap.aI,qc (by rintro rfl;exact hnV hb)]) (qf _),xd _ _ _,hLn⟩,λ h=>by cases h⟩
     ·obtain ⟨j,hj2⟩:∃ j,kZ e2=some j:=by cases e2<;>first|exact hj.elim|exact ⟨_,rfl⟩
      have hnn:yJ e2=false:=by cases e2<;>first|exact hj.elim|rfl
      have hmatch:∀ (A:Prop),(bJ ai (dm st2.H L (cond (yJ e2) .ready .done) (kZ e2)) λ H=>∃ bb,(bE.ret (.bool (yJ e2))=.ret (.bool bb)) /\ ∃ W2:Nat->Prop,Fr W H1 H/\(∀ b,W2 b->b<H.next/\(W b\/H1.next<=b)) /\
       (bb=true -> ∃ V:Nat->Prop,(∀ b,V b->W2 b)/\W2 L /\ ¬ V L /\ ¬ W2 d/\(∀ b,W2 b->V b\/b=L)/\P (i+1) V H/\H.get L=some (.loop .ready none f k tm d)/\L<H.next) /\
       (bb=false -> ∃ (V:Nat->Prop) (e:aF) (j:gh),(∀ b,V b->W2 b)/\W2 L /\ ¬ V L /\ ¬ W2 d/\(∀ b,W2 b->V b\/b=L)/\iI e/\kZ e=some j/\PS e V H/\H.get L=some (.loop .done (some j) f k tm d)/\L<H.next)):=λ _=>by
       have:dm st2.H L .done (some j)=some (st2.H.set L (.loop .done (some j) f k tm d)):=by unfold dm;rw [hg2]
       rw [hnn,hj2,xa,this];refine ⟨false,rfl,λ b=>W' b\/b=L,fin _ _,bounds,λ h=>(by cases h),λ _=>⟨W',e2,j,λ b hb=>.inl hb,.inr rfl,hnV,λ q=>q.elim hnd hdL,λ b hb=>hb,hj,hj2,locS _ _ _ _ w3 (λ b hb=>by rw [AHeap.aI,qc (by rintro rfl;exact hnV hb)]) (qf _),xd _ _ _,hLn⟩⟩
      cases e2 with
      | normal=>exact hj.elim
      | panic _=>exact hj.elim
      | exit _=>exact hmatch True
      | goto _=>exact hmatch True
      | ret=>exact hmatch True)
   exact ⟨bb,H2,W2,hr,k1,k2,k3,k4⟩)
 have hdL:d ≠ L:=by show H.next ≠ H.next+1;omega
 have hdW:¬ ((W0 d\/d=L)\/O d):=λ q=>q.elim (λ q=>q.elim (λ q=>by have:=hW0 _ q;have:d=H.next:=rfl;omega) hdL) λ q=>by have:=(hN d (.inr q)).1;have:d=H.next:=rfl;omega
 have hgd':H'.get d=some (.deferred (some [])):=by rw [hfr.aj d (by rw [hHL];show H.next<H.next+2;omega) hdW];exact hgd
 have hd':d<H'.next:=qe (by rw [hHL];show H.next<H.next+2;omega) hfr.next
 have hout:∀ (o:bg),Fr (λ b=>W0 b\/O b) H (H'.set L o):=λ o=>⟨xz (by rw [hHL];omega) hfr.next,λ b hb hw=>by
  have:L=H.next+1:=rfl
  rw [AHeap.aI,qc (by omega),hfr.aj b (by rw [hHL];omega) (λ q=>q.elim (λ q=>q.elim (λ q=>hw (.inl q)) λ q=>by omega) λ q=>hw (.inr q)),hold b hb]⟩
 refine ⟨.ret v,H',hc,?_⟩;rcases hres with ⟨⟨V,v1,v2,v3,v4,v5,v6,v7,v8⟩,VF,vf,hF⟩|⟨V,e,j,v1,v2,v3,v4,v5,v6,v7,v8,v9,v10⟩
 ·refine ⟨.ready,none,f,k,tm,d,v7,by simp,?_⟩;refine hend d V _ (qf _) hd' (by rw [AHeap.aI,qc (λ q=>hdL q.symm)];exact hgd') (hout _) (λ b hb=>⟨(hW' b (v1 b hb)).1,?_,λ q=>v4 (by rw [<-q];exact v1 b hb)⟩) (loc _ _ _ _ v6 (λ b hb=>by rw [AHeap.aI,qc (by rintro rfl;exact v3 hb)]) (qf _)) ⟨VF,λ b hb=>⟨(vf b hb).1,?_,λ q=>(vf b hb).2.1 (v1 b q),(vf b hb).2.2.imp id λ q=>by rw [hHL] at q;omega⟩,floc VF _ _ hF (λ b hb=>by rw [AHeap.aI,qc (by rintro rfl;exact (vf _ hb).2.1 v2)]) (qf _)⟩
  ·rcases (hW' b (v1 b hb)).2 with q|q
   ·exact q.imp id λ q=>by subst q;exact (v3 hb).elim
   ·rw [hHL] at q;exact .inr (by omega)
  ·have hdn:d=H.next:=rfl
   rcases (vf b hb).2.2 with q|q
   ·have:=(hN b (.inr q)).1;omega
   ·rw [hHL] at q;omega
 ·refine ⟨.done,some j,f,k,tm,d,v9,by simp,?_⟩;have he:nB (some j)=e:=by cases e<;>first|exact v6.elim|(injection v7 with v7;subst v7;rfl)
  rw [he];refine hstop e d V _ v6 (qf _) hd' (by rw [AHeap.aI,qc (λ q=>hdL q.symm)];exact hgd') (hout _) (λ b hb=>⟨(hW' b (v1 b hb)).1,?_,λ q=>v4 (by rw [<-q];exact v1 b hb)⟩) (locS _ _ _ _ v8 (λ b hb=>by rw [AHeap.aI,qc (by rintro rfl;exact v3 hb)]) (qf _));rcases (hW' b (v1 b hb)).2 with q|q
  ·exact q.imp id λ q=>by subst q;exact (v3 hb).elim
  ·rw [hHL] at q;exact .inr (by omega)
theorem mn.J5 {f:Nat} {fn:aq} {k:Nat} {lp:cP} (hf:AP.func f=some fn) (hk:nth fn.loops k=some lp) {ks:List Nat} {ts:List Nat} (hp:lp.params=ts) (hts:∀ t ∈ ts,cA t ks=true) {pa pb:Kp × ab} (ha:pa.1.aj=ks/\pa.2=lp.assign) (hb:pb.1.aj=ks/\pb.2=lp.body)
 {E:Env} {D:List aC} {H:AHeap} {Q:aK} {g:Nat} {pre cap:List AV} {N O:Nat->Prop} {H0:AHeap} {xs:List (List AV)} {F:(Nat->Prop)->AHeap->Prop} (floc:∀ V H H',F V H->(∀ b,V b->H'.get b=H.get b)->H.next<=H'.next->F V H') (hit:oF AP g pre cap N O H0 xs F)
 (P:Nat->(Nat->Prop)->AHeap->Prop) (PS:aF->(Nat->Prop)->AHeap->Prop) (W0:Nat->Prop)
 (hn:H0.next<=H.next) (hN:∀ b,N b\/O b->b<H0.next/\H.get b=H0.get b /\ ¬ W0 b) (hW0:∀ b,W0 b->b<H.next) (h0:P 0 W0 H)
 (loc:∀ i W H H',P i W H->(∀ b,W b->H'.get b=H.get b)->H.next<=H'.next->P i W H') (locS:∀ e W H H',PS e W H->(∀ b,W b->H'.get b=H.get b)->H.next<=H'.next->PS e W H')
 (hbody:∀ (L i:Nat) (lr lb:bg) x,xs[i]? = some x->H.next<=L -> ∀ W' H1,P i W' H1->(∀ b,W' b->b<H1.next/\(W0 b\/H.next<=b))->Fr (λ b=>W0 b\/O b) H H1 -> ¬ W' L->L<H1.next->H1.get L=some lr ->
  ∃ E1,xS ts x E=some E1/\W AP ⟨some L,f⟩ pa true (AS3 AP ⟨some L,f⟩ pb L lr lb (BD3 (P (i+1)) PS L lb W' H1)) E1 [] H1)
 (hend:∀ d W' H',H.next<=d->d<H'.next->H'.get d=some (.deferred (some []))->Fr (λ b=>W0 b\/O b) H H'->(∀ b,W' b->b<H'.next/\(W0 b\/H.next<=b)/\b ≠ d)->P xs.length W' H'->(∃ V,(∀ b,V b->b<H'.next/\b ≠ d /\ ¬ W' b/\(O b\/H.next<=b))/\F V H')->Q .normal E (.ic d::D) H')
 (hstop:∀ e d W' H',iI e->H.next<=d->d<H'.next->H'.get d=some (.deferred (some []))->Fr (λ b=>W0 b\/O b) H H'->(∀ b,W' b->b<H'.next/\(W0 b\/H.next<=b)/\b ≠ d)->PS e W' H'->Q e E (.ic d::D) H') :
 mn AP ks ⟨none,f⟩ k E D H Q (.fn (.func g) pre cap):=by
 intro tm up he;refine xes hf hk floc hit P PS W0 hn hN hW0 h0 loc locS ?_ (λ d W' H' h1 h2 h3 h4 h5 h6 h7=>⟨rfl,rfl,hend d W' H' h1 h2 h3 h4 h5 h6 h7⟩) (λ e d W' H' h0 h1 h2 h3 h4 h5 h6=>⟨rfl,rfl,hstop e d W' H' h0 h1 h2 h3 h4 h5 h6⟩);intro L d i x hx hL W' H1 hP hW hfr hnL hLn hgL;obtain ⟨E1,hE1,hw⟩:=hbody L i (.loop .ready none f k tm d) (.loop .busy none f k tm d) x hx hL W' H1 hP hW hfr hnL hLn hgL;obtain ⟨tm1,hb1,he1⟩:=q8t he hts hE1;refine ⟨tm1,by rw [hp];exact hb1,?_⟩;rw [mV] at hw;have:=W3.wp _ _ (qf _) (up:=none) hw (by rw [ha.1];exact he1);rw [ha.2] at this;refine oN this λ e c8 ⟨hup,E',hE',hq⟩=>?_;cases e with
 | normal =>
  obtain ⟨hg,hw2⟩:=hq;refine ⟨rfl,hg,?_⟩;rw [mV] at hw2;have:=W3.wp _ _ (qf _) (up:=none) hw2 (show ey pb.1.aj E' c8.tm by rw [hb.1,<-ha.1];exact hE');rw [hb.2] at this;rw [hup];refine oN this λ e2 st2 ⟨hup2,E2,hE2,hd,hg2,W2,k1,k2,k3⟩=>⟨hd,hg2,W2,k1,k2,k3⟩
 | _=>exact hq.elim
theorem oF.o {g:Nat} {pre cap:List AV} {N O:Nat->Prop} {H0:AHeap} {xs:List (List AV)} {F:(Nat->Prop)->AHeap->Prop} (h:oF AP g pre cap N O H0 xs F):HK AP g pre cap N O H0 xs:=by
 intro L R S W0 H h1 h2 h3 h4 h5 h6 h7;obtain ⟨v,H',W',q1,q2,q3,q4⟩:=h L R S W0 H h1 h2 h3 h4 h5 h6 h7;exact ⟨v,H',W',q1,q2,q3,q4.imp (λ q=>q.1) id⟩
end
end Go.Am
