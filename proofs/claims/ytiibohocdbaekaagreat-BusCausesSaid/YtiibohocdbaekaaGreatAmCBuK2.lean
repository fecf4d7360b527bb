/- BuK2: BuD BuE. -/
import Derived.Test.YtiibohocdbaekaaGreatAmCBuK1
set_option linter.unusedVariables false
set_option linter.unusedSimpArgs false
namespace Go.Am
structure De where
 ow:Int
 sh:Nat
 un:Mg
 ph:Int
 ask:Nat
 wt:List Mg
def hb (s:Nat) (c:Int):Nat:=s / 2 ^ c.toNat % 2
def jC (s:Nat) (c:Int):Nat:=if hb s c=1 then s else s+2 ^ c.toNat
def aU (s:Nat) (c:Int):Nat:=if hb s c=1 then s-2 ^ c.toNat else s
def nd (s:Nat):List Int:=([0,1,2,3]:List Int).filter λ c=>hb s c == 1
theorem gW (s:Nat) (c:Int):hb s c<=1:=by unfold hb;omega
theorem sV (c:Int):hb 0 c=0:=by unfold hb;simp
theorem four {c:Int} (h0:0<=c) (h1:c<4):c=0\/c=1\/c=2\/c=3:=by omega
theorem EJ {s:Nat} (hs:s<16) {c d:Int} (c0:0<=c) (c1:c<4) (d0:0<=d) (d1:d<4):jC s c<16/\hb (jC s c) d=if d=c then 1 else hb s d:=by
 rcases four c0 c1 with rfl|rfl|rfl|rfl<;>rcases four d0 d1 with rfl|rfl|rfl|rfl<;>(revert s;decide)
theorem FT {s:Nat} (hs:s<16) {c d:Int} (c0:0<=c) (c1:c<4) (d0:0<=d) (d1:d<4):aU s c<16/\hb (aU s c) d=if d=c then 0 else hb s d:=by
 rcases four c0 c1 with rfl|rfl|rfl|rfl<;>rcases four d0 d1 with rfl|rfl|rfl|rfl<;>(revert s;decide)
theorem tM {c d:Int} (c0:0<=c) (c1:c<4) (d0:0<=d) (d1:d<4):2 ^ c.toNat<16/\hb (2 ^ c.toNat) d=if d=c then 1 else 0:=by
 rcases four c0 c1 with rfl|rfl|rfl|rfl<;>rcases four d0 d1 with rfl|rfl|rfl|rfl<;>decide
theorem q17 {s:Nat} {c:Int}:c ∈ nd s ↔ 0<=c/\c<4/\hb s c=1:=by
 unfold nd;simp only [va,zr,List.mem_nil_iff,sr,AN];constructor
 ·rintro ⟨a,b⟩;exact ⟨by omega,by omega,b⟩
 ·rintro ⟨a,b,c⟩;exact ⟨by omega,c⟩
namespace De
def own (x:De) (m:Mg):Prop:=∃ w ∈ x.wt,w.core=m.core
instance (x:De) (m:Mg):Decidable (x.own m):=inferInstanceAs (Decidable (∃ w ∈ x.wt,_))
def may (x:De) (m:Mg):Prop :=
 if m.k=1\/m.k=2 then ¬ (x.ph ≠ 0/\x.ph ≠ 4/\x.un.core=m.core)/\(x.ow ≠ m.core\/x.ph=2) /\ ¬ x.own m
 else if m.k=4 then x.ph=1/\hb x.ask m.core=1
 else if m.k=5 then x.ph=2/\x.ow=m.core
 else if m.k=6 then x.ph=2/\hb x.ask m.core=1
 else if m.k=3 then x.ow=m.core
 else m.k=7/\x.ph=4/\x.un.core=m.core
instance (x:De) (m:Mg):Decidable (x.may m):=by unfold may;infer_instance
def bD (x:De) (w:L8):De × Mg :=
 if x.un.k=1 then ({ x with ph:=4,ask:=0,sh:=jC x.sh x.un.core },⟨14,x.un.core,x.un.line,w⟩)
 else ({ x with ph:=4,ask:=0,ow:=x.un.core,sh:=0 },⟨15,x.un.core,x.un.line,w⟩)
def begin (x:De) (m:Mg) (w:L8):De × List Mg :=
 if 0<=x.ow then ({ x with un:=m,ph:=2,ask:=2 ^ x.ow.toNat },[⟨if m.k=2 then 13 else 12,x.ow,m.line,.zero⟩])
 else if m.k=1\/aU x.sh m.core=0 then ((bD { x with un:=m,ask:=aU x.sh m.core } w).1,[(bD { x with un:=m,ask:=aU x.sh m.core } w).2])
 else ({ x with un:=m,ask:=aU x.sh m.core,ph:=1 },(nd (aU x.sh m.core)).map λ c=>⟨11,c,m.line,.zero⟩)
def pU (x:De) (w:L8) (q:Prop) [Decidable q] (o:List Mg):De × L8 × List Mg :=
 if q then ((x.bD w).1,w,o ++ [(x.bD w).2]) else (x,w,o)
def az (x:De) (w:L8) (m:Mg):De × L8 × List Mg :=
 if ¬ x.may m then (x,w,[])
 else if m.k=1\/m.k=2 then if x.ph ≠ 0 then ({ x with wt:=x.wt ++ [{ m with d:=.zero }] },w,[]) else ((x.begin { m with d:=.zero } w).1,w,(x.begin { m with d:=.zero } w).2)
 else if m.k=4 then pU { x with sh:=aU x.sh m.core,ask:=aU x.ask m.core } w (aU x.ask m.core=0) []
 else if m.k=5 then pU { x with ow:=-1,sh:=if x.un.k=1 then jC x.sh m.core else x.sh } m.d True []
 else if m.k=6 then pU { x with ph:=3 } w (x.ow<0) []
 else if m.k=3 then pU { x with ow:=-1 } m.d (x.ph=3) [⟨16,m.core,m.line,.zero⟩]
 else match x.wt with
  | []=>({ x with ph:=0,un:=⟨0,0,0,.zero⟩ },w,[])
  | n::r=>((begin { x with ph:=0,un:=⟨0,0,0,.zero⟩,wt:=r } n w).1,w,(begin { x with ph:=0,un:=⟨0,0,0,.zero⟩,wt:=r } n w).2)
end De
abbrev MF (P:Prop) (n:Nat):Prop:=P/\n=1 \/ ¬ P/\n=0
def wn (l:List Mg) (c k:Int):Nat:=l.countP λ w=>w.core=c/\w.k=k
theorem DY (a b:List Mg) (c k:Int):wn (a++b) c k=wn a c k+wn b c k:=List.countP_append
theorem q7w (m:Mg) (l:List Mg) (c k:Int):wn (m::l) c k=wn l c k+if m.core=c/\m.k=k then 1 else 0:=by
 unfold wn;rw [List.countP_cons];simp
def rB (ph a b c k:Int):Nat:=if (ph=1\/ph=2\/ph=3)/\a=c/\b=k then 1 else 0
def cE (a b:Int):Nat:=if a=b then 1 else 0
theorem Lb (a b:Int):MF (a=b) (cE a b):=by
 unfold cE;split
 ·exact .inl ⟨by assumption,rfl⟩
 ·exact .inr ⟨by assumption,rfl⟩
def wu (a b c k:Int):Nat:=if a=c/\b=k then 1 else 0
def mW (ph k:Int) (n:Nat):Nat:=if ph=k then n else 0
theorem ib {ph:Int} (h:ph=1\/ph=2\/ph=3) (a b c k:Int):rB ph a b c k=wu a b c k:=by unfold rB wu;simp only [h,sy]
theorem EE (a b c k:Int):rB 0 a b c k=0:=by unfold rB;simp
theorem Ar (a b c k:Int):rB 4 a b c k=0:=by unfold rB;simp
structure Qs where
 a1:Nat
 a2:Nat
 a3:Nat
 a4:Nat
 a5:Nat
 a6:Nat
 a7:Nat
 b1:Nat
 b2:Nat
 b3:Nat
 b4:Nat
 b5:Nat
 b6:Nat
namespace Qs
def add (q:Qs) (k:Int) (n:Nat):Qs:=⟨q.a1+if k=1 then n else 0,q.a2+if k=2 then n else 0,q.a3+if k=3 then n else 0,q.a4+if k=4 then n else 0,q.a5+if k=5 then n else 0,q.a6+if k=6 then n else 0,q.a7+if k=7 then n else 0,
 q.b1+if k=11 then n else 0,q.b2+if k=12 then n else 0,q.b3+if k=13 then n else 0,q.b4+if k=14 then n else 0,q.b5+if k=15 then n else 0,q.b6+if k=16 then n else 0⟩
end Qs
structure LC (x:De) (c s ot:Int) (bk:Nat) (q:Qs) (h1 h2:Nat):Prop where
 o1:q.a1+wn x.wt c 1+rB x.ph x.un.core x.un.k c 1+q.b4+h1=cE ot 1
 o2:q.a2+wn x.wt c 2+rB x.ph x.un.core x.un.k c 2+q.b5+h2=cE ot 2
 bks:q.a3+q.b6=bk
 ac:q.b1+q.a4=mW x.ph 1 (hb x.ask c)
 rc:q.b2+q.b3+q.a5+q.a6=mW x.ph 2 (hb x.ask c)
 r1:0<q.b2->x.un.k=1
 r2:0<q.b3->x.un.k=2
 gr:q.b4+q.b5+q.a7=mW x.ph 4 (cE x.un.core c)
 g1:0<q.b4->x.un.k=1
 g2:0<q.b5->x.un.k=2
 ow:cE s 2+q.a3+q.a5+q.b5=cE x.ow c
 sh:s=1->hb x.sh c=1\/0<q.a5/\x.un.k=1\/0<q.b5
 t1:ot=1->s=0
 t2:ot=2->s ≠ 2
 bh:0<bk->s=0/\ot=0
 pt:0<q.a6\/x.ph=3->x.ow=c->0<q.a3
 ia:0<q.a4->s=0
 gs:0<q.b4->hb x.sh c=1
 s2:0<=s/\s<=2
 ot2:0<=ot/\ot<=2
 bk1:bk<=1
structure XI (x:De) (N l:Int):Prop where
 N4:N<=4
 ph:0<=x.ph/\x.ph<=4
 ow:-1<=x.ow/\x.ow<N
 sb:x.sh<16
 ab:x.ask<16
 np:∀ c,0<=c->c<4->hb x.sh c=1->c<N
 un:x.ph ≠ 0->(x.un.k=1\/x.un.k=2)/\0<=x.un.core/\x.un.core<N/\x.un.line=l
 p1:x.ph=1->x.ow = -1/\x.un.k=2/\x.ask ≠ 0/\hb x.ask x.un.core=0/\(∀ c,0<=c->c<4->hb x.sh c=1->hb x.ask c=1\/c=x.un.core) /\ ∀ c,0<=c->c<4->hb x.ask c=1->c<N
 p2:x.ph=2->x.sh=0 /\ ∃ a,0<=a/\a<N/\x.ask=2 ^ a.toNat/\(x.ow = -1\/x.ow=a)
 p3:x.ph=3->0<=x.ow
 p4:x.ph=4->x.un.k=1->x.ow = -1
 os:0<=x.ow->x.sh=0
 wt:∀ w ∈ x.wt,(w.k=1\/w.k=2)/\0<=w.core/\w.core<N/\w.line=l
def gQ (f:List Mg) (c l k:Int):Nat:=f.countP λ m=>m.k=k/\m.core=c/\m.line=l
theorem Ip (a b:List Mg) (c l k:Int):gQ (a++b) c l k=gQ a c l k+gQ b c l k:=List.countP_append
theorem q1l (m:Mg) (f:List Mg) (c l k:Int):gQ (m::f) c l k=gQ f c l k+if m.k=k/\m.core=c/\m.line=l then 1 else 0:=by
 unfold gQ;rw [List.countP_cons];simp
theorem Ch (c l k:Int):gQ [] c l k=0:=rfl
def qs (f:List Mg) (c l:Int):Qs:=⟨gQ f c l 1,gQ f c l 2,gQ f c l 3,gQ f c l 4,gQ f c l 5,gQ f c l 6,gQ f c l 7,gQ f c l 11,gQ f c l 12,gQ f c l 13,gQ f c l 14,gQ f c l 15,gQ f c l 16⟩
def sZ (m:Mg) (c l:Int):Nat:=if m.core=c/\m.line=l then 1 else 0
theorem D9 (m:Mg) (c l k:Int):(if m.k=k/\m.core=c/\m.line=l then 1 else 0)=if m.k=k then sZ m c l else 0:=by
 unfold sZ
 by_cases q:m.k=k
 ·simp only [q,sy,xa]
 ·simp only [q,false_and,qo]
theorem IF (a b:List Mg) (m:Mg) (c l:Int):qs (a++m::b) c l=(qs (a++b) c l).add m.k (sZ m c l):=by
 have h:∀ k,gQ (a++m::b) c l k=gQ (a++b) c l k+if m.k=k then sZ m c l else 0:=λ k=>by
  rw [Ip,q1l,Ip,D9,kx]
 unfold qs Qs.add;simp only [h]
theorem ED (a:List Mg) (m:Mg) (c l:Int):qs (a ++ [m]) c l=(qs a c l).add m.k (sZ m c l):=by
 have:=IF a [] m c l;rw [xt] at this;exact this
structure RGd (x:De) (c s ot:Int) (bk:Nat) (q:Qs):Prop where
 o1:q.a1+wn x.wt c 1+wu x.un.core x.un.k c 1=cE ot 1
 o2:q.a2+wn x.wt c 2+wu x.un.core x.un.k c 2=cE ot 2
 z:q.a3=0/\q.a4=0/\q.a5=0/\q.a6=0/\q.a7=0/\q.b1=0/\q.b2=0/\q.b3=0/\q.b4=0/\q.b5=0/\q.b6=bk
 ss:s=0\/s=1/\(x.un.k=1->hb x.sh c=1)/\(x.un.k=2->c=x.un.core)
 t1:ot=1->s=0
 bh:0<bk->s=0/\ot=0
 ot2:0<=ot/\ot<=2
 bk1:bk<=1
structure XR (x:De) (N l:Int):Prop where
 N4:N<=4
 un:(x.un.k=1\/x.un.k=2)/\0<=x.un.core/\x.un.core<N/\x.un.line=l
 ow:x.ow = -1
 sb:x.sh<16
 np:∀ c,0<=c->c<4->hb x.sh c=1->c<N
 wt:∀ w ∈ x.wt,(w.k=1\/w.k=2)/\0<=w.core/\w.core<N/\w.line=l
theorem Oz {x:De} {w:L8} {N l:Int} (h:XR x N l):XI (x.bD w).1 N l/\(x.bD w).2.core=x.un.core/\(x.bD w).2.line=l/\(x.bD w).2.k=(if x.un.k=1 then 14 else 15)/\(x.bD w).2.d=w:=by
 obtain ⟨hN,⟨hk,u0,u1,rfl⟩,how,hs,hsN,hwt⟩:=h;have u4:x.un.core<4:=by omega
 have hh:=λ c h0 h1=>EJ hs (c:=x.un.core) (d:=c) u0 u4 h0 h1;unfold De.bD;split
 ·rename_i k1;refine ⟨⟨hN,by show (0:Int)<=4/\(4:Int)<=4;decide,by show -1<=x.ow/\x.ow<N;omega,(hh 0 (by decide) (by decide)).1,by show 0<16;decide,λ c h0 h1 w=>?_,λ _=>⟨.inl k1,u0,u1,rfl⟩,λ q=>?_,λ q=>?_,λ q=>?_,λ _ _=>how,λ q=>?_,hwt⟩,rfl,rfl,rfl,rfl⟩
  ·have w:hb (jC x.sh x.un.core) c=1:=w;rw [(hh c h0 h1).2] at w;split at w
   ·omega
   ·exact hsN c h0 h1 w
  ·exact absurd (show (4:Int)=1 from q) (by decide)
  ·exact absurd (show (4:Int)=2 from q) (by decide)
  ·exact absurd (show (4:Int)=3 from q) (by decide)
  ·have q:0<=x.ow:=q;omega
 ·rename_i k1;have hz:∀ c:Int,hb 0 c=1->False:=λ c q=>by rw [sV] at q;cases q
  refine ⟨⟨hN,by show (0:Int)<=4/\(4:Int)<=4;decide,by show -1<=x.un.core/\x.un.core<N;omega,by show 0<16;decide,by show 0<16;decide,λ c h0 h1 w=>(hz c w).elim,λ _=>⟨hk,u0,u1,rfl⟩,λ q=>?_,λ q=>?_,λ q=>?_,λ _ q=>absurd q k1,λ q=>rfl,hwt⟩,rfl,rfl,rfl,rfl⟩
  ·exact absurd (show (4:Int)=1 from q) (by decide)
  ·exact absurd (show (4:Int)=2 from q) (by decide)
  ·exact absurd (show (4:Int)=3 from q) (by decide)
theorem Ic (k co li:Int) (d:L8) (c:Int):sZ ⟨k,co,li,d⟩ c li=cE co c:=by unfold sZ cE;simp
theorem oZ {a b c k:Int} (h:b=k):wu a b c k=cE a c:=by unfold wu cE;simp [h]
theorem sM {a b c k:Int} (h:b ≠ k):wu a b c k=0:=by unfold wu;simp [h]
theorem q1y {x:De} {w:L8} {c s ot:Int} {bk:Nat} {q:Qs} {N l:Int} (h:RGd x c s ot bk q) (hx:XR x N l) (c0:0<=c) (c1:c<N) :
 LC (x.bD w).1 c s ot bk (q.add (x.bD w).2.k (sZ (x.bD w).2 c l)) 0 0:=by
 obtain ⟨hN,⟨hk,u0,u1,rfl⟩,how,hs,hsN,hwt⟩:=hx;obtain ⟨o1,o2,z,hs',t1,bh,ot2,bk1⟩:=h;have hs2:cE s 2=0:=qg (by omega);have hu:=Lb x.un.core c;have ho1:=Lb ot 1;have ho2:=Lb ot 2;unfold De.bD;rcases hk with hk|hk
 ·rw [ql hk];simp only [Ic];have hc0:cE (-1) c=0:=qg (by omega);have hb1:=(EJ hs (c:=x.un.core) (d:=c) u0 (by omega) c0 (by omega)).2;have hb1:hb (jC x.sh x.un.core) c=1/\c=x.un.core\/hb (jC x.sh x.un.core) c=hb x.sh c:=by
   rw [hb1];split
   ·rename_i q;exact .inl ⟨rfl,q⟩
   ·exact .inr rfl
  rw [oZ hk] at o1;rw [sM (by omega)] at o2;simp only [MF] at *;constructor
  case gs =>
   simp (config:={ decide:=true }) only [Qs.add,xa];intro q;rw [(EJ hs (c:=x.un.core) (d:=c) u0 (by omega) c0 (by omega)).2,ql (by omega)]
  all_goals (try simp (config:={ decide:=true }) only [Qs.add,mW,Ar,sV,how,hc0,hs2,xa,qo,qh,sr])
  all_goals omega
 ·have hk1:x.un.k ≠ 1:=by omega
  rw [qg hk1];simp only [Ic];rw [oZ hk] at o2;rw [sM (by omega)] at o1;simp only [MF] at *;constructor<;>(try simp (config:={ decide:=true }) only [Qs.add,mW,Ar,sV,hs2,xa,qo,qh,sr])<;>omega
end Go.Am
namespace Go.Am
theorem B8 {L:List Int} (k l c j:Int):gQ (L.map λ d=>(⟨k,d,l,.zero⟩:Mg)) c l j=if k=j then L.count c else 0:=by
 induction L with
 | nil=>rw [List.map_nil,Ch];simp
 | cons a t ih =>
  rw [kh,q1l,ih,List.count_cons]
  by_cases q:k=j
  ·simp only [q,xa,sy,od,AN]
  ·simp only [q,qo,false_and]
theorem q5i {a:Nat} {c:Int} (c0:0<=c) (c4:c<4):(nd a).count c=hb a c:=by
 by_cases q:hb a c=1
 ·unfold nd;rw [List.count_filter (by simpa using q),q];rcases four c0 c4 with rfl|rfl|rfl|rfl<;>decide
 ·rw [List.count_eq_zero_of_not_mem (λ w=>q (q17.1 w).2.2)];have:=gW a c;omega
theorem A0 {a:Nat} {l c:Int} (f:List Mg) (c0:0<=c) (c4:c<4):qs (f++(nd a).map λ d=>(⟨11,d,l,.zero⟩:Mg)) c l=(qs f c l).add 11 (hb a c):=by
 unfold qs Qs.add;simp (config:={ decide:=true }) only [Ip,B8,q5i c0 c4,xa,qo]
structure XB (x:De) (m:Mg) (N l:Int):Prop where
 N4:N<=4
 ph:x.ph=0
 un:(m.k=1\/m.k=2)/\0<=m.core/\m.core<N/\m.line=l
 ow:-1<=x.ow/\x.ow<N
 sb:x.sh<16
 np:∀ c,0<=c->c<4->hb x.sh c=1->c<N
 os:0<=x.ow->x.sh=0
 wt:∀ w ∈ x.wt,(w.k=1\/w.k=2)/\0<=w.core/\w.core<N/\w.line=l
theorem Lc {s:Nat} (hs:s<16) {c d:Int} (c0:0<=c) (c1:c<4) (d0:0<=d) (d1:d<4):d=c/\hb (aU s c) d=0\/d ≠ c/\hb (aU s c) d=hb s d:=by
 rw [(FT hs c0 c1 d0 d1).2]
 by_cases q:d=c
 ·rw [ql q];exact .inl ⟨q,rfl⟩
 ·rw [qg q];exact .inr ⟨q,rfl⟩
theorem Ge {c d:Int} (c0:0<=c) (c1:c<4) (d0:0<=d) (d1:d<4):hb (2 ^ c.toNat) d=cE c d:=by
 rw [(tM c0 c1 d0 d1).2];unfold cE
 by_cases q:d=c
 ·rw [ql q,ql q.symm]
 ·rw [qg q,qg (λ w=>q w.symm)]
section
variable {x:De} {m:Mg} {w:L8} {N l:Int}
theorem XB.xr (h:XB x m N l) (how:¬ 0<=x.ow) (a:Nat):XR { x with un:=m,ask:=a } N l :=
 ⟨h.N4,h.un,by have:=h.ow;show x.ow = -1;omega,h.sb,h.np,h.wt⟩
theorem uS (h:XB x m N l):XI (x.begin m w).1 N l:=by
 have hN:=h.N4;have how:=h.ow;obtain ⟨hk,u0,u1,hl⟩:=h.un;have h4:m.core<4:=by omega
 unfold De.begin;split
 ·rename_i q;have hp:=λ d d0 d1=>tM (c:=x.ow) (d:=d) q (by omega) d0 d1;refine ⟨hN,by show (0:Int)<=2/\(2:Int)<=4;decide,how,h.sb,(hp 0 (by decide) (by decide)).1,h.np,λ _=>⟨hk,u0,u1,hl⟩,λ w=>?_,λ _=>⟨h.os q,x.ow,q,how.2,rfl,.inr rfl⟩,λ w=>?_,λ w=>?_,h.os,h.wt⟩
  ·exact absurd (show (2:Int)=1 from w) (by decide)
  ·exact absurd (show (2:Int)=3 from w) (by decide)
  ·exact absurd (show (2:Int)=4 from w) (by decide)
 ·rename_i q;split
  ·exact (Oz (h.xr q _)).1
  ·rename_i q2;have hd:=λ d d0 d1=>FT h.sb (c:=m.core) (d:=d) u0 h4 d0 d1;refine ⟨hN,by show (0:Int)<=1/\(1:Int)<=4;decide,how,h.sb,(hd 0 (by decide) (by decide)).1,h.np,λ _=>⟨hk,u0,u1,hl⟩,λ _=>⟨?_,?_,λ w=>q2 (.inr w),?_,λ c c0 c1 w=>?_,λ c c0 c1 w=>?_⟩,λ w=>?_,λ w=>?_,λ w=>?_,h.os,h.wt⟩
   ·show x.ow = -1;omega
   ·show m.k=2;omega
   ·show hb (aU x.sh m.core) m.core=0;rw [(hd m.core u0 h4).2,ql rfl]
   ·show hb (aU x.sh m.core) c=1\/c=m.core;have w:hb x.sh c=1:=w;rw [(hd c c0 c1).2]
    by_cases e:c=m.core
    ·exact .inr e
    ·rw [qg e];exact .inl w
   ·have w:hb (aU x.sh m.core) c=1:=w;rw [(hd c c0 c1).2] at w;split at w
    ·cases w
    ·exact h.np c c0 c1 w
   ·exact absurd (show (1:Int)=2 from w) (by decide)
   ·exact absurd (show (1:Int)=3 from w) (by decide)
   ·exact absurd (show (1:Int)=4 from w) (by decide)
theorem oe {a b:Int} (h:a ≠ b):cE a b=0:=qg h
theorem lT {a b:Int} (h:a=b):cE a b=1:=ql h
theorem vH {a b:Int} (h:cE a b=1):a=b:=by unfold cE at h;split at h;assumption;cases h
theorem zU (a b:Int):cE a b<=1:=by unfold cE;split<;>omega
theorem LC.idle {c s ot:Int} {bk:Nat} {q:Qs} {h1 h2:Nat} (h:LC x c s ot bk q h1 h2) (hp:x.ph=0):q.b1=0/\q.a4=0/\q.b2=0/\q.b3=0/\q.a5=0/\q.a6=0/\q.b4=0/\q.b5=0/\q.a7=0/\cE s 2+q.a3=cE x.ow c/\q.a1+wn x.wt c 1+h1=cE ot 1/\q.a2+wn x.wt c 2+h2=cE ot 2/\(s=1->hb x.sh c=1):=by
 have a:=h.ac;have b:=h.rc;have d:=h.gr;have e:=h.ow;have f:=h.o1;have g:=h.o2;simp (config:={ decide:=true }) only [hp,EE,mW,qo] at a b d f g;refine ⟨by omega,by omega,by omega,by omega,by omega,by omega,by omega,by omega,by omega,by omega,by omega,by omega,λ w=>?_⟩;rcases h.sh w with w|⟨w,-⟩|w
 ·exact w
 ·omega
 ·omega
theorem uH (h:XB x m N l) {c s ot:Int} {bk:Nat} {f:List Mg} (hl:LC x c s ot bk (qs f c l) (wu m.core m.k c 1) (wu m.core m.k c 2)) (c0:0<=c) (c1:c<N) :
 LC (x.begin m w).1 c s ot bk (qs (f++(x.begin m w).2) c l) 0 0:=by
 have hN:=h.N4;have how:=h.ow;obtain ⟨hk,u0,u1,rfl⟩:=h.un;have h4:m.core<4:=by omega
 have c4:c<4:=by omega
 obtain ⟨z1,z2,z3,z4,z5,z6,z7,z8,z9,zo,o1,o2,sh⟩:=hl.idle h.ph;have bks:=hl.bks;have t1:=hl.t1;have t2:=hl.t2;have bh:=hl.bh;have s2:=hl.s2;have ot2:=hl.ot2;have bk1:=hl.bk1;clear hl;unfold De.begin;split
 ·rename_i q;rw [ED,Ic];have hp:=Ge (c:=x.ow) (d:=c) q (by omega) c0 c4;have hos:hb x.sh c=0:=by rw [h.os q];exact sV c
  generalize qs f c m.line=q0 at *;have hs1:s ≠ 1:=λ w=>by have:=sh w;omega
  have hle:=zU x.ow c;rcases hk with hk|hk
  ·have hkk:(if m.k=2 then (13:Int) else 12)=12:=qg (by omega);constructor<;>(try simp (config:={ decide:=true }) only [Qs.add,ib (.inr (.inl rfl)),mW,hp,hkk,xa,qo,qh,sr])
   case sh=>exact λ w=>absurd w hs1
   case pt=>omega
   case t1=>exact t1
   case t2=>exact t2
   case bh=>exact bh
   all_goals (clear sh t1 t2 bh;omega)
  ·have hkk:(if m.k=2 then (13:Int) else 12)=13:=ql hk;constructor<;>(try simp (config:={ decide:=true }) only [Qs.add,ib (.inr (.inl rfl)),mW,hp,hkk,xa,qo,qh,sr])
   case sh=>exact λ w=>absurd w hs1
   case pt=>omega
   case t1=>exact t1
   case t2=>exact t2
   case bh=>exact bh
   all_goals (clear sh t1 t2 bh;omega)
 ·rename_i q;have hd1:cE x.ow c=0:=oe (by omega);have hs2:s ≠ 2:=λ w=>by rw [lT w] at zo;omega
  have hd:=Lc h.sb (c:=m.core) (d:=c) u0 h4 c0 c4;split
  ·rename_i q2;rw [ED];have hz:m.k=2->hb (aU x.sh m.core) c=0:=λ k2=>by rw [q2.resolve_left (by omega)];exact sV c
   refine q1y ?_ (h.xr q _) c0 c1;generalize qs f c m.line=q0 at *;constructor<;>(try dsimp only)
   case t1=>exact t1
   case bh=>exact bh
   case ss =>
    rcases (show s=0\/s=1 by omega) with w|w
    ·exact .inl w
    ·refine .inr ⟨w,λ _=>sh w,λ k2=>?_⟩;have:=sh w;have:=hz k2;omega
   all_goals (clear sh t1 t2 bh hd hz;omega)
  ·rename_i q2;rw [A0 f c0 c4];generalize qs f c m.line=q0 at *;have hk2:m.k=2:=by omega
   have hle:=gW (aU x.sh m.core) c;constructor<;>(try simp (config:={ decide:=true }) only [Qs.add,ib (.inl rfl),mW,hd1,xa,qo,qh,sr])
   case sh=>exact λ w=>.inl (sh w)
   case t1=>exact t1
   case t2=>exact t2
   case bh=>exact bh
   case pt=>omega
   all_goals (clear sh t1 t2 bh hd;omega)
end
end Go.Am
