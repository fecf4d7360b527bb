import Derived.Test.YtbpnpfalldaocaaGreatDoorAmCZf
import Derived.Test.YtbpnpfalldaocaaGreatDoorAmCZh
import Derived.Test.YtbpnpfalldaocaaGreatDoorAmCZd
set_option linter.defProp false
set_option linter.unusedVariables false
set_option linter.unusedSimpArgs false
set_option linter.unusedSectionVars false
set_option maxRecDepth 100000
open Bool renaming false→B2,true→B4
open Go renaming IntKind→KB
open Int renaming reduceEq→Mh
open List renaming range→Ig,replicate→Fh
open Option renaming none→B5,some→B1
open Nat renaming reduceEqDiff→bc
namespace Go.Am
open Go.Proofs Ca
open Lang (ints)
variable{M:ak}[MK M]
structure Na where
 r:Nat
 b:Nat
 sv:AV
 bv:AV
 ks:List Nat
structure Bs where
 D:Nat
 mp:Nat
 lv:AV
 ev:AV
 xs:List (De×AV)
 nv:AV
 fv:AV
 ad:List Na
def tT(r:Nat):List AV:=[.ptr r 0]
def ZU(r:Nat):(tT r).length=1:=rfl
def Na.w(A:Na):Nat->Prop:=iI A.r A.b A.sv A.bv
def Bs.dw(s:Bs):Nat->Prop:=lf s.D s.mp s.lv s.ev s.xs
def iV(B:Nat)(s:Bs)(z:Nat):Prop:=z=B\/s.dw z\/bm s.nv z\/bm s.fv z \/ ∃(c:Nat)(A:Na),s.ad[c]? = B1 A/\A.w z
structure fK(H0 H:ar)(B:Nat)(s:Bs)(b:Bu)(own:Nat->Nat):Prop where
 row:H.get B=B1 (OR [.ptr s.D 0,s.nv,s.fv,.int .i64 (b.l.length:Int)] Iw)
 lt:B<H.au
 d:lj H s.D s.mp s.lv s.ev b.ns.length b.m s.xs
 dx:s.xs.map Prod.fst=b.l
 nv:bU tT GV 1 H s.nv (s.ad.map Na.r)
 no:∀(c:Nat)(n:No)(A:Na),b.ns[c]? = B1 n->s.ad[c]? = B1 A->cN H0 H A.r A.b A.sv A.bv n A.ks
 al:s.ad.length=b.ns.length
 fl:Sk ao qy 11 H s.fv b.fl
 oB:own B=0
 oD:∀z,s.dw z->own z=1
 oN:∀z,bm s.nv z->own z=2
 oF:∀z,bm s.fv z->own z=3
 oC:∀(c:Nat)(A:Na),s.ad[c]? = B1 A -> ∀z,A.w z->own z=4+c
 lo:∀z,iV B s z->H0.au<=z
def cN.low{H0 H:ar}{r b:Nat}{sv bv:AV}{n:No}{ks:List Nat}(h:cN H0 H r b sv bv n ks){z:Nat}(a:iI r b sv bv z):z<H.au:=by
 rcases a with rfl|(rfl|rfl)|a
 .exact h.lt
 .exact h.ca.lt
 .exact h.ca.sl.lt
 .exact (h.bk.fresh z a).2
section
variable{H0 H:ar}{B:Nat}{s:Bs}{b:Bu}{own:Nat->Nat}
def fK.Ek(h:fK H0 H B s b own){c:Nat}{n:No}(hn:b.ns[c]? = B1 n):∃A,s.ad[c]? = B1 A/\cN H0 H A.r A.b A.sv A.bv n A.ks:=by
 have hl:=(qo.1 hn).1;have ha:s.ad[c]? = B1 (s.ad[c]'(by rw[h.al];exact hl)):=xj _;exact⟨_,ha,h.no c n _ hn ha⟩
def fK.low(h:fK H0 H B s b own){z:Nat}(a:iV B s z):z<H.au:=by
 rcases a with rfl|a|a|a|⟨c,A,e,a⟩
 .exact h.lt
 .exact h.d.low a
 .exact Own.lt h.nv z a
 .exact h.fl.lt z a
 .have hl:=(qo.1 e).1;have hn:b.ns[c]? = B1 (b.ns[c]'(by rw[<-h.al];exact hl)):=xj _;exact(h.no c _ A hn e).low a
def fK.fr{H':ar}{W:Nat->Prop}(h:fK H0 H B s b own)(f:Fr W H H')(hw:∀z,W z->H0.au<=z /\ ¬iV B s z):fK H0 H' B s b own :=
 ⟨by rw[f.ah _ h.lt (λ q=>(hw _ q).2 (.inl rfl))];exact h.row,qj h.lt f.au,h.d.fr f (λ z q w=>(hw z q).2 (.inr (.inl w))),h.dx,Own.fr h.nv f (λ z a q=>(hw z q).2 (.inr (.inr (.inl a)))),
  λ c n A hn e=>(h.no c n A hn e).off f λ z q=>⟨(hw z q).1,λ w=>(hw z q).2 (.inr (.inr (.inr (.inr ⟨c,A,e,w⟩))))⟩,h.al,h.fl.fr f (λ z a q=>(hw z q).2 (.inr (.inr (.inr (.inl a))))),h.oB,h.oD,h.oN,h.oF,h.oC,h.lo⟩
def fK.em{H':ar}(h:fK H0 H B s b own)(f:Fr Em H H'):fK H0 H' B s b own:=h.fr f λ z q=>q.elim
def fK.l1(h:fK H0 H B s b own):Op.ae [.ptr B 1] H=B1 s.nv:=xv (qt h.row) 1
def fK.l0(h:fK H0 H B s b own):Op.ae [.ptr B 0] H=B1 (.ptr s.D 0):=xv (qt h.row) 0
def fK.l2(h:fK H0 H B s b own):Op.ae [.ptr B 2] H=B1 s.fv:=xv (qt h.row) 2
def fK.l3(h:fK H0 H B s b own):Op.ae [.ptr B 3] H=B1 (.int .i64 (b.l.length:Int)):=xv (qt h.row) 3
def bw(own:Nat->Nat)(n k z:Nat):Nat:=if z<n then own z else k
def fK.node(h:fK H0 H B s b own){c:Nat}{n n':No}{A:Na}{H':ar}(hn:b.ns[c]? = B1 n)(m:s.ad[c]? = B1 A)(E:qM H0 H A.r A.b A.sv A.bv n' H') :
 ∃u o,fK H0 H' B u {b with ns:=b.ns.set c n'} o/\(∀z,iV B u z->iV B s z\/H.au<=z)/\Fr (iV B s) H H':=by
 have⟨i,j,hr,f,hb⟩:=E;have D:=(qo.1 hn).1;have C:=(qo.1 m).1;have y:Fr (iV B s) H H':=f.mono λ z _ q=>.inr (.inr (.inr (.inr ⟨c,A,m,q⟩)));have nw:∀z,iI A.r A.b A.sv A.bv z->own z=4+c:=h.oC c A m;have has:∀(d:Nat)(e:Na),(s.ad.set c {A with bv:=i,ks:=j})[d]? = B1 e->(d=c/\e = {A with bv:=i,ks:=j})\/d≠c/\s.ad[d]? = B1 e:=λ d e g=>by
  grind
 have t:∀z,iV B {s with ad:=s.ad.set c {A with bv:=i,ks:=j}} z->iV B s z\/H.au<=z:=λ z a=>by
  rcases a with a|a|a|a|⟨d,e,g,a⟩
  .exact .inl (.inl a)
  .exact .inl (.inr (.inl a))
  .exact .inl (.inr (.inr (.inl a)))
  .exact .inl (.inr (.inr (.inr (.inl a))))
  .rcases has d e g with⟨rfl,rfl⟩|⟨q,g⟩
   .rcases a with a|a|a
    .exact .inl (.inr (.inr (.inr (.inr ⟨d,A,m,.inl a⟩))))
    .exact .inl (.inr (.inr (.inr (.inr ⟨d,A,m,.inr (.inl a)⟩))))
    .rcases hb z a with w|w
     .exact .inl (.inr (.inr (.inr (.inr ⟨d,A,m,.inr (.inr w)⟩))))
     omega
   .exact .inl (.inr (.inr (.inr (.inr ⟨d,e,g,a⟩))))
 have v:H0.au<=H.au:=by have:=h.lo B (.inl rfl);have:=h.lt;omega
 have ne:∀{z k:Nat},own z=k->k≠4+c -> ¬iI A.r A.b A.sv A.bv z:=λ x G q=>(by grind)
 have ow:∀{z:Nat},z<H.au->bw own H.au (4+c) z=own z:=λ q=>qv q;refine⟨{s with ad:=s.ad.set c {A with bv:=i,ks:=j}},bw own H.au (4+c),⟨?_,qj h.lt f.au,?_,h.dx,?_,λ d n2 e l p=>?_,?_,?_,?_,λ z a=>?_,λ z a=>?_,λ z a=>?_,λ d e g z a=>?_,λ z a=>?_⟩,t,y⟩
 .rw [f.ah _ h.lt (ne h.oB (by omega))];exact h.row
 .simp only[xw];exact h.d.fr f λ z q w=>ne (h.oD z w) (by omega) q
 .have:(s.ad.set c {A with bv:=i,ks:=j}).map Na.r=s.ad.map Na.r:=by
   rw[List.map_set];apply j0
   grind
  simp only[this];exact Own.fr h.nv f λ z a q=>ne (h.oN z a) (by omega) q
 .have l:(b.ns.set c n')[d]? = B1 n2:=l;rcases has d e p with⟨rfl,rfl⟩|⟨q,g⟩
  .grind
  .rw [zm (pT q)]at l;refine(h.no d n2 e l g).off f λ z w=>⟨h.lo z (.inr (.inr (.inr (.inr ⟨c,A,m,w⟩)))),λ F=>?_⟩
   have x:=h.oC d e g z F
   grind
 .simp only[xw];exact h.al
 .exact h.fl.fr f λ z a q=>ne (h.oF z a) (by omega) q
 .rw [ow h.lt];exact h.oB
 .rw [ow (h.low (.inr (.inl a)))];exact h.oD z a
 .rw [ow (h.low (.inr (.inr (.inl a))))];exact h.oN z a
 .rw [ow (h.low (.inr (.inr (.inr (.inl a)))))];exact h.oF z a
 .rcases has d e g with⟨rfl,rfl⟩|⟨q,g⟩
  .unfold bw;split
   .rename_i q;rcases a with a|a|a
    .exact nw z (.inl a)
    .exact nw z (.inr (.inl a))
    .rcases hb z a with w|w
     .exact nw z (.inr (.inr w))
     .omega
   .rfl
  .rw [ow (h.low (.inr (.inr (.inr (.inr ⟨d,e,g,a⟩)))))];exact h.oC d e g z a
 .rcases t z a with w|w
  .exact h.lo z w
  .omega
end
end Go.Am
namespace Go.Am
open Go.Proofs Ca
open Lang (ints)
variable{M:ak}[MK M]
def kV(H0 H:ar)(B:Nat)(s:Bs)(b':Bu)(H':ar):Prop:=∃s' bw,fK H0 H' B s' b' bw/\(∀z,iV B s' z->iV B s z\/H.au<=z)/\Fr (iV B s) H H'
section
variable{H0 H:ar}{B:Nat}{s:Bs}{b:Bu}{own:Nat->Nat}
def kV.then{H1 d:ar}{s1:Bs}{e:Bu}(g:Fr (iV B s) H H1)(hs:∀z,iV B s1 z->iV B s z\/H.au<=z)(h:kV H0 H1 B s1 e d):kV H0 H B s e d:=by
 have⟨s2,o2,r,q,f⟩:=h;refine⟨s2,o2,r,λ z a=>(q z a).elim (hs z) λ w=>.inr (xm g.au w),g.trans f λ z a=>hs z a⟩
def kV.em{H1 a:ar}{d:Bu}(h:kV H0 H B s d H1)(f:Fr Em H1 a):kV H0 H B s d a:=by
 have⟨s2,o2,r,q,g⟩:=h;exact⟨s2,o2,r.em f,q,g.trans f λ _ w=>w.elim⟩
theorem kV.pre{H1 a:ar}{d:Bu}(f:Fr Em H H1)(h:kV H0 H1 B s d a):kV H0 H B s d a:=kV.then (f.mono λ _ _ q=>q.elim) (λ _ q=>.inl q) h
def fK.BF(h:fK H0 H B s b own){H1:ar}{e:AV}{j:List Mg}(hk:Sk ao qy 11 H1 e j)(f:Fr (bm s.fv) H H1)(u:∀z,bm e z->bm s.fv z\/H.au<=z):∃H',Op.store 1 [.ptr B 2,e] H1=B1 (.undef,H')/\kV H0 H B s {b with fl:=j} H':=by
 have y:aC e=true:=hk.one;have ne:∀{z k:Nat},own z=k->k≠3 -> ¬bm s.fv z:=λ m p q=>p (by rw[<-m];exact h.oF _ q);have I:H1.get B=B1 (OR [.ptr s.D 0,s.nv,s.fv,.int .i64 (b.l.length:Int)] Iw):=by rw[f.ah _ h.lt (ne h.oB (by decide))];exact h.row
 have t:e.cells=[e]:=by cases e<;>first|rfl|cases y
 have st:=ta I (o:=2) (n:=1) (v:=e) (by rw[t];rfl) (by simp) (by rw[t,ym];simpa using y);rw[t]at st;have G:Fr (iV B s) H H1:=f.mono λ z _ q=>.inr (.inr (.inr (.inl q)));have F:H0.au<=H.au:=by have:=h.lo B (.inl rfl);have:=h.lt;omega
 have C:∀z,iV B {s with fv:=e} z->iV B s z\/H.au<=z:=λ z a=>by
  rcases a with a|a|a|a|a
  .exact .inl (.inl a)
  .exact .inl (.inr (.inl a))
  .exact .inl (.inr (.inr (.inl a)))
  .rcases u z a with w|w
   .exact .inl (.inr (.inr (.inr (.inl w))))
   .exact .inr w
  .exact .inl (.inr (.inr (.inr (.inr a))))
 have ow:∀{z:Nat},z<H.au->bw own H.au 3 z=own z:=λ q=>qv q;have g:Fr (On B) H1 (H1.set B (OR ([AV.ptr s.D 0,s.nv,s.fv,.int .i64 (b.l.length:Int)].take 2 ++ [e] ++ [AV.ptr s.D 0,s.nv,s.fv,.int .i64 (b.l.length:Int)].drop (2+1)) Iw)):=(Fr.refl H1).set (W:=On B) (.inl rfl) _;have E:∀{z k:Nat},own z=k->k≠0 -> ¬z=B:=λ m p q=>p (by rw[<-m,q];exact h.oB);refine⟨_,st,{s with fv:=e},bw own H.au 3,⟨xb ..,?_,?_,h.dx,?_,λ c n A hn i=>?_,h.al,?_,?_,λ z a=>?_,λ z a=>?_,λ z a=>?_,λ c A i z a=>?_,λ z a=>?_⟩,C,G.trans g λ z q=>.inl (.inl q)⟩
 .exact qj h.lt (xm f.au g.au)
 .exact (h.d.fr f λ z q w=>ne (h.oD z w) (by decide) q).fr g λ z q w=>E (h.oD z w) (by decide) q
 .exact Own.fr (Own.fr h.nv f λ z a q=>ne (h.oN z a) (by decide) q) g λ z a q=>E (h.oN z a) (by decide) q
 .refine ((h.no c n A hn i).off f λ z w=>⟨h.lo z (.inr (.inr (.inr (.inl w)))),λ x=>?_⟩).off g λ z w=>?_
  .have:=h.oC c A i z x;have:=h.oF z w;omega
  .have w:z=B:=w;refine⟨by rw[w];exact h.lo B (.inl rfl),λ x=>?_⟩;have:=h.oC c A i z x;rw[w,h.oB]at this;omega
 .refine hk.fr g λ z a q=>?_;have q:z=B:=q;rcases u z a with w|w
  .rw [q]at w;exact ne h.oB (by decide) w
  .have:=h.lt;omega
 .rw [ow h.lt];exact h.oB
 .rw [ow (h.low (.inr (.inl a)))];exact h.oD z a
 .rw [ow (h.low (.inr (.inr (.inl a))))];exact h.oN z a
 .unfold bw;split
  .rcases u z a with w|w
   .exact h.oF z w
   .omega
  .rfl
 .rw [ow (h.low (.inr (.inr (.inr (.inr ⟨c,A,i,a⟩)))))];exact h.oC c A i z a
 .rcases C z a with w|w
  .exact h.lo z w
  .omega
def ad1(l:List Mg):aP (l.flatMap ao)=true:=by
 rw[ym,List.all_flatMap,EZ];intro x _;have:=wh x;rw[ym]at this;exact this
def TF(h:fK H0 H B s b own){a:AV}{ms:List Mg}(hm:eS ao 11 H a ms)(hl:b.fl.length+ms.length<=1000000):xz M Qv [.ptr B 0,a] H λ _ H'=>kV H0 H B s {b with fl:=b.fl++ms} H':=by
 refine q19 ?_;have⟨v1,H1,s1,e,d,o1⟩:=h.fl.app x9 (by decide) (ys:=ms) rfl rfl (Sl.eL hm) (Sl.first hm) (ad1 ms) (bytes:=88) (by omega) (by omega);have⟨g,s2,f⟩:=h.BF e d o1;simp only[aa,bc,q2a,qk,h.l2,s1,s2];exact f
def Jy(h:fK H0 H B s b own)(l:b.ns.length<=4)(c:Int):xz M Ub [.ptr B 0,.int .i64 c] H λ v H'=>H'=H/\((0<=c/\c<b.ns.length -> ∃A,s.ad[c.toNat]? = B1 A/\v=.tuple [.ptr A.r 0,.int .i64 0])/\(¬(0<=c/\c<b.ns.length)->v=.tuple [.nilp,.int .i64 2])):=by
 refine _V ?_;obtain⟨w0,g,f⟩:=q6u M ⟨B5,Ub⟩;have a:=h.nv.sl.len;rw[zj,h.al]at a
 by_cases e:c<0
 .simp only[aa,bc,w0,g,kw,qr e];exact⟨λ q=>by omega,λ _=>trivial⟩
 by_cases k:((b.ns.length:Nat):Int)<=c
 .simp only[aa,bc,w0,g,kw,e,qk,h.l1,a,qr k];exact⟨λ q=>by omega,λ _=>trivial⟩
 have d:c.toNat<s.ad.length:=by rw[h.al];omega
 have i:s.ad[c.toNat]? = B1 (s.ad[c.toNat]):=xj d;have j:(s.ad.map Na.r)[c.toNat]? = B1 (s.ad[c.toNat]).r:=by rw[xr,i];rfl
 have ix:=h.nv.sl.idx j (z:=c) (by omega) .i64;have ld:=h.nv.sl.nj ZU j (by decide);have ld:Op.ae [.ptr (aG s.nv) (cw 1 s.nv c.toNat)] H=B1 (.ptr (s.ad[c.toNat]).r 0):=ld;simp only[aa,bc,w0,g,kw,e,qk,h.l1,a,k,f,ix,ld];exact⟨λ _=>⟨_,i,rfl⟩,λ q=>absurd ⟨by omega,by omega⟩ q⟩
end
end Go.Am
namespace Go.Am
open Go.Proofs Ca
open Lang (ints)
variable{M:ak}[MK M]
def No.iN(n:No)(a o:Int):Bool×Bool×Int:=if n.may a then if n.live then(B2,B2,41)else if n.owned (No.ln a)then(decide ((n.c.word a.toNat).2.getD 0=o),B4,0)else(B2,B2,0)else(B2,B2,2)
section
variable{H0 H:ar}{r b:Nat}{sv bv:AV}{n:No}{ks:List Nat}
def q84(h:cN H0 H r b sv bv n ks):xz M Sa [.ptr r 0] H λ v H'=>v=.int .i64 (if n.live=B4 then 41 else 0)/\cN H0 H' r b sv bv n.begin ks/\Fr (iI r b sv bv) H H':=by
 refine qtt ?_;obtain⟨w0,d,a⟩:=J_ M ⟨B5,Sa⟩;have ij:=h.ij;unfold No.begin;cases hl:n.live with
 |true =>
  rw[hl]at ij;simp only[aa,bc,w0,d,kw,qk,ij];exact⟨h,Fr.refl _⟩
 |false =>
  rw[hl]at ij;have⟨k,s2,g,e⟩:=h.qU B4;have⟨l,j,i,f⟩:=g.tZ 0;simp only[aa,bc,w0,d,kw,qk,ij,a,s2,j];exact⟨by first|rfl|trivial|(simp),by rw[qn (by decide)];exact i,i5 (IH e) (IH f)⟩
def q5p(h:cN H0 H r b sv bv n ks):xz M Rt [.ptr r 0] H λ v H'=>v=.int .i64 (if n.live=B4 then 0 else 40)/\cN H0 H' r b sv bv n.aT ks/\Fr (iI r b sv bv) H H':=by
 refine qr3 ?_;obtain⟨w0,f,d⟩:=Φ M ⟨B5,Rt⟩;have ij:=h.ij;unfold No.aT;cases hl:n.live with
 |false =>
  rw[hl]at ij;simp only[aa,bc,w0,f,kw,qk,ij];exact⟨by first|rfl|trivial|(simp),by rw[qn (by decide)];exact h,Fr.refl _⟩
 |true =>
  rw[hl]at ij;simp only[aa,bc,w0,f,kw,qk,ij,d,h.l2];refine C3.q (yc h.ca h.len) λ _ H1⟨i,e⟩=>?_;have a:=h.hC i e (by show(n.c.sl.map nO).length<=40;rw[zj];exact h.len);have⟨k,s2,j,g⟩:=a.qU B2;simp only[aa,bc,qk,s2];exact⟨j,i5 (uk e) (IH g)⟩
def vI(H0 H:ar)(r b:Nat)(sv bv:AV)(n:No)(ks:List Nat)(a o y:Int)(v:AV)(H':ar):Prop:=(∃ov,v=.tuple [.bool (n.iN a o).1,.bool (n.iN a o).2.1,ov,.int .i64 (n.iN a o).2.2]/\mM H H' ov (n.mL a o y).2)/\cN H0 H' r b sv bv (n.mL a o y).1 ks/\Fr (iI r b sv bv) H H'
def xe9(h:cN H0 H r b sv bv n ks)(m:CI n.lines n.c)(hk:n.aR.length<=900000)(hu:n.c.us+2<=1000000)(a o y:Int):xz M Qg [.ptr r 0,.int .i64 a,.int .u64 o,.int .u64 y] H (vI H0 H r b sv bv n ks a o y):=by
 refine q0z ?_;obtain⟨w0,U,w,E,F,G,x,z⟩:=q00 M ⟨B5,Qg⟩;simp only[aa,bc,w0,U];refine C3.q (RC h a) λ v H1⟨u,P⟩=>?_;rw[u,P]
 by_cases hm:n.may a
 case neg =>
  have j:n.mL a o y=(n,[]):=by unfold No.mL;rw[qn hm]
  have ev:n.iN a o=(B2,B2,2):=by unfold No.iN;rw[qn hm]
  have T:¬(2:Int)=0:=by decide
  rw[qn hm];unfold vI;rw[j,ev];simp only[aa,bc,T];exact⟨⟨.nils,rfl,mM.nil ..⟩,h,Fr.refl _⟩
 rw[qv hm];have hl:=h.li;have⟨K,S⟩:=hm;obtain⟨e,rfl⟩:=jk K;have l:e<1000000:=by omega
 have g:n.may (e:Int):=⟨K,S⟩
 have k:No.ln (e:Int)=((e / 8:Nat):Int):=rfl;have X:=qr (show(0:Int)=0 from rfl);have ij:=h.ij;cases f:n.live with
 |true =>
  have j:n.mL (e:Int) o y=(n,[]):=by unfold No.mL;rw[qv g,f];rfl
  have ev:n.iN (e:Int) o=(B2,B2,41):=by unfold No.iN;rw[qv g,f];rfl
  rw[f]at ij;unfold vI;rw[j,ev];simp only[aa,bc,w,qk,ij];exact⟨⟨.nils,rfl,mM.nil ..⟩,h,Fr.refl _⟩
 |false =>
  rw[f]at ij;simp only[aa,bc,w,qk,ij,E,Bw l,F];refine C3.q (Vo (line:=((e / 8:Nat):Int)) h m) λ v H1⟨u,A⟩=>?_;rw[u];have hb:=h.em A;cases ho:n.owned ((e / 8:Nat):Int)with
  |false =>
   have j:n.mL (e:Int) o y=n.ask 2 ((e / 8:Nat):Int):=by
    unfold No.mL;rw[qv g,f,k,ho];rfl
   have ev:n.iN (e:Int) o=(B2,B2,0):=by unfold No.iN;rw[qv g,f,k,ho];rfl
   simp only[aa,bc];refine C3.q (T8 hb hk 2 ((e / 8:Nat):Int)) λ v V⟨t,hn,C⟩=>?_;unfold vI;rw[j,ev];simp only[aa,bc];exact⟨⟨v,rfl,t.1,λ q=>xm A.au (t.2 q)⟩,hn,i5 (mf A) C⟩
  |true =>
   have⟨i,hp,Q⟩:=xgw ho;have hw:(n.c.word e).2=B1 ((n.c.en i).d.get (e % 8)):=by unfold Ca.word;rw[hp]
   have j:n.mL (e:Int) o y=({n with c:=if(n.c.en i).d.get (e % 8)=o then(n.c.word e).1.put e y else(n.c.word e).1},[]):=by
    unfold No.mL;rw[qv g,f,k,ho,qn (by decide),qv rfl];simp only[IJ,hw,vr]
   have ev:n.iN (e:Int) o=(decide ((n.c.en i).d.get (e % 8)=o),B4,0):=by
    unfold No.iN;rw[qv g,f,k,ho,qn (by decide),qv rfl];simp only[IJ,hw,vr]
   simp only[aa,bc,G,qk,hb.l2];refine C3.q (hQ hb.ca m (by omega) l) λ v L⟨u,N,I⟩=>?_;rw[u];have hn:=hb.hC N I (by rw[(L4 ..).1];exact h.len);unfold ui;rw[hp];have p:Fr (iI r b sv bv) H L:=i5 (mf A) (uk I)
   by_cases q:(n.c.en i).d.get (e % 8)=o
   .rw [qv q]at j;rw[jz q]at ev;simp only[aa,bc,xc,x,qr q,qk,hn.l2];refine C3.q (ZC hn.ca (m.word e) (by show(n.c.word e).1.us+1<=1000000;have:=(L4 n.c e).2;omega) l y) λ v W⟨R,O,J⟩=>?_;have D:=hn.hC O J (by rw[(O5 ..).1,(L4 ..).1];exact h.len);unfold vI;rw[j,ev];simp only[aa,bc,z,qr q];exact⟨⟨.nils,rfl,mM.nil ..⟩,D,i5 p (uk J)⟩
   .rw [qn q]at j;rw[jw q]at ev;unfold vI;rw[j,ev];simp only[aa,bc,xc,x,q,z];exact⟨⟨.nils,rfl,mM.nil ..⟩,hn,p⟩
end
end Go.Am
namespace Go.Am
open Go.Proofs Ca
open Lang (ints)
variable{M:ak}[MK M]
structure BB(b:Bu):Prop where
 N4:b.ns.length<=4
 fl:b.fl.length<=900000
 no:∀(c:Nat)n,b.ns[c]? = B1 n->n.NI/\n.aR.length<=900000/\n.c.us+2<=1000000
def P4(n:No)(k l:Int):(n.ask k l).2.length<=1:=by unfold No.ask;split<;>simp
def Zy(n:No)(a:Int):(n.load a).2.2.2.1.length<=1:=by
 unfold No.load;split
 .cases n.c.find (No.ln a)with
  |none=>exact P4 ..
  |some x=>simp
 .simp
def WC(n:No)(a y:Int):(n.store a y).2.2.1.length<=1:=by
 unfold No.store;split
 .split
  .simp
  .exact P4 ..
 .simp
def uS(n:No)(a o y:Int):(n.mL a o y).2.length<=1:=by
 unfold No.mL;split
 .split
  .simp
  .split
   .simp
   .exact P4 ..
 .simp
def Y4(n:No)(x:En):(n.gone x).2.length<=1:=by unfold No.gone;split<;>simp
def xfn(n:No)(l:Int):(n.eQ l).2.length<=1:=by
 unfold No.eQ;split
 .simp
 .cases n.c.find l with
  |none=>simp
  |some x=>exact Y4 ..
def ag4(n:No)(m:Mg):(n.fill m).2.length<=1:=by
 have:∀(n:No)st,(n.dp m st).2.length<=1:=λ n st=>by
  unfold No.dp;split
  .exact Y4 ..
  .simp
 unfold No.fill No.kH;generalize(if m.k=15 then(2:Int)else 1)=st;split<;>exact this _ _
def Zl(n:No)(m:Mg):(n.bh m).2.length<=2:=by
 unfold No.bh;split;· simp
 split;· simp
 split
 .cases n.c.find m.line with
  |none=>simp
  |some x=>simp only;split<;>simp
 split;· simp
 cases n.c.find m.line with
 |some x=>simp
 |none =>
  have:=ag4 {n with out:=⟨0,0,0,.zero⟩} m;simp only[xk,zy,j7];omega
section
variable{H0 H:ar}{B:Nat}{s:Bs}{b:Bu}{own:Nat->Nat}{c:Int}{n:No}
def cN.t{r b:Nat}{sv bv:AV}{n':No}{ks:List Nat}{H':ar}(h:cN H0 H' r b sv bv n' ks)(f:Fr (iI r b sv bv) H H'):qM H0 H r b sv bv n' H':=⟨bv,ks,h,f,λ _ q=>.inl q⟩
def fK.out(h:fK H0 H B s b own)(hb:BB b){c:Nat}{n n':No}{A:Na}{H1:ar}{a:AV}{ms:List Mg}(hn:b.ns[c]? = B1 n)(f:s.ad[c]? = B1 A)(j:qM H0 H A.r A.b A.sv A.bv n' H1)(hm:mM H H1 a ms)(hl:ms.length<=2){Q:AV->ar->Prop}{r:AV}
 (g:∀{H'},kV H0 H B s (b.put c (n',ms)) H'->Q r H'):xz M Qv [.ptr B 0,a] H1 λ _ H'=>Q r H':=by
 have⟨l,o',e,k,d⟩:=h.node hn f j;have i:=hb.fl;exact(TF e hm.1 (by show b.fl.length+ms.length<=1000000;omega)).mono λ v H' hp=>g (kV.then d k hp)
def BN(hn:b.ns[c.toNat]? = B1 n)(a:0<=c):0<=c/\c<b.ns.length:=by have:=(qo.1 hn).1;omega
def xek(h:fK H0 H B s b own)(hb:BB b)(j:0<=c)(hn:b.ns[c.toNat]? = B1 n)(a:Int):xz M Oo [.ptr B 0,.int .i64 c,.int .i64 a] H λ v H'=>v=.tuple [.int .u64 (n.load a).2.1,.bool (n.load a).2.2.1,.int .i64 (n.load a).2.2.2.2]/\kV H0 H B s (b.put c.toNat ((n.load a).1,(n.load a).2.2.2.1)) H':=by
 refine q15 ?_;obtain⟨w0,w4,g⟩:=q16 M ⟨B5,Oo⟩;simp only[aa,bc,w0];refine C3.q (Jy h hb.N4 c) λ v H1⟨m,k,_⟩=>?_;have⟨A,i,o⟩:=k (BN hn j);rw[o,m];have y:=qr (show(0:Int)=0 from rfl);have⟨ni,bk,us⟩:=hb.no _ n hn;have p:=h.no _ n A hn i;simp only[aa,bc,xc,w4,g];refine C3.q (Z7 p ni.ci bk (by omega) a) λ v u⟨⟨x,f,d⟩,e,l⟩=>?_;rw[f];simp only[aa,bc,xc];refine C3.q (h.out hb hn i (e.t l) d (by have:=Zy n a;omega) (Q:=λ _ H'=>kV H0 H B s (b.put c.toNat ((n.load a).1,(n.load a).2.2.2.1)) H') (r:=.nils) id) λ v w hp=>?_;simp only[aa,bc];exact hp
def xck(h:fK H0 H B s b own)(hb:BB b)(j:0<=c)(hn:b.ns[c.toNat]? = B1 n)(a y:Int):xz M N8 [.ptr B 0,.int .i64 c,.int .i64 a,.int .u64 y] H λ v H'=>v=.tuple [.bool (n.store a y).2.1,.int .i64 (n.store a y).2.2.2]/\kV H0 H B s (b.put c.toNat ((n.store a y).1,(n.store a y).2.2.1)) H':=by
 refine qy5 ?_;obtain⟨w0,w4,g⟩:=qy6 M ⟨B5,N8⟩;simp only[aa,bc,w0];refine C3.q (Jy h hb.N4 c) λ v H1⟨m,k,_⟩=>?_;have⟨A,i,o⟩:=k (BN hn j);rw[o,m];have z:=qr (show(0:Int)=0 from rfl);have⟨ni,bk,us⟩:=hb.no _ n hn;have p:=h.no _ n A hn i;simp only[aa,bc,xc,w4,g];refine C3.q (L_ p ni.ci bk (by omega) a y) λ v u⟨⟨x,f,d⟩,e,l⟩=>?_;rw[f];simp only[aa,bc,xc];refine C3.q (h.out hb hn i (e.t l) d (by have:=WC n a y;omega) (Q:=λ _ H'=>kV H0 H B s (b.put c.toNat ((n.store a y).1,(n.store a y).2.2.1)) H') (r:=.nils) id) λ v w hp=>?_;simp only[aa,bc];exact hp
def yU(h:fK H0 H B s b own)(hb:BB b)(j:0<=c)(hn:b.ns[c.toNat]? = B1 n)(a o y:Int):xz M O4 [.ptr B 0,.int .i64 c,.int .i64 a,.int .u64 o,.int .u64 y] H λ v H'=>v=.tuple [.bool (n.iN a o).1,.bool (n.iN a o).2.1,.int .i64 (n.iN a o).2.2]/\kV H0 H B s (b.put c.toNat (n.mL a o y)) H':=by
 refine q4n ?_;obtain⟨w0,w4,g⟩:=q4o M ⟨B5,O4⟩;simp only[aa,bc,w0];refine C3.q (Jy h hb.N4 c) λ v H1⟨m,k,_⟩=>?_;have⟨A,i,p⟩:=k (BN hn j);rw[p,m];have C:=qr (show(0:Int)=0 from rfl);have⟨ni,bk,us⟩:=hb.no _ n hn;have u:=h.no _ n A hn i;simp only[aa,bc,xc,w4,g];refine C3.q (xe9 u ni.ci bk us a o y) λ v w⟨⟨z,f,d⟩,e,l⟩=>?_;rw[f];simp only[aa,bc,xc];refine C3.q (h.out hb hn i (e.t l) d (by have:=uS n a o y;omega) (Q:=λ _ H'=>kV H0 H B s (b.put c.toNat (n.mL a o y)) H') (r:=.nils) id) λ v x hp=>?_;simp only[aa,bc];exact hp
def q6f(h:fK H0 H B s b own)(hb:BB b)(e:0<=c)(hn:b.ns[c.toNat]? = B1 n):xz M OX [.ptr B 0,.int .i64 c] H λ v H'=>v=.bool n.live/\H'=H:=by
 refine q13 ?_;simp only[aa,bc,_T];refine C3.q (Jy h hb.N4 c) λ v H1⟨i,f,_⟩=>?_;have⟨A,g,j⟩:=f (BN hn e);rw[j,i];have k:=h.no _ n A hn g;simp only[aa,bc,xc];refine C3.q (xgc k) λ v l⟨d,a⟩=>?_;rw[d,a];simp only[aa,bc]
end
end Go.Am
namespace Go.Am
open Go.Proofs Ca
open Lang (ints)
variable{M:ak}[MK M]
def Bu.pK(b:Bu)(i:Nat):Bu:=match b.fl[i]? with
 |none=>b
 |some m=>if m.k<=7 then match b.l[m.line.toNat]?,b.m[m.line.toNat]? with
  |some x,B1 w=>{b with m:=b.m.set m.line.toNat (x.bh w m).2.1,l:=b.l.set m.line.toNat (x.bh w m).1,fl:=b.fl.eraseIdx i++(x.bh w m).2.2}
  |_,_=>b
  else match b.ns[m.core.toNat]? with
   |some n=>{b with ns:=b.ns.set m.core.toNat (n.bh m).1,fl:=b.fl.eraseIdx i++(n.bh m).2}
   |none=>b
section
variable{H0 H:ar}{B:Nat}{s:Bs}{b:Bu}{own:Nat->Nat}{c:Int}{n:No}
def fK.quiet(h:fK H0 H B s b own){c:Nat}{n n':No}{A:Na}{H1:ar}(hn:b.ns[c]? = B1 n)(e:s.ad[c]? = B1 A)(f:qM H0 H A.r A.b A.sv A.bv n' H1):kV H0 H B s (b.put c (n',[])) H1:=by
 have⟨i,o',d,g,a⟩:=h.node hn e f;refine⟨i,o',?_,g,a⟩;have:b.put c (n',[]) = {b with ns:=b.ns.set c n'}:=by unfold Bu.put;simp
 rw[this];exact d
def TK{H1:ar}{e:AV}{n':No}(h:fK H0 H B s b own)(hb:BB b)(k:0<=c)(hn:b.ns[c.toNat]? = B1 n){f:Nat}{cap:List AV}
 (m:∀{A:Na},s.ad[c.toNat]? = B1 A->xz M f ([AV.ptr A.r 0]++cap) H λ v H'=>v=e/\cN H0 H' A.r A.b A.sv A.bv n' A.ks/\Fr (iI A.r A.b A.sv A.bv) H H'):xz M Tb [.ptr B 0,.int .i64 c,.fn (.func f) [] cap] H λ v H'=>v=e/\kV H0 H B s (b.put c.toNat (n',[])) H':=by
 refine q17 ?_;obtain⟨w0,w4,i⟩:=Ψ M ⟨B5,Tb⟩;simp only[aa,bc,w0];refine C3.q (Jy h hb.N4 c) λ v H1⟨o,l,_⟩=>?_;have⟨A,j,p⟩:=l (BN hn k);rw[p,o];have w:=qr (show(0:Int)=0 from rfl);simp only[aa,bc,xc,w4,i];refine C3.q (m j) λ v u⟨g,d,a⟩=>?_;rw[g];simp only[aa,bc];exact h.quiet hn j (d.t a)
def xca(h:fK H0 H B s b own)(hb:BB b)(a:0<=c)(hn:b.ns[c.toNat]? = B1 n):xz M PE [.ptr B 0,.int .i64 c] H λ v H'=>v=.int .i64 (if n.live=B4 then 41 else 0)/\kV H0 H B s (b.put c.toNat (n.begin,[])) H':=by
 refine g_ ?_;simp only[aa,bc,_q];refine C3.q (TK (H1:=H) h hb a hn (cap:=[]) λ{A}d=>q84 (h.no _ n A hn d)) λ v f⟨e,hp⟩=>?_;rw[e];simp only[aa,bc];exact hp
def q8t(h:fK H0 H B s b own)(hb:BB b)(a:0<=c)(hn:b.ns[c.toNat]? = B1 n):xz M NF [.ptr B 0,.int .i64 c] H λ v H'=>v=.int .i64 (if n.live=B4 then 0 else 40)/\kV H0 H B s (b.put c.toNat (n.aT,[])) H':=by
 refine qvc ?_;simp only[aa,bc,L'];refine C3.q (TK (H1:=H) h hb a hn (cap:=[]) λ{A}d=>q5p (h.no _ n A hn d)) λ v f⟨e,hp⟩=>?_;rw[e];simp only[aa,bc];exact hp
def _9{A:Na}{t:Nat}{k:Int}(d:cN H0 H A.r A.b A.sv A.bv n A.ks)(hl:Op.ae [.ptr t 0] H=B1 (.int .i64 k)):xz M PF ([.ptr A.r 0] ++ [.ptr t 0]) H λ v H'=>v=.int .i64 (n.abort k).2/\cN H0 H' A.r A.b A.sv A.bv (n.abort k).1 A.ks/\Fr (iI A.r A.b A.sv A.bv) H H':=by
 refine κ ?_;simp only[aa,bc,qs1,hl];refine C3.q (xb8 d k) λ v e⟨a,hp⟩=>?_;rw[a];simp only[aa,bc];exact hp
def D_(h:fK H0 H B s b own)(hb:BB b)(f:0<=c)(hn:b.ns[c.toNat]? = B1 n)(k:Int):xz M N9 [.ptr B 0,.int .i64 c,.int .i64 k] H λ v H'=>kV H0 H B s (b.put c.toNat ((n.abort k).1,[])) H':=by
 refine qy1 ?_;obtain⟨H1,g,a,-,i⟩:=de H (OR [.int .i64 k] cM);have ca:AV.cells (.int .i64 k)=[.int .i64 k]:=rfl;have l1:Op.ae [.ptr H.au 0] H1=B1 (.int .i64 k):=xv (qt i) 0;have mk:Op.bS PF 0 [.ptr H.au 0]=B1 (.fn (.func PF) [] [.ptr H.au 0]):=rfl;simp only[aa,bc,qy2,ca,<-g];have d:=h.em a;refine C3.q (TK (H1:=H1) (e:=.int .i64 (n.abort k).2) (n':=(n.abort k).1) d hb f hn (cap:=[.ptr H.au 0]) λ{A}j=>_9 (d.no _ n A hn j) l1) λ v l⟨m,hp⟩=>?_;simp only[aa,bc];exact kV.pre a hp
def yZ{fv:AV}{fl:List Mg}(h:Sk ao qy 11 H fv fl){i:Nat}(e:i<fl.length)(hl:fl.length<=1000000):xz M UJ [fv,.int .i64 (i:Int),.int .i64 ((i+1:Nat):Int)] H λ v H'=>Sk ao qy 11 H' v (fl.eraseIdx i)/\Fr (bm fv) H H' /\ ∀z,bm v z->bm fv z:=by
 refine qls ?_;obtain⟨w0,w4,d⟩:=T_ M ⟨B5,UJ⟩;rcases h with⟨-,rfl⟩|⟨b,j,alt,r,hk⟩
 .simp at e
 have⟨v0,v1,v2,w,H1,v4,u,a0,g,k,l,p,m,o,b5,t⟩:=hk.del x9 wh (by decide) e (zero:=ao ⟨0,0,0,.zero⟩) (x9 _) (wh _) 88;have a:=(hk.sl x9).len;have ne:¬(i:Int)=((i+1:Nat):Int):=by omega
 simp only[aa,bc,w0,a,a0,w4,ne,d,g,k,l,p,m,mZ,o];exact⟨.inr ⟨_,_,_,_,b5⟩,t.mono λ z f(q:z=b)=>by rw[q];exact hk.on,λ z f=>by rw[b5.Pf f];exact hk.on⟩
def fK.dir(h:fK H0 H B s b own){i:Nat}{x j:De}{a g:AV}{w':L8}{H':ar}(v:s.xs[i]? = B1 (x,a))(he:dv H' s.D s.mp s.lv s.ev b.ns.length (b.m.set i w') s.xs i j g)(f:Fr s.dw H H')(r:∀z,bm g z->bm a z\/H.au<=z) :
 ∃C t,fK H0 H' B C {b with m:=b.m.set i w',l:=b.l.set i j} t/\(∀z,iV B C z->iV B s z\/H.au<=z)/\Fr (iV B s) H H':=by
 have I:Fr (iV B s) H H':=f.mono λ z _ q=>.inr (.inl q);have ne:∀{z k:Nat},own z=k->k≠1 -> ¬s.dw z:=λ F G q=>G (by rw[<-F];exact h.oD _ q);have E:H0.au<=H.au:=by have:=h.lo B (.inl rfl);have:=h.lt;omega
 have J:=(qo.1 v).1;have p:∀z,Bs.dw {s with xs:=s.xs.set i (j,g)} z->s.dw z\/H.au<=z:=λ z q=>by
  rcases q with q|q|q|q|⟨k,y,c,hk,q⟩
  .exact .inl (.inl q)
  .exact .inl (.inr (.inl q))
  .exact .inl (.inr (.inr (.inl q)))
  .exact .inl (.inr (.inr (.inr (.inl q))))
  .have hk:(s.xs.set i (j,g))[k]? = B1 (y,c):=hk
   by_cases e:k=i
   .subst e;rw[zf J]at hk;injection hk with hk;injection hk with _ hk;subst hk
    exact(r z q).elim (λ q=>.inl (.inr (.inr (.inr (.inr ⟨k,x,a,v,q⟩))))) .inr
   .rw [zm (pT e)]at hk;exact .inl (.inr (.inr (.inr (.inr ⟨k,y,c,hk,q⟩))))
 have u:∀z,iV B {s with xs:=s.xs.set i (j,g)} z->iV B s z\/H.au<=z:=λ z q=>by
  rcases q with q|q|q|q|q
  .exact .inl (.inl q)
  .exact (p z q).elim (λ q=>.inl (.inr (.inl q))) .inr
  .exact .inl (.inr (.inr (.inl q)))
  .exact .inl (.inr (.inr (.inr (.inl q))))
  .exact .inl (.inr (.inr (.inr (.inr q))))
 have ow:∀{z:Nat},z<H.au->bw own H.au 1 z=own z:=λ q=>qv q;refine⟨{s with xs:=s.xs.set i (j,g)},bw own H.au 1,⟨?_,qj h.lt f.au,he.d,?_,?_,λ c n A hn o=>?_,h.al,?_,?_,λ z q=>?_,λ z q=>?_,λ z q=>?_,λ c A o z q=>?_,λ z q=>?_⟩,u,I⟩
 .simp only[xw];rw[f.ah _ h.lt (ne h.oB (by decide))];exact h.row
 .simp only[List.map_set,h.dx]
 .exact Own.fr h.nv f λ z r q=>ne (h.oN z r) (by decide) q
 .refine (h.no c n A hn o).off f λ z w=>⟨h.lo z (.inr (.inl w)),λ K=>?_⟩
  have:=h.oC c A o z K;have:=h.oD z w;omega
 .exact h.fl.fr f λ z r q=>ne (h.oF z r) (by decide) q
 .rw [ow h.lt];exact h.oB
 .unfold bw;split
  .rcases p z q with w|w
   .exact h.oD z w
   .omega
  .rfl
 .rw [ow (h.low (.inr (.inr (.inl q))))];exact h.oN z q
 .rw [ow (h.low (.inr (.inr (.inr (.inl q)))))];exact h.oF z q
 .rw [ow (h.low (.inr (.inr (.inr (.inr ⟨c,A,o,q⟩)))))];exact h.oC c A o z q
 .rcases u z q with w|w
  .exact h.lo z w
  .omega
end
end Go.Am
namespace Go.Am
open Go.Proofs Ca
open Lang (ints)
variable{M:ak}[MK M]
def Yf(x:De)(w:L8)(m:Mg):(x.bh w m).2.2.length<=4:=by
 have hb:∀(y:De)n,(y.begin n w).2.length<=4:=λ y n=>by
  unfold De.begin;split
  .simp
  .split
   .simp
   .rw [zj];unfold tK;exact List.length_filter_le ..
 have hr:∀(y:De)w'(q:Prop)[Decidable q](r:List Mg),r.length<=3->(y.sK w' q r).2.2.length<=4:=λ y w' q _ r h=>by
  unfold De.sK;split
  .simp only[xk,zy,j7];omega
  .simp only;omega
 unfold De.bh;split;· simp
 split
 .split
  .simp
  .exact hb _ _
 split;· exact hr _ _ _ _ (by simp)
 split;· exact hr _ _ _ _ (by simp)
 split;· exact hr _ _ _ _ (by simp)
 split;· exact hr _ _ _ _ (by simp)
 cases x.wt with
 |nil=>simp
 |cons n r=>exact hb _ _
section
variable{H0 H:ar}{B:Nat}{s:Bs}{b:Bu}{own:Nat->Nat}{V:Int->L8}
def xcb(h:fK H0 H B s b own)(hb:BB b){i:Int}(m:¬(0<=i/\i<b.fl.length)):xz M IW [.ptr B 0,.int .i64 i] H λ v H'=>v=.tuple [.agg (ao ⟨0,0,0,.zero⟩),.int .i64 50]/\Fr Em H H':=by
 refine Vv ?_;obtain⟨w0,j,-,-,-,-⟩:=Y1 M ⟨B5,IW⟩;obtain⟨H1,d,e,-,k⟩:=de H (OR (ao ⟨0,0,0,.zero⟩) qy);have st:=ir k (x9 _) (x9 ⟨0,0,0,.zero⟩) (wh _);have ln:=gn (xb H1 H.au (OR (ao ⟨0,0,0,.zero⟩) qy)) (x9 ⟨0,0,0,.zero⟩);have f:=h.em e;have a:=f.fl.len x9;have fin:Fr Em H (H1.set H.au (OR (ao ⟨0,0,0,.zero⟩) qy)):=e.set (.inr (qg _)) _
 by_cases g:i<0
 .simp only[aa,bc,w0,mZ,<-d,j,kw,qr g,Ej,st,ln];exact fin
 have l:((b.fl.length:Nat):Int)<=i:=by omega
 simp only[aa,bc,w0,mZ,<-d,j,kw,g,qk,f.l2,a,qr l,Ej,st,ln];exact fin
def q6j(h:fK H0 H B s b own)(hb:BB b)(hI:BuI b V)(hwl:∀x∈b.l,x.wt.length<=900000){i:Nat}{m:Mg}(hm:b.fl[i]? = B1 m):xz M IW [.ptr B 0,.int .i64 (i:Int)] H λ v H'=>v=.tuple [.agg (ao m),.int .i64 0]/\kV H0 H B s (b.pK i) H':=by
 have hil:=(qo.1 hm).1;have hfl:=hb.fl;have N4:=hI.N4;obtain⟨mk,mc,ml⟩:=hI.mw m (xl hm);refine Vv ?_;obtain⟨w0,w2,w17,w21,w23,Y⟩:=Y1 M ⟨B5,IW⟩;have⟨H1,e1,f1,n1,g1⟩:=de H (OR (ao ⟨0,0,0,.zero⟩) qy);have h1:=h.em f1;have Q:=h1.fl.sl x9;have hln:=h1.fl.len x9;have q0:¬(i:Int)<0:=by omega
 have q1:¬((b.fl.length:Nat):Int)<=(i:Int):=by omega
 have ix:=Q.idx hm (z:=(i:Int)) rfl .i64;have ld:=Q.av x9 (by decide) hm;obtain⟨H2,e2,f12,-,g2⟩:=de H1 (OR (ao ⟨0,0,0,.zero⟩) qy);have U:=ir g2 (x9 _) (x9 m) (wh m);obtain⟨j,Z⟩:∃X,X=H2.set H1.au (OR (ao m) qy):=⟨_,rfl⟩
 rw[<-Z]at U;have F:Fr Em H1 j:=by rw[Z];exact f12.set (.inr (qg _)) _
 have n3:j.au=H.au+2:=by rw[Z,si,e2,xt,n1]
 have g3:j.get H1.au=B1 (OR (ao m) qy):=by rw[Z,xb]
 have g3z:j.get H.au=B1 (OR (ao ⟨0,0,0,.zero⟩) qy):=by rw[F.ah _ (by omega) id];exact g1
 have h3:=h1.em F;have wi:aj .i64 ((i:Int)+1)=((i+1:Nat):Int):=by rw[jr (by omega) (by omega)];omega
 have F3:Fr Em H j:=f1.trans F λ _ q=>q.elim;simp only[aa,bc,w0,mZ,<-e1,w2,kw,q0,qk,h1.l2,hln,q1,w17,ix,ld,<-e2,U,h3.l2,wi];refine C3.q (yZ h3.fl hil (by omega)) λ v4 H4⟨k4,f4,o4⟩=>?_;have⟨C,s5,g,bw,u,o5,f5⟩:=h3.BF k4 f4 (λ z o=>.inl (o4 z o));have L:∀z,iV B s z->z<H.au:=λ z o=>h.low o;have t:∀z,iV B g z->iV B s z\/j.au<=z:=o5;have f:∀z,z<j.au->H.au<=z->C.get z=j.get z:=λ z q1 q2=>f5.ah z q1 λ w=>by have:=L z w;omega
 have lk5:Op.ae [.ptr H1.au 0] C=B1 (.int .i64 m.k):=xv (qt (show C.get H1.au=B1 (OR (ao m) qy)from by rw[f _ (by omega) (by omega)];exact g3)) 0;have lc5:Op.ae [.ptr H1.au 1] C=B1 (.int .i64 m.core):=xv (qt (show C.get H1.au=B1 (OR (ao m) qy)from by rw[f _ (by omega) (by omega)];exact g3)) 1;have S:Op.av 11 [.ptr H1.au 0] C=B1 (.agg (ao m)):=gn (by rw[f _ (by omega) (by omega)];exact g3) (x9 m);have mk1:Op.bS vh 1 [.ptr g.D 0]=B1 (.fn (.func vh) [.ptr g.D 0] []):=rfl;have m5:=f5.au
 -- behind the hearing
 have fin:∀{y:ar}{b':Bu},kV H0 C B g b' y->(∃O,Op.av 11 [.ptr H1.au 0] y=B1 (.agg (ao m))/\Op.store 11 [.ptr H.au 0,.agg (ao m)] y=B1 (.undef,O)/\Op.av 11 [.ptr H.au 0] O=B1 (.agg (ao m))/\kV H0 H B s b' O):=λ{y b'}hp=>by
  have⟨N,o7,h7,q7,f7⟩:=hp;have p:∀z,z<j.au->H.au<=z->y.get z=j.get z:=λ z w1 w2=>by
   rw[f7.ah z (by omega) λ w=>(t z w).elim (λ w=>by have:=L z w;omega) λ w=>by omega];exact f z w1 w2
  have gz:y.get H.au=B1 (OR (ao ⟨0,0,0,.zero⟩) qy):=by rw[p _ (by omega) (by omega)];exact g3z
  have m7:=f7.au;have E:∀z,iV B N z->iV B s z\/j.au<=z:=λ z o=>(q7 z o).elim (t z) λ w=>.inr (by omega);refine⟨_,gn (by rw[p _ (by omega) (by omega)];exact g3) (x9 m),ir gz (x9 _) (x9 m) (wh m),gn (xb ..) (x9 m),N,o7,h7.fr ((Fr.refl y).set (W:=On H.au) (.inl rfl) _) λ z o=>?_,λ z o=>(E z o).elim .inl λ w=>.inr (by omega),?_⟩
  .have o:z=H.au:=o;subst o;refine⟨by have:=h.lo B (.inl rfl);have:=h.lt;omega,λ w=>(E _ w).elim (λ w=>by have:=L _ w;omega) λ w=>by omega⟩
  .refine ((((F3.mono λ _ _ q=>q.elim).trans f5 λ z q=>.inl q).trans f7 λ z q=>?_).set (.inr (qg _)) _);exact(t z q).elim .inl λ w=>.inr (by omega)
 have hel:(b.fl.eraseIdx i).length<=b.fl.length:=List.length_eraseIdx_le ..;simp only[aa,bc,qk,s5,w21,u.l0,w23,lk5];unfold Bu.pK;rw[hm]
 by_cases k7:m.k<=7
 .have nk:¬7<m.k:=by omega
  simp only[qv k7];have⟨x,w,K,hw,he⟩:=hI.entry ml.1 ml.2;rw[K,hw];have hxx:∃a,g.xs[m.line.toNat]? = B1 (x,a):=by
   have hl:=(qo.1 K).1;have P:m.line.toNat<g.xs.length:=by
    have:=congrArg List.length u.dx;rw[zj]at this;have:g.xs.length=b.l.length:=this;omega
   refine⟨(g.xs[m.line.toNat]).2,?_⟩;rw[xj P];have e:=congrArg (λ l=>l[m.line.toNat]?) u.dx;simp only[xr,xj P,wq]at e;have e:B1 (g.xs[m.line.toNat]).1=B1 x:=e.trans K;injection e with e
   rw[<-e]
  have⟨a,R⟩:=hxx;simp only[aa,bc,nk,Y,S];refine C3.q (xcc (M:=M) (m:=m) u.d R hw he ml.1 mc.1 mc.2 (hwl x (xl K))) λ v6 H6⟨⟨ov,e,J,G⟩,a',en6,f6,o6⟩=>?_;rw[J];have⟨s6,T,h6,q6,g6⟩:=u.dir R en6 f6 o6;have hlen:=Yf x w m;simp only[aa,bc,xc];refine C3.q (TF h6 G.1 (by show(b.fl.eraseIdx i).length+_<=_;omega)) λ v7 y hp=>?_;have⟨O,l7,N,l8,I⟩:=fin (kV.then g6 q6 hp);simp only[aa,bc,l7,N,l8];exact I
 .have nk:7<m.k:=by omega
  simp only[qn k7];have⟨n,hn,hnw⟩:=hI.core mc.1 mc.2;rw[hn];have⟨ni,bk,us⟩:=hb.no _ n hn;have⟨A,hA,nr⟩:=u.Ek hn;have K:(g.ad.map Na.r)[m.core.toNat]? = B1 A.r:=by rw[xr,hA];rfl
  have ixn:=u.nv.sl.idx K (z:=m.core) (by omega) .i64;have ldn:Op.ae [.ptr (aG g.nv) (cw 1 g.nv m.core.toNat)] C=B1 (.ptr A.r 0):=u.nv.sl.nj ZU K (by decide);have mk2:Op.bS ke 1 [.ptr A.r 0]=B1 (.fn (.func ke) [.ptr A.r 0] []):=rfl;simp only[aa,bc,qr nk,u.l1,qk,lc5,ixn,ldn,Y,S];refine C3.q (xef nr ni.ci bk (by omega) m) λ v6 H6⟨⟨ov,e,J,G⟩,ht⟩=>?_;rw[J];have⟨s6,T,h6,q6,g6⟩:=u.node hn hA ht;have hlen:=Zl n m;simp only[aa,bc,xc];refine C3.q (TF h6 G.1 (by show(b.fl.eraseIdx i).length+_<=_;omega)) λ v7 y hp=>?_;have⟨O,l7,N,l8,I⟩:=fin (kV.then g6 q6 hp);simp only[aa,bc,l7,N,l8];exact I
end
end Go.Am
namespace Go.Am
open Go.Proofs Ca
open Lang (ints)
variable{M:ak}[MK M]
def RK{α:Type}(enc:α->List AV)(x:α):∀n:Nat,(Fh n x).flatMap enc=fp n (enc x)
 |0=>rfl
 |n+1=>by rw[LW,jv,RK enc x n,fp,wx]
def uh(l:Int):Prop:=2<=l/\l<=64
instance(l:Int):Decidable (uh l):=inferInstanceAs (Decidable (_/\_))
def Eg(H:ar)(l:Int)(v:AV)(H':ar):Prop:=Fr Em H H'/\(¬uh l/\v=.tuple [.nilp,.int .i64 2]\/uh l /\ ∃mp lv,v=.tuple [.ptr mp 0,.int .i64 0]/\wK H' mp lv (Fh l.toNat .zero)/\H.au<=mp/\H.au<=aG lv)
def q92{H:ar}(l:Int):xz M T9 [.int .i64 l] H (Eg H l):=by
 refine xgn ?_;obtain⟨w0,i,h⟩:=xgo M ⟨B5,T9⟩
 by_cases f:l<2
 .simp only[aa,bc,w0,i,f];exact⟨Fr.refl _,.inl ⟨λ q=>by have:=q.1;omega,rfl⟩⟩
 by_cases m:64<l
 .simp only[aa,bc,w0,i,f,m];exact⟨Fr.refl _,.inl ⟨λ q=>by have:=q.2;omega,rfl⟩⟩
 obtain⟨a,rfl⟩:=jk (show 0<=l by omega);have mk:=RV js 64 (dO .zero) a .i64 .i64 (by omega) (by omega);rw[<-RK]at mk;obtain⟨H1,j,p,n1,-⟩:=de H (OR ((Fh a L8.zero).flatMap dO) js);obtain⟨sv,d⟩:∃sv:AV,sv=.slice H.au 0 a a:=⟨_,rfl⟩
 have g:Op.sliceTo a a H.au=sv:=by rw[d];rfl
 have t:aG sv=H.au:=by rw[d];rfl
 have o:Op.build [.nils] [(0,1)] [sv]=B1 (.agg [sv]):=by rw[d];rfl
 obtain⟨u,e,k,-,r⟩:=de H1 (OR [sv] WW);simp only[aa,bc,w0,i,f,m,h,lZ,mk,g,<-j,o,<-e];refine⟨p.trans k λ _ q=>q.elim,.inr ⟨⟨by omega,by omega⟩,_,sv,rfl,⟨r,by rw[e,xt];omega,⟨H.au,?_,?_,?_⟩,by omega,by rw[zt];omega⟩,by omega,by omega⟩⟩
 .rw [zt];exact d
 .rw [e,xt];omega
 .rw [k.ah _ (by omega) id,j,xf];rfl
def pj:De:=⟨0,0,⟨0,0,0,.zero⟩,0,0,[]⟩
def gV:De:={pj with ow:=-1}
def _5:[AV.int .i64 0,.int .u8 0,.int .i64 0,.int .i64 0,.int .i64 0,.int .u64 0,.int .u64 0,.int .u64 0,.int .u64 0,.int .u64 0,.int .u64 0,.int .u64 0,.int .u64 0,.int .i64 0,.int .u8 0,.nils]=fO (pj,.nils):=rfl
def ri(n i:Nat):List (De×AV):=(Ig n).map λ k=>(if k<i then gV else pj,.nils)
def zY(n:Nat):ri n 0=Fh n (pj,.nils):=by
 unfold ri;apply j0;intro j;rw[xr];rcases xp j n with q|q
 .rw [yj q,List.getElem?_replicate,qv q];simp
 .rw [jf (by rw[j4];exact q),jf (by rw[zt];exact q)];rfl
def El(n:Nat):ri n n=Fh n (gV,.nils):=by
 unfold ri;apply j0;intro j;rw[xr];rcases xp j n with q|q
 .rw [yj q,List.getElem?_replicate,qv q];simp[q]
 .rw [jf (by rw[j4];exact q),jf (by rw[zt];exact q)];rfl
def Of{n i j:Nat}(h:j<n):(ri n i)[j]? = B1 (if j<i then gV else pj,.nils):=by
 unfold ri;rw[xr,yj h];rfl
def Bm{n i:Nat}(h:i<n):(ri n i).set i (gV,.nils)=ri n (i+1):=by
 have hl:∀k,(ri n k).length=n:=λ k=>by unfold ri;rw[zj,j4]
 apply j0;intro j
 by_cases q:j=i
 .subst q;rw[zf (by rw[hl];exact h),Of h,qv (by omega)]
 .rw [zm (pT q)];rcases xp j n with w|w
  .rw [Of w,Of w]
   by_cases e:j<i
   .rw [qv e,qv (by omega)]
   .rw [qn e,qn (by omega)]
  .rw [jf (by rw[hl];exact w),jf (by rw[hl];exact w)]
def Pz{n i k:Nat}{x:De}{a:AV}(h:(ri n i)[k]? = B1 (x,a)):a=.nils/\x.wt=[]:=by
 unfold ri at h;rw[xr,xh]at h;obtain⟨j,-,e⟩:=h;injection e with d f
 refine⟨f.symm,?_⟩;rw[<-d];split<;>rfl
def uF(l c:Int):Prop:=uh l/\1<=c/\c<=4
instance(l c:Int):Decidable (uF l c):=inferInstanceAs (Decidable (_/\_))
def C2(H:ar)(l c:Int)(v:AV)(H':ar):Prop:=Fr Em H H'/\(¬uF l c/\v=.tuple [.nilp,.int .i64 2]\/uF l c /\ ∃D mp lv ev,v=.tuple [.ptr D 0,.int .i64 0]/\lj H' D mp lv ev c (Fh l.toNat .zero) (Fh l.toNat (gV,.nils)) /\ ∀z,lf D mp lv ev (Fh l.toNat (gV,.nils)) z->H.au<=z)
def q9c{H:ar}(l c:Int):xz M Qd [.int .i64 l,.int .i64 c] H (C2 H l c):=by
 refine xfi ?_;obtain⟨w0,w4,N,O,R,A,P,Q⟩:=xfj M ⟨B5,Qd⟩;simp only[aa,bc,w0];refine C3.q (q92 l) λ v H1⟨p,hv⟩=>?_;rcases hv with⟨hm,rfl⟩|⟨hm,mp,lv,rfl,me,Z,a2⟩
 .have t2:¬(2:Int)=0:=by decide
  simp only[aa,bc,xc,w4,t2];exact⟨p,.inl ⟨λ q=>hm q.1,rfl⟩⟩
 have t0:=qr (show(0:Int)=0 from rfl)
 by_cases F:c<1
 .simp only[aa,bc,xc,w4,F];exact⟨p,.inl ⟨λ q=>by have:=q.2.1;omega,rfl⟩⟩
 by_cases W:4<c
 .simp only[aa,bc,xc,w4,F,W];exact⟨p,.inl ⟨λ q=>by have:=q.2.2;omega,rfl⟩⟩
 have J:=hm;have⟨m1,m2⟩:=J;obtain⟨n,rfl⟩:=jk (show 0<=l by omega);have mk:=RV MS 144 (fO (pj,.nils)) n .i64 .i64 (by omega) (by omega);rw[<-RK fO]at mk;obtain⟨m,S,f2,n2,-⟩:=de H1 (OR ((Fh n (pj,AV.nils)).flatMap fO) MS);obtain⟨sv,e⟩:∃sv:AV,sv=.slice H1.au 0 n n:=⟨_,rfl⟩
 have K:Op.sliceTo n n H1.au=sv:=by rw[e];rfl
 have hsb:aG sv=H1.au:=by rw[e];rfl
 have bd:Op.build [.nilp,.int .i64 0,.nils] [(0,1),(1,1),(2,1)] [.ptr mp 0,.int .i64 c,sv]=B1 (.agg [.ptr mp 0,.int .i64 c,sv]):=by rw[e];rfl
 obtain⟨C,T,U,-,g3⟩:=de m (OR [.ptr mp 0,.int .i64 c,sv] W9);have n3:C.au=H1.au+2:=by rw[T,xt,n2]
 have r:Fr Em H1 C:=f2.trans U λ _ q=>q.elim;have ml:=me.lt;have mls:=me.ls.lt;have r3:fU fO MS 16 C sv (ri n 0):=by
  rw[zY];refine⟨H1.au,by rw[zt];exact e,by omega,?_⟩;rw[U.ah _ (by omega) id,S,xf]
 have m1':=p.au;have d3:lj C m.au mp lv sv c (Fh n .zero) (ri n 0) :=
  ⟨g3,by omega,me.fr r id id,r3,λ i x a f=>by rw[(Pz f).1,(Pz f).2];exact Sk.nil _,⟨by omega,by omega,by omega,by omega,by omega⟩,λ i x a f z g=>by rw[(Pz f).1]at g;exact absurd rfl g.1,λ i j x y a b f _ _ z g=>by rw[(Pz f).1]at g;exact absurd rfl g.1,by rw[zt];unfold ri;rw[zj,j4]⟩
 have hn3:H.au<=H1.au:=p.au;have w:∀{o:ar}{i:Nat},lj o m.au mp lv sv c (Fh n .zero) (ri n i)->Op.ae [.ptr m.au 2] o=B1 sv:=λ h=>xv (qt h.row) 2;have I:Op.dg [sv]=B1 (.int .i64 ((n:Nat):Int)):=by rw[e];rfl
 simp only[aa,bc,xc,w4,F,W,N,_5,mk,K,<-S,bd,<-T,O,qk,w d3,I];refine dA.intro (λ k E o=>∃(i:Nat),E=[(36,.int .i64 (i:Int)),(35,.int .i64 ((n:Nat):Int)),(8,.ptr m.au 0)]/\k=n-i/\i<=n/\lj o m.au mp lv sv c (Fh n .zero) (ri n i)/\Fr Em H o) ?_ ?_
 .exact ⟨_,_,⟨0,rfl,rfl,xu _,d3,p.trans r λ _ q=>q.elim⟩,by simp only[aa,bc]⟩
 rintro k E o ⟨i,rfl,rfl,hi,t,X⟩;rcases xp i n with u|hge
 .have L:(i:Int)<((n:Nat):Int):=by omega
  have f:=Of (i:=i) u;rw[qn (ES i)]at f;have en:=dv.of t f;have ix:Op.aN 16 [sv,.int .i64 (i:Int)]=B1 (.ptr (aG sv) (cw 16 sv i)):=(t.es.sl wF).idx f rfl .i64;have⟨Y,s5,D,f5⟩:=en.s0 (-1);have wj:aj .i64 ((i:Int)+1)=((i+1:Nat):Int):=by rw[jr (by omega) (by omega)];omega
  have d5:lj Y m.au mp lv sv c (Fh n .zero) (ri n (i+1)):=by rw[<-Bm u];exact D.d
  simp only[aa,bc,A,L,P,qk,w t,ix,s5,Q,wj];exact⟨_,_,⟨i+1,rfl,rfl,by omega,d5,X.trans f5 λ z(q:z=aG sv)=>.inr (by omega)⟩,by simp only[aa,bc],by omega⟩
 .have G:i=n:=by omega
  have L:¬(i:Int)<((n:Nat):Int):=by omega
  subst G;simp only[aa,bc,A,L,R];rw[El]at t;refine⟨X,.inr ⟨⟨hm,by omega,by omega⟩,_,mp,lv,sv,rfl,t,λ z g=>?_⟩⟩;rcases g with rfl|rfl|rfl|rfl|⟨k,x,a,hk,g⟩
  .omega
  .exact Z
  .exact a2
  .omega
  .rw [IJ,List.getElem?_replicate]at hk;split at hk
   .injection hk with hk;injection hk with _ hk;rw[<-hk]at g;exact absurd rfl g.1
   .cases hk
end Go.Am
namespace Go.Am
open Go.Proofs Ca
open Lang (ints)
variable{M:ak}[MK M]
def nq(l s w:Int)(k:Nat):List No:=(Ig k).map λ(i:Nat)=>lE (i:Int) l s w
def fC(l c s w:Int):Bu:=⟨Fh l.toNat .zero,Fh l.toNat gV,nq l s w c.toNat,[]⟩
def pZ(l c s w:Int):Prop:=uF l c/\qE s w
instance(l c s w:Int):Decidable (pZ l c s w):=inferInstanceAs (Decidable (_/\_))
def S8{l s w:Int}{k i:Nat}{n:No}(h:(nq l s w k)[i]? = B1 n):i<k/\n=lE (i:Int) l s w:=by
 unfold nq at h;rw[xr,xh]at h;have⟨j,a,e⟩:=h;have hk:=(qo.1 a).1;rw[j4]at hk;rw[yj hk]at a;cases a;exact⟨hk,e.symm⟩
def SB(l s w:Int)(k:Nat):(nq l s w k).length=k:=by unfold nq;rw[zj,j4]
structure Iq(H0 H:ar)(B D mp:Nat)(lv ev nv:AV)(l c s w:Int)(ad:List Na)(own:Nat->Nat):Prop where
 row:H.get B=B1 (OR [.ptr D 0,nv,.nils,.int .i64 l] Iw)
 lt:B<H.au
 d:lj H D mp lv ev c (Fh l.toNat .zero) (Fh l.toNat (gV,.nils))
 Sq:bU tT GV 1 H nv (ad.map Na.r)
 no:∀(k:Nat)(A:Na),ad[k]? = B1 A->cN H0 H A.r A.b A.sv A.bv (lE (k:Int) l s w) A.ks
 oB:own B=0
 oD:∀z,lf D mp lv ev (Fh l.toNat (gV,.nils)) z->own z=1
 oN:∀z,bm nv z->own z=2
 oC:∀(k:Nat)(A:Na),ad[k]? = B1 A -> ∀z,A.w z->own z=4+k
 L7:H0.au<=B
 loD:∀z,lf D mp lv ev (Fh l.toNat (gV,.nils)) z->H0.au<=z
 LI:∀z,bm nv z->H0.au<=z
 fr:Fr Em H0 H
def cN.base{H0 H1 H:ar}{r b:Nat}{sv bv:AV}{n:No}{ks:List Nat}(h:cN H1 H r b sv bv n ks)(f:Fr Em H0 H1):cN H0 H r b sv bv n ks:=by
 have hn:=f.au;refine⟨h.row,h.lt,h.ca,⟨?_,f.trans h.bk.fr λ _ q=>.inl q⟩,h.eq,xm hn h.lr,xm hn h.lb,xm hn h.ls,h.n1,h.n2,h.o1,h.o2,h.o3,h.li,h.len⟩;rcases h.bk.own with q|⟨b,m,rest,a,d,e,g⟩
 .exact .inl q
 .exact .inr ⟨b,m,rest,a,d,xm hn e,g⟩
def cN.all{H0 H:ar}{r b:Nat}{sv bv:AV}{n:No}{ks:List Nat}(h:cN H0 H r b sv bv n ks){z:Nat}(a:iI r b sv bv z):H0.au<=z:=by
 rcases a with rfl|(rfl|rfl)|a
 .exact h.lr
 .exact h.lb
 .exact h.ls
 .exact (h.bk.fresh z a).1
section
variable{H0 H:ar}{B D mp:Nat}{lv ev nv:AV}{l c s w:Int}{ad:List Na}{own:Nat->Nat}
def Iq.step(h:Iq H0 H B D mp lv ev nv l c s w ad own)(U:ad.length<=4){H1:ar}{A:Na}(I:cN H H1 A.r A.b A.sv A.bv (lE (ad.length:Int) l s w) A.ks){K:bB->(Nat->AV)->Bool->AV->ar->Prop}
 (hk:∀v j,(∃J,Op.store 1 [.ptr B 1,v] j=B1 (.undef,J)/\(∃G,Iq H0 J B D mp lv ev v l c s w (ad ++ [A]) G)/\Fr (λ z=>z=B\/bm nv z) H J /\ ∀z,bm v z->bm nv z\/H.au<=z)->K (.row [.ptr A.r 0] GV (0,0) B4) (Op.sliceTo 1 1) B4 v j) :
 iG B4 (Op.buildSlice GV 1 [.nilp] [(0,1)] [.ptr A.r 0]) λ g o mk=>iG g (Op.append GV 1 8 [nv,mk H1.au] (H1.alloc o)) (K o mk):=by
 have m:Fr Em H H1:=I.bk.fr;have V:=m.au;refine mI (e:=GV) (size:=1) (bytes:=8) (Own.em h.Sq m) (x:=.ptr A.r 0) rfl rfl rfl (by decide) (by rw[zj];omega) (by rw[zj];omega) λ v j Q F P=>?_;refine hk v j ?_;have low:∀z,(z=B\/lf D mp lv ev (Fh l.toNat (gV,.nils)) z\/bm nv z \/ ∃k i,ad[k]? = B1 i/\Na.w i z)->z<H.au:=λ z f=>by
  rcases f with rfl|f|f|⟨k,i,a,f⟩
  .exact h.lt
  .exact h.d.low f
  .exact Own.lt h.Sq z f
  .exact (h.no k i a).low f
 have ne:∀{z k:Nat},own z=k->k≠2 -> ¬bm nv z:=λ L N q=>N (by rw[<-L];exact h.oN _ q);have T:j.get B=B1 (OR [.ptr D 0,nv,.nils,.int .i64 l] Iw):=by
  rw[F.ah _ (by have:=h.lt;omega) (ne h.oB (by decide)),m.ah _ h.lt id];exact h.row
 have o1:aC v=true:=by have:=Sl.one (Own.sl Q);exact this
 have O:v.cells=[v]:=by cases v<;>first|rfl|cases o1
 have st:=ta T (o:=1) (n:=1) (v:=v) (by rw[O];rfl) (by simp) (by rw[O,ym];simpa using o1);rw[O]at st;have X:=F.au;have E:Fr (On B) j (j.set B (OR ([AV.ptr D 0,nv,.nils,.int .i64 l].take 1 ++ [v] ++ [AV.ptr D 0,nv,.nils,.int .i64 l].drop (1+1)) Iw)):=(Fr.refl j).set (W:=On B) (.inl rfl) _;have S:H0.au<=H.au:=h.fr.au;have R:∀{z k:Nat},own z=k->k≠0 -> ¬z=B:=λ L N q=>N (by rw[<-L,q];exact h.oB);have t:∀z,bm v z->(bm nv z/\z<H.au)\/H1.au<=z:=λ z f=>(P z f).elim (λ q=>.inl ⟨q,low z (.inr (.inr (.inl q)))⟩) .inr;have y:Fr (bm nv) H j:=(m.mono λ _ _ q=>q.elim).trans F λ z q=>.inl q;have p:∀z,A.w z->H.au<=z/\z<H1.au:=λ z f=>⟨I.all f,I.low f⟩
 refine⟨_,st,⟨(λ z=>if z<H.au then own z else if z<H1.au then 4+ad.length else 2),xb ..,?_,?_,?_,λ k i a=>?_,?_,λ z f=>?_,λ z f=>?_,λ k i a z f=>?_,h.L7,h.loD,λ z f=>?_,?_⟩,(y.mono λ z _ q=>.inr q).trans E λ z(q:z=B)=>.inl (.inl q),λ z f=>(t z f).elim (λ q=>.inl q.1) λ q=>.inr (by omega)⟩
 .have:=h.lt;show B<j.au;omega
 .exact (h.d.fr y λ z q w=>ne (h.oD z w) (by decide) q).fr E λ z q w=>R (h.oD z w) (by decide) q
 .have ow:bU tT GV 1 j v ((ad ++ [A]).map Na.r):=by
   rw[List.map_append];unfold bU;rw[xk,yi];exact Q
  refine Own.fr ow E λ z f(q:z=B)=>?_;rcases t z f with⟨w,-⟩|w
  .exact R (h.oN z w) (by decide) q
  .have:=h.lt;omega
 .by_cases e:k<ad.length
  .rw [ya e]at a;refine((h.no k i a).off y λ z w=>⟨h.LI z w,λ u=>?_⟩).off E λ z w=>?_
   .have:=h.oC k i a z u;have:=h.oN z w;omega
   .have w:z=B:=w;refine⟨by rw[w];exact h.L7,λ u=>?_⟩;have:=h.oC k i a z u;rw[w,h.oB]at this;omega
  .have hk:=(qo.1 a).1;rw[xk]at hk;have C:k=ad.length:=by simp only[zy,j7]at hk;omega
   subst C;rw[z7 (qg _),Nat.sub_self]at a;cases a;refine((I.base h.fr).off F λ z w=>⟨h.LI z w,λ u=>?_⟩).off E λ z w=>?_
   .have:=p z u;have:=low z (.inr (.inr (.inl w)));omega
   .have w:z=B:=w;refine⟨by rw[w];exact h.L7,λ u=>?_⟩;have:=p z u;have:=h.lt;omega
 .rw [qv h.lt];exact h.oB
 .rw [qv (low z (.inr (.inl f)))];exact h.oD z f
 .rcases t z f with⟨w,u⟩|w
  .rw [qv u];exact h.oN z w
  .rw [qn (by omega),qn (by omega)]
 .by_cases e:k<ad.length
  .rw [ya e]at a;rw[qv (low z (.inr (.inr (.inr ⟨k,i,a,f⟩))))];exact h.oC k i a z f
  .have hk:=(qo.1 a).1;rw[xk]at hk;have C:k=ad.length:=by simp only[zy,j7]at hk;omega
   subst C;rw[z7 (qg _),Nat.sub_self]at a;cases a;have:=p z f;rw[qn (by omega),qv this.2]
 .rcases t z f with⟨w,-⟩|w
  .exact h.LI z w
  .omega
 .exact ((h.fr.trans m λ _ q=>.inl q).trans F λ z q=>.inr (h.LI z q)).trans E λ z(q:z=B)=>.inr (by rw[q];exact h.L7)
def Iq.done(h:Iq H0 H B D mp lv ev nv l c s w ad own)(hl:ad.length=c.toNat)(f:0<=c)(e:0<=l):fK H0 H B ⟨D,mp,lv,ev,Fh l.toNat (gV,.nils),nv,.nils,ad⟩ (fC l c s w) own:=by
 have hlen:((fC l c s w).ns.length:Int)=c:=by show((nq l s w c.toNat).length:Int)=c;rw[SB];omega
 refine⟨?_,h.lt,?_,?_,h.Sq,λ k n A hn b=>?_,?_,Sk.nil _,h.oB,h.oD,h.oN,λ z q=>absurd rfl q.1,h.oC,λ z a=>?_⟩
 .rw [h.row];have:((fC l c s w).l.length:Int)=l:=by show((Fh l.toNat gV).length:Int)=l;rw[zt];omega
  rw[this]
 .rw [hlen];exact h.d
 .show (Fh l.toNat (gV,AV.nils)).map Prod.fst=Fh l.toNat gV;rw[List.map_replicate]
 .obtain ⟨-,rfl⟩:=S8 hn;exact h.no k A b
 .show ad.length=(nq l s w c.toNat).length;rw[SB,hl]
 .rcases a with rfl|a|a|a|⟨k,A,b,a⟩
  .exact h.L7
  .exact h.loD z a
  .exact h.LI z a
  .exact absurd rfl a.1
  .exact (h.no k A b).all a
end
end Go.Am
namespace Go.Am
open Ca
def Ey{N l:Int}(b:0<=N)(a:N<=4):XI gV N l:=⟨⟨a,⟨by decide,by show(-1:Int)<N;omega⟩,by decide,by decide,λ c _ _ q=>(by have q:hb 0 c=1:=q;rw[VS]at q;cases q),λ m hm=>(nomatch hm)⟩,λ q=>absurd rfl q⟩
def u6{l c s w:Int}{m:List L8}{V:Int->L8}(h:pZ l c s w)(hm:m.length=l.toNat):BuI {fC l c s w with m:=m} V:=by
 obtain⟨⟨⟨l0,l1⟩,e,f⟩,hs⟩:=h;have a:(fC l c s w).ns.length=c.toNat:=SB ..;have b:((fC l c s w).l.length:Int)=l:=by show((Fh l.toNat gV).length:Int)=l;rw[zt];omega
 refine⟨by show(fC l c s w).ns.length<=4;rw[a];omega,by show m.length=(Fh l.toNat gV).length;rw[hm,zt],λ k n hn=>?_,λ m hm=>(nomatch hm),λ i x d=>?_⟩
 .obtain ⟨hk,rfl⟩:=S8 hn;exact⟨ZB (cores:=c) ⟨hs,by omega,by omega,by omega,l0,l1⟩,rfl,b.symm⟩
 .rw [jo (show x∈Fh l.toNat gV from xl d)];exact Ey (by omega) (by show((fC l c s w).ns.length:Int)<=4;rw[a];omega)
structure Bt where
 k:Int
 c:Int
 n:Int
 v:Int
 o:Int
def No.call(n:No)(x:Bt):No×List Mg :=
 if x.k=0 then((n.load x.n).1,(n.load x.n).2.2.2.1)
 else if x.k=1 then((n.store x.n x.v).1,(n.store x.n x.v).2.2.1)
 else if x.k=2 then n.mL x.n x.o x.v
 else if x.k=3 then(n.begin,[])
 else if x.k=4 then(n.aT,[])
 else if x.k=5 then((n.abort x.n).1,[])
 else if x.k=6 then n.eQ x.n
 else(n,[])
def Bu.step(b:Bu)(x:Bt):Bu :=
 if x.k=7 then if 0<=x.n/\x.n<b.fl.length then b.pK x.n.toNat else b
 else if 0<=x.c then match b.ns[x.c.toNat]? with
  |none=>b
  |some n=>b.put x.c.toNat (n.call x)
 else b
def KY{b:Bu}{V:Int->L8}(h:BuI b V)(i:Nat):BuI (b.pK i) V:=by
 unfold Bu.pK;cases hm:b.fl[i]? with
 |none=>exact h
 |some m =>
  have he:∀o∈b.fl.eraseIdx i,o∈b.fl:=λ o q=>List.mem_of_mem_eraseIdx q;obtain⟨mk,e,ml⟩:=h.mw m (xl hm);simp only
  by_cases g:m.k<=7
  .rw [qv g];obtain⟨x,w,f,hw,u⟩:=h.entry ml.1 ml.2;rw[f,hw];obtain⟨a,o⟩:=ZL (w:=w) u e rfl;have hl:=(qo.1 f).1;refine⟨h.N4,by simp only[xw];exact h.ml,λ c n hn=>by simp only[xw];exact h.nw c n hn,λ y d=>?_,λ j y d=>?_⟩
   .simp only[xw];rcases zr.1 d with q|q
    .exact h.mw y (he y q)
    .obtain ⟨p,r,t⟩:=o y q;exact⟨.inr p,r,by rw[t];exact ml⟩
   .have d:(b.l.set m.line.toNat (x.bh w m).1)[j]? = B1 y:=d
    by_cases q:j=m.line.toNat
    .subst q;rw[zf hl]at d;injection d with d;subst d
     rw[KL ml.1];exact a
    .rw [zm (pT q)]at d;exact h.xs j y d
  .rw [qn g];obtain⟨n,hn,w⟩:=h.core e.1 e.2;rw[hn];exact h.node hn (w.ni.bh m) (No.D8 w.ni m) he
def zF{b:Bu}{V:Int->L8}(h:BuI b V)(x:Bt):BuI (b.step x) V:=by
 unfold Bu.step;split
 .split
  .exact KY h _
  .exact h
 split
 .cases hn:b.ns[x.c.toNat]? with
  |none=>exact h
  |some n =>
   have w:=(h.nw _ n hn).ni;simp only;unfold No.call;split;· exact h.call hn (w.load _) (No.EK _)
   split;· exact h.call hn (w.store _ _) (No.wZ _ _)
   split;· exact h.call hn (w.mL _ _ _) (No.HE _ _ _)
   split;· exact h.call hn (show n.begin.NI by unfold No.begin;split;exact w;exact⟨w.ci,λ q=>by cases q⟩) No.wX
   split;· exact h.call hn (show n.aT.NI by unfold No.aT;split;exact⟨w.ci.aT,λ _=>w.ci.uY⟩;exact w) No.vW
   split;· exact h.call hn (show(n.abort x.n).1.NI by unfold No.abort;(repeat' split)<;>first|exact w|exact w.iJ _) (No.A8 _)
   split;· exact h.call hn (w.eQ _) (No.DJ w _)
   rw[HC hn];exact h
 .exact h
structure BC(b:Bu)(k:Nat):Prop where
 fl:b.fl.length<=5*k
 no:∀(c:Nat)n,b.ns[c]? = B1 n->n.aR.length<=k/\n.c.us<=2*(k:Int)
 wt:∀x∈b.l,x.wt.length<=k
def BC.mono{b:Bu}{k k':Nat}(h:BC b k)(hk:k<=k'):BC b k':=⟨xm h.fl (by omega),λ c n hn=>by have:=h.no c n hn;omega,λ x a=>xm (h.wt x a) hk⟩
def BC.bb{b:Bu}{V:Int->L8}{k:Nat}(h:BC b k)(hI:BuI b V)(hk:k<=100000):BB b:=⟨hI.N4,by have:=h.fl;omega,λ c n hn=>by have:=h.no c n hn;exact⟨(hI.nw c n hn).ni,by omega,by omega⟩⟩
def ag0{l c s w:Int}:BC (fC l c s w) 0:=by
 refine⟨qg _,λ k n hn=>?_,λ x a=>?_⟩
 .obtain ⟨-,rfl⟩:=S8 hn;exact⟨qg _,vE _⟩
 .rw [jo (show x∈Fh l.toNat gV from a)];exact qg _
def LB{b:Bu}{k c:Nat}{n n':No}{o:List Mg}(h:BC b k)(hn:b.ns[c]? = B1 n)(hb:Bd n n')(ho:o.length<=5):BC (b.put c (n',o)) (k+1):=by
 have hl:=(qo.1 hn).1;refine⟨?_,λ d y a=>?_,λ x e=>Nat.le_succ_of_le (h.wt x e)⟩
 .show (b.fl++o).length<=_;rw[xk];have:=h.fl;omega
 .have a:(b.ns.set c n')[d]? = B1 y:=a
  by_cases q:d=c
  .rw [q,zf hl]at a;cases a;have⟨f,g⟩:=hb;have:=h.no c n hn;omega
  .rw [zm (pT q)]at a;have:=h.no d y a;omega
def YB(x:De)(w:L8):(x.cH w).1.wt=x.wt:=by
 unfold De.cH
 repeat' split
 all_goals rfl
def VU(x:De)(n:Mg)(w:L8):(x.begin n w).1.wt=x.wt:=by
 unfold De.begin;split
 .rfl
 .split
  .exact YB _ w
  .rfl
def Np(x:De)(w:L8)(q:Prop)[Decidable q](r:List Mg):(x.sK w q r).1.wt=x.wt:=by
 unfold De.sK;split
 .exact YB x w
 .rfl
def Dm(x:De)(w:L8)(m:Mg):(x.bh w m).1.wt.length<=x.wt.length+1:=by
 unfold De.bh;split;· exact jt _
 split
 .split
  .simp
  .rw [VU];exact jt _
 split;· rw[Np];show x.wt.length<=_;omega
 split;· rw[Np];show x.wt.length<=_;omega
 split;· rw[Np];show x.wt.length<=_;omega
 split;· rw[Np];show x.wt.length<=_;omega
 cases h:x.wt with
 |nil=>simp[h]
 |cons n r=>simp only;rw[VU];simp only[zy];omega
def HI(n:No)(x:Bt):Bd n (n.call x).1/\(n.call x).2.length<=5:=by
 unfold No.call;split;· exact⟨Di n _,xm (Zy n _) (by decide)⟩
 split;· exact⟨Bv n _ _,xm (WC n _ _) (by decide)⟩
 split;· exact⟨Ik n _ _ _,xm (uS n _ _ _) (by decide)⟩
 split
 .refine ⟨?_,xu _⟩;show Bd n n.begin;unfold No.begin;split<;>exact⟨by show n.aR.length<=_;omega,by show n.c.us<=_;omega⟩
 split
 .refine ⟨?_,xu _⟩;show Bd n n.aT;unfold No.aT;split<;>exact⟨by show n.aR.length<=_;omega,by show n.c.us<=_;omega⟩
 split
 .refine ⟨?_,xu _⟩;show Bd n (n.abort _).1;unfold No.abort;repeat' split
  all_goals exact⟨by show n.aR.length<=_;omega,by show n.c.us<=_;omega⟩
 split;· exact⟨Eu n _,xm (xfn n _) (by decide)⟩
 exact⟨Bd.refl n,xu _⟩
def Lm{b:Bu}{k:Nat}(h:BC b k)(i:Nat):BC (b.pK i) (k+1):=by
 unfold Bu.pK;cases hm:b.fl[i]? with
 |none=>exact h.mono (jt k)
 |some m =>
  have g:=h.fl;have he:(b.fl.eraseIdx i).length<=b.fl.length:=List.length_eraseIdx_le ..;simp only
  by_cases f:m.k<=7
  .rw [qv f];cases e:b.l[m.line.toNat]? with
   |none=>exact h.mono (jt k)
   |some x =>
    cases hw:b.m[m.line.toNat]? with
    |none=>exact h.mono (jt k)
    |some w =>
     refine⟨?_,λ c n hn=>by have:=h.no c n hn;omega,λ y a=>?_⟩
     .show (b.fl.eraseIdx i++(x.bh w m).2.2).length<=_;rw[xk];have:=Yf x w m;omega
     .have a:y∈b.l.set m.line.toNat (x.bh w m).1:=a;rcases List.mem_or_eq_of_mem_set a with q|rfl
      .exact Nat.le_succ_of_le (h.wt y q)
      .have:=Dm x w m;have:=h.wt x (xl e);omega
  .rw [qn f];cases hn:b.ns[m.core.toNat]? with
   |none=>exact h.mono (jt k)
   |some n =>
    have hl:=(qo.1 hn).1;refine⟨?_,λ d y a=>?_,λ x e=>Nat.le_succ_of_le (h.wt x e)⟩
    .show (b.fl.eraseIdx i++(n.bh m).2).length<=_;rw[xk];have:=Zl n m;omega
    .have a:(b.ns.set m.core.toNat (n.bh m).1)[d]? = B1 y:=a
     by_cases q:d=m.core.toNat
     .rw [q,zf hl]at a;cases a;have⟨j,o⟩:=EH n m;have:=h.no _ n hn;omega
     .rw [zm (pT q)]at a;have:=h.no d y a;omega
def Ai{b:Bu}{k:Nat}(h:BC b k)(x:Bt):BC (b.step x) (k+1):=by
 unfold Bu.step;split
 .split
  .exact Lm h _
  .exact h.mono (jt k)
 split
 .cases hn:b.ns[x.c.toNat]? with
  |none=>exact h.mono (jt k)
  |some n=>have⟨a,d⟩:=HI n x;exact LB h hn a d
 .exact h.mono (jt k)
end Go.Am
namespace Go.Am
open Lang
structure Pr where
 a:Int
 v:Int
def cR(l:List Pr)(a:Int):Option Int:=match l with
 |[]=>B5
 |x::r=>if x.a=a then B1 x.v else cR r a
def eU(l:List Pr)(a v:Int):List Pr:=match l with
 |[]=>[⟨a,v⟩]
 |x::r=>if x.a=a then⟨a,v⟩::r else x::eU r a v
structure Fi where
 rs:List Int
 pc:Int
 pt:Option (List Int×Int)
namespace Fi
def set(f:Fi)(i v:Int):Fi:=if 0<=i/\i<8 then{f with rs:=f.rs.set i.toNat v}else f
def jump(f:Fi)(pc:Int):Fi:=if pc<0 then f else{f with pc:=pc}
def save(f:Fi):Fi:={f with pt:=B1 (f.rs,f.pc)}
def restore(f:Fi):Fi:=match f.pt with
 |some (r,p)=>{f with rs:=r,pc:=p}
 |none=>f
def drop(f:Fi):Fi:={f with pt:=B5}
end Fi
structure La where
 eh:List Int
 lane:Int
 gN:List Int
namespace La
def gR:List Int:=[0,0,0,0,0]
def after(eh:List Int)(l:Int):Int:=if l<1/\eh.getD 1 0≠0 then 1 else if l<2/\eh.getD 2 0≠0 then 2 else if l<3/\eh.getD 3 0≠0 then 3 else 4
def og(x:La):Bool:=decide (x.lane=1) ||decide (x.lane=2)
def enter(x:La):La:=if x.lane=0 then{x with lane:=after x.eh 0,gN:=gR}else x
def count(x:La):Int:=x.gN.getD x.lane.toNat 0
def abort(x:La)(code:Int):La :=
 if x.lane=0\/x.lane=4\/code<1\/8<code\/code=7 then x
 else
  let y:={x with gN:=x.gN.set x.lane.toNat (aj .i64 (x.count+1))}
  if x.og=B4/\code=3 then{y with lane:=after x.eh 2}else if y.count=x.eh.getD x.lane.toNat 0 then{y with lane:=after x.eh x.lane}else y
def leave(x:La):La:=if x.lane=0 then x else{x with lane:=0,gN:=gR}
def tries(x:La):Int:=x.gN.foldl (λ n k=>aj .i64 (n+k)) 0
end La
inductive K0 where
 |wait
 |left (how:Int)
 |jH (a:Int)
 |take
 |back (l:List Pr)
 |fin
inductive Nx where
 |sY (n:Int) (k:K0)
 |rN (n:Int) (k:K0)
 |tA
 |tP (k:K0)
 |look (k:K0) (g:Int) (rd:List Pr) (i:Nat)
 |again (k:K0) (g:Int)
 |tQ (a:Int)
 |mr (a v:Int)
 |rI
 |CG (k:K0)
structure Rq where
 op:Int
 a:Int
 v:Int
 o:Int
structure So where
 rd:List Pr
 wr:List Pr
 want:Rq
 au:Option Nx
 busy:Bool
 live:Bool
 aI:Bool
 snap:Int
 value:Int
 ended:Int
 points:Int
namespace So
def ask(p:So)(r:Rq)(n:Nx):So:={p with want:=r,au:=B1 n}
def count(p:So)(n:Int)(k:K0):So:=p.ask ⟨1,1,0,0⟩ (.sY n k)
def leave(p:So)(how:Int):So:=p.count 18446744073709551615 (.left how)
def rh(p:So):So:=p.ask ⟨1,0,0,0⟩ .tA
def validate(p:So)(k:K0):So:=p.ask ⟨1,0,0,0⟩ (.tP k)
def jH(p:So)(a:Int):So:=p.ask ⟨1,a,0,0⟩ (.tQ a)
def take(p:So):So:=p.ask ⟨3,0,aj .u64 (p.snap+1),p.snap⟩ .rI
def back(p:So):List Pr->So
 |x::l=>p.ask ⟨2,x.a,x.v,0⟩ (.CG (.back l))
 |[]=>p.ask ⟨2,0,aj .u64 (p.snap+2),0⟩ (.CG .fin)
def nH(p:So)(g:Int):So:={p with snap:=g,points:=aj .i64 (p.points+1)}
def DH(p:So):K0->So
 | .wait=>p.rh
 | .left how=>{p with live:=B2,ended:=how,busy:=B2}
 | .jH a=>p.jH a
 | .take=>p.take
 | .back l=>p.back l
 | .fin=>({p with aI:=B2}:So).leave 1
def step(p:So)(k:K0)(g:Int)(rd:List Pr)(i:Nat):So:=match rd[i]? with
 |some x=>p.ask ⟨1,x.a,0,0⟩ (.look k g rd i)
 |none=>p.ask ⟨1,0,0,0⟩ (.again k g)
def ah(p:So)(a v:Int):Option (List Pr):=match cR p.rd a with
 |some _=>B1 p.rd
 |none=>if p.rd.length=128 then B5 else B1 (p.rd ++ [⟨a,v⟩])
def on(p:So)(v:Int)(ok:Bool):Nx->So
 | .sY n k=>p.ask ⟨3,1,aj .u64 (v+n),v⟩ (.rN n k)
 | .rN n k=>if ok=B4 then p.DH k else p.count n k
 | .tA=>if v % 2=1 then p.rh else{p.nH v with live:=B4,busy:=B2}
 | .tP k=>if v % 2=1 then p.validate k else p.step k v p.rd 0
 | .look k g rd i=>if v≠(rd.getD i ⟨0,0⟩).v then p.leave 2 else p.step k g rd (i+1)
 | .again k g=>if v≠g then p.validate k else(p.nH g).DH k
 | .tQ a=>p.ask ⟨1,0,0,0⟩ (.mr a v)
 | .mr a w=>if v≠p.snap then p.validate (.jH a)
  else if(cR p.rd a).getD w≠w then p.leave 2
  else match p.ah a w with
   |none=>p.leave 2
   |some l=>{({p with rd:=l,value:=w}:So).nH v with busy:=B2}
 | .rI=>if ok=B4 then({p with points:=aj .i64 (p.points+1),aI:=B4}:So).back p.wr else p.validate .take
 | .CG k=>p.DH k
def gf(p:So)(v:Int)(ok:Bool):So:=match p.au with
 |none=>p
 |some n=>({p with want:=⟨0,0,0,0⟩,au:=B5}:So).on v ok n
def begin(p:So):So:=if p.busy=B4\/p.live=B4 then p else({p with rd:=[],wr:=[],value:=0,ended:=0,busy:=B4}:So).count 1 .wait
def ready(p:So):Bool:=!p.busy && p.live
def load(p:So)(a:Int):So:=if p.ready=B4/\8<=a then match cR p.wr a with
 |some v=>{p with value:=v}
 |none=>({p with busy:=B4}:So).jH a
 else p
def store(p:So)(a v:Int):So:=if p.ready=B4/\8<=a then
 if cR p.wr a=B5/\p.wr.length=128 then({p with busy:=B4}:So).leave 2 else{p with wr:=eU p.wr a v}
 else p
def aT(p:So):So:=if p.ready=B4 then if p.wr.length=0 then({p with busy:=B4}:So).leave 1 else({p with busy:=B4}:So).take else p
def Ae(p:So):So:=if p.ready=B4 then({p with busy:=B4}:So).leave 3 else p
end So
structure Co where
 id:Int
 lines:Int
 code:List iq
 fi:Fi
 la:La
 so:So
 ph:Int
 want:lW
 seq:Int
 aO:List Pr
 done:Int
 wrote:Bool
 held:Bool
 said:Bool
 blocks:Int
 nc:Int
 halted:Bool
 A4:Bool
structure CS where
 c:Co
 b:Bu
 o:List iW
namespace CS
def uO(c:Co)(kind a v code:Int):iW:=if c.la.lane=0 then⟨kind,0,c.id,-1,0,0,a,v,code⟩else⟨kind,0,c.id,aj .i64 (c.blocks-1),c.la.tries,c.la.lane,a,v,code⟩
def tell(s:CS)(kind a v code:Int):CS:={s with o:=s.o ++ [uO s.c kind a v code]}
def fi(s:CS)(f:Fi->Fi):CS:={s with c:={s.c with fi:=f s.c.fi}}
def la(s:CS)(f:La->La):CS:={s with c:={s.c with la:=f s.c.la}}
def so(s:CS)(f:So->So):CS:={s with c:={s.c with so:=f s.c.so}}
def ph(s:CS)(n:Int):CS:={s with c:={s.c with ph:=n}}
def lI(s:CS)(k n v o:Int):CS:={s with b:=s.b.step ⟨k,s.c.id,n,v,o⟩}
def node(s:CS):No:=(s.b.ns[s.c.id.toNat]?).getD ⟨0,0,⟨0,0,[],0⟩,⟨0,0,0,.zero⟩,[],B2,0⟩
def iX(s:CS)(a:Int):Int×Bool:=((s.node.load a).2.1,(s.node.load a).2.2.1 && decide ((s.node.load a).2.2.2.2=0))
def sy(s:CS)(a v:Int):Bool:=(s.node.store a v).2.1 && decide ((s.node.store a v).2.2.2=0)
def u5(s:CS)(a o:Int):Bool×Bool:=((s.node.iN a o).1,(s.node.iN a o).2.1 && decide ((s.node.iN a o).2.2=0))
def ld(s:CS)(a:Int):CS:=s.lI 0 a 0 0
def st(s:CS)(a v:Int):CS:=s.lI 1 a v 0
def cs(s:CS)(a o v:Int):CS:=s.lI 2 a v o
def abort(s:CS)(code:Int):CS:=(((s.tell 6 0 0 code).fi .restore).la (·.abort code)).ph 1
def leave(s:CS):CS:={((s.la .leave).fi .drop).ph 0 with c:={((s.la .leave).fi .drop).ph 0 |>.c with held:=B2}}
def az(s:CS):CS:=let t:=if s.c.said=B4 then s else s.tell 5 0 0 0
 {t with c:={t.c with said:=B4,held:=B2}}
def ft(s:CS)(next:Int):CS:=let t:=s.fi (·.jump next)
 {t with c:={t.c with nc:=aj .i64 (t.c.nc+1)}}
def dk(s:CS):CS:=s.az.leave.ft (aj .i64 (s.c.fi.pc+1))
def breaks(s:CS):CS:=let t:=((s.tell 6 0 0 7).fi .restore).leave
 {t with c:={t.c with halted:=B4,A4:=B4}}
def cz(s:CS):CS :=
 if s.c.la.lane=0 then{s with c:={s.c with halted:=B4,A4:=B4}}
 else if s.c.la.lane=3 then let t:=s.so .Ae
  {t with c:={t.c with want:=gw,ph:=6}}
 else if s.c.la.lane=4 then s.ph 10
 else(s.lI 5 7 0 0).breaks
def CC(c:Co)(u:Int):Bool:=decide (u<(c.lines-1)*8)
def dE(s:CS)(f:lW)(v:Int):CS:=((s.tell (if s.c.la.lane=0 then 7 else 2) (if CC s.c f.addr=B4 then 8+f.addr else 0) v 0).fi (·.set f.nQ v)).ft f.au
def kC(s:CS)(f:lW)(a:Int):CS :=
 if s.c.la.lane=3 then let t:=s.so (·.load a)
  if t.c.so.busy=B4 then{t with c:={t.c with want:=f,ph:=6}}else t.dE f t.c.so.value
 else match(if s.c.la.lane=4 then cR s.c.aO a else B5)with
  |some v=>s.dE f v
  |none=>if(s.iX a).2=B4 then(s.ld a).dE f (s.iX a).1 else s.ld a
def stored(s:CS)(kind:Int)(f:lW)(a:Int):CS:=(s.tell kind a f.value 0).ft f.au
def gU(s:CS)(f:lW)(a:Int):CS :=
 if s.c.la.lane=3 then let t:=s.so (·.store a f.value)
  if t.c.so.busy=B4 then{t with c:={t.c with want:=f,ph:=6}}else t.stored 3 f a
 else if s.c.la.lane=4 then({s with c:={s.c with aO:=eU s.c.aO a f.value}}:CS).stored 3 f a
 else if s.sy a f.value=B4 then
  if s.c.la.lane=0 then(s.st a f.value).stored 8 f a else let t:=s.st a f.value
   ({t with c:={t.c with wrote:=B4}}:CS).stored 3 f a
 else s.st a f.value
def ends(s:CS):CS :=
 if s.c.la.lane=3 then let t:=s.so .aT
  {t with c:={t.c with want:=⟨6,0,0,0,0⟩,ph:=6}}
 else if s.c.la.lane=4 then s.ph 9
 else if s.c.la.lane=2/\s.c.wrote=B4 then s.ph 7
 else(s.lI 4 0 0 0).dk
def mj(s:CS):CS :=
 if(s.c.code.length:Int)<=s.c.fi.pc then if s.c.la.lane=0 then{s with c:={s.c with halted:=B4}}else s.cz
 else
  let f:=(s.c.code.getD s.c.fi.pc.toNat ⟨0,0,0,0,0⟩).eM s.c.fi.rs s.c.fi.pc
  let is:=CC s.c f.addr
  let a:=8+f.addr
  if(f.kind=3\/f.kind=4)/\is=B2\/f.kind=0\/s.c.la.lane≠0/\f.kind=5\/s.c.la.lane=0/\f.kind=6\/s.c.la.lane≠0/\f.kind=7 then s.cz
  else if f.kind=7 then{s with c:={s.c with halted:=B4}}
  else if f.kind=1 then(s.fi (·.set f.nQ f.value)).ft f.au
  else if f.kind=2 then s.ft f.au
  else if f.kind=3 then s.kC f a
  else if f.kind=4 then s.gU f a
  else if f.kind=5 then let t:=((s.ft f.au).fi .save).la .enter
   {t with c:={t.c with blocks:=aj .i64 (t.c.blocks+1),ph:=1}}
  else s.ends
def iH(s:CS):CS :=
 let t0:=s.tell 1 0 0 0
 let t:CS:={t0 with c:={t0.c with aO:=[],done:=0,wrote:=B2,said:=B2}}
 if s.c.la.lane=1 then(t.lI 3 0 0 0).ph 2
 else if s.c.la.lane=2 then(t.lI 3 0 0 0).ph 3
 else if s.c.la.lane=3 then let u:=t.so .begin
  {u with c:={u.c with want:=⟨5,0,0,0,0⟩,ph:=6}}
 else t.ph 4
def rY(s:CS):CS :=
 let r:=s.u5 0 s.c.seq
 let t:=s.cs 0 s.c.seq (aj .u64 (s.c.seq+1))
 if r.2=B2 then t
 else if r.1=B4 then let u:=t.tell 4 0 0 0
  {u with c:={u.c with ph:=0,held:=B4}}
 else t.ph 4
def kE(s:CS)(k:CS->CS):CS :=
 let v:=aj .u64 (s.c.seq+2)
 if s.sy 0 v=B4 then k (s.st 0 v)else s.st 0 v
def aR(s:CS):CS:=match(if 0<=s.c.done then s.c.aO[s.c.done.toNat]? else B5)with
 |some x=>if s.sy x.a x.v=B4 then let t:=s.st x.a x.v
  {t with c:={t.c with done:=aj .i64 (t.c.done+1)}}else s.st x.a x.v
 |none=>s.kE dk
def gB(s:CS):CS :=
 if s.c.so.ended=2 then s.abort 8
 else if s.c.want.kind=5 then s.ph 0
 else if s.c.want.kind=3 then(s.ph 0).dE s.c.want s.c.so.value
 else if s.c.want.kind=6 then s.dk
 else s.breaks
def given(s:CS)(v:Int)(taken:Bool):CS :=
 let t:CS:={s with c:={s.c with held:=s.c.held ||taken && decide (s.c.so.want.a=0),so:=s.c.so.gf v taken}}
 let u:=if s.c.so.aI=B4/\t.c.so.aI=B2 then t.az else t
 let w:=if s.c.so.points<u.c.so.points then u.tell 4 0 0 0 else u
 if w.c.so.busy=B4 then w else w.gB
def sm(s:CS):CS :=
 let r:=s.c.so.want
 if r.op=1 then if(s.iX r.a).2=B4 then(s.ld r.a).given (s.iX r.a).1 B2 else s.ld r.a
 else if r.op=2 then if s.sy r.a r.v=B4 then(s.st r.a r.v).given 0 B2 else s.st r.a r.v
 else if r.op=3 then if(s.u5 r.a r.o).2=B4 then(s.cs r.a r.o r.v).given 0 (s.u5 r.a r.o).1 else s.cs r.a r.o r.v
 else s
def act(s:CS):CS :=
 if s.c.ph=0 then s.mj
 else if s.c.ph=1 then s.iH
 else if s.c.ph=2 then let r:=s.iX 1
  if r.2=B4 then let t:=(s.ld 1).ph 3
   if r.1≠0 then t.lI 5 6 0 0 else t
  else s.ld 1
 else if s.c.ph=3 then let r:=s.iX 0
  if r.2=B4 then let t:=s.ld 0
   let u:CS:={t with c:={t.c with seq:=r.1,ph:=0}}
   if r.1 % 2=1 then u.lI 5 6 0 0 else u
  else s.ld 0
 else if s.c.ph=4 then let r:=s.iX 0
  let t:=s.ld 0
  if r.2=B4/\r.1 % 2=0 then{t with c:={t.c with seq:=r.1,ph:=5}}else t
 else if s.c.ph=5 then s.rY
 else if s.c.ph=6 then s.sm
 else if s.c.ph=7 then s.kE (·.ph 8)
 else if s.c.ph=8 then(s.lI 4 0 0 0).dk
 else if s.c.ph=9 then s.aR
 else if s.c.ph=10 then s.kE breaks
 else s
def pB(s:CS):Int:=if s.node.code<1\/6<s.node.code then 5 else s.node.code
def step(s:CS):CS×Int :=
 if s.c.A4=B4 then(s,111)
 else if s.c.halted=B4 then(s,110)
 else if s.c.la.og=B4/\s.c.ph≠1/\s.node.live=B2 then(s.abort s.pB,0)
 else(s.act,0)
end CS
end Go.Am
namespace Go.Am
def fm(x:Int):Prop:=0<=x/\x<18446744073709551616
def uC(x:Int):AV:=.int .u64 x
def bI:fm 0:=⟨vE _,by decide⟩
def BL(n:Int):fm (aj .u64 n):=by rw[Ze];constructor<;>omega
def L8.u(x:L8):Prop:=∀w∈x.l,fm w
def L8.gQ:L8.zero.u:=λ w h=>by
 simp only[L8.zero,j8,List.mem_nil_iff,or_false,or_self]at h;rw[h];exact bI
def uy{α:Type}{l:List α}{k:Nat}{v x:α}(h:x∈l.set k v):x∈l\/x=v:=List.mem_or_eq_of_mem_set h
theorem L8.u.put{x:L8}(h:x.u)(i:Nat){y:Int}(a:fm y):(x.put i y).u:=λ w q=>(uy q).elim (h w) λ e=>e▸a
def L8.u.get{x:L8}(h:x.u)(i:Nat):fm (x.get i):=by
 unfold L8.get;cases q:x.l[i]? with
 |none=>exact bI
 |some w=>exact h w (xl q)
def En.U(e:En):Prop:=e.d.u/\e.o.u
def En.mO:En.zero.U:=⟨L8.gQ,L8.gQ⟩
def Ca.U(c:Ca):Prop:=∀e∈c.sl,e.U
def No.U(n:No):Prop:=n.c.U
def oO(l:List Mg):Prop:=∀m∈l,m.d.u
theorem oO.nil:oO []:=λ _ h=>by cases h
def oO.one{m:Mg}(h:m.d.u):oO [m]:=λ x q=>by rw[z4.1 q];exact h
def oO.app{a b:List Mg}(h:oO a)(d:oO b):oO (a++b):=λ x q=>(zr.1 q).elim (h x) (d x)
namespace Ca
variable{c:Ca}
theorem U.en(h:c.U)(i:Nat):(c.en i).U:=by
 unfold Ca.en;cases q:c.sl[i]? with
 |none=>exact En.mO
 |some e=>exact h e (xl q)
def U.uJ(h:c.U)(i:Nat){e:En}(he:e.U){u:Int}:Ca.U {c with us:=u,sl:=c.sl.set i e}:=λ x q=>(uy q).elim (h x) λ w=>w▸he
theorem U.set(h:c.U)(i:Nat){e:En}(he:e.U):(c.set i e).U:=λ x q=>(uy q).elim (h x) λ w=>w▸he
theorem U.use(h:c.U)(i:Nat):(c.use i).U:=h.uJ i (e:={c.en i with u:=c.us+1}) (h.en i)
theorem U.word(h:c.U)(a:Nat):(c.word a).1.U/\fm ((c.word a).2.getD 0):=by
 unfold Ca.word;split
 .exact ⟨h,bI⟩
 .exact ⟨h.use _,(h.en _).1.get _⟩
theorem U.put(h:c.U)(a:Nat){y:Int}(f:fm y):(c.put a y).U:=by
 unfold Ca.put;split
 .exact h
 .rename_i i _;exact h.uJ i (e:={c.en i with u:=c.us+1,d:=(c.en i).d.put (a % 8) y}) ⟨(h.en i).1.put _ f,(h.en i).2⟩
def U.mark(h:c.U)(l:Int)(w:Bool):(c.mark l w).U:=by
 unfold Ca.mark
 repeat' split
 all_goals first|exact h|(rename_i i _ _;exact h.set i ⟨(h.en i).1,(h.en i).1⟩)|(rename_i i _;exact h.set i (e:={c.en i with r:=B4}) (h.en i))
def U.cE(h:c.U)(l:Int):(c.cE l).1.U/\(c.cE l).2.u:=by
 unfold Ca.cE;split
 .exact ⟨h,L8.gQ⟩
 .rename_i i _;exact⟨h.set i (e:={c.en i with st:=1}) (h.en i),(h.en i).1⟩
def U.bn(h:c.U)(l:Int){d:L8}(a:d.u):(c.bn l d).U:=by
 unfold Ca.bn;split
 .exact h
 .rename_i i _;exact h.set i ⟨a,(h.en i).2⟩
theorem U.drop(h:c.U)(l:Int):(c.drop l).1.U/\(c.drop l).2.U:=by
 unfold Ca.drop;split
 .exact ⟨h,En.mO⟩
 .exact ⟨h.set _ En.mO,h.en _⟩
theorem U.map(h:c.U){g:En->En}(hg:∀e,e.U->(g e).U):Ca.U {c with sl:=c.sl.map g}:=λ x q=>by
 obtain⟨e,he,rfl⟩:=CD.1 q;exact hg e (h e he)
theorem U.aT(h:c.U):c.aT.U:=h.map λ e he=>by unfold nO;split;exact he;exact⟨he.1,L8.gQ⟩
def U.discard(h:c.U):c.discard.U:=h.map λ e he=>by
 unfold back;split
 .exact he
 .refine ⟨?_,L8.gQ⟩;show(if e.w then e.o else e.d).u;split;exact he.2;exact he.1
theorem U.fill(h:c.U)(l s:Int){d:L8}(a:d.u):(c.fill l s d).1.U/\(c.fill l s d).2.1.U:=by
 unfold Ca.fill;split
 .exact ⟨h,En.mO⟩
 .split
  .exact ⟨h,En.mO⟩
  .exact ⟨h.uJ _ ⟨a,L8.gQ⟩,h.en _⟩
end Ca
namespace No
variable{n:No}
def U.iJ(h:n.U)(k:Int):(n.iJ k).U:=Ca.U.discard h
def rK(n:No)(k l:Int):(n.msg k l).d.u:=L8.gQ
def U.ask(h:n.U)(k l:Int):(n.ask k l).1.U/\oO (n.ask k l).2:=by
 unfold No.ask;split
 .exact ⟨h,.nil⟩
 .exact ⟨h,.one (rK _ _ _)⟩
theorem U.load(h:n.U)(a:Int):(n.load a).1.U/\fm (n.load a).2.1/\oO (n.load a).2.2.2.1:=by
 unfold No.load;split
 .split
  .exact ⟨(U.ask h _ _).1,bI,(U.ask h _ _).2⟩
  .have q:(if n.live then n.c.mark (ln a) B2 else n.c).U:=by split;exact Ca.U.mark h _ _;exact h
   exact⟨(q.word _).1,(q.word _).2,.nil⟩
 .exact ⟨h,bI,.nil⟩
theorem U.store(h:n.U)(a:Int){y:Int}(d:fm y):(n.store a y).1.U/\oO (n.store a y).2.2.1:=by
 unfold No.store;split
 .split
  .have q:(if n.live then n.c.mark (ln a) B4 else n.c).U:=by split;exact Ca.U.mark h _ _;exact h
   exact⟨q.put _ d,.nil⟩
  .exact U.ask h _ _
 .exact ⟨h,.nil⟩
theorem U.mL(h:n.U)(a o:Int){y:Int}(d:fm y):(n.mL a o y).1.U/\oO (n.mL a o y).2:=by
 unfold No.mL;split
 .split
  .exact ⟨h,.nil⟩
  .split
   .refine ⟨?_,.nil⟩;show Ca.U (if _ then _ else _);split
    .exact (Ca.U.word h _).1.put _ d
    .exact (Ca.U.word h _).1
   .exact U.ask h _ _
 .exact ⟨h,.nil⟩
theorem U.begin(h:n.U):n.begin.U:=by unfold No.begin;split;exact h;exact h
theorem U.aT(h:n.U):n.aT.U:=by unfold No.aT;split;exact Ca.U.aT h;exact h
def U.abort(h:n.U)(k:Int):(n.abort k).1.U:=by
 unfold No.abort;repeat' split
 all_goals first|exact h|exact U.iJ h _
theorem U.lost(h:n.U)(x:En)(t:Bool):(n.lost x t).U:=by
 unfold No.lost;repeat' split
 all_goals first|exact h|exact U.iJ h _
def U.gone(h:n.U){x:En}(a:x.U):(n.gone x).1.U/\oO (n.gone x).2:=by
 unfold No.gone;split
 .exact ⟨h,.one a.1⟩
 .exact ⟨h,.nil⟩
def U.dp(h:n.U){m:Mg}(hm:m.d.u)(s:Int):(n.dp m s).1.U/\oO (n.dp m s).2:=by
 obtain⟨a,e⟩:=Ca.U.fill h m.line s hm;unfold No.dp;split
 .exact U.gone (n:={n with c:=(n.c.fill m.line s m.d).1}) a e
 .exact ⟨a,.nil⟩
theorem U.fill(h:n.U){m:Mg}(hm:m.d.u):(n.fill m).1.U/\oO (n.fill m).2:=by
 unfold No.fill;generalize(if m.k=15 then(2:Int)else 1)=s;unfold No.kH;split
 .exact U.dp (U.iJ h 3) hm s
 .exact U.dp h hm s
def U.bh(h:n.U){m:Mg}(hm:m.d.u):(n.bh m).1.U/\oO (n.bh m).2:=by
 unfold No.bh;split
 .exact ⟨h,.nil⟩
 split
 .exact ⟨(Ca.U.drop (U.lost h _ _) _).1,.one (rK _ _ _)⟩
 split
 .split
  .exact ⟨h,.one (rK _ _ _)⟩
  .split
   .exact ⟨(Ca.U.cE (U.lost h _ _) _).1,.one (Ca.U.cE (U.lost h _ _) _).2⟩
   .exact ⟨(Ca.U.drop (U.lost h _ _) _).1,.one (Ca.U.drop (U.lost h _ _) _).2.1⟩
 split
 .exact ⟨h,.nil⟩
 split
 .exact ⟨Ca.U.bn h _ hm,.one (rK _ _ _)⟩
 .obtain ⟨a,e⟩:=U.fill (n:={n with out:=⟨0,0,0,.zero⟩}) h hm;exact⟨a,e.app (.one (rK _ _ _))⟩
def U.eQ(h:n.U)(l:Int):(n.eQ l).1.U/\oO (n.eQ l).2:=by
 unfold No.eQ;split
 .exact ⟨h,.nil⟩
 split
 .exact ⟨h,.nil⟩
 .rename_i x _;have q:(if x.r ||x.w then n.iJ 4 else n).U:=by split;exact U.iJ h 4;exact h
  exact U.gone (n:={(if x.r ||x.w then n.iJ 4 else n)with c:=((if x.r ||x.w then n.iJ 4 else n).c.drop l).1}) (Ca.U.drop q l).1 (Ca.U.drop q l).2
end No
namespace De
def VN(x:De){w:L8}(hw:w.u):(x.cH w).2.d.u:=by unfold cH;split<;>exact hw
def WN(x:De)(m:Mg){w:L8}(hw:w.u):oO (x.begin m w).2:=by
 unfold begin;split
 .exact .one L8.gQ
 split
 .exact .one (VN _ hw)
 .intro z q;obtain⟨c,-,rfl⟩:=CD.1 q;exact L8.gQ
def uL(x:De){w:L8}(hw:w.u)(q:Prop)[Decidable q]{o:List Mg}(ho:oO o):(x.sK w q o).2.1.u/\oO (x.sK w q o).2.2:=by
 unfold sK;split
 .exact ⟨hw,ho.app (.one (VN _ hw))⟩
 .exact ⟨hw,ho⟩
def Iv(x:De){w:L8}(hw:w.u){m:Mg}(hm:m.d.u):(x.bh w m).2.1.u/\oO (x.bh w m).2.2:=by
 unfold bh;split
 .exact ⟨hw,.nil⟩
 split
 .split
  .exact ⟨hw,.nil⟩
  .exact ⟨hw,WN _ _ hw⟩
 split
 .exact uL _ hw _ .nil
 split
 .exact uL _ hm _ .nil
 split
 .exact uL _ hw _ .nil
 split
 .exact uL _ hm _ (.one L8.gQ)
 split
 .exact ⟨hw,.nil⟩
 .exact ⟨hw,WN _ _ hw⟩
end De
structure wM(b:Bu):Prop where
 m:∀x∈b.m,x.u
 n:∀n∈b.ns,n.U
 f:oO b.fl
theorem wM.put{b:Bu}(h:wM b)(c:Nat){r:No×List Mg}(a:r.1.U)(d:oO r.2):wM (b.put c r):=⟨h.m,λ x q=>(uy q).elim (h.n x) λ e=>e▸a,h.f.app d⟩
end Go.Am
namespace Go.Am
open Lang Go.Proofs
variable{M:ak}[MK M]
def Ks(op:Nat):List UInt8:=match op with
 |1=>[104,97,108,116]
 |2=>[115,101,116]
 |3=>[109,111,118]
 |4=>[97,100,100]
 |5=>[115,117,98]
 |6=>[109,117,108]
 |7=>[97,110,100]
 |8=>[120,111,114]
 |9=>[115,104,108]
 |10=>[115,104,114]
 |11=>[108,111,97,100]
 |12=>[115,116,111,114,101]
 |13=>[106,117,109,112]
 |14=>[101,113]
 |15=>[110,101]
 |16=>[108,116]
 |17=>[98,101,103,105,110]
 |18=>[101,110,100]
 |_=>[]
def tt:List AV:=(Ig 19).flatMap λ k=>[.str (Ks k),.str (nD k)]
def tO(H:ar):Prop:=H.bM kc=B1 tt/\kc<H.au
def tO.em{H H':ar}(h:tO H)(f:Fr Em H H'):tO H':=⟨(f.cells h.2 id).trans h.1,qj h.2 f.au⟩
def ad6:∀k:Nat,k<19->tt[k*2+1]? = B1 (.str (nD k))
 |0,_=>rfl
 |1,_=>rfl
 |2,_=>rfl
 |3,_=>rfl
 |4,_=>rfl
 |5,_=>rfl
 |6,_=>rfl
 |7,_=>rfl
 |8,_=>rfl
 |9,_=>rfl
 |10,_=>rfl
 |11,_=>rfl
 |12,_=>rfl
 |13,_=>rfl
 |14,_=>rfl
 |15,_=>rfl
 |16,_=>rfl
 |17,_=>rfl
 |18,_=>rfl
 |k+19,h=>absurd h (by omega)
def fX(i:iq):List AV:=[.int .i64 i.op,.int .i64 i.a,.int .i64 i.b,.int .i64 i.c,.int .i64 i.wH]
def mS(op:Int):Prop:=1<=op/\op<=18
instance(op:Int):Decidable (mS op):=inferInstanceAs (Decidable (_/\_))
def _J{H:ar}(hs:tO H)(op:Int):xz M Gm [.int .i64 op] H λ v H'=>v=.tuple [.str (if mS op then nD op.toNat else[]),.bool (decide (mS op))]/\H'=H:=by
 refine q9s ?_;obtain⟨w0,e,d⟩:=q9t M ⟨B5,Gm⟩
 by_cases a:op<1
 .have hn:¬mS op:=λ q=>by have:=q.1;omega
  simp only[aa,bc,w0,e,a,qn hn,jw hn]
 by_cases f:(19:Int)<=op
 .have hn:¬mS op:=λ q=>by have:=q.2;omega
  simp only[aa,bc,w0,e,a,f,qn hn,jw hn]
 have g:mS op:=⟨by omega,by omega⟩
 have ix:Op.aW 19 2 [.ptr kc 0,.int .i64 op]=B1 (.ptr kc (0+op.toNat*2)):=by
  simp only[Op.aW];rw[It (i:=op.toNat) (by omega) (by omega)];rfl
 have ld:Op.ae [.ptr kc (op.toNat*2+1)] H=B1 (.str (nD op.toNat)):=by
  rw[xv hs.1];exact ad6 op.toNat (by omega)
 simp only[aa,bc,w0,e,a,f,d,ix,ld,qv g,jz g]
def A5{x c:UInt8}(h:¬x=c):Ba x c=false:=by
 cases q:Ba x c with
 |false=>rfl
 |true=>exact(h (by simpa[Ba,<-UInt8.toNat_inj]using q)).elim
def ψ(c:UInt8):∀(s:List UInt8)(k:Nat),(∃i:Nat,EI c s k=B1 i/\c∈s)\/EI c s k=B5/\c∉s:=by
 intro s
 induction s with
 |nil=>intro k;exact .inr ⟨rfl,by simp⟩
 |cons x s ih =>
  intro k
  by_cases h:x=c
  .subst h;exact .inl ⟨k,by simp[EI,Ba],by simp⟩
  .rcases ih (k+1)with⟨i,a,e⟩|⟨a,d⟩
   .exact .inl ⟨i,by simp[EI,A5 h,a],by simp[e]⟩
   .exact .inr ⟨by simp[EI,A5 h,a],by simp[d,pT h]⟩
def Ei{s:List UInt8}{c:UInt8}{H:ar}:xz M QA [.str s,.int .u8 c.toNat] H λ v H'=>H'=H /\ ∃z:Int,v=.int .i64 z/\(c∈s->0<=z)/\(c∉s->z = -1):=by
 refine qq3 ?_;simp only[aa,bc,qq4];refine C3.q (R:=λ v H'=>H'=H /\ ∃z:Int,v=.int .i64 z/\(c∈s->0<=z)/\(c∉s->z = -1)) ?_ λ v H'⟨g,z,h,a,d⟩=>?_
 .refine qfv ?_;rcases ψ c s 0 with⟨i,a,f⟩|⟨a,d⟩
  .have e:Op.aB [.str s,.int .u8 c.toNat]=B1 (.int .i64 (i:Nat)):=by
    simp only[Op.aB,IJ,UInt8.ofNat_toNat,a];rfl
   simp only[aa,bc,qi,e];exact⟨_,rfl,λ _=>by omega,λ q=>(q f).elim⟩
  .have e:Op.aB [.str s,.int .u8 c.toNat]=B1 (.int .i64 (-1)):=by
    simp only[Op.aB,IJ,UInt8.ofNat_toNat,a];rfl
   simp only[aa,bc,qi,e];exact⟨_,rfl,λ q=>(d q).elim,λ _=>rfl⟩
 .subst h;subst g;simp only[aa,bc];exact⟨z,rfl,a,d⟩
def xcg{H:ar}(hs:tO H)(i:iq):xz M I1 [.agg (fX i)] H λ v H'=>v=.bool (decide i.lF)/\Fr Em H H':=by
 refine Z9 ?_;obtain⟨w0,w4,F,I,D,u⟩:=q9q M ⟨B5,I1⟩;obtain⟨H1,N,x,-,O⟩:=de H (OR (fX i) CE);have ld:∀k,Op.ae [.ptr H.au k] H1=(fX i)[k]?:=λ k=>xv (qt O) k;have l0:Op.ae [.ptr H.au 0] H1=B1 (.int .i64 i.op):=ld 0;have l1:Op.ae [.ptr H.au 1] H1=B1 (.int .i64 i.a):=ld 1;have l2:Op.ae [.ptr H.au 2] H1=B1 (.int .i64 i.b):=ld 2;have l3:Op.ae [.ptr H.au 3] H1=B1 (.int .i64 i.c):=ld 3;have L:Op.build [.int .i64 0,.int .i64 0,.int .i64 0] [(0,1),(1,1),(2,1)] [.int .i64 i.a,.int .i64 i.b,.int .i64 i.c]=B1 (.agg [.int .i64 i.a,.int .i64 i.b,.int .i64 i.c]):=rfl;have ca:AV.cells (.agg (fX i))=fX i:=zb _;simp only[aa,bc,w0,ca,<-N,l0];refine C3.q (_J (hs.em x) i.op) λ v K⟨A,y⟩=>?_;subst A;subst y;obtain⟨m,g⟩:∃m,m=(if mS i.op then nD i.op.toNat else[]):=⟨_,rfl⟩
 rw[<-g];simp only[aa,bc,xc,w4,l1,l2,l3,L]
 let ok:Nat->Prop:=λ j=>match j with
  |0=>65∈m->0<=i.a/\i.a<8
  |1=>66∈m->0<=i.b/\i.b<8
  |_=>67∈m->0<=i.c/\i.c<8
 have f:i.lF↔mS i.op/\ok 0/\ok 1/\ok 2:=by
  constructor
  .intro q;have l:mS i.op:=⟨q.1,q.2.1⟩
   rw[qv l]at g;subst g;exact⟨l,q.2.2.1,q.2.2.2.1,q.2.2.2.2⟩
  .intro ⟨l,B,p,C⟩;rw[qv l]at g;subst g;exact⟨l.1,l.2,B,p,C⟩
 have R:Op.bD 3 1 B5 [.agg [.int .i64 i.a,.int .i64 i.b,.int .i64 i.c],.int .i64 0]=B1 (.int .i64 i.a):=rfl;have S:Op.bD 3 1 B5 [.agg [.int .i64 i.a,.int .i64 i.b,.int .i64 i.c],.int .i64 1]=B1 (.int .i64 i.b):=rfl;have T:Op.bD 3 1 B5 [.agg [.int .i64 i.a,.int .i64 i.b,.int .i64 i.c],.int .i64 2]=B1 (.int .i64 i.c):=rfl;have U:Op.bK [.str [65,66,67],.int .i64 0]=B1 (.int .u8 ((65:UInt8).toNat:Nat)):=rfl;have V:Op.bK [.str [65,66,67],.int .i64 1]=B1 (.int .u8 ((66:UInt8).toNat:Nat)):=rfl;have W:Op.bK [.str [65,66,67],.int .i64 2]=B1 (.int .u8 ((67:UInt8).toNat:Nat)):=rfl;have b1:aj .i64 (0+1)=1:=by decide +kernel
 have b2:aj .i64 (1+1)=2:=by decide +kernel
 have b3:aj .i64 (2+1)=3:=by decide +kernel
 have no:∀{k:Nat},k<3 -> ¬ok k->decide i.lF=false:=λ{k}hk q=>jw λ w=>by
  have⟨_,B,p,C⟩:=f.1 w;rcases(show k=0\/k=1\/k=2 by omega)with rfl|rfl|rfl
  .exact q B
  .exact q p
  .exact q C
 refine dA.intro (λ n E G=>∃k:Nat,E=[(20,.int .i64 (k:Nat)),(19,.agg [.int .i64 i.a,.int .i64 i.b,.int .i64 i.c]),(4,.bool (decide (mS i.op))),(3,.str m)]/\n=3-k/\k<=3/\G=K /\ ∀j,j<k->ok j) ?_ ?_
 .exact ⟨_,_,⟨0,rfl,rfl,xu _,rfl,λ j P=>by omega⟩,by simp only[aa,bc]⟩
 rintro n E G ⟨k,rfl,rfl,hk,rfl,h⟩;rcases xp k 3 with o|o
 .have p:(k:Int)<3:=by omega
  obtain⟨c,r,Q,l,d⟩:∃(c:UInt8)(r:Int),Op.bD 3 1 B5 [.agg [.int .i64 i.a,.int .i64 i.b,.int .i64 i.c],.int .i64 (k:Nat)]=B1 (.int .i64 r)/\Op.bK [.str [65,66,67],.int .i64 (k:Nat)]=B1 (.int .u8 (c.toNat:Nat))/\(ok k↔(c∈m->0<=r/\r<8)):=by
   rcases(show k=0\/k=1\/k=2 by omega)with rfl|rfl|rfl
   .exact ⟨65,i.a,R,U,jg⟩
   .exact ⟨66,i.b,S,V,jg⟩
   .exact ⟨67,i.c,T,W,jg⟩
  have J:aj .i64 ((k:Int)+1)=((k+1:Nat):Int):=by rw[jr (by omega) (by omega)];omega
  have go:ok k -> ∀j,j<k+1->ok j:=λ q j P=>by
   rcases xp j k with w|w
   .exact h j w
   .rw [show j=k by omega];exact q
  simp only[aa,bc,I,p,D,Q,l];refine C3.q (Ei) λ v Z⟨y,z,A,X,Y⟩=>?_;subst A;subst y
  by_cases s:c∈m
  .have t:(0:Int)<=z:=X s
   by_cases n1:r<0
   .have:=no o λ q=>by have:=(d.1 q s).1;omega
    simp only[aa,bc,t,n1,this];exact x
   by_cases n2:(8:Int)<=r
   .have:=no o λ q=>by have:=(d.1 q s).2;omega
    simp only[aa,bc,t,n1,n2,this];exact x
   simp only[aa,bc,t,n1,n2,u,J];exact⟨_,_,⟨k+1,rfl,rfl,by omega,go (d.2 λ _=>⟨by omega,by omega⟩)⟩,by simp only[aa,bc],by omega⟩
  .have t:¬(0:Int)<=z:=by rw[Y s];decide
   simp only[aa,bc,t,u,J];exact⟨_,_,⟨k+1,rfl,rfl,by omega,go (d.2 λ q=>(s q).elim)⟩,by simp only[aa,bc],by omega⟩
 .have p:¬(k:Int)<3:=by omega
  have:decide (mS i.op)=decide i.lF:=by
   have e:i.lF↔mS i.op:=⟨λ q=>(f.1 q).1,λ q=>f.2 ⟨q,h 0 (by omega),h 1 (by omega),h 2 (by omega)⟩⟩
   by_cases q:mS i.op
   .rw [jz q,jz (e.2 q)]
   .rw [jw q,jw λ w=>q (e.1 w)]
  simp only[aa,bc,I,p,F,this];exact x
end Go.Am
namespace Go.Am
open Lang Go.Proofs
variable{M:ak}[MK M]
def aY(f:lW):List AV:=[.int .i64 f.kind,.int .i64 f.au,.int .i64 f.nQ,.int .u64 f.value,.int .u64 f.addr]
def Tv(n:Int):oh n<8:=by
 unfold oh;rw[BitVec.toNat_and];exact Nat.lt_of_le_of_lt Nat.and_le_right (by decide)
def Mm{rs:List Int}(h:rs.length=8)(n:Int):(rs.map uC)[oh n]? = B1 (.int .u64 (rg rs n)):=by
 have hl:=Tv n;rw[xr,xj (by omega)];simp only[rg,zi,xj (show oh n<rs.length by omega)];rfl
def Nd{rs:List Int}(h:rs.length=8)(hr:∀x∈rs,fm x)(n:Int):fm (rg rs n):=by
 have hl:=Tv n;simp only[rg,zi,xj (show oh n<rs.length by omega)];exact hr _ (List.getElem_mem _)
def Du{x:Int}(e:fm x)(n:Nat):x.fdiv (2 ^ n)=aj .u64 (x / 2 ^ n):=by
 have⟨a,d⟩:=e;have hp:(0:Int)<2 ^ n:=Int.pow_pos (by decide);rw[Int.fdiv_eq_ediv_of_nonneg _ (Int.le_of_lt hp),XN (Int.ediv_nonneg a (Int.le_of_lt hp))];exact Int.lt_of_le_of_lt (Int.ediv_le_self _ a) d
def H_(k n r d:Int):Op.build [.int .i64 0,.int .i64 0,.int .i64 0,.int .u64 0,.int .u64 0] [(0,1),(1,1),(2,1),(4,1)] [.int .i64 k,.int .i64 n,.int .i64 r,.int .u64 d]=B1 (.agg (aY ⟨k,n,r,0,d⟩)):=rfl
def Re(k n v d:Int):Op.build [.int .i64 0,.int .i64 0,.int .i64 0,.int .u64 0,.int .u64 0] [(0,1),(1,1),(3,1),(4,1)] [.int .i64 k,.int .i64 n,.int .u64 v,.int .u64 d]=B1 (.agg (aY ⟨k,n,0,v,d⟩)):=rfl
def Cz{H:ar}{b:Nat}{x f:lW}(h:H.get b=B1 (OR (aY x) zq)):Op.store 5 [.ptr b 0,.agg (aY f)] H=B1 (.undef,H.set b (OR (aY f) zq)):=by
 rw[ta (o:=0) (n:=5) (v:=.agg (aY f)) h rfl (by simp[aY]) rfl];rfl
def FH{H:ar}{b:Nat}{x:lW}(h:H.get b=B1 (OR (aY x) zq)):Op.av 5 [.ptr b 0] H=B1 (.agg (aY x)):=by
 rw[sf (c:=aY x) (qt h) (by simp[aY])];rfl
def rQ:Op.build (aY gw) [] []=B1 (.agg (aY gw)):=rfl
def xJ(k n:Int):Op.build (aY gw) [(0,1),(1,1)] [.int .i64 k,.int .i64 n]=B1 (.agg (aY ⟨k,n,0,0,0⟩)):=rfl
def K8(k n r v:Int):Op.build (aY gw) [(0,1),(1,1),(2,1),(3,1)] [.int .i64 k,.int .i64 n,.int .i64 r,.int .u64 v]=B1 (.agg (aY ⟨k,n,r,v,0⟩)):=rfl
def pD:[AV.int .i64 0,.int .i64 0,.int .i64 0,.int .u64 0,.int .u64 0]=aY gw:=rfl
structure uP(i:iq)(rs:List Int)(pc:Int)(b:Nat)(H:ar):Prop where
 gi:H.get b=B1 (OR (fX i) CE)
 gr:H.get (b+1)=B1 (OR (rs.map uC) tY)
 gp:H.get (b+2)=B1 (OR [.int .i64 pc] cM)
 ge:H.get (b+3)=B1 (OR (aY gw) zq)
 lt:b+3<H.au
section
variable{i:iq}{rs:List Int}{pc:Int}{b:Nat}{H H':ar}
def uP.em(h:uP i rs pc b H)(f:Fr Em H H'):uP i rs pc b H':=by
 have hl:=h.lt;exact⟨by rw[f.ah _ (by omega) id];exact h.gi,by rw[f.ah _ (by omega) id];exact h.gr,by rw[f.ah _ (by omega) id];exact h.gp,by rw[f.ah _ (by omega) id];exact h.ge,qj hl f.au⟩
def uP.li(h:uP i rs pc b H)(k:Nat):Op.ae [.ptr b k] H=(fX i)[k]?:=xv (qt h.gi) k
def uP.lp(h:uP i rs pc b H):Op.ae [.ptr (b+2) 0] H=B1 (.int .i64 pc):=xv (qt h.gp) 0
def EL(h:uP i rs pc b H)(hp:0<=pc/\pc<1024)(v:Int):xz M N2 [.int .u64 v,.ptr (b+2) 0,.ptr b 0] H λ w H'=>w=.agg (aY ⟨1,pc+1,i.a,v,0⟩)/\Fr Em H H':=by
 refine xc2 ?_;obtain⟨H1,f,d,-,j⟩:=de H (OR (aY gw) zq);have e:=h.em d;have l1:Op.ae [.ptr b 1] H1=B1 (.int .i64 i.a):=e.li 1;have wp:aj .i64 (pc+1)=pc+1:=jr (by omega) (by omega);have g:Fr Em H (H1.set H.au (OR (aY ⟨1,pc+1,i.a,v,0⟩) zq)):=d.set (.inr (qg _)) _;have ld:=FH (xb H1 H.au (OR (aY ⟨1,pc+1,i.a,v,0⟩) zq));simp only[aa,bc,xc3,pD,<-f,e.lp,wp,l1,K8,Cz j,ld];exact g
def QR(h:uP i rs pc b H)(hp:0<=pc/\pc<1024)(k:Int):xz M OC [.int .i64 k,.ptr (b+2) 0] H λ w H'=>w=.agg (aY ⟨k,pc+1,0,0,0⟩)/\Fr Em H H':=by
 refine xc6 ?_;obtain⟨H1,d,a,-,f⟩:=de H (OR (aY gw) zq);have g:=h.em a;have wp:aj .i64 (pc+1)=pc+1:=jr (by omega) (by omega);have e:Fr Em H (H1.set H.au (OR (aY ⟨k,pc+1,0,0,0⟩) zq)):=a.set (.inr (qg _)) _;have ld:=FH (xb H1 H.au (OR (aY ⟨k,pc+1,0,0,0⟩) zq));simp only[aa,bc,xc7,pD,<-d,g.lp,wp,xJ,Cz f,ld];exact e
def NJ(h:uP i rs pc b H)(hp:0<=pc/\pc<1024)(q:Bool):xz M Lr [.bool q,.ptr (b+2) 0,.ptr b 0] H λ w H'=>w=.agg (aY (lH i pc q))/\Fr Em H H':=by
 refine xc4 ?_;obtain⟨w0,l,a,m⟩:=xc5 M ⟨B5,Lr⟩;obtain⟨H1,g,o,-,k⟩:=de H (OR (aY gw) zq);have p:=h.em o;have wp:aj .i64 (pc+1)=pc+1:=jr (by omega) (by omega);have l4:Op.ae [.ptr b 4] H1=B1 (.int .i64 i.wH):=p.li 4;have j:∀f,Fr Em H (H1.set H.au (OR (aY f) zq)):=λ f=>o.set (.inr (qg _)) _;have ld:∀f,Op.av 5 [.ptr H.au 0] (H1.set H.au (OR (aY f) zq))=B1 (.agg (aY f)):=λ f=>FH (xb H1 H.au (OR (aY f) zq));cases q with
 |false =>
  simp only[aa,bc,w0,pD,<-g,l,p.lp,wp,xJ,Cz k,ld];exact⟨rfl,j _⟩
 |true =>
  by_cases d:i.wH<0
  .simp only[aa,bc,w0,pD,<-g,l,a,l4,d,rQ,Cz k,ld];exact⟨by unfold lH;rw[qv rfl,qv (.inl d)],j _⟩
  by_cases e:(1024:Int)<i.wH
  .simp only[aa,bc,w0,pD,<-g,l,a,l4,d,e,rQ,Cz k,ld];exact⟨by unfold lH;rw[qv rfl,qv (.inr e)],j _⟩
  simp only[aa,bc,w0,pD,<-g,l,a,l4,d,e,m,xJ,Cz k,ld];exact⟨by unfold lH;rw[qv rfl,qn (λ q=>q.elim d e)],j _⟩
def Ug(h:uP i rs pc b H)(d:rs.length=8)(n:Int):xz M Oe [.int .i64 n,.ptr (b+1) 0] H λ w H'=>w=.int .u64 (rg rs n)/\H'=H:=by
 refine v_ ?_;have hl:=Tv n;have a:Op.bin .and [.int .i64 n,.int .i64 7]=B1 (.int .i64 ((oh n:Nat):Int)):=by
  show B1 (AV.int .i64 (aj .i64 ((oh n:Nat):Int)))=_;rw[jr (by omega) (by omega)]
 have ix:Op.aW 8 1 [.ptr (b+1) 0,.int .i64 ((oh n:Nat):Int)]=B1 (.ptr (b+1) (oh n)):=by
  simp only[Op.aW];rw[It (i:=oh n) rfl hl];simp
 have ld:Op.ae [.ptr (b+1) (oh n)] H=B1 (.int .u64 (rg rs n)):=by rw[xv (qt h.gr)];exact Mm d n
 simp only[aa,bc,X_,a,ix,ld]
end
def ER{H:ar}(hs:tO H){i:iq}{rs:List Int}{pc:Int}(J:rs.length=8)(hr:∀x∈rs,fm x):xz M Ts [.agg (fX i),.agg (rs.map uC),.int .i64 pc] H λ v H'=>v=.agg (aY (i.eM rs pc))/\Fr Em H H':=by
 refine xO ?_;obtain⟨w0,w2,Y,Z,w18,w22,O,m,p,r,s,u,B,A,G⟩:=ae6 M ⟨B5,Ts⟩;obtain⟨H1,e1,f1,n1,-⟩:=de H (OR (fX i) CE);obtain⟨H2,S,L,-,-⟩:=de H1 (OR (rs.map uC) tY);obtain⟨H3,T,I,-,-⟩:=de H2 (OR [.int .i64 pc] cM);obtain⟨P,U,F,-,-⟩:=de H3 (OR (aY gw) zq);have n2:H2.au=H.au+2:=by rw[S,xt,n1]
 have W:H3.au=H.au+3:=by rw[T,xt,n2]
 have n4:P.au=H.au+4:=by rw[U,xt,W]
 have f4:Fr Em H P:=((f1.trans L λ _ q=>q.elim).trans I λ _ q=>q.elim).trans F λ _ q=>q.elim;have hM:uP i rs pc H.au P:=by
  refine⟨?_,?_,?_,?_,by omega⟩
  .rw [F.ah _ (by omega) id,I.ah _ (by omega) id,L.ah _ (by omega) id,e1,xf]
  .rw [F.ah _ (by omega) id,I.ah _ (by omega) id,S,<-n1,xf]
  .rw [F.ah _ (by omega) id,T,<-n2,xf]
  .rw [U,<-W,xf]
 have c1:AV.cells (.agg (fX i))=fX i:=zb _;have c2:AV.cells (.agg (rs.map uC))=rs.map uC:=zb _;have c3:AV.cells (.int .i64 pc)=[.int .i64 pc]:=rfl;simp only[aa,bc,w0,c1,<-e1,c2,<-S,c3,<-T,pD,<-U,n1,n2,W,w2];have li:Op.av 5 [.ptr H.au 0] P=B1 (.agg (fX i)):=by rw[sf (c:=fX i) (qt hM.gi) (by simp[fX])];rfl
 simp only[aa,bc,li];refine C3.q (xcg (hs.em f4) i) λ v K⟨l,f5⟩=>?_;subst l;have d:=hM.em f5;have j:=f4.trans f5 λ _ q=>q.elim
 -- the end
 have fin:∀{z:ar},uP i rs pc H.au z->Fr Em H z->(∀f,Op.store 5 [.ptr (H.au+3) 0,.agg (aY f)] z=B1 (.undef,z.set (H.au+3) (OR (aY f) zq)))/\(∀f,Op.av 5 [.ptr (H.au+3) 0] (z.set (H.au+3) (OR (aY f) zq))=B1 (.agg (aY f))) /\ ∀f,Fr Em H (z.set (H.au+3) (OR (aY f) zq)):=λ{z}hx fx =>
  ⟨λ f=>Cz hx.ge,λ f=>FH (xb z (H.au+3) (OR (aY f) zq)),λ f=>fx.set (.inr (by omega)) _⟩
 by_cases hb:¬i.lF\/pc<0\/1024<=pc
 .have hd:i.eM rs pc=gw:=by unfold iq.eM;rw[qv hb]
  rw[hd];have⟨st,ld,k⟩:=fin d j
  by_cases Q:i.lF
  .by_cases E:pc<0
   .simp only[aa,bc,jz Q,d.lp,E,rQ,st,ld];exact k _
   .have X:(1024:Int)<=pc:=by rcases hb with q|q|q;exact(q Q).elim;omega;exact q
    simp only[aa,bc,jz Q,d.lp,E,X,rQ,st,ld];exact k _
  .simp only[aa,bc,jw Q,rQ,st,ld];exact k _
 have D:i.lF:=vy.1 λ q=>hb (.inl q);have E:¬pc<0:=λ q=>hb (.inr (.inl q));have X:¬(1024:Int)<=pc:=λ q=>hb (.inr (.inr q));have hp:0<=pc/\pc<1024:=⟨by omega,by omega⟩
 have wp:aj .i64 (pc+1)=pc+1:=jr (by omega) (by omega);have mk1:Op.bS N2 0 [.ptr (H.au+2) 0,.ptr H.au 0]=B1 (.fn (.func N2) [] [.ptr (H.au+2) 0,.ptr H.au 0]):=rfl;have mk2:Op.bS Lr 0 [.ptr (H.au+2) 0,.ptr H.au 0]=B1 (.fn (.func Lr) [] [.ptr (H.au+2) 0,.ptr H.au 0]):=rfl;have mk3:Op.bS OC 0 [.ptr (H.au+2) 0]=B1 (.fn (.func OC) [] [.ptr (H.au+2) 0]):=rfl;have mk4:Op.bS Oe 0 [.ptr (H.au+1) 0]=B1 (.fn (.func Oe) [] [.ptr (H.au+1) 0]):=rfl;have k1:Op.ae [.ptr H.au 1] K=B1 (.int .i64 i.a):=d.li 1;have k2:Op.ae [.ptr H.au 2] K=B1 (.int .i64 i.b):=d.li 2;have V:Op.ae [.ptr H.au 3] K=B1 (.int .i64 i.c):=d.li 3;have k4:Op.ae [.ptr H.au 4] K=B1 (.int .i64 i.wH):=d.li 4;have k0:Op.ae [.ptr H.au 0] K=B1 (.int .i64 i.op):=d.li 0;simp only[aa,bc,jz D,d.lp,E,X,Y,Z,w18,k1,k2,V];refine C3.q (Ug d J i.a) λ v R⟨l,N⟩=>?_;subst l;subst N;simp only[aa,bc,k2,V];refine C3.q (Ug d J i.b) λ v R⟨l,N⟩=>?_;subst l;subst N;simp only[aa,bc,V];refine C3.q (Ug d J i.c) λ v R⟨l,N⟩=>?_;subst l;subst N;have ra:=Nd J hr i.a;have rb:=Nd J hr i.b;have rc:=Nd J hr i.c;simp only[aa,bc,k4,w22,k0];have hop:1<=i.op/\i.op<=18:=⟨D.1,D.2.1⟩
 -- what is told
 have t:∀{f:lW}{z:ar},f=i.eM rs pc->Fr Em H z->AV.agg (aY f)=.agg (aY (i.eM rs pc))/\Fr Em H z:=λ e q=>⟨by rw[e],q⟩
 have C:i.op=1\/i.op=2\/i.op=3\/i.op=4\/i.op=5\/i.op=6\/i.op=7\/i.op=8\/i.op=9\/i.op=10\/i.op=11\/i.op=12\/i.op=13\/i.op=14\/i.op=15\/i.op=16\/i.op=17\/i.op=18:=by omega
 have cl:∀{x:AV}{f:lW}{z:ar},x=.agg (aY f)->Fr Em R z->uP i rs pc H.au z/\Fr Em H z:=λ _ q=>⟨d.em q,j.trans q λ _ w=>w.elim⟩
 rcases C with o|o|o|o|o|o|o|o|o|o|o|o|o|o|o|o|o|o
 .simp only[aa,bc,o,rq];refine C3.q (QR d hp 7) λ v y⟨l,h⟩=>?_;subst l;have g:=j.trans h λ _ w=>w.elim;have⟨st,ld,k⟩:=fin (d.em h) g;simp only[aa,bc,st,ld];refine t ?_ (k _);unfold iq.eM;rw[qn hb];simp[o]
 .simp only[aa,bc,o,Mh,rq,k4];refine C3.q (EL d hp (aj .u64 i.wH)) λ v y⟨l,h⟩=>?_;subst l;have g:=j.trans h λ _ w=>w.elim;have⟨st,ld,k⟩:=fin (d.em h) g;simp only[aa,bc,st,ld];refine t ?_ (k _);unfold iq.eM;rw[qn hb];simp[o]
 .simp only[aa,bc,o,Mh,rq,m];refine C3.q (EL d hp (rg rs i.b)) λ v y⟨l,h⟩=>?_;subst l;have g:=j.trans h λ _ w=>w.elim;have⟨st,ld,k⟩:=fin (d.em h) g;simp only[aa,bc,st,ld];refine t ?_ (k _);unfold iq.eM;rw[qn hb];simp[o]
 .simp only[aa,bc,o,Mh,rq,m];refine C3.q (EL d hp _) λ v y⟨l,h⟩=>?_;subst l;have g:=j.trans h λ _ w=>w.elim;have⟨st,ld,k⟩:=fin (d.em h) g;simp only[aa,bc,st,ld];refine t ?_ (k _);unfold iq.eM;rw[qn hb];simp[o,CX]
 .simp only[aa,bc,o,Mh,rq,m,p];refine C3.q (EL d hp _) λ v y⟨l,h⟩=>?_;subst l;have g:=j.trans h λ _ w=>w.elim;have⟨st,ld,k⟩:=fin (d.em h) g;simp only[aa,bc,st,ld];refine t ?_ (k _);unfold iq.eM;rw[qn hb];simp[o,CX]
 .simp only[aa,bc,o,Mh,rq,m,p];refine C3.q (EL d hp _) λ v y⟨l,h⟩=>?_;subst l;have g:=j.trans h λ _ w=>w.elim;have⟨st,ld,k⟩:=fin (d.em h) g;simp only[aa,bc,st,ld];refine t ?_ (k _);unfold iq.eM;rw[qn hb];simp[o,CX]
 .have q:Op.bin .and [.int .u64 (rg rs i.b),.int .u64 (rg rs i.c)]=B1 (.int .u64 (CX 7 (rg rs i.b) (rg rs i.c))):=rfl;simp only[aa,bc,o,Mh,rq,m,p,r,q];refine C3.q (EL d hp _) λ v y⟨l,h⟩=>?_;subst l;have g:=j.trans h λ _ w=>w.elim;have⟨st,ld,k⟩:=fin (d.em h) g;simp only[aa,bc,st,ld];refine t ?_ (k _);unfold iq.eM;rw[qn hb];simp[o]
 .have q:Op.bin .xor [.int .u64 (rg rs i.b),.int .u64 (rg rs i.c)]=B1 (.int .u64 (CX 8 (rg rs i.b) (rg rs i.c))):=rfl;simp only[aa,bc,o,Mh,rq,m,p,r,q];refine C3.q (EL d hp _) λ v y⟨l,h⟩=>?_;subst l;have g:=j.trans h λ _ w=>w.elim;have⟨st,ld,k⟩:=fin (d.em h) g;simp only[aa,bc,st,ld];refine t ?_ (k _);unfold iq.eM;rw[qn hb];simp[o]
 .have q:Op.bin .rem [.int .u64 (rg rs i.c),.int .u64 64]=B1 (.int .u64 (((rg rs i.c % 64).toNat:Nat):Int)):=by
   rw[rA .u64 _ _ (by decide),Int.tmod_eq_emod_of_nonneg rc.1];congr 2;omega
  have E:=LZ .u64 .u64 (rg rs i.b) (rg rs i.c % 64).toNat;rw[show KB.u64.bits=64 from rfl,show min (rg rs i.c % 64).toNat 64=(rg rs i.c % 64).toNat by omega]at E;simp only[aa,bc,o,Mh,rq,m,p,r,s,q,E];refine C3.q (EL d hp _) λ v y⟨l,h⟩=>?_;subst l;have g:=j.trans h λ _ w=>w.elim;have⟨st,ld,k⟩:=fin (d.em h) g;simp only[aa,bc,st,ld];refine t ?_ (k _);unfold iq.eM;rw[qn hb];simp[o,CX]
 .have q:Op.bin .rem [.int .u64 (rg rs i.c),.int .u64 64]=B1 (.int .u64 (((rg rs i.c % 64).toNat:Nat):Int)):=by
   rw[rA .u64 _ _ (by decide),Int.tmod_eq_emod_of_nonneg rc.1];congr 2;omega
  have E:=J8 .u64 .u64 (rg rs i.b) (rg rs i.c % 64).toNat;rw[show KB.u64.bits=64 from rfl,show min (rg rs i.c % 64).toNat 64=(rg rs i.c % 64).toNat by omega,Du rb]at E;simp only[aa,bc,o,Mh,rq,m,p,r,s,q,E];refine C3.q (EL d hp _) λ v y⟨l,h⟩=>?_;subst l;have g:=j.trans h λ _ w=>w.elim;have⟨st,ld,k⟩:=fin (d.em h) g;simp only[aa,bc,st,ld];refine t ?_ (k _);unfold iq.eM;rw[qn hb];simp[o,CX]
 .have ⟨st,ld,k⟩:=fin d j;simp only[aa,bc,o,Mh,rq,m,p,r,s,u,d.lp,wp,k1,H_,st,ld];refine t ?_ (k _);unfold iq.eM;rw[qn hb];simp[o]
 .have ⟨st,ld,k⟩:=fin d j;simp only[aa,bc,o,Mh,rq,m,p,r,s,u,d.lp,wp,Re,st,ld];refine t ?_ (k _);unfold iq.eM;rw[qn hb];simp[o]
 .simp only[aa,bc,o,Mh,rq,m,p,r,s,u,B];refine C3.q (NJ d hp B4) λ v y⟨l,h⟩=>?_;subst l;have g:=j.trans h λ _ w=>w.elim;have⟨st,ld,k⟩:=fin (d.em h) g;simp only[aa,bc,st,ld];refine t ?_ (k _);unfold iq.eM;rw[qn hb];simp[o]
 .simp only[aa,bc,o,Mh,rq,m,p,r,s,u,B];refine C3.q (NJ d hp (decide (rg rs i.a=rg rs i.b))) λ v y⟨l,h⟩=>?_;subst l;have g:=j.trans h λ _ w=>w.elim;have⟨st,ld,k⟩:=fin (d.em h) g;simp only[aa,bc,st,ld];refine t ?_ (k _);unfold iq.eM;rw[qn hb];simp[o]
 .simp only[aa,bc,o,Mh,rq,m,p,r,s,u,B,A];refine C3.q (NJ d hp (decide (rg rs i.a≠rg rs i.b))) λ v y⟨l,h⟩=>?_;subst l;have g:=j.trans h λ _ w=>w.elim;have⟨st,ld,k⟩:=fin (d.em h) g;simp only[aa,bc,st,ld];refine t ?_ (k _);unfold iq.eM;rw[qn hb];simp[o]
 .simp only[aa,bc,o,Mh,rq,m,p,r,s,u,B,A];refine C3.q (NJ d hp (decide (rg rs i.a<rg rs i.b))) λ v y⟨l,h⟩=>?_;subst l;have g:=j.trans h λ _ w=>w.elim;have⟨st,ld,k⟩:=fin (d.em h) g;simp only[aa,bc,st,ld];refine t ?_ (k _);unfold iq.eM;rw[qn hb];simp[o]
 .simp only[aa,bc,o,Mh,rq,m,p,r,s,u,B,A,G];refine C3.q (QR d hp 5) λ v y⟨l,h⟩=>?_;subst l;have g:=j.trans h λ _ w=>w.elim;have⟨st,ld,k⟩:=fin (d.em h) g;simp only[aa,bc,st,ld];refine t ?_ (k _);unfold iq.eM;rw[qn hb];simp[o]
 .simp only[aa,bc,o,Mh,rq,m,p,r,s,u,B,A,G,O];refine C3.q (QR d hp 6) λ v y⟨l,h⟩=>?_;subst l;have g:=j.trans h λ _ w=>w.elim;have⟨st,ld,k⟩:=fin (d.em h) g;simp only[aa,bc,st,ld];refine t ?_ (k _);unfold iq.eM;rw[qn hb];simp[o]
end Go.Am
