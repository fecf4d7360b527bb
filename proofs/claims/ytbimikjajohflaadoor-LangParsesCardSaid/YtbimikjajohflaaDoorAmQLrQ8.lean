/- LrQ8: RfA RfB RfC RfD. -/
import Derived.Test.YtbimikjajohflaaDoorAmQCodeQc
import Derived.Test.YtbimikjajohflaaDoorAmQLrQ5
import Derived.Test.YtbimikjajohflaaDoorAmQLrQp
import Derived.Test.YtbimikjajohflaaDoorAmQLrQ0
set_option linter.unusedVariables false
set_option linter.unusedSimpArgs false
set_option linter.unusedSectionVars false
set_option maxRecDepth 100000
namespace Go.Am
open Lang Go.Proofs
variable {M:Mac} [MK M]
structure RFk where
 H0:AHeap
 r:Nat
 text:Tk
structure RFg (c:RFk) (H:AHeap) (nv:AV) (zs:List (Nd × AV)) (b:Bool) (k o:Nat) (a:Bool):Prop where
 ns:∃ (o1:Int) (a1:Bool),NS qdn c.H0 H c.r qbu (.str c.text) nv (k:Int) o1 a1 b zs/\(b=false->o1=(o:Int)/\a1=a)
 le:k<=c.text.length
 sm:c.text.length<=100000
structure RF (c:RFk) (H:AHeap) (nv:AV) (zs:List (Nd × AV)) (σ:PS) (k o:Nat) (a:Bool):Prop extends RFg c H nv zs σ.isBad k o a where
 ps:skp false (c.text.drop k) = σ.left
 bx:σ.isBad=true->c.text.drop k = σ.left
section
variable {c:RFk} {H H':AHeap} {nv nv':AV} {zs zs':List (Nd × AV)} {σ τ:PS} {k k' o o':Nat} {a a' b:Bool}
theorem RFg.em (h:RFg c H nv zs b k o a) (f:Fr Em H H'):RFg c H' nv zs b k o a:=by
 obtain ⟨o1,a1,n,q⟩:=h.ns
 exact ⟨⟨o1,a1,n.em f,q⟩,h.le,h.sm⟩
theorem RF.em (h:RF c H nv zs σ k o a) (f:Fr Em H H'):RF c H' nv zs σ k o a:=⟨h.toRFg.em f,h.ps,h.bx⟩
theorem RF.bad {L:Tk} (h:RF c H nv zs (.bad L) k o a):RF c H nv zs (.bad L) k o' a':=by
 obtain ⟨o1,a1,n,q⟩:=h.ns
 exact ⟨⟨⟨o1,a1,n,fun q=>by cases q⟩,h.le,h.sm⟩,h.ps,h.bx⟩
theorem RFg.ld0 (h:RFg c H nv zs b k o a):Op.load1 [.ptr c.r 0] H=some (.str c.text):=by
 obtain ⟨o1,a1,n,q⟩:=h.ns
 exact n.ld 0
theorem RFg.ld1 (h:RFg c H nv zs b k o a):Op.load1 [.ptr c.r 1] H=some (.int .i64 (k:Nat)):=by
 obtain ⟨o1,a1,n,q⟩:=h.ns
 exact n.ld 1
theorem RFg.ld2 (h:RFg c H nv zs b k o a):Op.load1 [.ptr c.r 2] H=some nv:=by
 obtain ⟨o1,a1,n,q⟩:=h.ns
 exact n.ld 2
theorem RFg.ld5 (h:RFg c H nv zs b k o a):Op.load1 [.ptr c.r 5] H=some (.bool b):=by
 obtain ⟨o1,a1,n,q⟩:=h.ns
 exact n.ld 5
theorem RFg.ld3 (h:RFg c H nv zs false k o a):Op.load1 [.ptr c.r 3] H=some (.int .i64 (o:Nat)):=by
 obtain ⟨o1,a1,n,q⟩:=h.ns
 obtain ⟨rfl,-⟩:=q rfl
 exact n.ld 3
theorem RFg.ld4 (h:RFg c H nv zs false k o a):Op.load1 [.ptr c.r 4] H=some (.bool a):=by
 obtain ⟨o1,a1,n,q⟩:=h.ns
 obtain ⟨-,rfl⟩:=q rfl
 exact n.ld 4
theorem RFg.sz (h:RFg c H nv zs b k o a):k<=100000:=by have:=h.le;have:=h.sm;omega
theorem RFg.at (h:RFg c H nv zs b k o a) (hk:k'<=c.text.length):∃ H',Op.store 1 [.ptr c.r 1,.int .i64 (k':Nat)] H=some (.undef,H')/\RFg c H' nv zs b k' o a/\PK c.r nv zs H nv zs H':=by
 obtain ⟨o1,a1,n,q⟩:=h.ns
 obtain ⟨n1,n2⟩:=n.set (k':Int) o1 a1 b
 exact ⟨_,n.st1 _,⟨⟨o1,a1,n1,q⟩,hk,h.sm⟩,n2⟩
theorem RFg.op (h:RFg c H nv zs false k o a) (o':Nat):∃ H',Op.store 1 [.ptr c.r 3,.int .i64 (o':Nat)] H=some (.undef,H')/\RFg c H' nv zs false k o' a/\PK c.r nv zs H nv zs H':=by
 obtain ⟨o1,a1,n,q⟩:=h.ns
 obtain ⟨n1,n2⟩:=n.set (k:Int) (o':Nat) a1 false
 exact ⟨_,n.st3 _,⟨⟨(o':Nat),a1,n1,fun w=>⟨rfl,(q w).2⟩⟩,h.le,h.sm⟩,n2⟩
theorem RFg.atm (h:RFg c H nv zs b k o a) (a':Bool):∃ H',Op.store 1 [.ptr c.r 4,.bool a'] H=some (.undef,H')/\RFg c H' nv zs b k o a'/\PK c.r nv zs H nv zs H':=by
 obtain ⟨o1,a1,n,q⟩:=h.ns
 obtain ⟨n1,n2⟩:=n.set (k:Int) o1 a' b
 exact ⟨_,n.st4 _,⟨⟨o1,a',n1,fun w=>⟨(q w).1,rfl⟩⟩,h.le,h.sm⟩,n2⟩
theorem RFg.fail (h:RFg c H nv zs b k o a):∃ H',Op.store 1 [.ptr c.r 5,.bool true] H=some (.undef,H')/\RFg c H' nv zs true k o' a'/\PK c.r nv zs H nv zs H':=by
 obtain ⟨o1,a1,n,q⟩:=h.ns
 obtain ⟨n1,n2⟩:=n.set (k:Int) o1 a1 true
 exact ⟨_,n.st5 _,⟨⟨o1,a1,n1,fun w=>by cases w⟩,h.le,h.sm⟩,n2⟩
theorem wat {k n:Nat} (h:k+n<=1000000):wrapI .i64 ((k:Int)+(n:Int))=((k+n:Nat):Int):=by rw [kr (by omega) (by omega)];omega
theorem wat1 {k:Nat} (h:k<=1000000):wrapI .i64 ((k:Int)+1)=((k+1:Nat):Int):=by rw [kr (by omega) (by omega)];omega
theorem RF.mv (h:RF c H nv zs σ k o a) {x:UInt8} {s:Tk} (hd:c.text.drop k=x::s) (hs:skp false (x::s)=skp false s):∃ H',Op.store 1 [.ptr c.r 1,.int .i64 (k+1:Nat)] H=some (.undef,H')/\RF c H' nv zs σ (k+1) o a/\PK c.r nv zs H nv zs H'/\k+1<=c.text.length:=by
 have hl:=congrArg List.length hd
 rw [zy,xk] at hl
 obtain ⟨H1,q1,q2,q3⟩:=h.at (k':=k+1) (by omega)
 have e:c.text.drop (k+1)=s:=by rw [<-qc1,hd];rfl
 refine ⟨H1,q1,⟨q2,by rw [e,<-hs,<-hd];exact h.ps,fun hb=>?_⟩,q3,by omega⟩
 have h1:=h.ps
 rw [hd,hs,<-h.bx hb,hd] at h1
 have:=qit false s
 rw [h1,xk] at this
 omega
theorem qz3 (h:RF c H nv zs σ k o a):y9 M yp [.ptr c.r 0] H fun _ H'=>∃ k',k<=k'/\RF c H' nv zs σ k' o a/\PK c.r nv zs H nv zs H'/\c.text.drop k' = σ.left:=by
 refine qj5 ?_
 obtain ⟨w0,w2,w8,w16,w24,w22⟩:=qj6 M ⟨none,yp⟩
 simp only [↓qi,qy,reduceIte,Nat.reduceEqDiff,w0]
 refine LOOP3.intro (fun n E Hx=>∃ m,E=[(0,.ptr c.r 0)]/\n=c.text.length-m/\k<=m/\RF c Hx nv zs σ m o a/\PK c.r nv zs H nv zs Hx) ?_ ?_
 ·exact ⟨_,_,⟨k,rfl,rfl,qf _,h,PK.refl⟩,by simp only [↓qi,qy,reduceIte,Nat.reduceEqDiff]⟩
 rintro n E Hx ⟨m,rfl,rfl,hkm,hm,pm⟩
 have l1:=hm.ld1
 have l0:=hm.ld0
 have hmk:=hm.sz
 have wm:=wat1 (k:=m) (by omega)
 rcases j2 m c.text.length with hlt|hge
 ·have q1:(m:Int)<(c.text.length:Nat):=by omega
  obtain ⟨x,hx⟩:∃ x,c.text[m]? = some x:=⟨c.text[m],by simp [hlt]⟩
  have ix:Op.indexStr [.str c.text,.int .i64 (m:Nat)]=some (.int .u8 x.toNat):=qaq rfl hx
  have hd:c.text.drop m=x::c.text.drop (m+1):=by rw [ym hlt];congr 1;simpa [hlt] using hx
  by_cases c35:x=35
  ·subst c35
   have e35:((35:UInt8).toNat:Int)=35:=rfl
   have hb:σ.isBad=false:=by
    cases hb:σ.isBad with
    | false=>rfl
    | true =>
     have h1:=hm.ps
     rw [<-hm.bx hb,hd,qsh] at h1
     have:=qit true (c.text.drop (m+1))
     rw [h1,xk] at this
     omega
   simp only [↓qi,qy,reduceIte,Nat.reduceEqDiff,w2,qg,l1,l0,q1,w8,ix,e35,jn]
   -- a note
   refine LOOP3.intro (fun n E Hy=>∃ j,E=[(0,.ptr c.r 0)]/\n=c.text.length-j/\m<=j/\RFg c Hy nv zs σ.isBad j o a/\PK c.r nv zs H nv zs Hy/\(j=m\/m<j/\skp true (c.text.drop j) = σ.left)) ?_ ?_
   ·exact ⟨_,_,⟨m,rfl,rfl,qf _,hm.toRFg,pm,.inl rfl⟩,by simp only [↓qi,qy,reduceIte,Nat.reduceEqDiff]⟩
   rintro n E Hy ⟨j,rfl,rfl,hmj,hj,pj,hjm⟩
   have l1:=hj.ld1
   have l0:=hj.ld0
   have hjk:=hj.sz
   have hjl:=hj.le
   have wj:=wat1 (k:=j) (by omega)
   rcases j2 j c.text.length with hltj|hgej
   ·have q2:(j:Int)<(c.text.length:Nat):=by omega
    obtain ⟨y,hy⟩:∃ y,c.text[j]? = some y:=⟨c.text[j],by simp [hltj]⟩
    have iy:Op.indexStr [.str c.text,.int .i64 (j:Nat)]=some (.int .u8 y.toNat):=qaq rfl hy
    have hdj:c.text.drop j=y::c.text.drop (j+1):=by rw [ym hltj];congr 1;simpa [hltj] using hy
    by_cases y10:y=10
    ·subst y10
     have e10:((10:UInt8).toNat:Int)=10:=rfl
     have hmj2:m<j:=by
      rcases hjm with rfl|hjm
      ·rw [hx] at hy;injection hy with hy;exact absurd hy (by decide)
      ·exact hjm.1
     have hs:skp false (c.text.drop j) = σ.left:=by
      rcases hjm with rfl|hjm
      ·omega
      ·rw [<-hjm.2,hdj,skp_nl]
     simp only [↓qi,qy,reduceIte,Nat.reduceEqDiff,w16,qg,l1,l0,q2,iy,e10,jn]
     exact ⟨_,_,⟨j,rfl,rfl,by omega,⟨hj,hs,fun q=>by rw [hb] at q;cases q⟩,pj⟩,by simp only [↓qi,qy,reduceIte,Nat.reduceEqDiff],by omega⟩
    ·have ny:¬ (y.toNat:Int)=10:=fun q=>y10 (j9.1 (by show y.toNat=10;omega))
     obtain ⟨H2,st,h2,p2⟩:=hj.at (k':=j+1) (by omega)
     simp only [↓qi,qy,reduceIte,Nat.reduceEqDiff,w16,qg,l1,l0,q2,iy,ny,w22,wj,st]
     refine ⟨_,_,⟨j+1,rfl,rfl,by omega,h2,pj.trans p2,.inr ⟨by omega,?_⟩⟩,by simp only [↓qi,qy,reduceIte,Nat.reduceEqDiff],by omega⟩
     rcases hjm with rfl|hjm
     ·have:=hm.ps
      rw [hd,qsh] at this
      exact this
     ·rw [<-hjm.2,hdj,skp_in y10]
   ·have q2:¬ (j:Int)<(c.text.length:Nat):=by omega
    have hs:skp false (c.text.drop j) = σ.left:=by
     rcases hjm with rfl|hjm
     ·omega
     ·rw [<-hjm.2,zx hgej];rfl
    simp only [↓qi,qy,reduceIte,Nat.reduceEqDiff,w16,qg,l1,l0,q2]
    exact ⟨_,_,⟨j,rfl,rfl,by omega,⟨hj,hs,fun q=>by rw [hb] at q;cases q⟩,pj⟩,by simp only [↓qi,qy,reduceIte,Nat.reduceEqDiff],by omega⟩
  have n35:¬ (x.toNat:Int)=35:=fun q=>c35 (j9.1 (by show x.toNat=35;omega))
  by_cases c32:x=32
  ·subst c32
   have e32:((32:UInt8).toNat:Int)=32:=rfl
   obtain ⟨H2,st,h2,p2,_⟩:=hm.mv hd (qhm (.inl rfl))
   simp only [↓qi,qy,reduceIte,Nat.reduceEqDiff,w2,qg,l1,l0,q1,w8,ix,e32,Int.reduceEq,jn,w24,wm,st]
   exact ⟨_,_,⟨m+1,rfl,rfl,by omega,h2,pm.trans p2⟩,by simp only [↓qi,qy,reduceIte,Nat.reduceEqDiff],by omega⟩
  have n32:¬ (x.toNat:Int)=32:=fun q=>c32 (j9.1 (by show x.toNat=32;omega))
  by_cases c9:x=9
  ·subst c9
   have e9:((9:UInt8).toNat:Int)=9:=rfl
   obtain ⟨H2,st,h2,p2,_⟩:=hm.mv hd (qhm (.inr (.inl rfl)))
   simp only [↓qi,qy,reduceIte,Nat.reduceEqDiff,w2,qg,l1,l0,q1,w8,ix,e9,Int.reduceEq,jn,w24,wm,st]
   exact ⟨_,_,⟨m+1,rfl,rfl,by omega,h2,pm.trans p2⟩,by simp only [↓qi,qy,reduceIte,Nat.reduceEqDiff],by omega⟩
  have n9:¬ (x.toNat:Int)=9:=fun q=>c9 (j9.1 (by show x.toNat=9;omega))
  by_cases c10:x=10
  ·subst c10
   have e10:((10:UInt8).toNat:Int)=10:=rfl
   obtain ⟨H2,st,h2,p2,_⟩:=hm.mv hd (qhm (.inr (.inr rfl)))
   simp only [↓qi,qy,reduceIte,Nat.reduceEqDiff,w2,qg,l1,l0,q1,w8,ix,e10,Int.reduceEq,jn,w24,wm,st]
   exact ⟨_,_,⟨m+1,rfl,rfl,by omega,h2,pm.trans p2⟩,by simp only [↓qi,qy,reduceIte,Nat.reduceEqDiff],by omega⟩
  have n10:¬ (x.toNat:Int)=10:=fun q=>c10 (j9.1 (by show x.toNat=10;omega))
  simp only [↓qi,qy,reduceIte,Nat.reduceEqDiff,w2,qg,l1,l0,q1,w8,ix,n35,w24,n32,n9,n10]
  exact ⟨m,hkm,hm,pm,by rw [<-hm.ps,hd];exact (qz4 (by rintro (q|q|q|q);exact c35 q;exact c32 q;exact c9 q;exact c10 q)).symm⟩
 ·have q1:¬ (m:Int)<(c.text.length:Nat):=by omega
  simp only [↓qi,qy,reduceIte,Nat.reduceEqDiff,w2,qg,l1,l0,q1,reduceCtorEq]
  exact ⟨m,hkm,hm,pm,by rw [<-hm.ps,zx hge];rfl⟩
theorem qwi {s:Tk} {a b:UInt8} {m:Nat} {H:AHeap} (hm:m<=s.length) (hl:s.length<=100000):y9 M qcd [.str s,.int .i64 (m:Nat),.int .u8 a.toNat,.int .u8 b.toNat] H fun v H'=>v=.int .i64 ((m+span a b (s.drop m):Nat):Int)/\H'=H:=by
 refine qvg ?_
 obtain ⟨w0,w4,w15,w7,w13⟩:=qvh M ⟨none,qcd⟩
 simp only [↓qi,qy,reduceIte,Nat.reduceEqDiff,w0,w4]
 refine LOOP3.intro (fun n E Hx=>∃ i:Nat,E=[(9,.int .i64 (i:Nat)),(3,.int .u8 b.toNat),(2,.int .u8 a.toNat),(0,.str s)]/\n=s.length-i/\i<=s.length/\Hx=H/\m+span a b (s.drop m)=i+span a b (s.drop i)) ?_ ?_
 ·exact ⟨_,_,⟨m,rfl,rfl,hm,rfl,rfl⟩,by simp only [↓qi,qy,reduceIte,Nat.reduceEqDiff]⟩
 rintro n E Hx ⟨i,rfl,rfl,hi,rfl,hsp⟩
 rcases j2 i s.length with hlt|hge
 ·have q1:(i:Int)<(s.length:Nat):=by omega
  obtain ⟨x,hx⟩:∃ x,s[i]? = some x:=⟨s[i],by simp [hlt]⟩
  have ix:Op.indexStr [.str s,.int .i64 (i:Nat)]=some (.int .u8 x.toNat):=qaq rfl hx
  have hd:s.drop i=x::s.drop (i+1):=by rw [ym hlt];congr 1;simpa [hlt] using hx
  have wi:=wat1 (k:=i) (by omega)
  by_cases h1:a.toNat<=x.toNat
  ·have c1:(a.toNat:Int)<=x.toNat:=by omega
   by_cases h2:x.toNat<=b.toNat
   ·have c2:(x.toNat:Int)<=b.toNat:=by omega
    simp only [↓qi,qy,reduceIte,Nat.reduceEqDiff,w7,q1,ix,c1,c2,w13,wi]
    refine ⟨_,_,⟨i+1,rfl,rfl,by omega,?_⟩,by simp only [↓qi,qy,reduceIte,Nat.reduceEqDiff],by omega⟩
    rw [hsp,hd,qlw ⟨qw.2 h1,qw.2 h2⟩];omega
   ·have c2:¬ (x.toNat:Int)<=b.toNat:=by omega
    simp only [↓qi,qy,reduceIte,Nat.reduceEqDiff,w7,q1,ix,c1,c2,reduceCtorEq,w15]
    rw [hsp,hd,qa8 fun q=>h2 (u8lt q.2)];rfl
  ·have c1:¬ (a.toNat:Int)<=x.toNat:=by omega
   simp only [↓qi,qy,reduceIte,Nat.reduceEqDiff,w7,q1,ix,c1,reduceCtorEq,w15]
   rw [hsp,hd,qa8 fun q=>h1 (u8lt q.1)];rfl
 ·have q1:¬ (i:Int)<(s.length:Nat):=by omega
  simp only [↓qi,qy,reduceIte,Nat.reduceEqDiff,w7,q1,reduceCtorEq,w15]
  rw [hsp,zx hge];rfl
end
end Go.Am
namespace Go.Am
open Lang Go.Proofs
variable {M:Mac} [MK M]
theorem qub {s:Tk} (h:two s):span 97 122 s=0/\span 48 57 s=0:=by
 obtain ⟨x,r,rfl⟩:∃ x r,s=x::r:=by cases s with|nil=>rcases h with h|h|h|h<;>cases h|cons x r=>exact ⟨x,r,rfl⟩
 have hx:x=61\/x=33\/x=60\/x=62:=by rcases h with h|h|h|h<;>(rw [qbs] at h;injection h with h;subst h;decide)
 rcases hx with rfl|rfl|rfl|rfl<;>exact ⟨qa8 (by decide),qa8 (by decide)⟩
theorem qz7 {s:Tk}:span 97 122 s=0\/span 48 57 s=0:=by
 cases s with
 | nil=>exact .inl rfl
 | cons x r =>
  by_cases h:97<=x/\x<=122
  ·refine .inr (qa8 fun q=>?_)
   have h1:=u8lt h.1;have h2:=u8lt q.2
   revert h1 h2;show 97<=x.toNat->x.toNat<=57->False;omega
  ·exact .inl (qa8 h)
theorem tkn_w {s:Tk} (h:0<span 97 122 s):tkn s=span 97 122 s:=by
 have h2:span 48 57 s=0:=qz7.resolve_left (by omega)
 unfold tkn;rw [qx fun q=>by have:=(qub q).1;omega,h2];omega
theorem tkn_d {s:Tk} (h0:span 97 122 s=0) (h:0<span 48 57 s):tkn s=span 48 57 s:=by
 unfold tkn;rw [qx fun q=>by have:=(qub q).2;omega,h0];omega
theorem tkn_2 {s:Tk} (h:two s):tkn s=2:=by unfold tkn;rw [xv h]
theorem tkn_1 {s:Tk} (h0:span 97 122 s=0) (h1:span 48 57 s=0) (h:¬ two s):tkn s=1:=by unfold tkn;rw [qx h,h0,h1];rfl
theorem qmr {s:Tk} (h:s ≠ []):(tok s).length=tkn s:=by unfold tok;rw [jk];have:=qm7 h;omega
section
variable {c:RFk} {H:AHeap} {nv:AV} {zs:List (Nd × AV)} {σ:PS} {k o:Nat} {a:Bool}
theorem qa6 (h:RF c H nv zs σ k o a):y9 M jg [.ptr c.r 0] H fun v H'=>v=.str (tok σ.left) /\ ∃ k',k<=k'/\RF c H' nv zs σ k' o a/\PK c.r nv zs H nv zs H'/\c.text.drop k' = σ.left:=by
 refine qlp ?_
 obtain ⟨w0,w4,w12,w16,w24,w32,w46,w38⟩:=qlq M ⟨none,jg⟩
 simp only [↓qi,qy,reduceIte,Nat.reduceEqDiff,w0]
 refine C3.q (qz3 (M:=M) h) fun u H1 ⟨m,hkm,hm,pm,hd⟩=>?_
 have l1:=hm.ld1
 have l0:=hm.ld0
 have hmk:=hm.sz
 have hml:=hm.le
 have hll:=congrArg List.length hd
 rw [zy] at hll
 have fin:∀ {Q:Prop},((∃ k',k<=k'/\RF c H1 nv zs σ k' o a/\PK c.r nv zs H nv zs H1/\c.text.drop k' = σ.left)->Q)->Q:=fun q=>q ⟨m,hkm,hm,pm,hd⟩
 have sub:∀ n,m+n<=c.text.length->Op.sliceStr [some 0,some 1] [.str c.text,.int .i64 (m:Nat),.int .i64 ((m+n:Nat):Int)]=some (.str (σ.left.take n)):=fun n hn=>by
  rw [qo7 (by omega) hn,qc2,show m+n-m=n by omega,hd]
 rcases j2 m c.text.length with hlt|hge
 ·have q1:¬ ((c.text.length:Nat):Int)<=(m:Nat):=by omega
  have hne:σ.left ≠ []:=fun q=>by rw [q] at hll;simp at hll;omega
  have hsm:=hm.sm
  simp only [↓qi,qy,reduceIte,Nat.reduceEqDiff,w4,qg,l1,l0,q1,w12]
  refine C3.q (qwi (M:=M) (a:=97) (b:=122) hml hsm) fun v H2 ⟨hv,hh⟩=>?_
  subst hv;subst hh
  simp only [↓qi,qy,reduceIte,Nat.reduceEqDiff,qg,l1,l0]
  refine C3.q (qwi (M:=M) (a:=48) (b:=57) hml hsm) fun v H2 ⟨hv,hh⟩=>?_
  subst hv;subst hh
  rw [hd]
  have s1:=qpp 97 122 σ.left
  have s2:=qpp 48 57 σ.left
  by_cases h1:0<span 97 122 σ.left
  ·have c1:(m:Int)<((m+span 97 122 σ.left:Nat):Int):=by omega
   simp only [↓qi,qy,reduceIte,Nat.reduceEqDiff,w16,qg,l1,l0,c1,sub _ (show m+span 97 122 σ.left<=c.text.length by omega)]
   refine fin fun q=>⟨?_,q⟩
   unfold tok;rw [tkn_w h1]
  have h1:span 97 122 σ.left=0:=by omega
  have c1:¬ (m:Int)<((m+span 97 122 σ.left:Nat):Int):=by omega
  by_cases h2:0<span 48 57 σ.left
  ·have c2:(m:Int)<((m+span 48 57 σ.left:Nat):Int):=by omega
   simp only [↓qi,qy,reduceIte,Nat.reduceEqDiff,w16,qg,l1,l0,c1,w24,c2,sub _ (show m+span 48 57 σ.left<=c.text.length by omega)]
   refine fin fun q=>⟨?_,q⟩
   unfold tok;rw [tkn_d h1 h2]
  have h2:span 48 57 σ.left=0:=by omega
  have c2:¬ (m:Int)<((m+span 48 57 σ.left:Nat):Int):=by omega
  have wm:=wat1 (k:=m) (by omega)
  have wm2:wrapI .i64 ((m:Int)+2)=((m+2:Nat):Int):=by rw [kr (by omega) (by omega)];omega
  have one:¬ two σ.left->tok σ.left = σ.left.take 1:=fun q=>by unfold tok;rw [tkn_1 h1 h2 q]
  by_cases h3:m+1<c.text.length
  ·have c3:((m+1:Nat):Int)<(c.text.length:Nat):=by omega
   have yes:two σ.left->tok σ.left = σ.left.take 2:=fun q=>by unfold tok;rw [tkn_2 q]
   by_cases t1:σ.left.take 2=[61,61]
   ·simp only [↓qi,qy,reduceIte,Nat.reduceEqDiff,w16,qg,l1,l0,c1,w24,c2,w32,wm,wm2,c3,sub _ (show m+2<=c.text.length by omega),w38,kx t1]
    exact fin fun q=>⟨by rw [yes (.inl t1)],q⟩
   by_cases t2:σ.left.take 2=[33,61]
   ·simp only [↓qi,qy,reduceIte,Nat.reduceEqDiff,w16,qg,l1,l0,c1,w24,c2,w32,wm,wm2,c3,sub _ (show m+2<=c.text.length by omega),w38,t1,kx t2]
    exact fin fun q=>⟨by rw [yes (.inr (.inl t2))],q⟩
   by_cases t3:σ.left.take 2=[60,60]
   ·simp only [↓qi,qy,reduceIte,Nat.reduceEqDiff,w16,qg,l1,l0,c1,w24,c2,w32,wm,wm2,c3,sub _ (show m+2<=c.text.length by omega),w38,t1,t2,kx t3]
    exact fin fun q=>⟨by rw [yes (.inr (.inr (.inl t3)))],q⟩
   by_cases t4:σ.left.take 2=[62,62]
   ·simp only [↓qi,qy,reduceIte,Nat.reduceEqDiff,w16,qg,l1,l0,c1,w24,c2,w32,wm,wm2,c3,sub _ (show m+2<=c.text.length by omega),w38,t1,t2,t3,kx t4]
    exact fin fun q=>⟨by rw [yes (.inr (.inr (.inr t4)))],q⟩
   simp only [↓qi,qy,reduceIte,Nat.reduceEqDiff,w16,qg,l1,l0,c1,w24,c2,w32,wm,wm2,c3,sub _ (show m+2<=c.text.length by omega),w38,t1,t2,t3,t4,w46,sub _ (show m+1<=c.text.length by omega)]
   exact fin fun q=>⟨by rw [one (by rintro (q|q|q|q);exact t1 q;exact t2 q;exact t3 q;exact t4 q)],q⟩
  ·have c3:¬ ((m+1:Nat):Int)<(c.text.length:Nat):=by omega
   simp only [↓qi,qy,reduceIte,Nat.reduceEqDiff,w16,qg,l1,l0,c1,w24,c2,w32,wm,c3,w46,sub _ (show m+1<=c.text.length by omega)]
   have nt:¬ two σ.left:=by
    rintro (q|q|q|q)<;>(have:=congrArg List.length q;rw [jk] at this;simp at this;omega)
   exact fin fun q=>⟨by rw [one nt],q⟩
 ·have q1:((c.text.length:Nat):Int)<=(m:Nat):=by omega
  have hn:σ.left=[]:=jz.1 (by omega)
  simp only [↓qi,qy,reduceIte,Nat.reduceEqDiff,w4,qg,l1,l0,q1]
  exact fin fun q=>⟨by rw [hn,qc0],q⟩
theorem RFg.adv {L:Tk} (h:RFg c H nv zs false k o a) (hd:c.text.drop k=L) (hL:tok L ≠ []):∃ H',Op.store 1 [.ptr c.r 1,.int .i64 (k+(tok L).length:Nat)] H=some (.undef,H')/\RF c H' nv zs (.ok (Lang.adv L)) (k+(tok L).length) o a/\PK c.r nv zs H nv zs H'/\1<=(tok L).length:=by
 have hne:=qav hL
 have h1:=qm7 hne
 have h2:=qso L
 have h3:=congrArg List.length hd
 rw [zy] at h3
 have h4:=h.le
 rw [qmr hne]
 obtain ⟨H',q1,q2,q3⟩:=h.at (k':=k+tkn L) (by omega)
 exact ⟨H',q1,⟨q2,by rw [<-qc1,hd];rfl,fun q=>by cases q⟩,q3,h2⟩
theorem RFg.failF {L:Tk} {b:Bool} {o':Nat} {a':Bool} (h:RFg c H nv zs b k o a) (hp:skp false (c.text.drop k)=L) (hd:c.text.drop k=L):∃ H',Op.store 1 [.ptr c.r 5,.bool true] H=some (.undef,H')/\RF c H' nv zs (.bad L) k o' a'/\PK c.r nv zs H nv zs H':=by
 obtain ⟨H',q1,q2,q3⟩:=h.fail (o':=o') (a':=a')
 exact ⟨H',q1,⟨q2,hp,fun _=>hd⟩,q3⟩
end
end Go.Am
namespace Go.Am
open Lang Go.Proofs
variable {M:Mac} [MK M]
theorem ql0 (s:Tk) (x:UInt8):valD (s ++ [x])=valD s*10+(x.toNat-48):=by simp [valD]
theorem qud:∀ (t s:Tk),valD s<=valD (s++t)
 | [],s=>by simp
 | x::t,s=>by
  have h:=qud t (s ++ [x])
  rw [qu] at h
  have h2:=ql0 s x
  exact xw (by omega) h
theorem valD_big:∀ (t s:Tk),1<=valD s->10 ^ t.length<=valD (s++t)
 | [],s,h=>by simpa using h
 | x::t,s,h=>by
  have h2:=ql0 s x
  have key:∀ (t s:Tk),10 ^ t.length*valD s<=valD (s++t):=by
   intro t
   induction t with
   | nil=>intro s;simp
   | cons y t ih =>
    intro s
    have h:=ih (s ++ [y])
    rw [qu] at h
    have h2:=ql0 s y
    refine xw ?_ h
    rw [xk,Nat.pow_succ,Nat.mul_assoc]
    exact Nat.mul_le_mul_left _ (by omega)
  exact xw (Nat.le_mul_of_pos_right _ h) (key (x::t) s)
theorem valD_pos {x:UInt8} {t:Tk} (h:49<=x.toNat):10 ^ t.length<=valD (x::t):=valD_big t [x] (by simp [valD];omega)
section
variable {c:RFk} {H:AHeap} {nv:AV} {zs:List (Nd × AV)} {σ:PS} {k o:Nat} {a:Bool}
theorem qar {s:Tk} (hs:s ≠ []) {o':Nat} (ho:Opn s o o') (ho5:σ.isBad=false->o<=50) (h:RF c H nv zs σ k o a):y9 M xa [.ptr c.r 0,.str s] H fun _ H'=>∃ k',RF c H' nv zs (Lang.take s o σ) k' o' a/\PK c.r nv zs H nv zs H'/\k<=k'/\(∀ L',Lang.take s o σ = .ok L'->k+1<=k'):=by
 refine qj8 ?_
 obtain ⟨w0,w2,w10,w24,w14,w30,w22⟩:=qj9 M ⟨none,xa⟩
 simp only [↓qi,qy,reduceIte,Nat.reduceEqDiff,w0]
 refine C3.q (qa6 (M:=M) h) fun v H1 ⟨hv,m,hkm,hm,pm,hd⟩=>?_
 subst hv
 cases σ with
 | bad L =>
  have l5:Op.load1 [.ptr c.r 5] H1=some (.bool true):=hm.ld5
  obtain ⟨H2,st,h2,p2⟩:=hm.toRFg.failF (o':=o') (a':=a) hm.ps hd
  simp only [↓qi,qy,reduceIte,Nat.reduceEqDiff,w2,qg,l5,st]
  exact ⟨m,h2,pm.trans p2,hkm,fun L' q=>by cases q⟩
 | ok L =>
  have ho5:=ho5 rfl
  have hd:c.text.drop m=L:=hd
  have hg:RFg c H1 nv zs false m o a:=hm.toRFg
  have l5:Op.load1 [.ptr c.r 5] H1=some (.bool false):=hg.ld5
  have l3:=hg.ld3
  obtain ⟨Hf,stf,hf,pf⟩:=hg.failF (o':=o') (a':=a) hm.ps hd
  have no:Lang.take s o (.ok L)=.bad L -> ∃ k',RF c Hf nv zs (Lang.take s o (.ok L)) k' o' a/\PK c.r nv zs H nv zs Hf/\k<=k'/\(∀ L',Lang.take s o (.ok L)=.ok L'->k+1<=k'):=fun e=>⟨m,by rw [e];exact hf,pm.trans pf,hkm,fun L' q=>by rw [e] at q;cases q⟩
  by_cases ht:tok L=s
  ·have hne:tok L ≠ []:=by rw [ht];exact hs
   have hmz:=hm.sz
   have htl:=qm7 (qav hne)
   have hLl:=congrArg List.length hd
   rw [zy] at hLl
   have wk:wrapI .i64 ((m:Int)+(s.length:Nat))=((m+s.length:Nat):Int):=by have e9:=qmr (qav hne);rw [ht] at e9;have e8:=hm.le;have e7:=hm.sm;exact wat (by omega)
   -- it is taken
   have fin:∀ {E:Env} {Hx:AHeap},(¬ ((s=[40]\/s=[123])/\50<=o))->lk E 0=some (.ptr c.r 0)->lk E 1=some (.str s)->RFg c Hx nv zs false m o' a->PK c.r nv zs H1 nv zs Hx ->
    W M ⟨none,xa⟩ (x8 30) true (FIN3 M [] (RT3 fun _ H'=>∃ k',RF c H' nv zs (Lang.take s o (.ok L)) k' o' a/\PK c.r nv zs H nv zs H'/\k<=k'/\(∀ L',Lang.take s o (.ok L)=.ok L'->k+1<=k'))) E [] Hx:=by
    intro E Hx hn r0 r1 hx px
    have l1:=hx.ld1
    obtain ⟨H3,st,h3,p3,h1l⟩:=hx.adv hd hne
    rw [ht] at st h3 h1l
    have ln:Op.lenStr [.str s]=some (.int .i64 (s.length:Nat)):=qev _
    simp only [↓qi,qy,reduceIte,Nat.reduceEqDiff,w30,r0,r1,qg,l1,ln,wk,st]
    have e:Lang.take s o (.ok L)=.ok (Lang.adv L):=by simp only [Lang.take];rw [xv ⟨ht,hn⟩]
    rw [e]
    exact ⟨m+s.length,h3,(pm.trans px).trans p3,by omega,fun _ _=>by omega⟩
   by_cases s1:s=[40]
   ·subst s1
    have ho':o'=o+1:=by
     rcases ho with ⟨_,q⟩|⟨q,_⟩|⟨q,_⟩
     ·exact q
     ·rcases q with q|q<;>exact absurd q (by decide)
     ·exact (q.1 rfl).elim
    subst ho'
    by_cases h50:(o:Int)=50
    ·simp only [↓qi,qy,reduceIte,Nat.reduceEqDiff,w2,qg,l5,PS.left,ht,w10,jn,w14,l3,h50,stf]
     exact no (by simp only [Lang.take];rw [qx (fun q=>q.2 ⟨by simp,by omega⟩)])
    ·have wo:=wat1 (k:=o) (by omega)
     obtain ⟨H2,st,h2,p2⟩:=hg.op (o+1)
     simp only [↓qi,qy,reduceIte,Nat.reduceEqDiff,w2,qg,l5,PS.left,ht,w10,jn,w14,l3,h50,w22,wo,st,w24]
     exact fin (fun q=>by omega) rfl rfl h2 p2
   by_cases s2:s=[123]
   ·subst s2
    have ho':o'=o+1:=by
     rcases ho with ⟨_,q⟩|⟨q,_⟩|⟨q,_⟩
     ·exact q
     ·rcases q with q|q<;>exact absurd q (by decide)
     ·exact (q.2.1 rfl).elim
    subst ho'
    by_cases h50:(o:Int)=50
    ·simp only [↓qi,qy,reduceIte,Nat.reduceEqDiff,w2,qg,l5,PS.left,ht,w10,s1,jn,w14,l3,h50,stf]
     exact no (by simp only [Lang.take];rw [qx (fun q=>q.2 ⟨by simp,by omega⟩)])
    ·have wo:=wat1 (k:=o) (by omega)
     obtain ⟨H2,st,h2,p2⟩:=hg.op (o+1)
     simp only [↓qi,qy,reduceIte,Nat.reduceEqDiff,w2,qg,l5,PS.left,ht,w10,s1,jn,w14,l3,h50,w22,wo,st,w24]
     exact fin (fun q=>by omega) rfl rfl h2 p2
   have nb:¬ ((s=[40]\/s=[123])/\50<=o):=fun q=>q.1.elim s1 s2
   by_cases s3:s=[41]
   ·have ho':o=o'+1:=by
     rcases ho with ⟨q,_⟩|⟨_,q⟩|⟨q,_⟩
     ·exact (q.elim s1 s2).elim
     ·exact q
     ·exact (q.2.2.1 s3).elim
    have wo:wrapI .i64 ((o:Int)-1)=((o':Nat):Int):=by rw [kr (by omega) (by omega)];omega
    obtain ⟨H2,st,h2,p2⟩:=hg.op o'
    simp only [↓qi,qy,reduceIte,Nat.reduceEqDiff,w2,qg,l5,PS.left,ht,w10,s1,s2,w24,kx s3,l3,wo,st]
    exact fin nb rfl rfl h2 p2
   by_cases s4:s=[125]
   ·have ho':o=o'+1:=by
     rcases ho with ⟨q,_⟩|⟨_,q⟩|⟨q,_⟩
     ·exact (q.elim s1 s2).elim
     ·exact q
     ·exact (q.2.2.2 s4).elim
    have wo:wrapI .i64 ((o:Int)-1)=((o':Nat):Int):=by rw [kr (by omega) (by omega)];omega
    obtain ⟨H2,st,h2,p2⟩:=hg.op o'
    simp only [↓qi,qy,reduceIte,Nat.reduceEqDiff,w2,qg,l5,PS.left,ht,w10,s1,s2,w24,s3,kx s4,l3,wo,st]
    exact fin nb rfl rfl h2 p2
   have ho':o'=o:=by
    rcases ho with ⟨q,_⟩|⟨q,_⟩|⟨_,q⟩
    ·exact (q.elim s1 s2).elim
    ·exact (q.elim s3 s4).elim
    ·exact q
   subst ho'
   simp only [↓qi,qy,reduceIte,Nat.reduceEqDiff,w2,qg,l5,PS.left,ht,w10,s1,s2,w24,s3,s4]
   exact fin nb rfl rfl hg PK.refl
  ·simp only [↓qi,qy,reduceIte,Nat.reduceEqDiff,w2,qg,l5,PS.left,ht,stf]
   exact no (by simp only [Lang.take];rw [qx (fun q=>ht q.1)])
theorem qag {s:Tk} (hs:s ≠ []/\s ≠ [40]/\s ≠ [123]/\s ≠ [41]/\s ≠ [125]) (ho5:σ.isBad=false->o<=50) (h:RF c H nv zs σ k o a) :
 y9 M xa [.ptr c.r 0,.str s] H fun _ H'=>∃ k',RF c H' nv zs (Lang.take s o σ) k' o a/\PK c.r nv zs H nv zs H'/\k<=k'/\(∀ L',Lang.take s o σ = .ok L'->k+1<=k') :=
 qar (M:=M) hs.1 (.inr (.inr ⟨hs.2,rfl⟩)) ho5 h
theorem qme (h:RF c H nv zs σ k o a) (hz:zs.length<=200000000) {kind n:Int} {kv:AV} {kids:List Int} (hk:SlT encI 1 H kv kids) (hb:kids.length=0\/Bs H c.r nv zs (slB kv)) {H0:AHeap} {nv0:AV} {zs0:List (Nd × AV)} (p0:PK c.r nv0 zs0 H0 nv zs H) (hb0:kids.length=0\/H0.next<=slB kv) :
 y9 M xr [.ptr c.r 0,.int .i64 kind,.int .u64 n,kv] H fun v H'=>∃ nv',v=.int .i64 ((zs.length:Nat):Int)/\RF c H' nv' (zs ++ [(⟨kind,n,kids⟩,kv)]) σ k o a/\PK c.r nv0 zs0 H0 nv' (zs ++ [(⟨kind,n,kids⟩,kv)]) H':=by
 refine qj2 ?_
 obtain ⟨o1,a1,ns,q⟩:=h.ns
 have l2:=h.ld2
 have ok1:=hk.one
 simp only [↓qi,qy,reduceIte,Nat.reduceEqDiff,qj3,qg,l2,bdK ok1]
 refine ns.nw.app3 (bytes:=40) (a:=(⟨kind,n,kids⟩,kv)) rfl rfl rfl (by simp [encN,qn6,ql4,qo9,ok1]) (by decide) (by omega) (by omega) fun nv' H2 hv' hf hfr=>?_
 obtain ⟨H3,st,n3,f3,e3⟩:=ns.putn (z:=(⟨kind,n,kids⟩,kv)) hv' hf hfr hk hb
 have ln:Op.lenSl [nv']=some (.int .i64 ((zs.length+1:Nat):Int)):=by rw [hv'.len];simp
 have l3:Op.load1 [.ptr c.r 2] H3=some nv':=n3.ld 2
 have wz:wrapI .i64 (((zs.length+1:Nat):Int)-1)=((zs.length:Nat):Int):=by rw [kr (by omega) (by omega)];omega
 simp only [↓qi,qy,reduceIte,Nat.reduceEqDiff,qg,st,l3,ln,wz]
 have pk:PK c.r nv0 zs0 H0 nv' (zs ++ [(⟨kind,n,kids⟩,kv)]) H3:=by
  obtain ⟨ys,y1,y2⟩:=p0.nx
  refine ⟨p0.fr.trans f3 fun x q=>q.elim (fun q=>.inl (.inl q)) fun q=>(p0.on x q).imp (fun q=>.inr q) id,fun b q=>(hfr b q).elim (p0.on b) fun q=>.inr (xw p0.fr.next q),ys ++ [(⟨kind,n,kids⟩,kv)],by rw [y1,qu],fun z hz=>?_⟩
  rcases xm.1 hz with hz|hz
  ·exact y2 z hz
  ·rw [xp] at hz;subst hz
   exact hb0
 exact ⟨nv',⟨⟨⟨o1,a1,n3,q⟩,h.le,h.sm⟩,h.ps,h.bx⟩,pk⟩
theorem qc6 (h:RF c H nv zs σ k o a) (hz:zs.length<=200000000) {kind n:Int} {r:AObj} {kv:AV} {kids:List Int} (hk:SlT encI 1 (H.alloc r) kv kids) (hs:slB kv=H.next) :
 y9 M xr [.ptr c.r 0,.int .i64 kind,.int .u64 n,kv] (H.alloc r) fun v H'=>∃ nv',v=.int .i64 ((zs.length:Nat):Int)/\RF c H' nv' (zs ++ [(⟨kind,n,kids⟩,kv)]) σ k o a/\PK c.r nv zs H nv' (zs ++ [(⟨kind,n,kids⟩,kv)]) H':=by
 have f:Fr Em H (H.alloc r):=(Fr.refl H).alloc _
 obtain ⟨o1,a1,ns,q⟩:=h.ns
 exact qme (M:=M) (h.em f) hz hk (.inr (ns.bs f (by rw [hs];exact qf _) (by rw [hs,jh];omega))) (PK.em f) (.inr (by rw [hs];exact qf _))
theorem qo6 (h:RF c H nv zs σ k o a) (hz:zs.length<=200000000) {kind n:Int} :
 y9 M xr [.ptr c.r 0,.int .i64 kind,.int .u64 n,.nils] H fun v H'=>∃ nv',v=.int .i64 ((zs.length:Nat):Int)/\RF c H' nv' (zs ++ [(⟨kind,n,[]⟩,.nils)]) σ k o a/\PK c.r nv zs H nv' (zs ++ [(⟨kind,n,[]⟩,.nils)]) H' :=
 qme (M:=M) h hz (kids:=[]) ⟨rfl,rfl⟩ (.inl rfl) PK.refl (.inl rfl)
theorem qew {t:Tk} {H:AHeap}:y9 M qad [.str t] H fun v H'=>H'=H/\v=match varOf t with
 | some x=>.int .i64 (x:Int)
 | none=>.int .i64 (-1):=by
 refine qnf ?_
 match t with
 | [] =>
  have l0:Op.lenStr [.str []]=some (.int .i64 0):=rfl
  simp only [↓qi,qy,reduceIte,Nat.reduceEqDiff,qb3,l0,Int.reduceEq]
  rfl
 | x::y::t =>
  have l0:Op.lenStr [.str (x::y::t)]=some (.int .i64 ((t.length+2:Nat):Int)):=by rw [qev];simp;omega
  have e0:¬ ((t.length+2:Nat):Int)=1:=by omega
  simp only [↓qi,qy,reduceIte,Nat.reduceEqDiff,qb3,l0,e0]
  rfl
 | [x] =>
  have l0:Op.lenStr [.str [x]]=some (.int .i64 1):=rfl
  have i0:Op.indexStr [.str [x],.int .i64 0]=some (.int .u8 x.toNat):=qaq (i:=0) rfl rfl
  by_cases h1:(97:Int)<=x.toNat
  ·by_cases h2:(x.toNat:Int)<=104
   ·have:97<=x/\x<=104:=⟨qw.2 (by simp;omega),qw.2 (by simp;omega)⟩
    have w1:wrapI .u8 ((x.toNat:Int)-97)=((x.toNat-97:Nat):Int):=by rw [qms (by omega) (by omega)];omega
    have w2:wrapI .i64 ((x.toNat-97:Nat):Int)=((x.toNat-97:Nat):Int):=kr (by omega) (by omega)
    simp only [↓qi,qy,reduceIte,Nat.reduceEqDiff,qb3,l0,i0,h1,h2,w1,w2]
    simp only [varOf,xv this]
   ·simp only [↓qi,qy,reduceIte,Nat.reduceEqDiff,qb3,l0,i0,h1,h2]
    have:¬ (97<=x/\x<=104):=fun q=>by have:=qw.1 q.2;simp at this;omega
    simp only [varOf,qx this]
  ·simp only [↓qi,qy,reduceIte,Nat.reduceEqDiff,qb3,l0,i0,h1]
   have:¬ (97<=x/\x<=104):=fun q=>by have:=qw.1 q.1;simp at this;omega
   simp only [varOf,qx this]
theorem qks {t:Tk} {r:Nat} (hr:r=1\/r=2) {H:AHeap}:y9 M qbb [.str t,.int .i64 (r:Nat)] H fun v H'=>H'=H/\v=.int .i64 ((if sigR t=r then sigK t else 0:Nat):Int):=by
 refine qp5 ?_
 have c1:(((1:Nat):Int)=1)=True:=kx rfl
 have c2:(((2:Nat):Int)=1)=False:=eq_false (by decide)
 unfold sigR sigK
 rcases hr with rfl|rfl
 ·by_cases h1:t=[43]
  ·subst h1;simp only [↓qi,qy,reduceIte,Nat.reduceEqDiff,vz,jn,c1];rfl
  by_cases h2:t=[45]
  ·subst h2;simp only [↓qi,qy,reduceIte,Nat.reduceEqDiff,vz,jn,h1,c1];rfl
  by_cases h3:t=[94]
  ·subst h3;simp only [↓qi,qy,reduceIte,Nat.reduceEqDiff,vz,jn,h1,h2,c1];rfl
  simp only [↓qi,qy,reduceIte,Nat.reduceEqDiff,vz,h1,h2,h3,c1]
  by_cases h4:t=[42]
  ·subst h4;rfl
  by_cases h5:t=[38]
  ·subst h5;rfl
  by_cases h6:t=[60,60]
  ·subst h6;rfl
  by_cases h7:t=[62,62]
  ·subst h7;rfl
  simp only [qx h4,qx h5,qx h6,qx h7];rfl
 ·by_cases h4:t=[42]
  ·subst h4;simp only [↓qi,qy,reduceIte,Nat.reduceEqDiff,vz,jn,c2];rfl
  by_cases h5:t=[38]
  ·subst h5;simp only [↓qi,qy,reduceIte,Nat.reduceEqDiff,vz,jn,h4,c2];rfl
  by_cases h6:t=[60,60]
  ·subst h6;simp only [↓qi,qy,reduceIte,Nat.reduceEqDiff,vz,jn,h4,h5,c2];rfl
  by_cases h7:t=[62,62]
  ·subst h7;simp only [↓qi,qy,reduceIte,Nat.reduceEqDiff,vz,jn,h4,h5,h6,c2];rfl
  simp only [↓qi,qy,reduceIte,Nat.reduceEqDiff,vz,h4,h5,h6,h7,c2]
  by_cases h1:t=[43]
  ·subst h1;rfl
  by_cases h2:t=[45]
  ·subst h2;rfl
  by_cases h3:t=[94]
  ·subst h3;rfl
  simp only [qx h1,qx h2,qx h3];rfl
end
end Go.Am
namespace Go.Am
open Lang Go.Proofs
variable {M:Mac} [MK M]
def numT:Option Nat->AV
 | some n=>.tuple [.int .u64 (n:Int),.bool true]
 | none=>.tuple [.int .u64 0,.bool false]
theorem qwc {t:Tk} (h:18446744073709551616<=valD t):numOf t=none:=by unfold numOf;rw [qx fun q=>by have:=q.2.2.2;omega]
theorem valD_at {t:Tk} {i:Nat} {y:UInt8} (h:t[i]? = some y):valD (t.take (i+1))=valD (t.take i)*10+(y.toNat-48):=by rw [List.take_add_one,h];exact ql0 _ _
theorem q0k (t:Tk) (i:Nat):valD (t.take i)<=valD t:=by have:=qud (t.drop i) (t.take i);rwa [List.take_append_drop] at this
theorem qm3 {t:Tk} (hl:t.length<=100000) (hdg:∀ y s,t=y::s->48<=y->y<=57 -> ∀ x ∈ t,48<=x/\x<=57) {H:AHeap}:y9 M qao [.str t] H fun v H'=>v=numT (numOf t)/\H'=H:=by
 refine qp7 ?_
 obtain ⟨w0,w2,w10,w12,w37,w17,w23,w36,w27,w35⟩:=qp8 M ⟨none,qao⟩
 by_cases hne:t=[]
 ·subst hne
  simp only [↓qi,qy,reduceIte,Nat.reduceEqDiff,w0,w2,jn]
  rfl
 obtain ⟨y,s,hys⟩:∃ y s,t=y::s:=by cases t with|nil=>exact (hne rfl).elim|cons y s=>exact ⟨y,s,rfl⟩
 have i0:Op.indexStr [.str t,.int .i64 0]=some (.int .u8 y.toNat):=qaq (i:=0) rfl (by rw [hys];rfl)
 have ln:Op.lenStr [.str t]=some (.int .i64 (t.length:Nat)):=qev _
 by_cases c1:(y.toNat:Int)<48
 ·have hn:numOf t=none:=by
   unfold numOf;rw [qx fun q=>?_]
   have:=u8lt (q.2.1 y (by rw [hys];simp)).1
   have:48<=y.toNat:=this
   omega
  simp only [↓qi,qy,reduceIte,Nat.reduceEqDiff,w0,w2,hne,i0,c1,hn]
  rfl
 by_cases c2:(57:Int)<(y.toNat:Int)
 ·have hn:numOf t=none:=by
   unfold numOf;rw [qx fun q=>?_]
   have:=u8lt (q.2.1 y (by rw [hys];simp)).2
   have:y.toNat<=57:=this
   omega
  simp only [↓qi,qy,reduceIte,Nat.reduceEqDiff,w0,w2,hne,i0,c1,c2,hn]
  rfl
 have dg:=hdg y s hys (qw.2 (by show 48<=y.toNat;omega)) (qw.2 (by show y.toNat<=57;omega))
 have tail:¬ (1<t.length/\t.head? = some 48) -> ∀ {E:Env},lk E 0=some (.str t) ->
  W M ⟨none,qao⟩ (zj 10) true (FIN3 M [.tmp 2,.tmp 3] (RT3 fun v H'=>v=numT (numOf t)/\H'=H)) E [] H:=by
  intro hz E e0
  simp only [↓qi,qy,reduceIte,Nat.reduceEqDiff,w10,w12]
  refine LOOP3.intro (fun n E Hx=>∃ i:Nat,E=[(5,.int .i64 (i:Nat)),(4,.int .u64 (valD (t.take i):Nat)),(0,.str t)]/\n=t.length-i/\i<=t.length/\Hx=H/\valD (t.take i)<18446744073709551616) ?_ ?_
  ·exact ⟨_,_,⟨0,rfl,rfl,jo _,rfl,by rw [qa9];decide⟩,by simp only [↓qi,qy,reduceIte,Nat.reduceEqDiff,e0];rfl⟩
  rintro n E Hx ⟨i,rfl,rfl,hi,rfl,hv⟩
  rcases j2 i t.length with hlt|hge
  ·have q1:(i:Int)<(t.length:Nat):=by omega
   obtain ⟨x,hx⟩:∃ x,t[i]? = some x:=⟨t[i],by simp [hlt]⟩
   have ix:Op.indexStr [.str t,.int .i64 (i:Nat)]=some (.int .u8 x.toNat):=qaq rfl hx
   have hxd:=dg x (jv hx)
   have x1:48<=x.toNat:=u8lt hxd.1
   have x2:x.toNat<=57:=u8lt hxd.2
   have w1:wrapI .u8 ((x.toNat:Int)-48)=((x.toNat-48:Nat):Int):=by rw [qms (by omega) (by omega)];omega
   have w2':wrapI .u64 ((x.toNat-48:Nat):Int)=((x.toNat-48:Nat):Int):=qg2 (by omega) (by omega)
   have hva:=valD_at hx
   have hup:=q0k t (i+1)
   have wi:=wat1 (k:=i) (by omega)
   have big:18446744073709551616<=valD (t.take (i+1))->numT none=numT (numOf t):=fun q=>by rw [qwc (xw q hup)]
   have go:valD (t.take (i+1))<18446744073709551616->wrapI .u64 (wrapI .u64 ((valD (t.take i):Nat)*10)+((x.toNat-48:Nat):Int))=((valD (t.take (i+1)):Nat):Int):=fun q=>by
    rw [qg2 (n:=(valD (t.take i):Nat)*10) (by omega) (by omega),qg2 (by omega) (by omega)];omega
   by_cases g1:(1844674407370955161:Int)<(valD (t.take i):Nat)
   ·simp only [↓qi,qy,reduceIte,Nat.reduceEqDiff,w17,ln,q1,w23,ix,w1,w2',w27,g1]
    exact big (by omega)
   by_cases g2:((valD (t.take i):Nat):Int)=1844674407370955161
   ·by_cases g3:(5:Int)<((x.toNat-48:Nat):Int)
    ·simp only [↓qi,qy,reduceIte,Nat.reduceEqDiff,w17,ln,q1,w23,ix,w1,w2',w27,g1,kx g2,g3]
     exact big (by omega)
    ·simp only [↓qi,qy,reduceIte,Nat.reduceEqDiff,w17,ln,q1,w23,ix,w1,w2',w27,g1,kx g2,g3,w35,go (by omega),w36,wi]
     exact ⟨_,_,⟨i+1,rfl,rfl,by omega,by omega⟩,by simp only [↓qi,qy,reduceIte,Nat.reduceEqDiff],by omega⟩
   ·simp only [↓qi,qy,reduceIte,Nat.reduceEqDiff,w17,ln,q1,w23,ix,w1,w2',w27,g1,g2,w35,go (by omega),w36,wi]
    exact ⟨_,_,⟨i+1,rfl,rfl,by omega,by omega⟩,by simp only [↓qi,qy,reduceIte,Nat.reduceEqDiff],by omega⟩
  ·have q1:¬ (i:Int)<(t.length:Nat):=by omega
   have ht:t.take i=t:=ji hge
   rw [ht] at hv ⊢
   have hn:numOf t=some (valD t):=by unfold numOf;rw [xv ⟨hne,dg,hz,hv⟩]
   simp only [↓qi,qy,reduceIte,Nat.reduceEqDiff,w17,ln,q1,reduceCtorEq,w37,hn]
   rfl
 by_cases c3:(1:Int)<((t.length:Nat):Int)
 ·by_cases c4:(y.toNat:Int)=48
  ·have hn:numOf t=none:=by
    unfold numOf;rw [qx fun q=>?_]
    exact q.2.2.1 ⟨by omega,by rw [hys];show some y=some 48;congr 1;exact j9.1 (by show y.toNat=48;omega)⟩
   simp only [↓qi,qy,reduceIte,Nat.reduceEqDiff,w0,w2,hne,i0,c1,c2,ln,c3,kx c4,hn]
   rfl
  ·by_cases c5:(20:Int)<((t.length:Nat):Int)
   ·have hn:numOf t=none:=by
     refine qwc ?_
     have h1:=valD_pos (x:=y) (t:=s) (by omega)
     rw [<-hys] at h1
     have hl:20<=s.length:=by have:=congrArg List.length hys;rw [xk] at this;omega
     have h2:10 ^ 20<=10 ^ s.length:=Nat.pow_le_pow_right (by decide) hl
     exact xw (by decide) (xw h2 h1)
    simp only [↓qi,qy,reduceIte,Nat.reduceEqDiff,w0,w2,hne,i0,c1,c2,ln,c3,c4,c5,hn]
    rfl
   ·simp only [↓qi,qy,reduceIte,Nat.reduceEqDiff,w0,w2,hne,i0,c1,c2,ln,c3,c4,c5]
    refine tail (fun q=>c4 ?_) rfl
    have:=q.2
    rw [hys] at this
    injection this with this
    subst this;rfl
 ·have c5:¬ (20:Int)<((t.length:Nat):Int):=by omega
  simp only [↓qi,qy,reduceIte,Nat.reduceEqDiff,w0,w2,hne,i0,c1,c2,ln,c3,c5]
  exact tail (fun q=>c3 (by have:=q.1;omega)) rfl
def RQ (c:RFk) (H:AHeap) (nv:AV) (zs:List (Nd × AV)) (d o:Nat) (a:Bool) (τ:PS) (V:List (Nd × AV)->AV->Prop) (v:AV) (H':AHeap):Prop :=
 ∃ nv' zs' k',RF c H' nv' zs' τ k' o a/\PK c.r nv zs H nv' zs' H'/\zs'.length+d<=k'/\V zs' v
def CR (M:Mac) (f:Nat) (args:List AV) (c:RFk) (x:It) (σ:PS) (o:Nat) (a:Bool) (τ:PS):Prop :=
 ∀ (H:AHeap) (nv:AV) (zs:List (Nd × AV)) (k d:Nat),RF c H nv zs σ k o a->zs.length+d<=k->y9 M f (.ptr c.r 0::args) H (RQ c H nv zs d o a τ (VOK x zs · τ))
theorem CR.any {f:Nat} {args:List AV} {c:RFk} {u w:It} {o:Nat} {a:Bool} {L:Tk} (h:CR M f args c u (.bad L) o a (.bad L)):CR M f args c w (.bad L) o a (.bad L):=h
theorem q0n {t:Tk} {v:Nat} (h:varOf t=some v):t.length=1/\v<=7:=by
 match t with
 | []=>cases h
 | [x] =>
  simp only [varOf] at h
  split at h
  ·rename_i q;injection h with h;have:=u8lt q.2;have:x.toNat<=104:=this;exact ⟨rfl,by omega⟩
  ·cases h
 | x::y::t=>cases h
theorem qgh {s L:Tk} {o:Nat} (h:tok L=s) (hs:s ≠ [40]/\s ≠ [123]):Lang.take s o (.ok L)=.ok (adv L):=by simp only [Lang.take];rw [xv ⟨h,fun q=>q.1.elim hs.1 hs.2⟩]
section
variable {c:RFk} {σ τ:PS} {o:Nat} {a:Bool} {L:Tk}
theorem qv4 {x:It}:CR M xf [] c x (.bad L) o a (.bad L):=by
 intro H nv zs k d h hd
 refine qck ?_
 obtain ⟨w0,w4,-,-,-,-,-,-,-,-,-,-,-⟩:=yb M ⟨none,xf⟩
 simp only [↓qi,qy,reduceIte,Nat.reduceEqDiff,w0]
 refine C3.q (qa6 (M:=M) h) fun v H1 ⟨hv,m,hkm,hm,pm,hdr⟩=>?_
 subst hv
 have l5:Op.load1 [.ptr c.r 5] H1=some (.bool true):=hm.ld5
 simp only [↓qi,qy,reduceIte,Nat.reduceEqDiff,w4,qg,l5]
 exact ⟨nv,zs,m,hm,pm,by omega,_,rfl⟩
theorem facR_var {v:Nat} (hv:varOf (tok L)=some v):CR M xf [] c (.e (.var v)) (.ok L) o a (.ok (adv L)):=by
 intro H nv zs k d h hd
 refine qck ?_
 obtain ⟨w0,w4,w12,w14,-,-,-,-,-,-,-,-,-⟩:=yb M ⟨none,xf⟩
 simp only [↓qi,qy,reduceIte,Nat.reduceEqDiff,w0]
 refine C3.q (qa6 (M:=M) h) fun w H1 ⟨hw,m,hkm,hm,pm,hdr⟩=>?_
 subst hw
 have hg:RFg c H1 nv zs false m o a:=hm.toRFg
 have l5:=hg.ld5
 have l1:=hg.ld1
 simp only [↓qi,qy,reduceIte,Nat.reduceEqDiff,w4,qg,l5,w12,PS.left]
 refine C3.q (qew (M:=M)) fun w H2 ⟨hh,hw⟩=>?_
 subst hh
 rw [hv] at hw
 simp only at hw
 subst hw
 obtain ⟨v1,v2⟩:=q0n hv
 have hmz:=hm.sz
 have c1:(0:Int)<=((v:Nat):Int):=by omega
 have wk:=wat1 (k:=m) (by omega)
 have wv:wrapI .u64 ((v:Nat):Int)=((v:Nat):Int):=qg2 (by omega) (by omega)
 obtain ⟨H3,st,h3,p3,_⟩:=hg.adv (L:=L) hdr (ql1 hv)
 rw [v1] at st h3
 simp only [↓qi,qy,reduceIte,Nat.reduceEqDiff,w14,c1,qg,l1,wk,st,wv]
 refine C3.q (qo6 (M:=M) h3 (by omega)) fun w H4 ⟨nv',hw,h4,p4⟩=>?_
 subst hw
 simp only [↓qi,qy,reduceIte,Nat.reduceEqDiff]
 refine ⟨nv',_,m+1,h4,(pm.trans p3).trans p4,by rw [qe,qt];omega,?_,?_⟩
 ·simp [It.sz,Ex.sz]
 ·simp [It.enc,Ex.enc]
theorem qkq {H:AHeap} {nv:AV} {zs:List (Nd × AV)} {k:Nat} (h:RF c H nv zs (.ok L) k o a) {Q:AV->AHeap->Prop} (hv:varOf (tok L)=none)
 (go:∀ (H1:AHeap) (m:Nat),k<=m->RF c H1 nv zs (.ok L) m o a->PK c.r nv zs H nv zs H1->c.text.drop m=L->W M ⟨none,xf⟩ (qp 24) true (FIN3 M [.tmp 2] (RT3 Q)) [(4,.int .i64 (-1)),(3,.str (tok L)),(2,.int .i64 0),(0,.ptr c.r 0)] [] H1):y9 M xf [.ptr c.r 0] H Q:=by
 refine qck ?_
 obtain ⟨w0,w4,w12,w14,-,-,-,-,-,-,-,-,-⟩:=yb M ⟨none,xf⟩
 simp only [↓qi,qy,reduceIte,Nat.reduceEqDiff,w0]
 refine C3.q (qa6 (M:=M) h) fun w H1 ⟨hw,m,hkm,hm,pm,hdr⟩=>?_
 subst hw
 have l5:Op.load1 [.ptr c.r 5] H1=some (.bool false):=hm.ld5
 simp only [↓qi,qy,reduceIte,Nat.reduceEqDiff,w4,qg,l5,w12,PS.left]
 refine C3.q (qew (M:=M)) fun w H2 ⟨hh,hw⟩=>?_
 subst hh
 rw [hv] at hw
 simp only at hw
 subst hw
 have c1:¬ (0:Int) <= -1:=by decide
 simp only [↓qi,qy,reduceIte,Nat.reduceEqDiff,w14,c1]
 exact go H2 m hkm hm pm hdr
theorem qyy (ho:o<=50) (hl:tok L=wLoad) {x:Ex} (hx:CR M xi [] c (.e x) (Lang.take [40] o (.ok (adv L))) (o+1) a σ) (hσ:σ.isBad=false->o+1<=50):CR M xf [] c (.e (.load x)) (.ok L) o a (Lang.take [41] (o+1) σ):=by
 intro H nv zs k d h hd
 refine qkq h (by rw [hl];rfl) fun H1 m hkm hm pm hdr=>?_
 obtain ⟨-,-,-,-,w24,-,w28,-,w34,-,w38,w40,-⟩:=yb M ⟨none,xf⟩
 simp only [↓qi,qy,reduceIte,Nat.reduceEqDiff,w24,hl,jn,w28]
 refine C3.q (qag (M:=M) (s:=wLoad) (by decide) (fun _=>ho) hm) fun u H2 ⟨k2,h2,p2,hk2,hk2'⟩=>?_
 rw [qgh hl (by decide)] at h2 hk2'
 have hk2':=hk2' _ rfl
 simp only [↓qi,qy,reduceIte,Nat.reduceEqDiff,w34]
 refine C3.q (qar (M:=M) (s:=[40]) (o':=o+1) (by decide) (.inl ⟨.inl rfl,rfl⟩) (fun _=>ho) h2) fun u H3 ⟨k3,h3,p3,hk3,_⟩=>?_
 simp only [↓qi,qy,reduceIte,Nat.reduceEqDiff]
 refine C3.q (hx H3 nv zs k3 (d+1) h3 (by omega)) fun v H4 ⟨nv4,zs4,k4,h4,p4,hd4,hv4⟩=>?_
 obtain ⟨i,hi⟩:=hv4.int
 simp only [↓qi,qy,reduceIte,Nat.reduceEqDiff,w38]
 refine C3.q (qar (M:=M) (s:=[41]) (o':=o) (by decide) (.inr (.inl ⟨.inl rfl,rfl⟩)) hσ h4) fun u H5 ⟨k5,h5,p5,hk5,_⟩=>?_
 subst hi
 have hk5':=h5.sz
 simp only [↓qi,qy,reduceIte,Nat.reduceEqDiff,w40,hl,jn,bsk1]
 refine C3.q (qc6 (M:=M) h5 (by omega) (kids:=[i]) (kid1 i) rfl) fun w H6 ⟨nv6,hw,h6,p6⟩=>?_
 subst hw
 simp only [↓qi,qy,reduceIte,Nat.reduceEqDiff]
 refine ⟨nv6,_,k5,h6,((((pm.trans p2).trans p3).trans p4).trans p5).trans p6,by rw [qe,qt];omega,?_⟩
 cases hq:Lang.take [41] (o+1) σ with
 | bad L'=>exact ⟨_,rfl⟩
 | ok L' =>
  obtain ⟨L1,rfl,_⟩:=qe7 hq
  obtain ⟨hv,hz⟩:=hv4
  injection hv with _ hv
  have hzl:=congrArg List.length hz
  rw [qn,qe,qn,It.len] at hzl
  have hp:=x.pos
  have hsz:(It.e x).sz=x.sz:=rfl
  refine ⟨?_,?_⟩
  ·congr 2<;>simp only [It.sz,Ex.sz]<;>omega
  ·rw [jt,hz];simp [It.enc,Ex.enc,hv,It.sz]
theorem facR_par (ho:o<=50) (hl:tok L=[40]) {x:Ex} (hx:CR M xi [] c (.e x) (Lang.take [40] o (.ok L)) (o+1) a σ) (hσ:σ.isBad=false->o+1<=50):CR M xf [] c (.e x) (.ok L) o a (Lang.take [41] (o+1) σ):=by
 intro H nv zs k d h hd
 refine qkq h (by rw [hl];rfl) fun H1 m hkm hm pm hdr=>?_
 obtain ⟨-,-,-,-,w24,-,w28,-,w34,-,w38,w40,w48⟩:=yb M ⟨none,xf⟩
 have n1:¬ tok L=[108,111,97,100]:=by rw [hl];decide
 simp only [↓qi,qy,reduceIte,Nat.reduceEqDiff,w24,n1,kx hl,w28,w34]
 refine C3.q (qar (M:=M) (s:=[40]) (o':=o+1) (by decide) (.inl ⟨.inl rfl,rfl⟩) (fun _=>ho) hm) fun u H3 ⟨k3,h3,p3,hk3,_⟩=>?_
 simp only [↓qi,qy,reduceIte,Nat.reduceEqDiff]
 refine C3.q (hx H3 nv zs k3 d h3 (by omega)) fun v H4 ⟨nv4,zs4,k4,h4,p4,hd4,hv4⟩=>?_
 simp only [↓qi,qy,reduceIte,Nat.reduceEqDiff,w38]
 refine C3.q (qar (M:=M) (s:=[41]) (o':=o) (by decide) (.inr (.inl ⟨.inl rfl,rfl⟩)) hσ h4) fun u H5 ⟨k5,h5,p5,hk5,_⟩=>?_
 simp only [↓qi,qy,reduceIte,Nat.reduceEqDiff,w40,n1,w48]
 exact ⟨nv4,zs4,k5,h5,((pm.trans p3).trans p4).trans p5,by omega,hv4.take⟩
theorem facR_num {n:Nat} (hn:numOf (tok L)=some n):CR M xf [] c (.e (.num n)) (.ok L) o a (.ok (adv L)):=by
 intro H nv zs k d h hd
 have hne:=qze hn
 obtain ⟨y,s,hys⟩:∃ y s,tok L=y::s:=by cases hq:tok L with|nil=>exact (hne hq).elim|cons y s=>exact ⟨y,s,rfl⟩
 have hy:48<=y/\y<=57:=by
  unfold numOf at hn
  split at hn
  ·rename_i q;exact q.2.1 y (by rw [hys];simp)
  ·cases hn
 have hy1:48<=y.toNat:=u8lt hy.1
 have hy2:y.toNat<=57:=u8lt hy.2
 have vn:varOf (tok L)=none:=by
  rw [hys]
  cases s with
  | nil =>
   have:¬ (97<=y/\y<=104):=fun q=>by have:=qw.1 q.1;simp at this;omega
   simp only [varOf,qx this]
  | cons _ _=>rfl
 refine qkq h vn fun H1 m hkm hm pm hdr=>?_
 obtain ⟨-,-,-,-,w24,w52,-,w54,-,w64,-,-,-⟩:=yb M ⟨none,xf⟩
 have n1:¬ tok L=[108,111,97,100]:=by
  rw [hys];intro q;injection q with q;subst q;revert hy2;decide
 have n2:¬ tok L=[40]:=by
  rw [hys];intro q;injection q with q;subst q;revert hy1;decide
 have hmz:=hm.sz
 have hml:=hm.le
 have hms:=hm.sm
 have htl:=qm7 (qav hne)
 have hLl:=congrArg List.length hdr
 rw [zy] at hLl
 have e9:=qmr (qav hne)
 simp only [↓qi,qy,reduceIte,Nat.reduceEqDiff,w24,n1,n2,w52]
 refine C3.q (qm3 (M:=M) (by omega) fun y s q q1 q2=>qmq q q1 q2) fun v H2 ⟨hv,hh⟩=>?_
 subst hv;subst hh
 rw [hn]
 have hg:RFg c H2 nv zs false m o a:=hm.toRFg
 have l1:=hg.ld1
 have wk:wrapI .i64 ((m:Int)+((tok L).length:Nat))=((m+(tok L).length:Nat):Int):=wat (by omega)
 have ln:Op.lenStr [.str (tok L)]=some (.int .i64 ((tok L).length:Nat)):=qev _
 obtain ⟨H3,st,h3,p3,hp1⟩:=hg.adv (L:=L) hdr hne
 simp only [↓qi,qy,reduceIte,Nat.reduceEqDiff,numT,vx,w54,w64,qg,l1,ln,wk,st]
 refine C3.q (qo6 (M:=M) h3 (by omega)) fun w H4 ⟨nv',hw,h4,p4⟩=>?_
 subst hw
 simp only [↓qi,qy,reduceIte,Nat.reduceEqDiff]
 refine ⟨nv',_,_,h4,(pm.trans p3).trans p4,by rw [qe,qt];omega,?_,?_⟩
 ·simp [It.sz,Ex.sz]
 ·simp [It.enc,Ex.enc]
theorem facR_no {x:It} (h1:varOf (tok L)=none) (h2:tok L ≠ wLoad) (h3:tok L ≠ [40]) (h4:numOf (tok L)=none):CR M xf [] c x (.ok L) o a (.bad L):=by
 intro H nv zs k d h hd
 refine qkq h h1 fun H1 m hkm hm pm hdr=>?_
 obtain ⟨-,-,-,-,w24,w52,-,w54,-,-,-,-,-⟩:=yb M ⟨none,xf⟩
 have h2:¬ tok L=[108,111,97,100]:=h2
 have hml:=hm.le
 have hms:=hm.sm
 have hLl:=congrArg List.length hdr
 rw [zy] at hLl
 have htl:(tok L).length<=L.length:=by unfold tok;rw [jk];omega
 simp only [↓qi,qy,reduceIte,Nat.reduceEqDiff,w24,h2,h3,w52]
 refine C3.q (qm3 (M:=M) (by omega) fun y s q q1 q2=>qmq q q1 q2) fun v H2 ⟨hv,hh⟩=>?_
 subst hv;subst hh
 rw [h4]
 obtain ⟨Hf,stf,hf,pf⟩:=hm.toRFg.failF (o':=o) (a':=a) hm.ps hdr
 simp only [↓qi,qy,reduceIte,Nat.reduceEqDiff,numT,vx,w54,qg,stf]
 exact ⟨nv,zs,m,hf,pm.trans pf,by omega,_,rfl⟩
end
end Go.Am
