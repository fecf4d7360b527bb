/- BuKc: BoB GhF BoC BoD. -/
import Derived.Test.YtiibohocdbaekaaAmKBuKb
import Derived.Test.YtiibohocdbaekaaAmKBuKa
set_option linter.unusedVariables false
set_option linter.unusedSimpArgs false
set_option linter.unusedSectionVars false
set_option maxRecDepth 100000
open Nat (reduceEqDiff)
namespace Go.Am
open Go.Proofs Ca
open Lang (ints)
variable {M:aM} [MK M]
section
variable {H0 H:AHeap} {B:Nat} {s:Bs} {b:Bu} {own:Nat->Nat} {V:Int->L8}
theorem MO (h:cV H0 H B s b own) {fv:AV} (hf:dP ai 11 H fv b.fl) (hfl:b.fl.length<=900000) {i:Nat} {x:De} (hx:b.l[i]? = some x) {c:Nat} {t:Nat} {st:Int} {bi bl:Bool} (hst:Op.aa [.ptr t 1] H=some (.int .i64 st))
 (k1:bi=true->bl=false->eV b.fl c i=true) (k2:x.ow=c->st ≠ 2->eV b.fl c i=true) {E:Env} {Q:aJ}
 (e13:lk E 13=some (.bool bi)) (e14:lk E 14=some (.bool bl)) (e7:lk E 7=some fv) (e11:lk E 11=some (.int .i64 (c:Int))) (e2:lk E 2=some (.int .i64 (i:Int))) (e0:lk E 0=some (.ptr B 0)) (e12:lk E 12=some (.ptr t 0))
 (hQ:Q .normal E [] H):W M ⟨none,Ae⟩ (zb 54) true Q E [] H:=by
 obtain ⟨w0,w4,w8,w10,w62,w15,w21,w61,w27,w42,w32,w48,w38,w54,w41⟩:=qp7 M ⟨none,Ae⟩
 -- the second half
 have near1:=λ q:eV b.fl c i=true=>(xay (M:=M) hf hfl (c:Int) (i:Int)).mono λ v H' (w:v=.bool (eV b.fl c i)/\H'=H)=>(show v=.bool true/\H'=H from ⟨by rw [w.1,q],w.2⟩)
 by_cases ho:x.ow=c
 ·by_cases h2:st=2
  ·cases bi with
   | false =>
    simp only [↓qg,xb,reduceIte,reduceEqDiff,w54,e13,e0,e2];refine C3.q (wF (M:=M) h hx) λ v H1 ⟨hv,hh⟩=>?_;rw [hv,hh];simp only [↓qg,xb,reduceIte,reduceEqDiff,e11,xf ho,e12,hst,xf h2];exact hQ
   | true =>
    cases bl with
    | true =>
     simp only [↓qg,xb,reduceIte,reduceEqDiff,w54,e13,e14,e0,e2];refine C3.q (wF (M:=M) h hx) λ v H1 ⟨hv,hh⟩=>?_;rw [hv,hh];simp only [↓qg,xb,reduceIte,reduceEqDiff,e11,xf ho,e12,hst,xf h2];exact hQ
    | false =>
     simp only [↓qg,xb,reduceIte,reduceEqDiff,w54,e13,e14,e7,e11,e2];refine C3.q (near1 (k1 rfl rfl)) λ v H1 ⟨hv,hh⟩=>?_;rw [hv,hh];simp only [↓qg,xb,reduceIte,reduceEqDiff,e0,e2];refine C3.q (wF (M:=M) h hx) λ v H1 ⟨hv,hh⟩=>?_;rw [hv,hh];simp only [↓qg,xb,reduceIte,reduceEqDiff,e11,xf ho,e12,hst,xf h2];exact hQ
  ·cases bi with
   | false =>
    simp only [↓qg,xb,reduceIte,reduceEqDiff,w54,e13,e0,e2];refine C3.q (wF (M:=M) h hx) λ v H1 ⟨hv,hh⟩=>?_;rw [hv,hh];simp only [↓qg,xb,reduceIte,reduceEqDiff,e11,xf ho,e12,hst,h2,e7,e2];refine C3.q (near1 (k2 ho h2)) λ v H1 ⟨hv,hh⟩=>?_;rw [hv,hh];simp only [↓qg,xb,reduceIte,reduceEqDiff];exact hQ
   | true =>
    cases bl with
    | true =>
     simp only [↓qg,xb,reduceIte,reduceEqDiff,w54,e13,e14,e0,e2];refine C3.q (wF (M:=M) h hx) λ v H1 ⟨hv,hh⟩=>?_;rw [hv,hh];simp only [↓qg,xb,reduceIte,reduceEqDiff,e11,xf ho,e12,hst,h2,e7,e2];refine C3.q (near1 (k2 ho h2)) λ v H1 ⟨hv,hh⟩=>?_;rw [hv,hh];simp only [↓qg,xb,reduceIte,reduceEqDiff];exact hQ
    | false =>
     simp only [↓qg,xb,reduceIte,reduceEqDiff,w54,e13,e14,e7,e11,e2];refine C3.q (near1 (k1 rfl rfl)) λ v H1 ⟨hv,hh⟩=>?_;rw [hv,hh];simp only [↓qg,xb,reduceIte,reduceEqDiff,e0,e2];refine C3.q (wF (M:=M) h hx) λ v H1 ⟨hv,hh⟩=>?_;rw [hv,hh];simp only [↓qg,xb,reduceIte,reduceEqDiff,e11,xf ho,e12,hst,h2,e7,e2];refine C3.q (near1 (k2 ho h2)) λ v H1 ⟨hv,hh⟩=>?_;rw [hv,hh];simp only [↓qg,xb,reduceIte,reduceEqDiff];exact hQ
 ·cases bi with
  | false =>
   simp only [↓qg,xb,reduceIte,reduceEqDiff,w54,e13,e0,e2];refine C3.q (wF (M:=M) h hx) λ v H1 ⟨hv,hh⟩=>?_;rw [hv,hh];simp only [↓qg,xb,reduceIte,reduceEqDiff,e11,ho];exact hQ
  | true =>
   cases bl with
   | true =>
    simp only [↓qg,xb,reduceIte,reduceEqDiff,w54,e13,e14,e0,e2];refine C3.q (wF (M:=M) h hx) λ v H1 ⟨hv,hh⟩=>?_;rw [hv,hh];simp only [↓qg,xb,reduceIte,reduceEqDiff,e11,ho];exact hQ
   | false =>
    simp only [↓qg,xb,reduceIte,reduceEqDiff,w54,e13,e14,e7,e11,e2];refine C3.q (near1 (k1 rfl rfl)) λ v H1 ⟨hv,hh⟩=>?_;rw [hv,hh];simp only [↓qg,xb,reduceIte,reduceEqDiff,e0,e2];refine C3.q (wF (M:=M) h hx) λ v H1 ⟨hv,hh⟩=>?_;rw [hv,hh];simp only [↓qg,xb,reduceIte,reduceEqDiff,e11,ho];exact hQ
theorem tz {sh c:Nat} (hc:c<4) (h:hb sh (c:Int)=1):(c:Int) ∈ (dZ sh).map λ (k:Nat)=>(k:Int):=by
 refine Br.2 ⟨c,?_,rfl⟩;unfold dZ;exact Ci.2 ⟨List.mem_range.2 hc,by rw [h];rfl⟩
def jO (S:List Int) (c:Int):Bool:=S.any λ k=>decide (k=c)
theorem q9f (S:List Int) (k c:Int):jO (S ++ [k]) c=(jO S c || decide (k=c)):=by unfold jO;rw [List.any_append];simp
theorem q5s (h:cV H0 H B s b own) (hb':BB b) (hI:BuI b V) {i:Nat} (hi:i<b.l.length):jm M Ae [.ptr B 0,.int .i64 (b.ns.length:Int),.int .i64 (i:Int)] H λ v H'=>v=.bool true/\Fr Em H H':=by
 obtain ⟨x,hx⟩:∃ x,b.l[i]? = some x:=⟨_,qx hi⟩
 obtain ⟨w,hw⟩:∃ w,b.m[i]? = some w:=⟨_,qx (by rw [hI.ml];exact hi)⟩
 have xi:=(hI.es i x w hx hw).xi;have N4:=hI.N4;refine qy4 ?_;obtain ⟨w0,w4,w8,w10,w62,w15,w21,w61,w27,w42,w32,w48,w38,w54,w41⟩:=qp7 M ⟨none,Ae⟩;simp only [↓qg,xb,reduceIte,reduceEqDiff,w0];refine C3.q (q4h (M:=M) h hb') λ fv H1 hn1=>?_;have f1:Fr Em H H1:=hn1.fr;have h1:=h.em f1;simp only [↓qg,xb,reduceIte,reduceEqDiff,w4];refine C3.q (q2d (M:=M) h1 hx xi.sb) λ sv H2 ⟨hs2,f2⟩=>?_;have hf2:dP ai 11 H2 fv b.fl:=dP.em (Own.sl hn1.own) f2;have h2:=h1.em f2;obtain ⟨S,hS⟩:∃ S,S=(dZ x.sh).map λ (k:Nat)=>(k:Int):=⟨_,rfl⟩
 rw [<-hS] at hs2;have hSl:S.length<=4:=by rw [hS,zd];exact MI _
 simp only [↓qg,xb,reduceIte,reduceEqDiff,w8,w10];refine bq.intro (λ k E Hx=>∃ c:Nat,k=b.ns.length-c/\c<=b.ns.length/\E=[(11,.int .i64 (c:Int)),(10,.int .i64 (cO b i c:Int)),(9,.int .i64 (cH b i c:Int)),(8,sv),(7,fv),(0,.ptr B 0),(1,.int .i64 (b.ns.length:Int)),(2,.int .i64 (i:Int))]/\Fr Em H2 Hx) ?_ ?_
 ·exact ⟨_,_,⟨0,rfl,by omega,rfl,Fr.refl _⟩,by simp only [↓qg,xb,reduceIte,reduceEqDiff];exact ⟨rfl,rfl⟩⟩
 rintro k E Hx ⟨c,rfl,hc,rfl,fx⟩
 by_cases q:(c:Int)<(b.ns.length:Nat)
 ·obtain ⟨n,hn⟩:∃ n,b.ns[c]? = some n:=⟨_,qx (by omega)⟩
  have hx3:=h2.em fx;have ni:=(hI.nw c n hn).ni;obtain ⟨kn1,kn2⟩:=known hI hn hx;have az:b.az i c=n.st i:=by unfold Bu.az;rw [hn]
  have wc:aV .i64 ((c:Int)+1)=((c+1:Nat):Int):=by rw [yw (by omega) (by omega)];omega
  have cl:=vL b i c;simp only [↓qg,xb,reduceIte,reduceEqDiff,w15,q,w21];refine C3.q (q82 (M:=M) hx3 hb' hn (i:Int)) λ v H3 ⟨hv,f3⟩=>?_;obtain ⟨e,he,hes⟩:=uw ni (i:Int);rw [hv,he];obtain ⟨H4,e4⟩:∃ X,X=H3.alloc (OR (av .zero) qu):=⟨_,rfl⟩
  have f4:Fr Em H3 H4:=by rw [e4];exact (Fr.refl H3).alloc _
  have g4:H4.get H3.next=some (OR (av .zero) qu):=by rw [e4,qz]
  have st:=gY g4 (zn _) (zn e) (mU e);obtain ⟨H5,e5⟩:∃ X,X=H4.set H3.next (OR (av e) qu):=⟨_,rfl⟩
  rw [<-e5] at st;have g5:H5.get H3.next=some (OR (av e) qu):=by rw [e5,xe]
  have f5:Fr Em H3 H5:=by rw [e5];exact f4.set (.inr (qi _)) _
  have fx5:Fr Em H2 H5:=(fx.trans f3 λ _ q=>q.elim).trans f5 λ _ q=>q.elim;have h5:=h2.em fx5;have l1:Op.aa [.ptr H3.next 1] H5=some (.int .i64 (n.st i)):=by rw [ze (xc g5),<-hes];rfl
  have hs5:=hs2.em fx5;have hf5:=hf2.em fx5;simp only [↓qg,xb,reduceIte,reduceEqDiff,qt,eZ,<-e4,st];refine C3.q (wF (M:=M) h5 hx) λ v H6 ⟨hv,hh⟩=>?_;rw [hv,hh];generalize hbi:decide (n.st i ≠ 0)=bi;simp only [↓qg,xb,reduceIte,reduceEqDiff,w27];refine bq.intro (λ k E Hy=>∃ j:Nat,k=S.length-j/\j<=S.length/\Hy=H5/\E=[(15,.int .i64 (j:Int)),(14,.bool (decide (x.ow=c) || jO (S.take j) c)),(13,.bool bi),(12,.ptr H3.next 0),(11,.int .i64 (c:Int)),(10,.int .i64 (cO b i c:Int)),(9,.int .i64 (cH b i c:Int)),(8,sv),(7,fv),(0,.ptr B 0),(1,.int .i64 (b.ns.length:Int)),(2,.int .i64 (i:Int))]) ?_ ?_
  ·exact ⟨_,_,⟨0,rfl,by omega,rfl,rfl⟩,by simp only [↓qg,xb,reduceIte,reduceEqDiff,AY,jO,List.any_nil,Bool.or_false]⟩
  rintro k E Hy ⟨j,rfl,hj,rfl,rfl⟩
  by_cases qj:(j:Int)<(S.length:Nat)
  ·obtain ⟨y,hy⟩:∃ y,S[j]? = some y:=⟨_,qx (by omega)⟩
   have tk:S.take (j+1)=S.take j ++ [y]:=by rw [BA,hy];rfl
   have ix:=hs5.idx hy (z:=(j:Int)) rfl .i64;have ly:Op.aa [.ptr (aO sv) (cm 1 sv j)] Hy=some (.int .i64 y):=hs5.aa q96 hy (j:=0) (by decide);have wj:aV .i64 ((j:Int)+1)=((j+1:Nat):Int):=by rw [yw (by omega) (by omega)];omega
   have nx:(decide (x.ow=c) || jO (S.take (j+1)) c)=((decide (x.ow=c) || jO (S.take j) c) || decide (y=c)):=by rw [tk,q9f,Bool.or_assoc]
   generalize (decide (x.ow=(c:Int)) || jO (S.take j) c)=bl at *;cases bl with
   | true =>
    simp only [↓qg,xb,reduceIte,reduceEqDiff,w32,hs5.len,qj,w38];simp only [↓qg,xb,reduceIte,reduceEqDiff,w41,wj];exact ⟨_,_,⟨j+1,rfl,by omega,rfl⟩,by simp only [↓qg,xb,reduceIte,reduceEqDiff,nx,Bool.true_or],by omega⟩
   | false =>
    simp only [↓qg,xb,reduceIte,reduceEqDiff,w32,hs5.len,qj,w38,ix,ly];simp only [↓qg,xb,reduceIte,reduceEqDiff,w41,wj];exact ⟨_,_,⟨j+1,rfl,by omega,rfl⟩,by simp only [↓qg,xb,reduceIte,reduceEqDiff,nx,Bool.false_or],by omega⟩
  ·have ej:j=S.length:=by omega
   subst ej;rw [GQ];have k1:bi=true->(decide (x.ow=c) || jO S c)=false->eV b.fl c i=true:=λ w1 w2=>by
    rw [Bool.or_eq_false_iff] at w2;refine kn1 (λ w=>by rw [<-hbi,w] at w1;cases w1) (λ w=>by rw [vz w] at w2;cases w2.1) λ w=>?_;have:jO S c=true:=by unfold jO;rw [List.any_eq_true];exact ⟨_,by rw [hS];exact tz (by omega) w,vz rfl⟩
    rw [this] at w2;cases w2.2
   generalize (decide (x.ow=(c:Int)) || jO S c)=bl at *;have eO:cO b i (c+1)=cO b i c+if n.st i=2 then 1 else 0:=by rw [<-az];rfl
   have eH:cH b i (c+1)=cH b i c+if n.st i ≠ 0 then 1 else 0:=by rw [<-az];rfl
   have w1:aV .i64 ((cO b i c:Int)+1)=((cO b i c+1:Nat):Int):=by rw [yw (by omega) (by omega)];omega
   have w2:aV .i64 ((cH b i c:Int)+1)=((cH b i c+1:Nat):Int):=by rw [yw (by omega) (by omega)];omega
   cases bi with
   | true =>
    have nz:n.st i ≠ 0:=λ q=>by rw [q] at hbi;cases hbi
    rw [qr nz] at eH
    by_cases q2:n.st i=2
    ·rw [qr q2] at eO;simp only [↓qg,xb,reduceIte,reduceEqDiff,w32,hs5.len,qj,w42,w2,w48,l1,xf q2,w1];refine MO (M:=M) h5 hf5 hb'.fl hx l1 k1 kn2 (by simp only [↓qg,xb,reduceIte,reduceEqDiff]) (by simp only [↓qg,xb,reduceIte,reduceEqDiff]) (by simp only [↓qg,xb,reduceIte,reduceEqDiff]) (by simp only [↓qg,xb,reduceIte,reduceEqDiff]) (by simp only [↓qg,xb,reduceIte,reduceEqDiff]) (by simp only [↓qg,xb,reduceIte,reduceEqDiff]) (by simp only [↓qg,xb,reduceIte,reduceEqDiff]) ?_;simp only [↓qg,xb,reduceIte,reduceEqDiff,w61,wc];exact ⟨_,_,⟨c+1,rfl,by omega,rfl,fx5⟩,by simp only [↓qg,xb,reduceIte,reduceEqDiff,eO,eH],by omega⟩
    ·rw [qf q2,qe] at eO;simp only [↓qg,xb,reduceIte,reduceEqDiff,w32,hs5.len,qj,w42,w2,w48,l1,q2];refine MO (M:=M) h5 hf5 hb'.fl hx l1 k1 kn2 (by simp only [↓qg,xb,reduceIte,reduceEqDiff]) (by simp only [↓qg,xb,reduceIte,reduceEqDiff]) (by simp only [↓qg,xb,reduceIte,reduceEqDiff]) (by simp only [↓qg,xb,reduceIte,reduceEqDiff]) (by simp only [↓qg,xb,reduceIte,reduceEqDiff]) (by simp only [↓qg,xb,reduceIte,reduceEqDiff]) (by simp only [↓qg,xb,reduceIte,reduceEqDiff]) ?_;simp only [↓qg,xb,reduceIte,reduceEqDiff,w61,wc];exact ⟨_,_,⟨c+1,rfl,by omega,rfl,fx5⟩,by simp only [↓qg,xb,reduceIte,reduceEqDiff,eO,eH],by omega⟩
   | false =>
    have nz:n.st i=0:=by
     by_cases z:n.st i=0
     ·exact z
     ·rw [vz z] at hbi;cases hbi
    rw [qf (λ q=>q nz),qe] at eH;have q2:¬ n.st i=2:=by omega
    rw [qf q2,qe] at eO;simp only [↓qg,xb,reduceIte,reduceEqDiff,w32,hs5.len,qj,w42,w48,l1,q2];refine MO (M:=M) h5 hf5 hb'.fl hx l1 k1 kn2 (by simp only [↓qg,xb,reduceIte,reduceEqDiff]) (by simp only [↓qg,xb,reduceIte,reduceEqDiff]) (by simp only [↓qg,xb,reduceIte,reduceEqDiff]) (by simp only [↓qg,xb,reduceIte,reduceEqDiff]) (by simp only [↓qg,xb,reduceIte,reduceEqDiff]) (by simp only [↓qg,xb,reduceIte,reduceEqDiff]) (by simp only [↓qg,xb,reduceIte,reduceEqDiff]) ?_;simp only [↓qg,xb,reduceIte,reduceEqDiff,w61,wc];exact ⟨_,_,⟨c+1,rfl,by omega,rfl,fx5⟩,by simp only [↓qg,xb,reduceIte,reduceEqDiff,eO,eH],by omega⟩
 ·have ec:c=b.ns.length:=by omega
  subst ec;have F:Fr Em H Hx:=(f1.trans f2 λ _ q=>q.elim).trans fx λ _ q=>q.elim;rcases q8h hI hi b.ns.length with o|⟨o1,o2⟩
  ·have o':((cO b i b.ns.length:Nat):Int)=0:=by omega
   simp only [↓qg,xb,reduceIte,reduceEqDiff,w15,q,w62,xf o'];exact F
  ·have o':¬ ((cO b i b.ns.length:Nat):Int)=0:=by omega
   have p1:((cO b i b.ns.length:Nat):Int)=1:=by omega
   have p2:((cH b i b.ns.length:Nat):Int)=1:=by omega
   simp only [↓qg,xb,reduceIte,reduceEqDiff,w15,q,w62,o',xf p1,xf p2];exact F
end
end Go.Am
namespace Go.Am
open Go.Proofs Ca
open Lang (ints)
variable {M:aM} [MK M]
theorem cV.base {H0 H1 H:AHeap} {B:Nat} {s:Bs} {b:Bu} {own:Nat->Nat} (h:cV H1 H B s b own) (f:Fr Em H0 H1):cV H0 H B s b own :=
 ⟨h.row,h.lt,h.d,h.dx,h.nv,λ c n A hn hA=>(h.no c n A hn hA).base f,h.al,h.fl,h.oB,h.oD,h.oN,h.oF,h.oC,λ z hz=>xt f.next (h.lo z hz)⟩
def jM (l:Int):Gh:=⟨List.replicate (8*l.toNat) 0,λ _=>[],λ _=>false⟩
theorem tA (l c s w:Int) (k:Nat):(dE l c s w).lv k=false:=by
 unfold Bu.lv;cases hn:(dE l c s w).ns[k]? with
 | none=>rfl
 | some n=>obtain ⟨-,rfl⟩:=Fm hn;rfl
theorem An {l c s w:Int} (h:iM l c s w):GI (dE l c s w) (jM l) 0:=by
 refine ⟨?_,λ c p hp=>(nomatch hp),λ c=>qi _,λ k=>(tA l c s w k).symm,λ c _=>rfl⟩;show (((List.replicate (8*l.toNat) (0:Int)).length:Nat):Int)=8*((List.replicate l.toNat eQ).length:Nat);rw [zf,zf];omega
def tF (H:AHeap) (l c s w:Int) (n:Nat) (v:AV) (H':AHeap):Prop :=
 Fr Em H H'/\(¬ (iM l c s w/\n<=300)/\v=.tuple [.nilp,.nilp,.bool false]\/(iM l c s w/\n<=300) /\ ∃ B bs own G gs tg,v=.tuple [.ptr B 0,.ptr G 0,.bool true]/\i9 H H' B bs (dE l c s w) own G gs (jM l) tg)
theorem q7n {H:AHeap} (l c s w:Int) {lv:AV} {xs:List Bt} (hl:dP fJ 5 H lv xs):jm M CC [.agg (cw l c s w),lv] H (tF H l c s w xs.length):=by
 refine q04 ?_;obtain ⟨w0,w4,w12⟩:=q05 M ⟨none,CC⟩;obtain ⟨H1,e1⟩:∃ X,X=H.alloc (OR (cw l c s w) ve):=⟨_,rfl⟩
 have f1:Fr Em H H1:=by rw [e1];exact (Fr.refl H).alloc _
 have n1:H1.next=H.next+1:=by rw [e1,xl]
 have g1:H1.get H.next=some (OR (cw l c s w) ve):=by rw [e1,qz]
 have ld:=fH (e:=ve) g1 (show (cw l c s w).length=4 from rfl);have hln:=hl.len;simp only [↓qg,xb,reduceIte,reduceEqDiff,w0,xx,<-e1,ld];refine C3.q (q4r (M:=M) l c s w) λ v H2 hv=>?_;rcases hv with ⟨ho,rfl,f2⟩|⟨ho,B,bs,own,rfl,hB,f2⟩
 ·have t2:¬ (2:Int)=0:=by decide
  simp only [↓qg,xb,reduceIte,reduceEqDiff,qt,w4,t2];exact ⟨f1.trans f2 λ _ q=>q.elim,.inl ⟨λ q=>ho q.1,rfl⟩⟩
 have t0:=xf (show (0:Int)=0 from rfl)
 by_cases q:(300:Int)<(xs.length:Nat)
 ·simp only [↓qg,xb,reduceIte,reduceEqDiff,qt,w4,t0,hln,q];exact ⟨f1.trans f2 λ _ q=>q.elim,.inl ⟨λ q2=>by omega,rfl⟩⟩
 obtain ⟨⟨⟨l0,l1⟩,c0,c1⟩,hs⟩:=id ho;have l64:l<=64:=l1;have l2:0<=l:=by have:(2:Int)<=l:=l0;omega
 have lo:Op.aa [.ptr H.next 0] H2=some (.int .i64 l):=ze (xc (show H2.get H.next=_ by rw [f2.ae _ (by omega) id];exact g1)) 0;have wm:aV .i64 (8*l)=((8*l.toNat:Nat):Int):=by rw [yw (by omega) (by omega)];omega
 have mk:=Jx G3 8 [.int .u64 0] (8*l.toNat) .i64 .i64 (by omega) (by omega);rw [show dk (8*l.toNat) [AV.int .u64 0]=(List.replicate (8*l.toNat) (0:Int)).flatMap lV from (IZ lV 0 _).symm] at mk;obtain ⟨H3,e3⟩:∃ X,X=H2.alloc (OR ((List.replicate (8*l.toNat) (0:Int)).flatMap lV) G3):=⟨_,rfl⟩
 have f3:Fr Em H2 H3:=by rw [e3];exact (Fr.refl H2).alloc _
 have n3:H3.next=H2.next+1:=by rw [e3,xl]
 obtain ⟨sv,hsv⟩:∃ sv:AV,sv=.slice H2.next 0 (8*l.toNat) (8*l.toNat):=⟨_,rfl⟩
 have hst:Op.sliceTo (8*l.toNat) (8*l.toNat) H2.next=sv:=by rw [hsv];rfl
 have hsb:aO sv=H2.next:=by rw [hsv];rfl
 have bd:Op.build [.nils,.nils,.nils,.nils,.nils,.bool false,.bool false,.bool false,.bool false] [(0,1)] [sv]=some (.agg (gC ⟨sv,λ _=>.nils⟩ (jM l))):=by rw [hsv];rfl
 obtain ⟨H4,e4⟩:∃ X,X=H3.alloc (OR (gC ⟨sv,λ _=>.nils⟩ (jM l)) BK):=⟨_,rfl⟩
 have f4:Fr Em H3 H4:=by rw [e4];exact (Fr.refl H3).alloc _
 have n4:H4.next=H3.next+1:=by rw [e4,xl]
 have g4:H4.get H3.next=some (OR (gC ⟨sv,λ _=>.nils⟩ (jM l)) BK):=by rw [e4,qz]
 have F:Fr Em H H4:=((f1.trans f2 λ _ q=>q.elim).trans f3 λ _ q=>q.elim).trans f4 λ _ q=>q.elim;have m2:=f2.next
 simp only [↓qg,xb,reduceIte,reduceEqDiff,qt,w4,t0,hln,q,w12,lo,wm,mk,hst,<-e3,bd,xx,<-e4];have hr:dA lV G3 1 H4 sv (jM l).w:=by
  refine ⟨H2.next,?_,by omega,?_⟩
  ·rw [hsv];show _=AV.slice _ 0 (List.replicate _ _).length (List.replicate _ _).length;rw [zf]
  ·rw [f4.ae _ (by omega) id,e3,qz];rfl
 have hg:hZ H H4 H3.next ⟨sv,λ _=>.nils⟩ (jM l) (λ z=>if z=H3.next then 4 else 5):=by
  refine ⟨g4,by omega,hr,λ c _=>Own.nil ..,qr rfl,qf (by rw [hsb];omega),λ c _ z hz=>absurd rfl hz.1,λ z hz=>?_⟩;rcases hz with rfl|rfl|⟨c,-,hz⟩
  ·omega
  ·show H.next<=aO sv;rw [hsb];omega
  ·exact absurd rfl hz.1
 have hB4:cV H H4 B bs (dE l c s w) own:=((hB.base f1).em f3).em f4;refine ⟨F,.inr ⟨⟨ho,by omega⟩,B,bs,own,H3.next,_,_,rfl,hB4,hg,λ z hz w=>?_⟩⟩;have lz:=hB.low hz;rcases w with rfl|rfl|⟨c,-,w⟩
 ·omega
 ·have lz:aO sv<H2.next:=lz
  omega
 ·exact absurd rfl w.1
end Go.Am
namespace Go.Am
open Go.Proofs Ca
open Lang (ints)
variable {M:aM} [MK M]
structure wG (Hb H:AHeap) (B G:Nat) (l c:Int) (i:Nat) (bs:Bs) (own:Nat->Nat) (gs:Gs) (tg:Nat->Nat) (b:Bu) (g:Gh) (V:Int->L8):Prop where
 r:i9 Hb H B bs b own G gs g tg
 I:BuI b V
 C:BC b i
 g:GI b g i
 ns:(b.ns.length:Int)=c
 l:(b.l.length:Int)=l
 fr:Fr Em Hb H
theorem q95 (x:Bt):(fJ x).length=5:=rfl
section
variable {Hb H:AHeap} {B G:Nat} {l c:Int} {i:Nat} {bs:Bs} {own tg:Nat->Nat} {gs:Gs} {b:Bu} {g:Gh} {V:Int->L8}
theorem wG.em {H':AHeap} (h:wG Hb H B G l c i bs own gs tg b g V) (f:Fr Em H H'):wG Hb H' B G l c i bs own gs tg b g V:=⟨h.r.em f,h.I,h.C,h.g,h.ns,h.l,h.fr.trans f λ _ q=>q.elim⟩
theorem wG.bb (h:wG Hb H B G l c i bs own gs tg b g V) (hi:i<=1000):BB b:=h.C.bb h.I (by omega)
theorem wG.step (h:wG Hb H B G l c i bs own gs tg b g V) (hi:i<=1000) (x:Bt):jm M jb [.ptr G 0,.ptr B 0,.agg (fJ x)] H λ v H'=>v=.bool (g.fw b x).2 /\ ∃ bs' fC gs' tg',wG Hb H' B G l c (i+1) bs' fC gs' tg' (b.step x) (g.oS b x) (if x.k=7 then V else vK b V x):=by
 refine (xa6 (M:=M) h.r h.I h.C h.g hi x).mono λ v H' ⟨hv,hp⟩=>⟨hv,?_⟩
 obtain ⟨s2,o2,gs2,t2,h2,sub2,f2⟩:=hp;obtain ⟨z1,z2⟩:=q34 b x;exact ⟨s2,o2,gs2,t2,h2,rD h.I x,tU h.C x,CF h.I h.g x,by rw [z1];exact h.ns,by rw [z2];exact h.l,h.fr.trans f2 λ z q=>.inr (q.elim (h.r.jS.lo z) (h.r.gh.lo z))⟩
end
theorem xN {H H':AHeap} {l c s w:Int} {n:Nat} {v:AV} (h:tF H l c s w n v H'):¬ (iM l c s w/\n<=300)/\v=.tuple [.nilp,.nilp,.bool false]\/(iM l c s w/\n<=300) /\ ∃ B G bs own gs tg,v=.tuple [.ptr B 0,.ptr G 0,.bool true]/\wG H H' B G l c 0 bs own gs tg (dE l c s w) (jM l) λ _=>.zero:=by
 obtain ⟨f,h|⟨hok,B,bs,own,G,gs,tg,hv,hr⟩⟩:=h
 ·exact .inl h
 obtain ⟨⟨⟨l0,l1⟩,c0,c1⟩,hs⟩:=id hok.1;have l0':(2:Int)<=l:=l0;have c0':0<=c:=by omega
 refine .inr ⟨hok,B,G,bs,own,gs,tg,hv,hr,sI hok.1,uo,An hok.1,?_,?_,f⟩
 ·show ((jK l s w c.toNat).length:Int)=c;rw [Jg];omega
 ·show ((List.replicate l.toNat eQ).length:Int)=l;rw [zf];omega
end Go.Am
namespace Go.Am
open Go.Proofs Ca
open Lang (ints)
variable {M:aM} [MK M]
theorem q7c {H:AHeap} {l c s w:Int} {xv:AV} {xs:List Bt} (hal:∀ H1,Fr Em H H1->jm M qql [] H1 λ v H'=>v=.bool true/\H'=H1) (hx:dP fJ 5 H xv xs):jm M FL [.agg (cw l c s w),xv] H λ v _=>v=.bool true:=by
 refine qy1 ?_;obtain ⟨w0,w4,w6,w14,w52,w19,w25,w51,w33,w39,w50⟩:=qy2 M ⟨none,FL⟩;obtain ⟨H1,e1⟩:∃ X,X=H.alloc (OR (cw l c s w) ve):=⟨_,rfl⟩
 have f1:Fr Em H H1:=by rw [e1];exact (Fr.refl H).alloc _
 have n1:H1.next=H.next+1:=by rw [e1,xl]
 have g1:H1.get H.next=some (OR (cw l c s w) ve):=by rw [e1,qz]
 have ld4:Op.ao 4 [.ptr H.next 0] H1=some (.agg (cw l c s w)):=fH g1 rfl;have hx1:=hx.em f1;simp only [↓qg,xb,reduceIte,reduceEqDiff,w0,xx,<-e1];refine C3.q (hal H1 f1) λ v H2 ⟨hv,hh⟩=>?_;rw [hv,hh];simp only [↓qg,xb,reduceIte,reduceEqDiff,w4,ld4];refine C3.q (q7n (M:=M) l c s w hx1) λ v H3 hv=>?_;rcases xN hv with ⟨_,hv⟩|⟨⟨hok,hn⟩,B,G,bs,own,gs,tg,hv,hz⟩
 ·rw [hv];simp only [↓qg,xb,reduceIte,reduceEqDiff,qt,w6]
 rw [hv];simp only [↓qg,xb,reduceIte,reduceEqDiff,qt,w6,w14];refine bq.intro (λ m E Hx=>∃ (i:Nat) (bs:Bs) (own tg:Nat->Nat) (gs:Gs) (b:Bu) (g:Gh) (V:Int->L8),E=[(9,.int .i64 (i:Int)),(7,.ptr G 0),(6,.ptr B 0),(5,.bool true),(2,.ptr H.next 0),(1,xv)]/\m=xs.length-i/\i<=xs.length/\wG H1 Hx B G l c i bs own gs tg b g V) ?_ ?_
 ·exact ⟨_,_,⟨0,_,_,_,_,_,_,_,rfl,rfl,zp _,hz⟩,by simp only [↓qg,xb,reduceIte,reduceEqDiff]⟩
 rintro m E Hx ⟨i,bs,own,tg,gs,b,g,V,rfl,rfl,hi,hI⟩;have hxx:=hx1.em hI.fr
 by_cases q:(i:Int)<((xs.length:Nat):Int)
 ·obtain ⟨x,hxi⟩:∃ x,xs[i]? = some x:=⟨_,qx (by omega)⟩
  have ix:=hxx.idx hxi (z:=(i:Int)) rfl .i64;have ld:=hxx.ao q95 (by decide) hxi;have wi:aV .i64 ((i:Int)+1)=((i+1:Nat):Int):=by rw [yw (by omega) (by omega)];omega
  simp only [↓qg,xb,reduceIte,reduceEqDiff,w19,hxx.len,q,w25,ix,ld];refine C3.q (hI.step (M:=M) (by omega) x) λ v H4 ⟨hv,bs4,own4,gs4,tg4,hJ⟩=>?_;refine bq.intro (λ m E Hy=>∃ (k:Nat),E=[(10,.int .i64 (k:Int)),(9,.int .i64 (i:Int)),(7,.ptr G 0),(6,.ptr B 0),(5,.bool true),(2,.ptr H.next 0),(1,xv)]/\m=(b.step x).l.length-k/\k<=(b.step x).l.length/\Fr Em H4 Hy) ?_ ?_
  ·exact ⟨_,_,⟨0,rfl,rfl,zp _,Fr.refl _⟩,by simp only [↓qg,xb,reduceIte,reduceEqDiff];first|done|rfl⟩
  rintro m E Hy ⟨k,rfl,rfl,hk,fy⟩;have hK:=hJ.em fy;have gy:Hy.get H.next=some (OR (cw l c s w) ve):=by rw [hK.fr.ae _ (by omega) id];exact g1
  have y0:Op.aa [.ptr H.next 0] Hy=some (.int .i64 l):=ze (xc gy) 0;have y1:Op.aa [.ptr H.next 1] Hy=some (.int .i64 c):=ze (xc gy) 1;have el:=hK.l;have ec:=hK.ns
  by_cases qk:(k:Int)<l
  ·have wk:aV .i64 ((k:Int)+1)=((k+1:Nat):Int):=by
    have l64:l<=64:=hok.1.1.2;rw [yw (by omega) (by omega)];omega
   simp only [↓qg,xb,reduceIte,reduceEqDiff,w33,y0,qk,w39,y1];have hs:=q5s (M:=M) hK.r.jS (hK.bb (by omega)) hK.I (i:=k) (by omega);rw [ec] at hs;refine C3.q hs λ v H5 ⟨hv,f5⟩=>?_;rw [hv];simp only [↓qg,xb,reduceIte,reduceEqDiff];simp only [↓qg,xb,reduceIte,reduceEqDiff,w50,wk];exact ⟨_,_,⟨k+1,rfl,rfl,by omega,fy.trans f5 λ _ q=>q.elim⟩,by simp only [↓qg,xb,reduceIte,reduceEqDiff],by omega⟩
  ·simp only [↓qg,xb,reduceIte,reduceEqDiff,w33,y0,qk];simp only [↓qg,xb,reduceIte,reduceEqDiff,w51,wi];exact ⟨_,_,⟨i+1,_,_,_,_,_,_,_,rfl,rfl,by omega,hK⟩,by simp only [↓qg,xb,reduceIte,reduceEqDiff],by omega⟩
 ·simp only [↓qg,xb,reduceIte,reduceEqDiff,w19,hxx.len,q,w52]
end Go.Am
