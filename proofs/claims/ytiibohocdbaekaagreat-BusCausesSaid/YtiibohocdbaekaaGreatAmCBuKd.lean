/- BuKd: BcD BcE. -/
import Derived.Test.YtiibohocdbaekaaGreatAmCBuKc
set_option linter.unusedVariables false
set_option linter.unusedSimpArgs false
set_option linter.unusedSectionVars false
set_option maxRecDepth 100000
open Nat (reduceEqDiff)
namespace Go.Am
open Go.Proofs Ca
open Lang (ints)
variable {M:aA} [MK M]
section
variable {Hb H:AHeap} {B G:Nat} {l c:Int} {i:Nat} {bs:Bs} {own tg:Nat->Nat} {gs:Gs} {b:Bu} {g:Gh} {V:Int->L8}
theorem pK.HB (h:pK Hb H B G l c i bs own gs tg b g V) (hi:i<=1000) (x:Bt):zq M zw [.ptr G 0,.ptr B 0,.agg (cV x)] H λ v H'=>v=.bool (g.bT b x).2 /\ ∃ bs' c7 gs' tg',pK Hb H' B G l c (i+1) bs' c7 gs' tg' (b.step x) (g.oU b x) (if x.k=7 then V else ry b V x)/\(∀ z,ou B bs' G gs' z->ou B bs G gs z\/H.next<=z)/\Fr (ou B bs G gs) H H':=by
 refine (qy1 (M:=M) h.r h.I h.C h.g hi x).mono λ v H' ⟨hv,hp⟩=>⟨hv,?_⟩
 obtain ⟨s2,o2,gs2,t2,h2,sub2,f2⟩:=hp;obtain ⟨z1,z2⟩:=Kb b x;exact ⟨s2,o2,gs2,t2,⟨h2,LV h.I x,Nm h.C x,zP h.I h.g x,by rw [z1];exact h.ns,by rw [z2];exact h.l,h.fr.trans f2 λ z q=>.inr (q.elim (h.r.jL.lo z) (h.r.gh.lo z))⟩,sub2,f2⟩
end
def Sw (c c':Ca):Prop:=c'.cW=c.cW/\c'.ways=c.ways
theorem Sw.trans {a b c:Ca} (h:Sw a b) (h':Sw b c):Sw a c:=⟨h'.1.trans h.1,h'.2.trans h.2⟩
section
variable (c:Ca)
theorem q7k (l st:Int) (d:L8):Sw c (Ca.fill c l st d).1:=by
 unfold Ca.fill;split
 ·exact ⟨rfl,rfl⟩
 ·split<;>exact ⟨rfl,rfl⟩
theorem J5 (l:Int):Sw c (c.drop l).1:=by unfold Ca.drop;split<;>exact ⟨rfl,rfl⟩
theorem q7j (l:Int):Sw c (c.bq l).1:=by unfold Ca.bq;split<;>exact ⟨rfl,rfl⟩
theorem q4i (l:Int) (d:L8):Sw c (c.bH l d):=by unfold Ca.bH;split<;>exact ⟨rfl,rfl⟩
theorem OM (a:Nat):Sw c (c.word a).1:=by unfold Ca.word;split<;>exact ⟨rfl,rfl⟩
theorem uE (a:Nat) (y:Int):Sw c (Ca.put c a y):=by unfold Ca.put;split<;>exact ⟨rfl,rfl⟩
theorem q7m (l:Int) (w:Bool):Sw c (c.mark l w):=by
 unfold Ca.mark;split
 ·split
  ·exact ⟨rfl,rfl⟩
  ·split<;>exact ⟨rfl,rfl⟩
 ·split<;>exact ⟨rfl,rfl⟩
end
section
variable (n:No)
theorem Nk (k l:Int):Sw n.c (n.ask k l).1.c:=by unfold No.ask;split<;>exact ⟨rfl,rfl⟩
theorem q7l (x:En):(n.gone x).1.c=n.c:=by unfold No.gone;split<;>rfl
theorem OY (x:En) (t:Bool):Sw n.c (n.lost x t).c:=by
 unfold No.lost;split
 ·split<;>exact ⟨rfl,rfl⟩
 ·exact ⟨rfl,rfl⟩
theorem q2o (m:Mg) (st:Int):Sw n.c (n.bV m st).1.c:=by
 unfold No.bV;split
 ·rw [q7l];exact q7k ..
 ·exact q7k ..
theorem t9 (m:Mg):Sw n.c (n.fill m).1.c:=by
 unfold No.fill No.fG;generalize (if m.k=15 then (2:Int) else 1)=st;split
 ·exact q2o (n.dO 3) m st
 ·exact q2o ..
theorem Cj (m:Mg):Sw n.c (n.az m).1.c:=by
 unfold No.az;split;· exact ⟨rfl,rfl⟩
 split;· exact (OY ..).trans (J5 ..)
 split
 ·split
  ·exact ⟨rfl,rfl⟩
  ·split
   ·exact (OY ..).trans (q7j ..)
   ·exact (OY ..).trans (J5 ..)
 split;· exact ⟨rfl,rfl⟩
 split
 ·exact q4i ..
 ·exact t9 { n with out:=⟨0,0,0,.zero⟩ } m
theorem tC (l:Int):Sw n.c (n.aH l).1.c:=by
 unfold No.aH;split;· exact ⟨rfl,rfl⟩
 split;· exact ⟨rfl,rfl⟩
 rw [q7l];split
 ·exact J5 (n.dO 4).c l
 ·exact J5 ..
theorem At (x:Bt):Sw n.c (n.call x).1.c:=by
 unfold No.call;split
 ·unfold No.load;split
  ·cases n.c.find (No.ln x.n) with
   | none=>exact Nk ..
   | some _ =>
    show Sw n.c (Ca.word _ _).1;refine Sw.trans ?_ (OM ..);split
    ·exact q7m ..
    ·exact ⟨rfl,rfl⟩
  ·exact ⟨rfl,rfl⟩
 split
 ·unfold No.store;split
  ·split
   ·show Sw n.c (Ca.put _ _ _);refine Sw.trans ?_ (uE ..);split
    ·exact q7m ..
    ·exact ⟨rfl,rfl⟩
   ·exact Nk ..
  ·exact ⟨rfl,rfl⟩
 split
 ·unfold No.fq;split
  ·split
   ·exact ⟨rfl,rfl⟩
   ·split
    ·dsimp only;split
     ·exact (OM ..).trans (uE ..)
     ·exact OM ..
    ·exact Nk ..
  ·exact ⟨rfl,rfl⟩
 split
 ·unfold No.begin;split<;>exact ⟨rfl,rfl⟩
 split
 ·unfold No.bj;split<;>exact ⟨rfl,rfl⟩
 split
 ·unfold No.abort;split
  ·split<;>exact ⟨rfl,rfl⟩
  ·exact ⟨rfl,rfl⟩
 split
 ·exact tC ..
 ·exact ⟨rfl,rfl⟩
end
def zT (b:Bu) (s w:Nat):Prop:=∀ n ∈ b.ns,n.c.cW=s/\n.c.ways=w
theorem zT.set {b:Bu} {s w k:Nat} {n n':No} (h:zT b s w) (hn:b.ns[k]? = some n) (hc:Sw n.c n'.c):∀ z ∈ b.ns.set k n',z.c.cW=s/\z.c.ways=w:=λ z hz=>by
 rcases List.mem_or_eq_of_mem_set hz with hz|rfl
 ·exact h z hz
 ·obtain ⟨a,b⟩:=h n (zg hn);exact ⟨hc.1.trans a,hc.2.trans b⟩
theorem zT.step {b:Bu} {s w:Nat} (h:zT b s w) (x:Bt):zT (b.step x) s w:=by
 unfold Bu.step;split
 ·split
  ·unfold Bu.ti;split
   ·exact h
   ·split
    ·split
     ·exact h
     ·exact h
    ·split
     ·rename_i hz;exact h.set hz (Cj ..)
     ·exact h
  ·exact h
 split
 ·split
  ·exact h
  ·rename_i hz;exact h.set hz (At ..)
 ·exact h
theorem zT.new {l c s w:Int}:zT (dJ l c s w) s.toNat w.toNat:=λ n hn=>by
 obtain ⟨i,hi⟩:=ki hn;obtain ⟨-,rfl⟩:=Fh hi;exact ⟨rfl,rfl⟩
def nU (Hq Hx:AHeap) (b:Bu) (c:Nat) (v:AV):Prop:=(v=.nils\/Hq.next<=aF v) /\ ∃ ys,du ao 21 Hx v ys/\ys.length<=40 /\ ∀ n,b.ns[c]? = some n->ys.Perm (n.c.sl.filter λ e=>e.st != 0)
theorem nU.fr {Hq Hx Hy:AHeap} {b:Bu} {c:Nat} {v:AV} {W:Nat->Prop} (h:nU Hq Hx b c v) (f:Fr W Hx Hy) (hw:∀ z,W z->z<Hq.next):nU Hq Hy b c v:=by
 obtain ⟨h1,ys,h2,h3,h4⟩:=h;refine ⟨h1,ys,?_,h3,h4⟩;rcases h1 with rfl|h1
 ·exact Sl.fr h2 f (.inl (by obtain ⟨_,h⟩:=h2;exact h))
 ·exact Sl.fr h2 f (.inr λ q=>by have:=hw _ q;omega)
theorem EF {b:Bu} {V:Int->L8} (hI:BuI b V) {x:Bt} {m:Mg} {c:Nat} {n n':No} {ys:List En} (hn:b.ns[c]? = some n) (hn':(b.step x).ns[c]? = some n') (hl:n.live=true) (hd:n'.live=false) (h4:¬ (x.k=4/\x.c=c)) (hy:ys.Perm (n.c.sl.filter λ e=>e.st != 0))
 (hm:∀ m',x.k=7->0<=x.n->b.fl[x.n.toNat]? = some m'->m=m'):Cau n.c ys (n.c.ways:Int) x m c n'.code/\n'.code ≠ 0:=by
 have wn:=hI.nw c n hn;rcases vV hI x hn hn' hl hd with ⟨h7,hc,h⟩|⟨m',h7,h0,hm',hc,hl',h⟩
 ·rcases h with ⟨h⟩|⟨h,h0,hk⟩|⟨e,h,hx,hw,hk⟩
  ·exact absurd ⟨h,hc⟩ h4
  ·exact ⟨.told h hc hk,by rw [hk];exact h0⟩
  ·exact ⟨.gone e h hc (qu8 wn.ni.ci hy hx) hw hk,by rw [hk];decide⟩
 ·obtain rfl:=hm m' h7 h0 hm';rcases h with ⟨hk,hr,hc'⟩|⟨e,hk,hx,hw,hc'⟩
  ·exact ⟨.full h7 hc hl' hk (by rw [q52 wn.ni.ci hy hr]) hc',by rw [hc'];decide⟩
  ·refine ⟨.taken e h7 hc hk (qu8 wn.ni.ci hy hx) hw hc',?_⟩;rw [hc'];split<;>decide
end Go.Am
namespace Go.Am
open Go.Proofs Ca
open Lang (ints)
variable {M:aA} [MK M]
theorem nU.sR {Hq Hx Hy:AHeap} {b:Bu} {c:Nat} {v:AV} {W:Nat->Prop} (h:nU Hq Hx b c v) (f:Fr W Hx Hy) (hw:∀ z,W z->Hx.next<=z):nU Hq Hy b c v:=by
 obtain ⟨h1,ys,h2,h3,h4⟩:=h;refine ⟨h1,ys,?_,h3,h4⟩
 by_cases hn:ys.length=0
 ·exact Sl.fr h2 f (.inl hn)
 ·exact Sl.fr h2 f (.inr λ q=>by
   have:=(Sl.at (by decide:0<21) h2 (i:=0) (by omega)).1;have:=hw _ q;omega)
theorem Ii {Hb H0 H:AHeap} {B G S D1 D2 P:Nat} {l c s w:Int} {i:Nat} {bs:Bs} {own tg:Nat->Nat} {gs:Gs} {b:Bu} {g:Gh} {V:Int->L8} {x:Bt} {m:Mg} {vs:List AV} {xv:AV} {xs:List Bt} {E0:Env} {Q:au}
 (hI:pK Hb H B G l c i bs own gs tg b g V) (hi:i<=900) (hsh:zT b s.toNat w.toNat) (hs:0<s) (hw:0<=w) (hxx:du cV 5 Hb xv xs) (hxi:xs[i]? = some x)
 (gS:Hb.get S=some (OR (bo l c s w) yf)) (hS:S<Hb.next)
 (g1:H.get D1=some (OR [.bool (b.lv 0),.bool (b.lv 1),.bool (b.lv 2),.bool (b.lv 3)] mU)) (g2:H.get D2=some (OR vs lg)) (gP:H.get P=some (OR (ai m) qt))
 (l1:D1<H.next /\ ¬ ou B bs G gs D1) (l2:D2<H.next /\ ¬ ou B bs G gs D2) (l3:P<H.next /\ ¬ ou B bs G gs P) (hlo:∀ z,ou B bs G gs z->z<H0.next)
 (hv:∀ j,j<4 -> ∃ v,vs[j]? = some v/\nU H0 H b j v) (hm:∀ m',x.k=7->0<=x.n->b.fl[x.n.toNat]? = some m'->m=m')
 (he:lk E0 13=some (.ptr P 0)/\lk E0 11=some (.ptr D2 0)/\lk E0 10=some (.ptr D1 0)/\lk E0 9=some (.int .i64 (i:Int))/\lk E0 7=some (.ptr G 0)/\lk E0 6=some (.ptr B 0)/\lk E0 5=some (.bool true)/\lk E0 2=some (.ptr S 0)/\lk E0 1=some xv)
 (hQ:∀ (E':Env) (H':AHeap) (bs':Bs) (c7 tg':Nat->Nat) (gs':Gs) (g':Gh) (V':Int->L8),pK Hb H' B G l c (i+1) bs' c7 gs' tg' (b.step x) g' V'->lk E' 9=some (.int .i64 (i:Int))/\lk E' 7=some (.ptr G 0)/\lk E' 6=some (.ptr B 0)/\lk E' 5=some (.bool true)/\lk E' 2=some (.ptr S 0)/\lk E' 1=some xv->Q .normal E' [] H') :
 W M ⟨none,vi⟩ (P0 56) true Q E0 [] H:=by
 obtain ⟨-,-,-,-,-,-,-,-,-,-,-,-,-,w56,-,w62,w68,w85,w76⟩:=qiu M ⟨none,vi⟩;obtain ⟨e13,e11,e10,e9,e7,e6,e5,e2,e1⟩:=he;have hx0:=hxx.em hI.fr;have ix:=hx0.idx hxi (z:=(i:Int)) rfl .i64;have ld:=hx0.aG Gf (by decide) hxi;simp only [↓qd,qp,aa,reduceIte,reduceEqDiff,w56,e7,e6,e1,e9,ix,ld];refine C3.q (hI.HB (M:=M) (by omega) x) λ v H6 ⟨hv',bs6,own6,gs6,tg6,hJ,hsub,f6⟩=>?_;have hbb:=hJ.bb (by omega);have k1:H6.get D1=some (OR [.bool (b.lv 0),.bool (b.lv 1),.bool (b.lv 2),.bool (b.lv 3)] mU):=by rw [f6.ah _ l1.1 l1.2];exact g1
 have k2:H6.get D2=some (OR vs lg):=by rw [f6.ah _ l2.1 l2.2];exact g2
 have k3:H6.get P=some (OR (ai m) qt):=by rw [f6.ah _ l3.1 l3.2];exact gP
 have n6:=f6.next
 simp only [↓qd,qp,aa,reduceIte,reduceEqDiff];refine aR.intro (λ m' E Hz=>∃ (d:Nat),E=[(15,.int .i64 (d:Int)),(13,.ptr P 0),(11,.ptr D2 0),(10,.ptr D1 0),(9,.int .i64 (i:Int)),(7,.ptr G 0),(6,.ptr B 0),(5,.bool true),(2,.ptr S 0),(1,xv)]/\m'=4-d/\d<=4/\Fr Em H6 Hz) ?_ ?_
 ·exact ⟨_,_,⟨0,rfl,rfl,xx _,Fr.refl _⟩,by simp only [↓qd,qp,aa,reduceIte,reduceEqDiff,e13,e11,e10,e9,e7,e6,e5,e2,e1]⟩
 rintro m' E Hz ⟨d,rfl,rfl,hd,fz⟩;have hK:=hJ.em fz
 by_cases q4:(d:Int)<4
 ·have wd:ak .i64 ((d:Int)+1)=((d+1:Nat):Int):=by rw [xm (by omega) (by omega)];omega
  have ix1:Op.bE 4 1 [.ptr D1 0,.int .i64 (d:Int)]=some (.ptr D1 d):=by rw [HM rfl (by omega),A9,jy]
  have ix2:Op.bE 4 1 [.ptr D2 0,.int .i64 (d:Int)]=some (.ptr D2 d):=by rw [HM rfl (by omega),A9,jy]
  have r1:Op.ae [.ptr D1 d] Hz=some (.bool (b.lv d)):=by
   rw [xp (qz (show Hz.get D1=_ by rw [fz.ah _ (by omega) id];exact k1)) d];rcases (show d=0\/d=1\/d=2\/d=3 by omega) with rfl|rfl|rfl|rfl<;>rfl
  have hxz:=hxx.em hK.fr;have jx:=hxz.idx hxi (z:=(i:Int)) rfl .i64;have jk:Op.ae [.ptr (aF xv) (bI 5 xv i)] Hz=some (.int .i64 x.k):=by rw [du.jW (enc:=cV) (size:=5) Gf hxz hxi (by decide)];rfl
  have jc:Op.ae [.ptr (aF xv) (bI 5 xv i+1)] Hz=some (.int .i64 x.c):=by rw [du.ae (enc:=cV) (size:=5) Gf hxz hxi (j:=1) (by decide)];rfl
  have lv':=rq (M:=M) hK.r.jL hbb d;cases h1:b.lv d with
  | false =>
   rw [h1] at r1;simp only [↓qd,qp,aa,reduceIte,reduceEqDiff,w62,q4,w68,ix1,r1,w85,wd];exact ⟨_,_,⟨d+1,rfl,rfl,by omega,fz⟩,by simp only [↓qd,qp,aa,reduceIte,reduceEqDiff],by omega⟩
  | true =>
   rw [h1] at r1;cases h2:(b.step x).lv d with
   | true =>
    simp only [↓qd,qp,aa,reduceIte,reduceEqDiff,w62,q4,w68,ix1,r1];refine C3.q lv' λ v Hy ⟨hv,hh⟩=>?_;rw [hv,hh,h2];simp only [↓qd,qp,aa,reduceIte,reduceEqDiff,w85,wd];exact ⟨_,_,⟨d+1,rfl,rfl,by omega,fz⟩,by simp only [↓qd,qp,aa,reduceIte,reduceEqDiff],by omega⟩
   | false =>
    by_cases q5:x.k=4/\x.c=(d:Int)
    ·rw [q5.1] at jk;rw [q5.2] at jc;simp only [↓qd,qp,aa,reduceIte,reduceEqDiff,w62,q4,w68,ix1,r1];refine C3.q lv' λ v Hy ⟨hv,hh⟩=>?_;rw [hv,hh,h2];simp only [↓qd,qp,aa,reduceIte,reduceEqDiff,jx,jk,jc,w85,wd];exact ⟨_,_,⟨d+1,rfl,rfl,by omega,fz⟩,by simp only [↓qd,qp,aa,reduceIte,reduceEqDiff],by omega⟩
    ·obtain ⟨n,hn,hl⟩:∃ n,b.ns[d]? = some n/\n.live=true:=by
      unfold Bu.lv at h1;cases hn:b.ns[d]? with
      | none=>rw [hn] at h1;cases h1
      | some n=>rw [hn] at h1;exact ⟨n,rfl,h1⟩
     obtain ⟨n',hn',hl'⟩:∃ n',(b.step x).ns[d]? = some n'/\n'.live=false:=by
      unfold Bu.lv at h2;cases hn':(b.step x).ns[d]? with
      | none =>
       have:=List.getElem?_eq_none_iff.1 hn';have:=(Kb b x).1;have:=(qe.1 hn).1;omega
      | some n'=>rw [hn'] at h2;exact ⟨n',rfl,h2⟩
     obtain ⟨u,hu,hw'⟩:=hv d (by omega);obtain ⟨-,ys,y1,y2,y3⟩:=(hw'.fr f6 hlo).fr fz λ _ q=>q.elim;have pm:=y3 n hn;obtain ⟨sh1,sh2⟩:=hsh n (zg hn);obtain ⟨hc,hk0⟩:=EF hI.I hn hn' hl hl' q5 pm hm;rw [sh2,show ((w.toNat:Nat):Int)=w by omega] at hc;have y0:∀ y ∈ ys,0<=y.line:=λ y hy=>by
      have h2:=pm.mem_iff.1 hy;rw [va] at h2;obtain ⟨j,hj⟩:=ki h2.1;obtain ⟨a,b'⟩:=yA hj;have:=((hI.I.nw d n hn).ni.ci.ok j b' (by rw [a];simpa using h2.2)).2.1;rw [a] at this;exact this
     have r2:Op.ae [.ptr D2 d] Hz=some u:=by rw [xp (qz (show Hz.get D2=_ by rw [fz.ah _ (by omega) id];exact k2)) d,hu]
     have r3:Op.aG 11 [.ptr P 0] Hz=some (.agg (ai m)):=fU (show Hz.get P=_ by rw [fz.ah _ (by omega) id];exact k3) (xq m);have r4:Op.aG 4 [.ptr S 0] Hz=some (.agg (bo l c s w)):=fU (show Hz.get S=_ by rw [hK.fr.ah _ hS id];exact gS) rfl;have r5:=hxz.aG Gf (by decide) hxi;have cs:=q3d (M:=M) (l:=l) (co:=c) (s:=s) y1 y2 hs sh1 y0 hc;have q5':∀ {Q':Prop},(¬ x.k=4->Q')->(x.k=4 -> ¬ x.c=(d:Int)->Q')->Q':=λ a1 a2=>by
      by_cases z:x.k=4
      ·exact a2 z λ z'=>q5 ⟨z,z'⟩
      ·exact a1 z
     have tail:∀ (Q':au),(∀ (E':Env) (Hy:AHeap),Fr Em H6 Hy->kW [(15,.int .i64 (d:Int)),(13,.ptr P 0),(11,.ptr D2 0),(10,.ptr D1 0),(9,.int .i64 (i:Int)),(7,.ptr G 0),(6,.ptr B 0),(5,.bool true),(2,.ptr S 0),(1,xv)] E'->Q' .normal E' [] Hy) ->
      W M ⟨none,vi⟩ (P0 76) true Q' [(15,.int .i64 (d:Int)),(13,.ptr P 0),(11,.ptr D2 0),(10,.ptr D1 0),(9,.int .i64 (i:Int)),(7,.ptr G 0),(6,.ptr B 0),(5,.bool true),(2,.ptr S 0),(1,xv)] [] Hz:=λ Q' hq=>by
      simp only [↓qd,qp,aa,reduceIte,reduceEqDiff,w76,jx,r5,r3,ix2,r2,r4];refine C3.q cs λ v Hy ⟨hv1,fy⟩=>?_;rw [hv1];simp only [↓qd,qp,aa,reduceIte,reduceEqDiff,hk0];refine C3.q (q4m (M:=M) (hK.em fy).r.jL hbb hn') λ v Hw ⟨hv2,hh⟩=>?_;rw [hv2,hh];simp only [↓qd,qp,aa,reduceIte,reduceEqDiff,ne_eq];exact hq _ _ (fz.trans fy λ _ q=>q.elim) (by simp only [↓qd,qp,aa,reduceIte,reduceEqDiff])
     refine q5' (λ z=>?_) λ z z'=>?_
     ·simp only [↓qd,qp,aa,reduceIte,reduceEqDiff,w62,q4,w68,ix1,r1];refine C3.q lv' λ v Hy ⟨hv,hh⟩=>?_;rw [hv,hh,h2];simp only [↓qd,qp,aa,reduceIte,reduceEqDiff,jx,jk,z];refine tail _ λ E' Hy fy hsub=>?_;obtain ⟨a15,a13,a11,a10,a9,a7,a6,a5,a2,a1,-⟩:=hsub;simp only [↓qd,qp,aa,reduceIte,reduceEqDiff,w85,a15,wd];exact ⟨_,_,⟨d+1,rfl,rfl,by omega,fy⟩,by simp only [↓qd,qp,aa,reduceIte,reduceEqDiff,a13,a11,a10,a9,a7,a6,a5,a2,a1],by omega⟩
     ·rw [z] at jk;simp only [↓qd,qp,aa,reduceIte,reduceEqDiff,w62,q4,w68,ix1,r1];refine C3.q lv' λ v Hy ⟨hv,hh⟩=>?_;rw [hv,hh,h2];simp only [↓qd,qp,aa,reduceIte,reduceEqDiff,jx,jk,jc,z'];refine tail _ λ E' Hy fy hsub=>?_;obtain ⟨a15,a13,a11,a10,a9,a7,a6,a5,a2,a1,-⟩:=hsub;simp only [↓qd,qp,aa,reduceIte,reduceEqDiff,w85,a15,wd];exact ⟨_,_,⟨d+1,rfl,rfl,by omega,fy⟩,by simp only [↓qd,qp,aa,reduceIte,reduceEqDiff,a13,a11,a10,a9,a7,a6,a5,a2,a1],by omega⟩
 ·simp only [↓qd,qp,aa,reduceIte,reduceEqDiff,w62,q4];exact hQ _ _ _ _ _ _ _ _ hK (by refine ⟨?_,?_,?_,?_,?_,?_⟩<;>simp only [↓qd,qp,aa,reduceIte,reduceEqDiff])
theorem qvn {H:AHeap} {l c s w:Int} {xv:AV} {xs:List Bt} (hal:∀ H1,Fr Em H H1->zq M qvp [] H1 λ v H'=>v=.bool true/\H'=H1) (hx:du cV 5 H xv xs):zq M vi [.agg (bo l c s w),xv] H λ v _=>v=.bool true:=by
 refine qon ?_;obtain ⟨w0,w4,w6,w14,w87,w19,w25,w86,w31,w46,w36,w50,w42,w56,w45,w62,w68,w85,w76⟩:=qiu M ⟨none,vi⟩;obtain ⟨H1,e1⟩:∃ X,X=H.alloc (OR (bo l c s w) yf):=⟨_,rfl⟩
 have f1:Fr Em H H1:=by rw [e1];exact (Fr.refl H).alloc _
 have n1:H1.next=H.next+1:=by rw [e1,xd]
 have g1:H1.get H.next=some (OR (bo l c s w) yf):=by rw [e1,qw]
 have ld4:Op.aG 4 [.ptr H.next 0] H1=some (.agg (bo l c s w)):=fU g1 rfl;have hx1:=hx.em f1;simp only [↓qd,qp,aa,reduceIte,reduceEqDiff,w0,xk,<-e1];refine C3.q (hal H1 f1) λ v H2 ⟨hv,hh⟩=>?_;rw [hv,hh];simp only [↓qd,qp,aa,reduceIte,reduceEqDiff,w4,ld4];refine C3.q (q26 (M:=M) l c s w hx1) λ v H3 hv=>?_;rcases Au hv with ⟨_,hv⟩|⟨⟨hok,hn⟩,B,G,bs,own,gs,tg,hv,hz⟩
 ·rw [hv];simp only [↓qd,qp,aa,reduceIte,reduceEqDiff,qn,w6]
 rw [hv];simp only [↓qd,qp,aa,reduceIte,reduceEqDiff,qn,w6,w14];refine aR.intro (λ m E Hx=>∃ (i:Nat) (bs:Bs) (own tg:Nat->Nat) (gs:Gs) (b:Bu) (g:Gh) (V:Int->L8),E=[(9,.int .i64 (i:Int)),(7,.ptr G 0),(6,.ptr B 0),(5,.bool true),(2,.ptr H.next 0),(1,xv)]/\m=xs.length-i/\i<=xs.length/\pK H1 Hx B G l c i bs own gs tg b g V/\zT b s.toNat w.toNat) ?_ ?_
 ·exact ⟨_,_,⟨0,_,_,_,_,_,_,_,rfl,rfl,xx _,hz,zT.new⟩,by simp only [↓qd,qp,aa,reduceIte,reduceEqDiff]⟩
 rintro m E Hx ⟨i,bs,own,tg,gs,b,g,V,rfl,rfl,hi,hI,hsh⟩;have hxx:=hx1.em hI.fr
 by_cases q:(i:Int)<((xs.length:Nat):Int)
 ·obtain ⟨x,hxi⟩:∃ x,xs[i]? = some x:=⟨_,qy (by omega)⟩
  have wi:ak .i64 ((i:Int)+1)=((i+1:Nat):Int):=by rw [xm (by omega) (by omega)];omega
  have hbb:=hI.bb (by omega);have lv:=λ (k:Nat)=>rq (M:=M) hI.r.jL hbb k;simp only [↓qd,qp,aa,reduceIte,reduceEqDiff,w19,hxx.len,q,w25];refine C3.q (show zq M Dm [.ptr B 0,.int .i64 0] Hx _ from lv 0) λ v Hy ⟨hv,hh⟩=>?_;rw [hv,hh];simp only [↓qd,qp,aa,reduceIte,reduceEqDiff];refine C3.q (show zq M Dm [.ptr B 0,.int .i64 1] Hx _ from lv 1) λ v Hy ⟨hv,hh⟩=>?_;rw [hv,hh];simp only [↓qd,qp,aa,reduceIte,reduceEqDiff];refine C3.q (show zq M Dm [.ptr B 0,.int .i64 2] Hx _ from lv 2) λ v Hy ⟨hv,hh⟩=>?_;rw [hv,hh];simp only [↓qd,qp,aa,reduceIte,reduceEqDiff];refine C3.q (show zq M Dm [.ptr B 0,.int .i64 3] Hx _ from lv 3) λ v Hy ⟨hv,hh⟩=>?_;rw [hv,hh];have bd:Op.build [.bool false,.bool false,.bool false,.bool false] [(0,1),(1,1),(2,1),(3,1)] [.bool (b.lv 0),.bool (b.lv 1),.bool (b.lv 2),.bool (b.lv 3)]=some (.agg [.bool (b.lv 0),.bool (b.lv 1),.bool (b.lv 2),.bool (b.lv 3)]):=rfl;obtain ⟨H4,e4⟩:∃ X,X=Hx.alloc (OR [.bool false,.bool false,.bool false,.bool false] mU):=⟨_,rfl⟩
  have n4:H4.next=Hx.next+1:=by rw [e4,xd]
  have f4:Fr Em Hx H4:=by rw [e4];exact (Fr.refl Hx).alloc _
  have st4:=iH (n:=4) (x:=[.bool (b.lv 0),.bool (b.lv 1),.bool (b.lv 2),.bool (b.lv 3)]) (show H4.get Hx.next=some (OR [.bool false,.bool false,.bool false,.bool false] mU) by rw [e4,qw]) rfl rfl rfl;obtain ⟨H5,e5⟩:∃ X,X=H4.set Hx.next (OR [.bool (b.lv 0),.bool (b.lv 1),.bool (b.lv 2),.bool (b.lv 3)] mU):=⟨_,rfl⟩
  rw [<-e5] at st4;have n5:H5.next=H4.next:=by rw [e5];rfl
  have f5:Fr Em Hx H5:=by rw [e5];exact f4.set (.inr (qf _)) _
  have g5:H5.get Hx.next=some (OR [.bool (b.lv 0),.bool (b.lv 1),.bool (b.lv 2),.bool (b.lv 3)] mU):=by rw [e5,xb]
  obtain ⟨H6,e6⟩:∃ X,X=H5.alloc (OR [.nils,.nils,.nils,.nils] lg):=⟨_,rfl⟩
  have n6:H6.next=H5.next+1:=by rw [e6,xd]
  have f56:Fr Em H5 H6:=by rw [e6];exact (Fr.refl H5).alloc _
  have f6:Fr Em Hx H6:=f5.trans f56 λ _ q=>q.elim;have g6:H6.get H5.next=some (OR [.nils,.nils,.nils,.nils] lg):=by rw [e6,qw]
  have bk:∀ {Hy:AHeap},Fr (On H5.next) H6 Hy->Fr Em Hx Hy:=λ f=>f6.trans f λ y (q:y=H5.next)=>.inr (by omega);simp only [↓qd,qp,aa,reduceIte,reduceEqDiff,bd,<-e4,st4,<-e6,w31];refine aR.intro (λ m E Hy=>∃ (j:Nat) (vs:List AV),E=[(12,.int .i64 (j:Int)),(11,.ptr H5.next 0),(10,.ptr Hx.next 0),(9,.int .i64 (i:Int)),(7,.ptr G 0),(6,.ptr B 0),(5,.bool true),(2,.ptr H.next 0),(1,xv)]/\m=4-j/\j<=4/\Fr (On H5.next) H6 Hy/\Hy.get H5.next=some (OR vs lg)/\vs.length=4 /\ ∀ j',j'<j -> ∃ v,vs[j']? = some v/\nU H6 Hy b j' v) ?_ ?_
  ·exact ⟨_,_,⟨0,_,rfl,rfl,xx _,Fr.refl _,g6,rfl,λ _ q=>absurd q (Nat.not_lt_zero _)⟩,by simp only [↓qd,qp,aa,reduceIte,reduceEqDiff]⟩
  rintro m E Hy ⟨j,vs,rfl,rfl,hj,fy,gy,vl,hv⟩
  by_cases q4:(j:Int)<4
  ·have wj:ak .i64 ((j:Int)+1)=((j+1:Nat):Int):=by rw [xm (by omega) (by omega)];omega
   simp only [↓qd,qp,aa,reduceIte,reduceEqDiff,w36,q4,w42];refine C3.q (qxt (M:=M) (hI.em (bk fy)).r.jL hbb j) λ v H7 ⟨f7,he1,ys,he2,he3,he4⟩=>?_;have g7:H7.get H5.next=some (OR vs lg):=by rw [f7.ah _ (by have:=fy.next;omega) id];exact gy
   have ix:Op.bE 4 1 [.ptr H5.next 0,.int .i64 (j:Int)]=some (.ptr H5.next j):=by rw [HM rfl (by omega),A9,jy]
   have o1:aT v=true:=Sl.one he2;have hc:v.cells=[v]:=by cases v<;>first|rfl|cases o1
   have st:=oS g7 (o:=j) (n:=1) (v:=v) (by rw [hc];rfl) (by omega) (by rw [hc,oQ];simpa using o1);have es:vs.take j++v.cells++vs.drop (j+1)=vs.set j v:=by
    rw [hc,vx,ql (by omega)];simp
   rw [es] at st;obtain ⟨H8,e8⟩:∃ X,X=H7.set H5.next (OR (vs.set j v) lg):=⟨_,rfl⟩
   rw [<-e8] at st;have f8:Fr (On H5.next) H7 H8:=by rw [e8];exact (Fr.refl H7).set (W:=On H5.next) (.inl rfl) _
   have fy8:Fr (On H5.next) H6 H8:=(fy.em f7).trans f8 λ _ q=>.inl q;have n7:=f7.next
   have ny:=fy.next
   simp only [↓qd,qp,aa,reduceIte,reduceEqDiff,ix,st,w45,wj];refine ⟨_,_,⟨j+1,vs.set j v,rfl,rfl,by omega,fy8,by rw [e8,xb],by rw [qv];exact vl,λ j' hj'=>?_⟩,by simp only [↓qd,qp,aa,reduceIte,reduceEqDiff],by omega⟩
   by_cases e:j'=j
   ·subst e;exact ⟨v,qu (by omega),nU.fr (W:=On H5.next) ⟨he1.imp id λ z=>by omega,ys,he2,he3,he4⟩ f8 λ z (q:z=H5.next)=>by omega⟩
   ·obtain ⟨u,hu,hw⟩:=hv j' (by omega);exact ⟨u,by rw [qm (by omega)];exact hu,(hw.fr f7 λ _ q=>q.elim).fr f8 λ z (q:z=H5.next)=>by omega⟩
  have ej:j=4:=by omega
  subst ej;have n4y:=fy.next
  have hIy:=hI.em (bk fy);have bdm:Op.build (ai ⟨0,0,0,.zero⟩) [(1,1)] [.int .i64 (-1)]=some (.agg (ai ⟨0,-1,0,.zero⟩)):=rfl;obtain ⟨Ha,ea⟩:∃ X,X=Hy.alloc (OR (ai ⟨0,0,0,.zero⟩) qt):=⟨_,rfl⟩
  have na:Ha.next=Hy.next+1:=by rw [ea,xd]
  have fa:Fr Em Hy Ha:=by rw [ea];exact (Fr.refl Hy).alloc _
  have sta:=iH (show Ha.get Hy.next=some (OR (ai ⟨0,0,0,.zero⟩) qt) by rw [ea,qw]) (xq _) (xq ⟨0,-1,0,.zero⟩) (vk _);obtain ⟨Hc,ec⟩:∃ X,X=Ha.set Hy.next (OR (ai ⟨0,-1,0,.zero⟩) qt):=⟨_,rfl⟩
  rw [<-ec] at sta;have nc:Hc.next=Ha.next:=by rw [ec];rfl
  have fc:Fr Em Hy Hc:=by rw [ec];exact fa.set (.inr (qf _)) _
  have gc:Hc.get Hy.next=some (OR (ai ⟨0,-1,0,.zero⟩) qt):=by rw [ec,xb]
  simp only [↓qd,qp,aa,reduceIte,reduceEqDiff,w36,q4,w46,mZ,bdm,<-ea,sta];refine C3.q (qzt (M:=M) (hIy.em fc).r.jL hbb) λ fv Hd hfl=>?_;obtain ⟨⟨⟨l0,l1⟩,c0,c1⟩,hss⟩:=id hok;have hs0:0<s/\0<=w:=by unfold mF at hss;omega
  have low:=λ z (q:ou B bs G gs z)=>hI.r.low q;have fin:∀ (He:AHeap) (m:Mg) (E0:Env) (Q:au),Fr (On Hy.next) Hd He->He.get Hy.next=some (OR (ai m) qt)->(∀ m',x.k=7->0<=x.n->b.fl[x.n.toNat]? = some m'->m=m') ->
   (lk E0 13=some (.ptr Hy.next 0)/\lk E0 11=some (.ptr H5.next 0)/\lk E0 10=some (.ptr Hx.next 0)/\lk E0 9=some (.int .i64 (i:Int))/\lk E0 7=some (.ptr G 0)/\lk E0 6=some (.ptr B 0)/\lk E0 5=some (.bool true)/\lk E0 2=some (.ptr H.next 0)/\lk E0 1=some xv) ->
   (∀ (E':Env) (H':AHeap) (bs':Bs) (c7 tg':Nat->Nat) (gs':Gs) (g':Gh) (V':Int->L8),pK H1 H' B G l c (i+1) bs' c7 gs' tg' (b.step x) g' V'->lk E' 9=some (.int .i64 (i:Int))/\lk E' 7=some (.ptr G 0)/\lk E' 6=some (.ptr B 0)/\lk E' 5=some (.bool true)/\lk E' 2=some (.ptr H.next 0)/\lk E' 1=some xv->Q .normal E' [] H') ->
   W M ⟨none,vi⟩ (P0 56) true Q E0 [] He:=λ He m E0 Q fe gm hm hl hq=>by
   have fye:Fr (On Hy.next) Hy He:=(fc.trans hfl.fr λ _ q=>q.elim).mono (λ _ _ q=>q.elim) |>.trans fe λ _ q=>.inl q;have ne:=fye.next
   have fxe:Fr Em Hx He:=(bk fy).trans fye λ y (q:y=Hy.next)=>.inr (by omega);have k1:He.get Hx.next=some (OR [.bool (b.lv 0),.bool (b.lv 1),.bool (b.lv 2),.bool (b.lv 3)] mU):=by
    rw [fye.ah _ (by omega) (λ (q:Hx.next=Hy.next)=>by omega),fy.ah _ (by omega) (λ (q:Hx.next=H5.next)=>by omega),f56.ah _ (by omega) id];exact g5
   have k2:He.get H5.next=some (OR vs lg):=by rw [fye.ah _ (by omega) (λ (q:H5.next=Hy.next)=>by omega)];exact gy
   have ltP:Hy.next<He.next:=by have:=fe.next;have:=hfl.fr.next;omega
   exact Ii (H0:=H6) (hI.em fxe) (by omega) hsh hs0.1 hs0.2 hx1 hxi g1 (by omega) k1 k2 gm ⟨by omega,λ q=>by have:=low _ q;omega⟩ ⟨by omega,λ q=>by have:=low _ q;omega⟩ ⟨ltP,λ q=>by have:=low _ q;omega⟩ (λ z q=>by have:=low _ q;omega) (λ j hj=>by
    obtain ⟨u,h1,h2⟩:=hv j hj;exact ⟨u,h1,h2.sR fye λ z (q:z=Hy.next)=>by omega⟩) hm hl hq
  have hxd:=hx1.em (((hI.em (bk fy)).fr.trans fc λ _ q=>q.elim).trans hfl.fr λ _ q=>q.elim);have jx:=hxd.idx hxi (z:=(i:Int)) rfl .i64;have jk:Op.ae [.ptr (aF xv) (bI 5 xv i)] Hd=some (.int .i64 x.k):=by rw [du.jW (enc:=cV) (size:=5) Gf hxd hxi (by decide)];rfl
  have jn:Op.ae [.ptr (aF xv) (bI 5 xv i+2)] Hd=some (.int .i64 x.n):=by rw [du.ae (enc:=cV) (size:=5) Gf hxd hxi (j:=2) (by decide)];rfl
  have hln:=hfl.sl.len;have gd:Hd.get Hy.next=some (OR (ai ⟨0,-1,0,.zero⟩) qt):=by rw [hfl.fr.ah _ (by omega) id];exact gc
  simp only [↓qd,qp,aa,reduceIte,reduceEqDiff]
  by_cases k7:x.k=7
  ·by_cases n0:0<=x.n
   ·by_cases nl:x.n<((b.fl.length:Nat):Int)
    ·obtain ⟨m,hm⟩:∃ m,b.fl[x.n.toNat]? = some m:=⟨_,qy (by omega)⟩
     have ixm:=hfl.sl.idx hm (z:=x.n) (by omega) .i64;have ldm:=hfl.sl.aG xq (by decide) hm;have stm:=iH gd (xq _) (xq m) (vk _);rw [k7] at jk;simp only [↓qd,qp,aa,reduceIte,reduceEqDiff,w50,jx,jk,jn,n0,hln,nl,ixm,ldm,stm];refine fin _ m _ _ ((Fr.refl Hd).set (W:=On Hy.next) (.inl rfl) _) (xb ..) (λ m' _ _ q=>by rw [hm] at q;injection q) (by refine ⟨?_,?_,?_,?_,?_,?_,?_,?_,?_⟩<;>simp only [↓qd,qp,aa,reduceIte,reduceEqDiff]) λ E' H' bs' c7 tg' gs' g' V' hK ⟨a9,a7,a6,a5,a2,a1⟩=>?_;simp only [↓qd,qp,aa,reduceIte,reduceEqDiff,w86,a9,wi];exact ⟨_,_,⟨i+1,bs',c7,tg',gs',_,g',V',rfl,rfl,by omega,hK,hsh.step x⟩,by simp only [↓qd,qp,aa,reduceIte,reduceEqDiff,a7,a6,a5,a2,a1],by omega⟩
    ·rw [k7] at jk;simp only [↓qd,qp,aa,reduceIte,reduceEqDiff,w50,jx,jk,jn,n0,hln,nl];refine fin _ ⟨0,-1,0,.zero⟩ _ _ (Fr.refl _) gd (λ m' h7 h0 q=>absurd (qe.1 q).1 (by omega)) (by refine ⟨?_,?_,?_,?_,?_,?_,?_,?_,?_⟩<;>simp only [↓qd,qp,aa,reduceIte,reduceEqDiff]) λ E' H' bs' c7 tg' gs' g' V' hK ⟨a9,a7,a6,a5,a2,a1⟩=>?_;simp only [↓qd,qp,aa,reduceIte,reduceEqDiff,w86,a9,wi];exact ⟨_,_,⟨i+1,bs',c7,tg',gs',_,g',V',rfl,rfl,by omega,hK,hsh.step x⟩,by simp only [↓qd,qp,aa,reduceIte,reduceEqDiff,a7,a6,a5,a2,a1],by omega⟩
   ·rw [k7] at jk;simp only [↓qd,qp,aa,reduceIte,reduceEqDiff,w50,jx,jk,jn,n0];refine fin _ ⟨0,-1,0,.zero⟩ _ _ (Fr.refl _) gd (λ m' h7 h0 q=>absurd (qe.1 q).1 (by omega)) (by refine ⟨?_,?_,?_,?_,?_,?_,?_,?_,?_⟩<;>simp only [↓qd,qp,aa,reduceIte,reduceEqDiff]) λ E' H' bs' c7 tg' gs' g' V' hK ⟨a9,a7,a6,a5,a2,a1⟩=>?_;simp only [↓qd,qp,aa,reduceIte,reduceEqDiff,w86,a9,wi];exact ⟨_,_,⟨i+1,bs',c7,tg',gs',_,g',V',rfl,rfl,by omega,hK,hsh.step x⟩,by simp only [↓qd,qp,aa,reduceIte,reduceEqDiff,a7,a6,a5,a2,a1],by omega⟩
  ·simp only [↓qd,qp,aa,reduceIte,reduceEqDiff,w50,jx,jk,k7];refine fin _ ⟨0,-1,0,.zero⟩ _ _ (Fr.refl _) gd (λ m' h7 h0 q=>absurd (qe.1 q).1 (by omega)) (by refine ⟨?_,?_,?_,?_,?_,?_,?_,?_,?_⟩<;>simp only [↓qd,qp,aa,reduceIte,reduceEqDiff]) λ E' H' bs' c7 tg' gs' g' V' hK ⟨a9,a7,a6,a5,a2,a1⟩=>?_;simp only [↓qd,qp,aa,reduceIte,reduceEqDiff,w86,a9,wi];exact ⟨_,_,⟨i+1,bs',c7,tg',gs',_,g',V',rfl,rfl,by omega,hK,hsh.step x⟩,by simp only [↓qd,qp,aa,reduceIte,reduceEqDiff,a7,a6,a5,a2,a1],by omega⟩
 ·simp only [↓qd,qp,aa,reduceIte,reduceEqDiff,w19,hxx.len,q,w87]
end Go.Am
