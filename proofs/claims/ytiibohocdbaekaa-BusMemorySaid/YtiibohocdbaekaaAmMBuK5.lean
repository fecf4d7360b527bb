/- BuK5: DiA DiB DiC DiD DiE. -/
import Derived.Test.YtiibohocdbaekaaAmMCodeK
import Derived.Test.YtiibohocdbaekaaAmMNmKa
import Derived.Test.YtiibohocdbaekaaAmMBuK1
import Derived.Test.YtiibohocdbaekaaAmMBuK4
import Derived.Test.YtiibohocdbaekaaAmMNmK0
set_option linter.unusedVariables false
set_option linter.unusedSimpArgs false
set_option linter.unusedSectionVars false
set_option maxRecDepth 100000
open Nat (reduceEqDiff)
namespace Go.Am
open Go.Proofs Ca
variable {M:aL} [MK M]
structure wD (H:AHeap) (mp:Nat) (lv:AV) (ws:List L8):Prop where
 row:H.get mp=some (OR [lv] Jr)
 lt:mp<H.next
 ls:dp bS zf 8 H lv ws
 ne:mp ≠ aN lv
 le:ws.length<=64
section
variable {H:AHeap} {mp:Nat} {lv:AV} {ws:List L8}
theorem wD.fr {H':AHeap} {W:Nat->Prop} (h:wD H mp lv ws) (f:Fr W H H') (h1:¬ W mp) (h2:¬ W (aN lv)):wD H' mp lv ws:=⟨by rw [f.ae _ h.lt h1];exact h.row,qp h.lt f.next,h.ls.fr f h2,h.ne,h.le⟩
theorem qwk (h:wD H mp lv ws) {n:Int} (h0:0<=n) (h1:n<ws.length):jx M Bc [.ptr mp 0,.int .i64 n] H λ v H'=>v=.tuple [.ptr (aN lv) (cr 8 lv n.toNat),.int .i64 0]/\H'=H:=by
 have hl:Op.aa [.ptr mp 0] H=some lv:=ze (xb h.row) 0;have hn:=(h.ls.sl ku).len;have q0:¬ n<0:=by omega
 have q1:¬ ((ws.length:Nat):Int)<=n:=by omega
 have hx:ws[n.toNat]? = some (ws[n.toNat]'(by omega)):=qz (by omega);have ix:Op.aP 8 [lv,.int .i64 n]=some (.ptr (aN lv) (cr 8 lv n.toNat)):=(h.ls.sl ku).idx hx (by omega) .i64;refine q17 ?_;obtain ⟨w0,w2,w17⟩:=q18 M ⟨none,Bc⟩;simp only [↓qi,xd,reduceIte,reduceEqDiff,w0,w2,yh,q0,qg,hl,hn,q1,w17,ix]
theorem qqq (h:wD H mp lv ws) {n:Int} {w:L8} (h0:0<=n) (hw:ws[n.toNat]? = some w):jx M BT [.ptr mp 0,.int .i64 n] H λ v H'=>v=.tuple [.agg (bS w),.int .i64 0]/\Fr Em H H':=by
 have hlt:=(qj.1 hw).1;refine qx4 ?_;obtain ⟨w0,w4,w12⟩:=qx5 M ⟨none,BT⟩;obtain ⟨H1,e1⟩:∃ X,X=H.alloc (OR (bS .zero) zf):=⟨_,rfl⟩
 have f1:Fr Em H H1:=by rw [e1];exact (Fr.refl H).alloc _
 have g1:H1.get H.next=some (OR (bS .zero) zf):=by rw [e1,qy]
 simp only [↓qi,xd,reduceIte,reduceEqDiff,w0,lZ,<-e1];refine C3.q (qwk (M:=M) (h.fr f1 id id) h0 (by omega)) λ v H2 ⟨hv,hh⟩=>?_;rw [hv,hh];have ld:Op.ao 8 [.ptr (aN lv) (cr 8 lv n.toNat)] H1=some (.agg (bS w)):=((h.fr f1 id id).ls.sl ku).ao ku (by decide) hw;have st:=fG g1 (ku _) (ku w) (nN w);have hg:(H1.set H.next (OR (bS w) zf)).get H.next=some (OR (bS w) zf):=xe ..
 have ln:=fm hg (ku w);simp only [↓qi,xd,reduceIte,reduceEqDiff,qr,w4,w12,qg,ld,st,ln];exact f1.set (.inr (qh _)) _
theorem qs0 (h:wD H mp lv ws) {n:Int} (h0:0<=n) (h1:n<ws.length) (x:L8):jx M AM [.ptr mp 0,.int .i64 n,.agg (bS x)] H λ v H'=>v=.int .i64 0/\wD H' mp lv (ws.set n.toNat x)/\Fr (On (aN lv)) H H':=by
 refine q0b ?_;obtain ⟨w0,w4,w10⟩:=q0c M ⟨none,AM⟩;obtain ⟨H1,e1⟩:∃ X,X=H.alloc (OR (bS x) zf):=⟨_,rfl⟩
 have f1:Fr Em H H1:=by rw [e1];exact (Fr.refl H).alloc _
 have g1:H1.get H.next=some (OR (bS x) zf):=by rw [e1,qy]
 have hm:=h.fr f1 id id;simp only [↓qi,xd,reduceIte,reduceEqDiff,w0,x9,<-e1];refine C3.q (qwk (M:=M) hm h0 h1) λ v H2 ⟨hv,hh⟩=>?_;rw [hv,hh];have ln:=fm g1 (ku x);have hx:ws[n.toNat]? = some (ws[n.toNat]'(by omega)):=qz (by omega);obtain ⟨H3,st,r3,f3⟩:=hm.ls.HZ ku nN hx x;simp only [↓qi,xd,reduceIte,reduceEqDiff,qr,w4,ln,qg,st,w10];exact ⟨⟨by rw [f3.ae _ hm.lt (λ q=>hm.ne q)];exact hm.row,qp hm.lt f3.next,r3,h.ne,by rw [xc];exact h.le⟩,(f1.mono λ _ _ q=>q.elim).trans f3 λ _ q=>.inl q⟩
end
end Go.Am
namespace Go.Am
open Go.Proofs Ca
variable {M:aL} [MK M]
abbrev uB (s:Nat):AV:=.int .u8 (s:Int)
theorem Gn {c:Int} (c0:0<=c) (c1:c<4):Op.bin .shl [.int .u8 1,.int .i64 c]=some (uB (2 ^ c.toNat)):=by
 rcases four c0 c1 with rfl|rfl|rfl|rfl<;>rfl
theorem EG {s:Nat} (h:s<16):s=0\/s=1\/s=2\/s=3\/s=4\/s=5\/s=6\/s=7\/s=8\/s=9\/s=10\/s=11\/s=12\/s=13\/s=14\/s=15:=by omega
theorem Mn {s:Nat} (hs:s<16) {c:Int} (c0:0<=c) (c1:c<4):Op.bin .andNot [uB s,uB (2 ^ c.toNat)]=some (uB (bc s c)):=by
 rcases four c0 c1 with rfl|rfl|rfl|rfl<;>rcases EG hs with rfl|rfl|rfl|rfl|rfl|rfl|rfl|rfl|rfl|rfl|rfl|rfl|rfl|rfl|rfl|rfl<;>rfl
theorem q72 {s:Nat} (hs:s<16) {c:Int} (c0:0<=c) (c1:c<4):Op.bin .or [uB s,uB (2 ^ c.toNat)]=some (uB (ij s c)):=by
 rcases four c0 c1 with rfl|rfl|rfl|rfl<;>rcases EG hs with rfl|rfl|rfl|rfl|rfl|rfl|rfl|rfl|rfl|rfl|rfl|rfl|rfl|rfl|rfl|rfl<;>rfl
theorem q73 {s:Nat} (hs:s<16) {c:Int} (c0:0<=c) (c1:c<4):Op.bin .and [uB s,uB (2 ^ c.toNat)]=some (uB (hb s c*2 ^ c.toNat)):=by
 rcases four c0 c1 with rfl|rfl|rfl|rfl<;>rcases EG hs with rfl|rfl|rfl|rfl|rfl|rfl|rfl|rfl|rfl|rfl|rfl|rfl|rfl|rfl|rfl|rfl<;>rfl
def dN (p:De × AV):List AV:=.int .i64 p.1.ow::uB p.1.sh::(ai p.1.un ++ [.int .i64 p.1.ph,uB p.1.ask,p.2])
theorem rD (p:De × AV):(dN p).length=16:=by simp [dN,za]
theorem xV (p:De × AV):(dN p)[0]? = some (.int .i64 p.1.ow)/\(dN p)[1]? = some (uB p.1.sh)/\(dN p)[2]? = some (.int .i64 p.1.un.k)/\(dN p)[3]? = some (.int .i64 p.1.un.core)/\(dN p)[4]? = some (.int .i64 p.1.un.line)/\(dN p)[13]? = some (.int .i64 p.1.ph)/\(dN p)[14]? = some (uB p.1.ask)/\(dN p)[15]? = some p.2/\((dN p).drop 2).take 11=ai p.1.un:=by
 obtain ⟨⟨ow,sh,⟨k,co,li,⟨d,hd⟩⟩,ph,ask,wt⟩,a⟩:=p
 match d,hd with
 | [_,_,_,_,_,_,_,_],_=>exact ⟨rfl,rfl,rfl,rfl,rfl,rfl,rfl,rfl,rfl⟩
structure iv (H:AHeap) (D mp:Nat) (lv ev:AV) (N:Int) (ws:List L8) (xs:List (De × AV)):Prop where
 row:H.get D=some (OR [.ptr mp 0,.int .i64 N,ev] JP)
 lt:D<H.next
 me:wD H mp lv ws
 es:dp dN Ft 16 H ev xs
 wt:∀ (i:Nat) (x:De) (a:AV),xs[i]? = some (x,a)->Sk ai qo 11 H a x.wt
 d1:D ≠ mp/\D ≠ aN lv/\D ≠ aN ev/\mp ≠ aN ev/\aN lv ≠ aN ev
 d2:∀ (i:Nat) (x:De) (a:AV),xs[i]? = some (x,a) -> ∀ z,bC a z->z ≠ D/\z ≠ mp/\z ≠ aN lv/\z ≠ aN ev
 d3:∀ (i j:Nat) (x y:De) (a b:AV),xs[i]? = some (x,a)->xs[j]? = some (y,b)->i ≠ j -> ∀ z,bC a z -> ¬ bC b z
 len:xs.length=ws.length
def gY (D mp:Nat) (lv ev:AV) (xs:List (De × AV)):Nat->Prop:=λ z=>z=D\/z=mp\/z=aN lv\/z=aN ev \/ ∃ (i:Nat) (x:De) (a:AV),xs[i]? = some (x,a)/\bC a z
section
variable {H:AHeap} {D mp:Nat} {lv ev:AV} {N:Int} {ws:List L8} {xs:List (De × AV)}
theorem iv.fr {H':AHeap} {W:Nat->Prop} (h:iv H D mp lv ev N ws xs) (f:Fr W H H') (hw:∀ z,W z -> ¬ gY D mp lv ev xs z):iv H' D mp lv ev N ws xs :=
 ⟨by rw [f.ae _ h.lt (λ q=>hw _ q (.inl rfl))];exact h.row,qp h.lt f.next,h.me.fr f (λ q=>hw _ q (.inr (.inl rfl))) (λ q=>hw _ q (.inr (.inr (.inl rfl)))),h.es.fr f (λ q=>hw _ q (.inr (.inr (.inr (.inl rfl))))),λ i x a hx=>(h.wt i x a hx).fr f λ z hz q=>hw z q (.inr (.inr (.inr (.inr ⟨i,x,a,hx,hz⟩)))),h.d1,h.d2,h.d3,h.len⟩
theorem iv.em {H':AHeap} (h:iv H D mp lv ev N ws xs) (f:Fr Em H H'):iv H' D mp lv ev N ws xs:=h.fr f λ _ q=>q.elim
theorem iv.low (h:iv H D mp lv ev N ws xs) {z:Nat} (hz:gY D mp lv ev xs z):z<H.next:=by
 rcases hz with rfl|rfl|rfl|rfl|⟨i,x,a,hx,hz⟩
 ·exact h.lt
 ·exact h.me.lt
 ·exact h.me.ls.lt
 ·exact h.es.lt
 ·exact (h.wt i x a hx).lt z hz
abbrev xA (ev:AV) (i:Nat):AV:=.ptr (aN ev) (cr 16 ev i)
theorem iv.ld (h:iv H D mp lv ev N ws xs) {i:Nat} {p:De × AV} (hx:xs[i]? = some p) {k:Nat} (hk:k<16):Op.aa [.ptr (aN ev) (cr 16 ev i+k)] H=(dN p)[k]?:=(h.es.sl rD).aa rD hx hk
theorem iv.xJ (h:iv H D mp lv ev N ws xs) {i:Nat} {p:De × AV} (hx:xs[i]? = some p):Op.aa [.ptr (aN ev) (cr 16 ev i)] H=some (.int .i64 p.1.ow):=((h.es.sl rD).mh rD hx (by decide)).trans (xV p).1
theorem iv.ldU (h:iv H D mp lv ev N ws xs) {i:Nat} {p:De × AV} (hx:xs[i]? = some p):Op.ao 11 [.ptr (aN ev) (cr 16 ev i+2)] H=some (.agg (ai p.1.un)):=by
 have hsl:=h.es.sl rD;obtain ⟨b,e,h1,h2⟩:=h.es;have hl:cr 16 ev i=i*16:=by rw [e];simp [cr]
 have hlt:=(qj.1 hx).1;have hc:aN ev=b:=by rw [e];rfl
 rw [hl,hc,qJ (xb h2) (by rw [xQ rD];omega)];have:((xs.flatMap dN).drop (i*16+2)).take 11=ai p.1.un:=by
  rw [<-(xV p).2.2.2.2.2.2.2.2];apply ky;intro j;rw [kr,kr];split
  ·rw [yb,yb,vh,Ch rD xs hx (by omega)]
  ·rfl
 rw [this]
theorem iv.put (h:iv H D mp lv ev N ws xs) {i:Nat} {x y:De} {a:AV} (hx:xs[i]? = some (x,a)) (hwt:y.wt=x.wt) {j n:Nat} {u:AV} (hu:u.cells.length=n) (ho:aX u.cells=true) (hj:j+n<=16) (hy:dN (y,a)=(dN (x,a)).take j++u.cells++(dN (x,a)).drop (j+n)) :
 ∃ H',Op.store n [.ptr (aN ev) (cr 16 ev i+j),u] H=some (.undef,H')/\iv H' D mp lv ev N ws (xs.set i (y,a))/\Fr (On (aN ev)) H H':=by
 obtain ⟨H',s,r,f⟩:=h.es.yQ rD hx hu ho hj hy;have hi:=(qj.1 hx).1;obtain ⟨e1,e2,e3,e4,e5⟩:=h.d1;have hset:∀ (k:Nat) (z:De) (b:AV),(xs.set i (y,a))[k]? = some (z,b) -> ∃ z',xs[k]? = some (z',b)/\z'.wt=z.wt:=λ k z b hk=>by
  by_cases q:k=i
  ·subst q;rw [xg hi] at hk;injection hk with hk;injection hk with h1 h2
   subst h1 h2;exact ⟨x,hx,hwt.symm⟩
  ·rw [xt (ve q)] at hk;exact ⟨z,hk,rfl⟩
 refine ⟨H',s,⟨by rw [f.ae _ h.lt (λ q=>e3 q)];exact h.row,qp h.lt f.next,h.me.fr f (λ q=>e4 q) (λ q=>e5 q),r,λ k z b hk=>?_,h.d1,λ k z b hk=>?_,λ k l z w b c hk hl'=>?_,by rw [xc];exact h.len⟩,f⟩
 ·obtain ⟨z',hz,hw⟩:=hset k z b hk;rw [<-hw];exact (h.wt k z' b hz).fr f λ q hq w=>(h.d2 k z' b hz q hq).2.2.2 w
 ·obtain ⟨z',hz,-⟩:=hset k z b hk;exact h.d2 k z' b hz
 ·obtain ⟨z',hz,-⟩:=hset k z b hk;obtain ⟨w',hw,-⟩:=hset l w c hl';exact h.d3 k l z' w' b c hz hw
theorem iv.wait (h:iv H D mp lv ev N ws xs) {i:Nat} {x:De} {a a':AV} {ys:List Mg} {H1:AHeap} (hx:xs[i]? = some (x,a)) (hs:Sk ai qo 11 H1 a' ys) (f:Fr (bC a) H H1) (hf:∀ z,bC a' z->bC a z\/H.next<=z) (h1:bn a'=true) :
 ∃ H',Op.store 1 [.ptr (aN ev) (cr 16 ev i+15),a'] H1=some (.undef,H')/\iv H' D mp lv ev N ws (xs.set i ({ x with wt:=ys },a'))/\Fr (gY D mp lv ev xs) H H'/\Fr (On (aN ev)) H1 H':=by
 have hi:=(qj.1 hx).1;obtain ⟨e1,e2,e3,e4,e5⟩:=h.d1;have dd:=h.d2 i x a hx;have hes:dp dN Ft 16 H1 ev xs:=h.es.fr f λ q=>(dd _ q).2.2.2 rfl;have hc:a'.cells=[a']:=by cases a'<;>first|rfl|cases h1
 obtain ⟨H',s,r,f2⟩:=hes.yQ (y:=({ x with wt:=ys },a')) rD hx (j:=15) (n:=1) (u:=a') (by rw [hc];rfl) (by rw [hc];rw [nZ];simpa using h1) (by decide) (by
  rw [hc];obtain ⟨ow,sh,⟨k,co,li,⟨d,hd⟩⟩,ph,ask,wt⟩:=x
  match d,hd with
  | [_,_,_,_,_,_,_,_],_=>rfl)
 have hfe:Fr (gY D mp lv ev xs) H H':=(f.mono λ z _ hz=>(.inr (.inr (.inr (.inr ⟨i,x,a,hx,hz⟩))):gY D mp lv ev xs z)).trans f2 λ z (q:z=aN ev)=>.inl (.inr (.inr (.inr (.inl q))));have hev:=h.es.lt;refine ⟨H',s,⟨?_,?_,?_,r,λ k z b hk=>?_,h.d1,λ k z b hk q hq=>?_,λ k l z w b c hk hl' hne q hq=>?_,by rw [xc];exact h.len⟩,hfe,f2⟩
 ·rw [f2.ae _ (qp h.lt f.next) (λ q=>e3 q),f.ae _ h.lt (λ q=>(dd _ q).1 rfl)];exact h.row
 ·exact qp (qp h.lt f.next) f2.next
 ·exact (h.me.fr f (λ q=>(dd _ q).2.1 rfl) (λ q=>(dd _ q).2.2.1 rfl)).fr f2 (λ q=>e4 q) (λ q=>e5 q)
 ·by_cases q:k=i
  ·subst q;rw [xg hi] at hk;injection hk with hk;injection hk with h2 h3
   subst h2 h3;refine hs.fr f2 λ z hz w=>?_;rcases hf z hz with q|q
   ·exact (dd z q).2.2.2 w
   ·have w:z=aN ev:=w;omega
  ·rw [xt (ve q)] at hk;refine ((h.wt k z b hk).fr f λ u hu w=>h.d3 k i z x b a hk hx q u hu w).fr f2 λ u hu w=>(h.d2 k z b hk u hu).2.2.2 w
 ·by_cases w:k=i
  ·subst w;rw [xg hi] at hk;injection hk with hk;injection hk with h2 h3
   subst h2 h3;rcases hf q hq with w|w
   ·exact dd q w
   ·have a1:=h.lt;have a2:=h.me.lt;have a3:=h.me.ls.lt;exact ⟨by omega,by omega,by omega,by omega⟩
  ·rw [xt (ve w)] at hk;exact h.d2 k z b hk q hq
 ·by_cases w1:k=i
  ·subst w1;rw [xg hi] at hk;rw [xt hne] at hl';injection hk with hk;injection hk with h2 h3
   subst h2 h3;rcases hf q hq with w|w
   ·exact h.d3 k l x _ a c hx hl' hne q w
   ·intro w2;have:=(h.wt l _ c hl').lt q w2;omega
  ·rw [xt (ve w1)] at hk
   by_cases w2:l=i
   ·subst w2;rw [xg hi] at hl';injection hl' with hl';injection hl' with h2 h3
    subst h2 h3;intro w3;rcases hf q w3 with w|w
    ·exact h.d3 k l z x b a hk hx w1 q hq w
    ·have:=(h.wt k z b hk).lt q hq;omega
   ·rw [xt (ve w2)] at hl';exact h.d3 k l z _ b c hk hl' hne q hq
end
end Go.Am
namespace Go.Am
open Go.Proofs Ca
variable {M:aL} [MK M]
structure cD (H:AHeap) (D mp:Nat) (lv ev:AV) (N:Int) (ws:List L8) (xs:List (De × AV)) (i:Nat) (x:De) (a:AV):Prop where
 il:i<xs.length
 d:iv H D mp lv ev N ws (xs.set i (x,a))
section
variable {H:AHeap} {D mp:Nat} {lv ev:AV} {N:Int} {ws:List L8} {xs:List (De × AV)} {i:Nat} {x:De} {a:AV}
theorem cD.of (h:iv H D mp lv ev N ws xs) (hx:xs[i]? = some (x,a)):cD H D mp lv ev N ws xs i x a:=by
 refine ⟨(qj.1 hx).1,?_⟩;have:xs.set i (x,a)=xs:=by
  apply ky;intro j
  by_cases q:j=i
  ·rw [q,xg (qj.1 hx).1,hx]
  ·rw [xt (ve q)]
 rw [this];exact h
theorem cD.here (h:cD H D mp lv ev N ws xs i x a):(xs.set i (x,a))[i]? = some (x,a):=xg h.il
theorem cD.em {H':AHeap} (h:cD H D mp lv ev N ws xs i x a) (f:Fr Em H H'):cD H' D mp lv ev N ws xs i x a:=⟨h.il,h.d.em f⟩
theorem cD.l0 (h:cD H D mp lv ev N ws xs i x a):Op.aa [.ptr (aN ev) (cr 16 ev i)] H=some (.int .i64 x.ow):=h.d.xJ h.here
theorem cD.l1 (h:cD H D mp lv ev N ws xs i x a):Op.aa [.ptr (aN ev) (cr 16 ev i+1)] H=some (uB x.sh):=(h.d.ld h.here (by decide)).trans (xV (x,a)).2.1
theorem cD.l2 (h:cD H D mp lv ev N ws xs i x a):Op.aa [.ptr (aN ev) (cr 16 ev i+2)] H=some (.int .i64 x.un.k):=(h.d.ld h.here (by decide)).trans (xV (x,a)).2.2.1
theorem cD.l3 (h:cD H D mp lv ev N ws xs i x a):Op.aa [.ptr (aN ev) (cr 16 ev i+2+1)] H=some (.int .i64 x.un.core):=(h.d.ld h.here (k:=3) (by decide)).trans (xV (x,a)).2.2.2.1
theorem cD.l4 (h:cD H D mp lv ev N ws xs i x a):Op.aa [.ptr (aN ev) (cr 16 ev i+2+2)] H=some (.int .i64 x.un.line):=(h.d.ld h.here (k:=4) (by decide)).trans (xV (x,a)).2.2.2.2.1
theorem cD.lF (h:cD H D mp lv ev N ws xs i x a):Op.aa [.ptr (aN ev) (cr 16 ev i+13)] H=some (.int .i64 x.ph):=(h.d.ld h.here (by decide)).trans (xV (x,a)).2.2.2.2.2.1
theorem cD.p6 (h:cD H D mp lv ev N ws xs i x a):Op.aa [.ptr (aN ev) (cr 16 ev i+14)] H=some (uB x.ask):=(h.d.ld h.here (by decide)).trans (xV (x,a)).2.2.2.2.2.2.1
theorem cD.eH (h:cD H D mp lv ev N ws xs i x a):Op.aa [.ptr (aN ev) (cr 16 ev i+15)] H=some a:=(h.d.ld h.here (by decide)).trans (xV (x,a)).2.2.2.2.2.2.2.1
theorem cD.lU (h:cD H D mp lv ev N ws xs i x a):Op.ao 11 [.ptr (aN ev) (cr 16 ev i+2)] H=some (.agg (ai x.un)):=h.d.ldU h.here
theorem cD.put (h:cD H D mp lv ev N ws xs i x a) {y:De} (hwt:y.wt=x.wt) {j n:Nat} {u:AV} (hu:u.cells.length=n) (ho:aX u.cells=true) (hj:j+n<=16) (hy:dN (y,a)=(dN (x,a)).take j++u.cells++(dN (x,a)).drop (j+n)) :
 ∃ H',Op.store n [.ptr (aN ev) (cr 16 ev i+j),u] H=some (.undef,H')/\cD H' D mp lv ev N ws xs i y a/\Fr (On (aN ev)) H H':=by
 obtain ⟨H',s,r,f⟩:=h.d.put h.here hwt hu ho hj hy;rw [List.set_set] at r;exact ⟨H',s,⟨h.il,r⟩,f⟩
theorem cD.s0 (h:cD H D mp lv ev N ws xs i x a) (k:Int):∃ H',Op.store 1 [.ptr (aN ev) (cr 16 ev i),.int .i64 k] H=some (.undef,H')/\cD H' D mp lv ev N ws xs i { x with ow:=k } a/\Fr (On (aN ev)) H H' :=
 h.put (y:={ x with ow:=k }) (j:=0) (n:=1) (u:=.int .i64 k) rfl rfl rfl (by decide) rfl
theorem cD.s1 (h:cD H D mp lv ev N ws xs i x a) (k:Nat):∃ H',Op.store 1 [.ptr (aN ev) (cr 16 ev i+1),uB k] H=some (.undef,H')/\cD H' D mp lv ev N ws xs i { x with sh:=k } a/\Fr (On (aN ev)) H H' :=
 h.put (y:={ x with sh:=k }) (j:=1) (n:=1) (u:=uB k) rfl rfl rfl (by decide) rfl
theorem cD.sU (h:cD H D mp lv ev N ws xs i x a) (m:Mg):∃ H',Op.store 11 [.ptr (aN ev) (cr 16 ev i+2),.agg (ai m)] H=some (.undef,H')/\cD H' D mp lv ev N ws xs i { x with un:=m } a/\Fr (On (aN ev)) H H':=by
 refine h.put (y:={ x with un:=m }) (j:=2) (n:=11) (u:=.agg (ai m)) rfl (by rw [x9];exact za m) (by rw [x9];exact kM m) (by decide) ?_;rw [x9];obtain ⟨ow,sh,⟨k,co,li,⟨d,hd⟩⟩,ph,ask,wt⟩:=x
 match d,hd with
 | [_,_,_,_,_,_,_,_],_=>rfl
theorem cD.HS (h:cD H D mp lv ev N ws xs i x a) (k:Int):∃ H',Op.store 1 [.ptr (aN ev) (cr 16 ev i+13),.int .i64 k] H=some (.undef,H')/\cD H' D mp lv ev N ws xs i { x with ph:=k } a/\Fr (On (aN ev)) H H':=by
 refine h.put (y:={ x with ph:=k }) (j:=13) (n:=1) (u:=.int .i64 k) rfl rfl rfl (by decide) ?_;obtain ⟨ow,sh,⟨k,co,li,⟨d,hd⟩⟩,ph,ask,wt⟩:=x
 match d,hd with
 | [_,_,_,_,_,_,_,_],_=>rfl
theorem cD.I4 (h:cD H D mp lv ev N ws xs i x a) (k:Nat):∃ H',Op.store 1 [.ptr (aN ev) (cr 16 ev i+14),uB k] H=some (.undef,H')/\cD H' D mp lv ev N ws xs i { x with ask:=k } a/\Fr (On (aN ev)) H H':=by
 refine h.put (y:={ x with ask:=k }) (j:=14) (n:=1) (u:=uB k) rfl rfl rfl (by decide) ?_;obtain ⟨ow,sh,⟨k,co,li,⟨d,hd⟩⟩,ph,ask,wt⟩:=x
 match d,hd with
 | [_,_,_,_,_,_,_,_],_=>rfl
theorem bdG (co l:Int) (d:L8):Op.build (ai ⟨0,0,0,.zero⟩) [(0,1),(1,1),(2,1),(3,8)] [.int .i64 14,.int .i64 co,.int .i64 l,.agg (bS d)]=some (.agg (ai ⟨14,co,l,d⟩)):=by
 obtain ⟨d,hd⟩:=d
 match d,hd with
 | [_,_,_,_,_,_,_,_],_=>rfl
theorem cD.Le (h:cD H D mp lv ev N ws xs i x a):∃ H',Op.store 1 [.ptr (aN ev) (cr 16 ev i+14),.int .u8 0] H=some (.undef,H')/\cD H' D mp lv ev N ws xs i { x with ask:=0 } a/\Fr (On (aN ev)) H H':=h.I4 0
theorem cD.s1z (h:cD H D mp lv ev N ws xs i x a):∃ H',Op.store 1 [.ptr (aN ev) (cr 16 ev i+1),.int .u8 0] H=some (.undef,H')/\cD H' D mp lv ev N ws xs i { x with sh:=0 } a/\Fr (On (aN ev)) H H':=h.s1 0
abbrev Lo (H:AHeap):Nat->Prop:=λ z=>H.next<=z
theorem cD.loc {x':De} {H1 H2:AHeap} (h:cD H D mp lv ev N ws xs i x a) (h1:cD H1 D mp lv ev N ws xs i x' a) (f:Fr (Lo H) H1 H2):cD H2 D mp lv ev N ws xs i x' a:=by
 refine ⟨h1.il,h1.d.fr f λ z hz q=>?_⟩;have:gY D mp lv ev (xs.set i (x,a)) z:=by
  rcases q with q|q|q|q|⟨k,y,b,hk,q⟩
  ·exact .inl q
  ·exact .inr (.inl q)
  ·exact .inr (.inr (.inl q))
  ·exact .inr (.inr (.inr (.inl q)))
  ·by_cases w:k=i
   ·subst w;rw [h1.here] at hk;injection hk with hk;injection hk with _ hk;subst hk
    exact .inr (.inr (.inr (.inr ⟨k,x,a,h.here,q⟩)))
   ·rw [xt (ve w)] at hk;exact .inr (.inr (.inr (.inr ⟨k,y,b,by rw [xt (ve w)];exact hk,q⟩)))
 have:=h.d.low this;have hz:H.next<=z:=hz
 omega
theorem qyj (h:cD H D mp lv ev N ws xs i x a) {w:L8} (hw:ws[x.un.line.toNat]? = some w) (hl:0<=x.un.line) (hs:x.sh<16) (c0:0<=x.un.core) (c1:x.un.core<4) :
 jx M xD [.ptr D 0,xA ev i] H λ v H'=>v=.agg (ai (x.bI w).2)/\cD H' D mp lv ev N ws xs i (x.bI w).1 a/\Fr (On (aN ev)) H H':=by
 refine qu7 ?_;obtain ⟨w0,w4,w8,w18⟩:=qu8 M ⟨none,xD⟩;obtain ⟨H1,e1⟩:∃ X,X=H.alloc (OR (ai ⟨0,0,0,.zero⟩) qo):=⟨_,rfl⟩
 have f1:Fr Em H H1:=by rw [e1];exact (Fr.refl H).alloc _
 have g1:H1.get H.next=some (OR (ai ⟨0,0,0,.zero⟩) qo):=by rw [e1,qy]
 have n1:H1.next=H.next+1:=by rw [e1,xp]
 obtain ⟨H2,s2,h2,f2⟩:=(h.em f1).HS 4;obtain ⟨H3,s3,h3,f3⟩:=h2.Le;have xJ:Op.aa [.ptr D 0] H3=some (.ptr mp 0):=ze (xb h3.d.row) 0;have hev:=h.d.es.lt;have nb:¬ H.next=aN ev:=by omega
 have m2:=f2.next;have m3:=f3.next
 have g3:H3.get H.next=some (OR (ai ⟨0,0,0,.zero⟩) qo):=by rw [f3.ae _ (by omega) nb,f2.ae _ (by omega) nb];exact g1
 simp only [↓qi,xd,reduceIte,reduceEqDiff,w0,mZ,<-e1,qg,s2,s3,w4,xJ,h3.l4];refine C3.q (qqq (M:=M) h3.d.me hl hw) λ v H4 ⟨hv,f4⟩=>?_;rw [hv];obtain ⟨H5,e5⟩:∃ X,X=H4.alloc (OR (bS .zero) zf):=⟨_,rfl⟩
 have g5:H5.get H4.next=some (OR (bS .zero) zf):=by rw [e5,qy]
 have st5:=fG g5 (ku _) (ku w) (nN w);obtain ⟨H6,e6⟩:∃ X,X=H5.set H4.next (OR (bS w) zf):=⟨_,rfl⟩
 rw [<-e6] at st5;have g6:H6.get H4.next=some (OR (bS w) zf):=by rw [e6,xe]
 have f45:Fr Em H4 H5:=by rw [e5];exact (Fr.refl H4).alloc _
 have f46:Fr Em H4 H6:=by rw [e6];exact f45.set (.inr (qh _)) _
 have f36:Fr Em H3 H6:=f4.trans f46 λ _ q=>q.elim;have h6:=h3.em f36;have l5:=fm g6 (ku w);obtain ⟨H7,e7⟩:∃ X,X=H6.alloc (OR (ai ⟨0,0,0,.zero⟩) qo):=⟨_,rfl⟩
 have g7:H7.get H6.next=some (OR (ai ⟨0,0,0,.zero⟩) qo):=by rw [e7,qy]
 have st7:=fG g7 (za _) (za ⟨14,x.un.core,x.un.line,w⟩) (kM _);obtain ⟨H8,e8⟩:∃ X,X=H7.set H6.next (OR (ai ⟨14,x.un.core,x.un.line,w⟩) qo):=⟨_,rfl⟩
 rw [<-e8] at st7;have g8:H8.get H6.next=some (OR (ai ⟨14,x.un.core,x.un.line,w⟩) qo):=by rw [e8,xe]
 have f67:Fr Em H6 H7:=by rw [e7];exact (Fr.refl H6).alloc _
 have f68:Fr Em H6 H8:=by rw [e8];exact f67.set (.inr (qh _)) _
 have f38:Fr Em H3 H8:=f36.trans f68 λ _ q=>q.elim;have h8:=h3.em f38;have m36:=f36.next;have m68:=f68.next
 have g38:H8.get H.next=some (OR (ai ⟨0,0,0,.zero⟩) qo):=by rw [f38.ae _ (by omega) id];exact g3
 have n8:H6.next<H8.next:=by rw [e8,Fp,e7,xp];omega
 have f08:Fr (On (aN ev)) H H8:=(((f1.mono λ _ _ q=>q.elim).trans f2 λ _ q=>.inl q).trans f3 λ _ q=>.inl q).trans f38 λ _ q=>q.elim;simp only [↓qi,xd,reduceIte,reduceEqDiff,qr,lZ,<-e5,st5,qg,h6.l3,h6.l4,l5,mZ,bdG,<-e7,st7,w8,h8.l2];have fin:∀ {H9:AHeap} {y:De} {m:Mg},cD H9 D mp lv ev N ws xs i y a->Fr (On (aN ev)) H H9->H9.get H.next=some (OR (ai ⟨0,0,0,.zero⟩) qo)->H.next<H9.next -> ∃ Hx,Op.store 11 [.ptr H.next 0,.agg (ai m)] H9=some (.undef,Hx)/\Op.ao 11 [.ptr H.next 0] Hx=some (.agg (ai m))/\cD Hx D mp lv ev N ws xs i y a/\Fr (On (aN ev)) H Hx:=λ {H9 y m} a1 a2 a3 a4=>by
  have st:=fG a3 (za _) (za m) (kM m);refine ⟨_,st,fm (xe ..) (za m),h.loc a1 ((Fr.refl H9).set (W:=Lo H) (.inl (qh _)) _),a2.set (.inr (qh _)) _⟩
 have nb6:¬ H6.next=aN ev:=by omega
 unfold De.bI
 by_cases k1:x.un.k=1
 ·rw [qm k1];have sh1:=Gn c0 c1;have sa:=q72 hs c0 c1;obtain ⟨H9,s9,h9,f9⟩:=h8.s1 (ij x.sh x.un.core);have m9:=f9.next
  have l9:Op.ao 11 [.ptr H6.next 0] H9=some (.agg (ai ⟨14,x.un.core,x.un.line,w⟩)):=fm (by rw [f9.ae _ n8 nb6];exact g8) (za _);obtain ⟨Hx,sx,lx,hx,fx⟩:=fin (m:=⟨14,x.un.core,x.un.line,w⟩) h9 (f08.trans f9 λ _ q=>.inl q) (by rw [f9.ae _ (by omega) nb];exact g38) (by omega);simp only [↓qi,xd,reduceIte,reduceEqDiff,xf k1,h8.l1,h8.l3,qg,sh1,sa,s9,l9,sx,lx];exact ⟨hx,fx⟩
 ·rw [qe k1];obtain ⟨H9,s9,h9,f9⟩:=h8.s0 x.un.core;obtain ⟨Ha,sa,ha,fa⟩:=h9.s1z;have m9:=f9.next;have ma:=fa.next
  have ga:Ha.get H6.next=some (OR (ai ⟨14,x.un.core,x.un.line,w⟩) qo):=by rw [fa.ae _ (by omega) nb6,f9.ae _ n8 nb6];exact g8
  have sb:Op.store 1 [.ptr H6.next 0,.int .i64 15] Ha=some (.undef,Ha.set H6.next (OR (ai ⟨15,x.un.core,x.un.line,w⟩) qo)):=oA (v:=.int .i64 15) ga (o:=0) (n:=1) rfl (by rw [za];decide) rfl;obtain ⟨Hb,eb⟩:∃ X,X=Ha.set H6.next (OR (ai ⟨15,x.un.core,x.un.line,w⟩) qo):=⟨_,rfl⟩
  rw [<-eb] at sb;have fb:Fr (Lo H) Ha Hb:=by rw [eb];exact (Fr.refl Ha).set (W:=Lo H) (.inl (show H.next<=H6.next by omega)) _
  have lb:Op.ao 11 [.ptr H6.next 0] Hb=some (.agg (ai ⟨15,x.un.core,x.un.line,w⟩)):=fm (by rw [eb,xe]) (za _);have hb:=h.loc ha fb;have nne:¬ H6.next=H.next:=by omega
  have gb:Hb.get H.next=some (OR (ai ⟨0,0,0,.zero⟩) qo):=by rw [eb,vk nne,fa.ae _ (by omega) nb,f9.ae _ (by omega) nb];exact g38
  obtain ⟨Hx,sx,lx,hx,fx⟩:=fin (m:=⟨15,x.un.core,x.un.line,w⟩) hb (((f08.trans f9 λ _ q=>.inl q).trans fa λ _ q=>.inl q).trans fb λ _ q=>.inr q) gb (by have:=fb.next;omega);simp only [↓qi,xd,reduceIte,reduceEqDiff,k1,w18,h8.l3,qg,s9,sa,sb,lb,sx,lx];exact ⟨hx,fx⟩
end
end Go.Am
namespace Go.Am
open Go.Proofs Ca
variable {M:aL} [MK M]
section
variable {H:AHeap} {D mp:Nat} {lv ev:AV} {N:Int} {ws:List L8} {xs:List (De × AV)} {i:Nat} {x:De} {a:AV}
theorem vB (h:iv H D mp lv ev N ws xs) {n:Int} (h0:0<=n) (h1:n<xs.length):jx M DY [.ptr D 0,.int .i64 n] H λ v H'=>v=xA ev n.toNat/\H'=H:=by
 have hl:Op.aa [.ptr D 2] H=some ev:=ze (xb h.row) 2;have hn:=(h.es.sl rD).len;have q0:¬ n<0:=by omega
 have q1:¬ ((xs.length:Nat):Int)<=n:=by omega
 have hx:xs[n.toNat]? = some (xs[n.toNat]'(by omega)):=qz (by omega);have ix:Op.aP 16 [ev,.int .i64 n]=some (.ptr (aN ev) (cr 16 ev n.toNat)):=(h.es.sl rD).idx hx (by omega) .i64;refine q1j ?_;obtain ⟨w0,w2,w10⟩:=q1k M ⟨none,DY⟩;simp only [↓qi,xd,reduceIte,reduceEqDiff,w0,w2,yh,q0,qg,hl,hn,q1,w10,ix]
end
def fX (s:Nat):List Nat:=(List.range 4).filter λ (k:Nat)=>hb s (k:Int) == 1
theorem EU (s:Nat):lC s=(fX s).map λ (k:Nat)=>(k:Int):=by
 unfold lC fX;have e:([0,1,2,3]:List Int)=(List.range 4).map λ (k:Nat)=>(k:Int):=rfl;rw [e,List.filter_map];rfl
theorem q6l {H0:AHeap} {p s:Nat} (hp:H0.get p=some (OR [uB s] Iw)) (hpl:p<H0.next) (hs:s<16) :
 ny M ye [] [.ptr p 0] (λ x=>x=p) (λ _=>False) H0 ((fX s).map λ (k:Nat)=>[AV.int .i64 (k:Int)]):=by
 intro Y R S W0 H1 hnx hN hR0 hW0 loc locS step;obtain ⟨p1,p2,p3⟩:=hN p (.inl rfl)
 suffices h:jx M ye [.fn (.yield Y) [] [],.ptr p 0] H1 (JQ R S W0 (λ _=>False) H1 ((fX s).map λ (k:Nat)=>[AV.int .i64 (k:Int)]).length) by
  obtain ⟨v,H',hc,W',q1,q2,q3⟩:=h.elim;exact ⟨v,H',W',hc,q1,q2,q3⟩
 refine qp3 ?_;obtain ⟨w0,w4,w10,w19⟩:=qp4 M ⟨none,ye⟩;have lp:∀ {Hx:AHeap},Fr W0 H1 Hx->Op.aa [.ptr p 0] Hx=some (uB s):=λ f=>by rw [ze (xb (by rw [f.ae _ (by omega) p3,p2];exact hp))];rfl
 simp only [↓qi,xd,reduceIte,reduceEqDiff,w0];refine bu.intro (λ n E Hx=>∃ (i:Nat) (V:Nat->Prop),E=[(4,.int .i64 (i:Int)),(0,.fn (.yield Y) [] []),(1,.ptr p 0)]/\n=4-i/\i<=4/\JR R W0 H1 Hx ((List.range i).filter λ (k:Nat)=>hb s (k:Int) == 1).length V) ?_ ?_
 ·exact ⟨_,_,⟨0,W0,rfl,rfl,zq _,⟨hR0,λ b hb=>⟨hW0 b hb,.inl hb⟩,Fr.refl _⟩⟩,by simp only [↓qi,xd,reduceIte,reduceEqDiff]⟩
 rintro n E Hx ⟨i,V,rfl,rfl,hi,hx⟩;rcases jr i 4 with hlt|hge
 ·have q1:(i:Int)<4:=by omega
  have sh:=Gn (c:=(i:Int)) (by omega) q1;have ha:=q73 hs (c:=(i:Int)) (by omega) q1;have wj:aW .i64 ((i:Int)+1)=((i+1:Nat):Int):=by rw [vl (by omega) (by omega)];omega
  have hf:=JZ (λ (k:Nat)=>hb s (k:Int) == 1) i;have hle:=fQ s (i:Int)
  by_cases h0:hb s (i:Int)=1
  ·have hf':((List.range (i+1)).filter λ (k:Nat)=>hb s (k:Int) == 1).length=((List.range i).filter λ (k:Nat)=>hb s (k:Int) == 1).length+1:=by rw [hf];simp [h0]
   have hg:((fX s).map λ (k:Nat)=>[AV.int .i64 (k:Int)])[((List.range i).filter λ (k:Nat)=>hb s (k:Int) == 1).length]? = some [.int .i64 (i:Int)]:=by
    unfold fX;rw [xj,q4x _ hlt (by simp [h0])];rfl
   have hp0:0<2 ^ (i:Int).toNat:=Nat.pos_of_ne_zero (by simp);have z0:¬ (((hb s (i:Int)*2 ^ (i:Int).toNat:Nat)):Int)=0:=by rw [h0,Nat.one_mul];omega
   obtain ⟨bb,H2,W2,hr,hf2,hW2,ht,hss⟩:=step _ _ hg V Hx hx.hR hx.hV (hx.fr.mono λ _ _ q=>.inl q);have fr2:Fr W0 H1 H2:=hx.fr.trans hf2 λ b q=>(hx.hV b q).2;have hV2:∀ b,W2 b->b<H2.next/\(W0 b\/H1.next<=b):=λ b q=>⟨(hW2 b q).1,(hW2 b q).2.elim (λ w=>(hx.hV b w).2) λ w=>.inr (xu hx.fr.next w)⟩
   simp only [↓qi,xd,reduceIte,reduceEqDiff,w4,q1,w10,lp hx.fr,sh,ha,z0];refine C3.Aa hr ?_;cases bb with
   | true =>
    simp only [↓qi,xd,reduceIte,reduceEqDiff,w19,wj];exact ⟨_,_,⟨i+1,W2,rfl,rfl,by omega,⟨by rw [hf'];exact ht rfl,hV2,fr2⟩⟩,by simp only [↓qi,xd,reduceIte,reduceEqDiff],by omega⟩
   | false =>
    simp only [↓qi,xd,reduceIte,reduceEqDiff];exact ⟨W2,fr2.mono λ _ _ q=>.inl q,hV2,.inr (hss rfl)⟩
  ·have hb0:hb s (i:Int)=0:=by omega
   have hf':((List.range (i+1)).filter λ (k:Nat)=>hb s (k:Int) == 1).length=((List.range i).filter λ (k:Nat)=>hb s (k:Int) == 1).length:=by rw [hf];simp [hb0]
   have z0:(((hb s (i:Int)*2 ^ (i:Int).toNat:Nat)):Int)=0:=by rw [hb0,vp];rfl
   simp only [↓qi,xd,reduceIte,reduceEqDiff,w4,q1,w10,lp hx.fr,sh,ha,xf z0,w19,wj];exact ⟨_,_,⟨i+1,V,rfl,rfl,by omega,by rw [hf'];exact hx⟩,by simp only [↓qi,xd,reduceIte,reduceEqDiff],by omega⟩
 ·have q1:¬ (i:Int)<4:=by omega
  have hiw:i=4:=by omega
  simp only [↓qi,xd,reduceIte,reduceEqDiff,w4,q1];refine ⟨V,hx.fr.mono λ _ _ q=>.inl q,hx.hV,.inl ?_⟩;have e:((fX s).map λ (k:Nat)=>[AV.int .i64 (k:Int)]).length=((List.range i).filter λ (k:Nat)=>hb s (k:Int) == 1).length:=by unfold fX;rw [zg,hiw]
  rw [e];exact hx.hR
theorem q8o {H:AHeap} (s:Nat):jx M F7 [uB s] H λ v H'=>v=.fn (.func ye) [] [.ptr H.next 0]/\H'=H.alloc (OR [uB s] Iw):=by
 refine qtf ?_;have ca:AV.cells (uB s)=[uB s]:=rfl;have mk:Op.bZ ye 0 [.ptr H.next 0]=some (.fn (.func ye) [] [.ptr H.next 0]):=rfl;simp only [↓qi,xd,reduceIte,reduceEqDiff,qtg,ca,mk];rfl
end Go.Am
namespace Go.Am
open Go.Proofs Ca
variable {M:aL} [MK M]
abbrev sX (t:Nat):AV:=.fn (.func AN) [] [.ptr t 0]
theorem Kr {H:AHeap} {t:Nat} {c:Int} (w:Mg) (hl:∀ {Hx:AHeap},Fr Em H Hx->Op.aa [.ptr t 1] Hx=some (.int .i64 c)):jx M AN [.agg (ai w),.ptr t 0] H λ r H'=>r=.bool (decide (w.core=c))/\Fr Em H H':=by
 refine qrl ?_;obtain ⟨H1,e1⟩:∃ X,X=H.alloc (OR (ai w) qo):=⟨_,rfl⟩
 have f1:Fr Em H H1:=by rw [e1];exact (Fr.refl H).alloc _
 have g1:H1.get H.next=some (OR (ai w) qo):=by rw [e1,qy]
 have l1:Op.aa [.ptr H.next 1] H1=some (.int .i64 w.core):=ze (xb g1) 1
 by_cases q:w.core=c
 ·simp only [↓qi,xd,reduceIte,reduceEqDiff,qki,x9,<-e1,l1,hl f1,xf q];exact f1
 ·simp only [↓qi,xd,reduceIte,reduceEqDiff,qki,x9,<-e1,l1,hl f1,q];exact f1
theorem q3v {H:AHeap} {v:AV} {ms:List Mg} {t:Nat} {c:Int} (h:eJ ai 11 H v ms) (hk:ms.length<=1000000) (hl:∀ {Hx:AHeap},Fr Em H Hx->Op.aa [.ptr t 1] Hx=some (.int .i64 c)) :
 jx M kv [v,sX t] H λ r H'=>(∃ z:Int,r=.int .i64 z/\(0<=z ↔ ∃ w ∈ ms,w.core=c))/\Fr Em H H':=by
 refine qi6 ?_;obtain ⟨w0,w2,w25,w7,w13,w24⟩:=qi7 M ⟨none,kv⟩;simp only [↓qi,xd,reduceIte,reduceEqDiff,w0,w2,h.len];refine bu.intro (λ n E Hx=>∃ i:Nat,E=[(8,.int .i64 (i:Int)),(7,.int .i64 ((ms.length:Nat):Int)),(0,v),(1,sX t)]/\n=ms.length-i/\i<=ms.length/\Fr Em H Hx /\ ∀ k w,k<i->ms[k]? = some w->w.core ≠ c) ?_ ?_
 ·exact ⟨_,_,⟨0,rfl,rfl,zq _,Fr.refl _,λ k w hk=>by omega⟩,by simp only [↓qi,xd,reduceIte,reduceEqDiff]⟩
 rintro n E Hx ⟨i,rfl,rfl,hi,fx,hno⟩;rcases jr i ms.length with hlt|hge
 ·have q1:(i:Int)<((ms.length:Nat):Int):=by omega
  have hx:=qz hlt;have ix:=(h.em fx).idx hx (z:=(i:Int)) rfl .i64;have ld:=(h.em fx).ao za (by decide) hx;have wj:aW .i64 ((i:Int)+1)=((i+1:Nat):Int):=by rw [vl (by omega) (by omega)];omega
  simp only [↓qi,xd,reduceIte,reduceEqDiff,w7,q1,w13,ix,ld];refine C3.q (Kr (M:=M) (ms[i]) (λ f=>hl (fx.trans f λ _ q=>q.elim))) λ r H1 ⟨hr,f1⟩=>?_;rw [hr]
  by_cases q:(ms[i]).core=c
  ·simp only [↓qi,xd,reduceIte,reduceEqDiff,xf q];exact ⟨⟨_,rfl,λ _=>⟨_,List.getElem_mem hlt,q⟩,λ _=>by omega⟩,fx.trans f1 λ _ q=>q.elim⟩
  ·simp only [↓qi,xd,reduceIte,reduceEqDiff,q,w24,wj];refine ⟨_,_,⟨i+1,rfl,rfl,by omega,fx.trans f1 λ _ q=>q.elim,λ k w hk hw=>?_⟩,by simp only [↓qi,xd,reduceIte,reduceEqDiff],by omega⟩
   by_cases e:k=i
   ·rw [e,hx] at hw;injection hw with hw;rw [<-hw];exact q
   ·exact hno k w (by omega) hw
 ·have q1:¬ (i:Int)<((ms.length:Nat):Int):=by omega
  simp only [↓qi,xd,reduceIte,reduceEqDiff,w7,q1,w25];refine ⟨⟨_,rfl,λ q=>absurd q (by decide),λ⟨w,hw,hc⟩=>?_⟩,fx⟩;obtain ⟨k,hk'⟩:=DM hw;exact absurd hc (hno k w (by have:=(qj.1 hk').1;omega) hk')
theorem qov {H:AHeap} {v:AV} {ms:List Mg} {t:Nat} {c:Int} (h:eJ ai 11 H v ms) (hk:ms.length<=1000000) (hl:∀ {Hx:AHeap},Fr Em H Hx->Op.aa [.ptr t 1] Hx=some (.int .i64 c)) :
 jx M kz [v,sX t] H λ r H'=>r=.bool (decide (∃ w ∈ ms,w.core=c))/\Fr Em H H':=by
 refine qhq ?_;simp only [↓qi,xd,reduceIte,reduceEqDiff,qhr];refine C3.q (q3v (M:=M) h hk hl) λ r H1 ⟨⟨z,hr,hz⟩,f1⟩=>?_;rw [hr];simp only [↓qi,xd,reduceIte,reduceEqDiff]
 by_cases q:0<=z
 ·simp only [q,hz.1 q,decide_true,qS];exact f1
 ·have q2:¬ ∃ w ∈ ms,w.core=c:=λ w=>q (hz.2 w);simp only [q,q2,decide_false,qS];exact f1
section
variable {H:AHeap} {D mp:Nat} {lv ev:AV} {N:Int} {ws:List L8} {xs:List (De × AV)} {i:Nat} {x:De} {a:AV}
theorem q8k (h:cD H D mp lv ev N ws xs i x a) (m:Mg) (c0:0<=m.core) (c1:m.core<4) (ha:x.ask<16) (hw:x.wt.length<=1000000):jx M vq [xA ev i,.agg (ai m)] H λ v H'=>v=.bool (decide (x.may m))/\Fr Em H H':=by
 refine qvb ?_;obtain ⟨w0,w4,w51,w14,w17,w26,w38⟩:=qvc M ⟨none,vq⟩;obtain ⟨H1,e1⟩:∃ X,X=H.alloc (OR (ai m) qo):=⟨_,rfl⟩
 have f1:Fr Em H H1:=by rw [e1];exact (Fr.refl H).alloc _
 have g1:H1.get H.next=some (OR (ai m) qo):=by rw [e1,qy]
 have n1:H1.next=H.next+1:=by rw [e1,xp]
 have lm:∀ {Hx:AHeap} (k:Nat),Fr Em H1 Hx->Op.aa [.ptr H.next k] Hx=(ai m)[k]?:=λ k f=>ze (xb (by rw [f.ae _ (by omega) id];exact g1)) k;have l0:Op.aa [.ptr H.next 0] H1=some (.int .i64 m.k):=lm 0 (Fr.refl _);have l1:∀ {Hx:AHeap},Fr Em H1 Hx->Op.aa [.ptr H.next 1] Hx=some (.int .i64 m.core):=λ f=>lm 1 f;have l1r:=l1 (Fr.refl H1);have mk:Op.bZ AN 0 [.ptr H.next 0]=some (sX H.next):=rfl;have h1:=h.em f1;have sh1:=Gn c0 c1;have sa:=q73 ha c0 c1;have hle:=fQ x.ask m.core;have hp0:0<2 ^ m.core.toNat:=Nat.pos_of_ne_zero (by simp);have fin:∀ {b:Bool} {Hx:AHeap},(b=true ↔ x.may m)->Fr Em H1 Hx->(AV.bool b=.bool (decide (x.may m))/\Fr Em H Hx):=λ {b Hx} e f=>by
  refine ⟨?_,f1.trans f λ _ q=>q.elim⟩;congr 1;cases b with
  | true=>exact (wT (e.1 rfl)).symm
  | false=>exact (AX λ w=>by cases e.2 w).symm
 have r1:=Fr.refl (W:=Em) H1;simp only [↓qi,xd,reduceIte,reduceEqDiff,w0,x9,<-e1,mk,w4,l0]
 by_cases kg:m.k=1\/m.k=2
 ·have hm:x.may m ↔ ¬ (x.ph ≠ 0/\x.ph ≠ 4/\x.un.core=m.core)/\(x.ow ≠ m.core\/x.ph=2) /\ ¬ ∃ w ∈ x.wt,w.core=m.core:=by unfold De.may De.own;rw [qm kg]
  have key:∀ {E:Env},lk E 10=some (.bool true)->lk E 0=some (xA ev i)->lk E 3=some (.ptr H.next 0)->lk E 5=some (sX H.next)->W M ⟨none,vq⟩ (ji 14) true (aF 0 (aj (W M ⟨none,vq⟩ (ji 51)) (aK M [.tmp 4] (kY λ v H'=>v=.bool (decide (x.may m))/\Fr Em H H')))) E [] H1:=by
   intro E b10 b0 b3 b5
   -- the rest,once it is known whether one is under way
   have rest:∀ {Hx:AHeap} (u:Bool),Fr Em H1 Hx->(u=true ↔ (x.ph ≠ 0/\x.ph ≠ 4/\x.un.core=m.core))->W M ⟨none,vq⟩ (ji 17) true (aF 0 (aj (W M ⟨none,vq⟩ (ji 51)) (aK M [.tmp 4] (kY λ v H'=>v=.bool (decide (x.may m))/\Fr Em H H')))) ((6,.bool u)::E) [] Hx:=by
    intro Hx u fx hu;have hx:=h1.em fx;have wtd:=hx.d.wt i x a hx.here;cases u with
    | true =>
     simp only [↓qi,xd,reduceIte,reduceEqDiff,w17];exact fin ⟨λ q=>Bool.noConfusion q,λ q=>absurd (hu.1 rfl) (hm.1 q).1⟩ fx
    | false =>
     have hu':¬ (x.ph ≠ 0/\x.ph ≠ 4/\x.un.core=m.core):=λ q=>by cases hu.2 q
     by_cases q1:x.ow=m.core
     ·by_cases q2:x.ph=2
      ·simp only [↓qi,xd,reduceIte,reduceEqDiff,w17,b0,b3,b5,qg,hx.l0,l1 fx,xf q1,hx.lF,xf q2,hx.eH];refine C3.q (qov (M:=M) (wtd.sl za) hw (λ f=>l1 (fx.trans f λ _ q=>q.elim))) λ r H2 ⟨hr,f2⟩=>?_;rw [hr];simp only [↓qi,xd,reduceIte,reduceEqDiff];refine fin ?_ (fx.trans f2 λ _ q=>q.elim);rw [hm];constructor
       ·intro q;exact ⟨hu',.inr q2,by simpa using q⟩
       ·intro q;simpa using q.2.2
      ·simp only [↓qi,xd,reduceIte,reduceEqDiff,w17,b0,b3,b5,qg,hx.l0,l1 fx,xf q1,hx.lF,q2];exact fin ⟨λ q=>Bool.noConfusion q,λ q=>((hm.1 q).2.1.elim (λ w=>absurd q1 w) λ w=>absurd w q2)⟩ fx
     ·simp only [↓qi,xd,reduceIte,reduceEqDiff,w17,b0,b3,b5,qg,hx.l0,l1 fx,q1,hx.eH];refine C3.q (qov (M:=M) (wtd.sl za) hw (λ f=>l1 (fx.trans f λ _ q=>q.elim))) λ r H2 ⟨hr,f2⟩=>?_;rw [hr];simp only [↓qi,xd,reduceIte,reduceEqDiff];refine fin ?_ (fx.trans f2 λ _ q=>q.elim);rw [hm];constructor
      ·intro q;exact ⟨hu',.inl q1,by simpa using q⟩
      ·intro q;simpa using q.2.2
   by_cases p0:x.ph=0
   ·simp only [↓qi,xd,reduceIte,reduceEqDiff,w14,b10,b0,qg,h1.lF,xf p0];exact rest false r1 ⟨λ q=>Bool.noConfusion q,λ q=>absurd p0 q.1⟩
   by_cases p4:x.ph=4
   ·simp only [↓qi,xd,reduceIte,reduceEqDiff,w14,b10,b0,qg,h1.lF,p0,xf p4];exact rest false r1 ⟨λ q=>Bool.noConfusion q,λ q=>absurd p4 q.2.1⟩
   simp only [↓qi,xd,reduceIte,reduceEqDiff,w14,b10,b0,b5,qg,h1.lF,p0,p4,h1.lU];refine C3.q (Kr (M:=M) x.un l1) λ r H2 ⟨hr,f2⟩=>?_;rw [hr];simp only [↓qi,xd,reduceIte,reduceEqDiff];exact rest _ f2 ⟨λ q=>⟨p0,p4,by simpa using q⟩,λ q=>by simpa using q.2.2⟩
  rcases kg with k|k
  ·simp only [↓qi,xd,reduceIte,reduceEqDiff,xf k];exact key rfl rfl rfl rfl
  ·have k1:¬ m.k=1:=by omega
   simp only [↓qi,xd,reduceIte,reduceEqDiff,k1,xf k];exact key rfl rfl rfl rfl
 have k1:¬ m.k=1:=λ q=>kg (.inl q);have k2:¬ m.k=2:=λ q=>kg (.inr q);have bit0:(((hb x.ask m.core*2 ^ m.core.toNat:Nat)):Int)=0 ↔ ¬ hb x.ask m.core=1:=by
  constructor
  ·intro q w;rw [w,Nat.one_mul] at q;omega
  ·intro q;rw [show hb x.ask m.core=0 by omega,vp];rfl
 simp only [↓qi,xd,reduceIte,reduceEqDiff,k1,k2,w14]
 by_cases k4:m.k=4
 ·have hm:x.may m ↔ x.ph=1/\hb x.ask m.core=1:=by unfold De.may;rw [qe kg,qm k4]
  by_cases p1:x.ph=1
  ·by_cases b1:hb x.ask m.core=1
   ·have z:=λ w=>bit0.1 w b1;simp only [↓qi,xd,reduceIte,reduceEqDiff,xf k4,qg,h1.lF,xf p1,h1.p6,l1r,sh1,sa,z];exact fin ⟨λ _=>hm.2 ⟨p1,b1⟩,λ _=>wT z⟩ r1
   ·have z:=bit0.2 b1;simp only [↓qi,xd,reduceIte,reduceEqDiff,xf k4,qg,h1.lF,xf p1,h1.p6,l1r,sh1,sa,xf z];exact fin ⟨λ q=>Bool.noConfusion q,λ q=>absurd (hm.1 q).2 b1⟩ r1
  ·simp only [↓qi,xd,reduceIte,reduceEqDiff,xf k4,qg,h1.lF,p1];exact fin ⟨λ q=>Bool.noConfusion q,λ q=>absurd (hm.1 q).1 p1⟩ r1
 simp only [↓qi,xd,reduceIte,reduceEqDiff,k4,w26]
 by_cases k5:m.k=5
 ·have hm:x.may m ↔ x.ph=2/\x.ow=m.core:=by unfold De.may;rw [qe kg,qe k4,qm k5]
  by_cases p1:x.ph=2
  ·by_cases b1:x.ow=m.core
   ·simp only [↓qi,xd,reduceIte,reduceEqDiff,xf k5,qg,h1.lF,xf p1,h1.l0,l1r,xf b1];exact fin ⟨λ _=>hm.2 ⟨p1,b1⟩,λ _=>rfl⟩ r1
   ·simp only [↓qi,xd,reduceIte,reduceEqDiff,xf k5,qg,h1.lF,xf p1,h1.l0,l1r,b1];exact fin ⟨λ q=>Bool.noConfusion q,λ q=>absurd (hm.1 q).2 b1⟩ r1
  ·simp only [↓qi,xd,reduceIte,reduceEqDiff,xf k5,qg,h1.lF,p1];exact fin ⟨λ q=>Bool.noConfusion q,λ q=>absurd (hm.1 q).1 p1⟩ r1
 by_cases k6:m.k=6
 ·have hm:x.may m ↔ x.ph=2/\hb x.ask m.core=1:=by unfold De.may;rw [qe kg,qe k4,qe k5,qm k6]
  by_cases p1:x.ph=2
  ·by_cases b1:hb x.ask m.core=1
   ·have z:=λ w=>bit0.1 w b1;simp only [↓qi,xd,reduceIte,reduceEqDiff,k5,xf k6,qg,h1.lF,xf p1,h1.p6,l1r,sh1,sa,z];exact fin ⟨λ _=>hm.2 ⟨p1,b1⟩,λ _=>wT z⟩ r1
   ·have z:=bit0.2 b1;simp only [↓qi,xd,reduceIte,reduceEqDiff,k5,xf k6,qg,h1.lF,xf p1,h1.p6,l1r,sh1,sa,xf z];exact fin ⟨λ q=>Bool.noConfusion q,λ q=>absurd (hm.1 q).2 b1⟩ r1
  ·simp only [↓qi,xd,reduceIte,reduceEqDiff,k5,xf k6,qg,h1.lF,p1];exact fin ⟨λ q=>Bool.noConfusion q,λ q=>absurd (hm.1 q).1 p1⟩ r1
 simp only [↓qi,xd,reduceIte,reduceEqDiff,k5,k6,w38]
 by_cases k3:m.k=3
 ·have hm:x.may m ↔ x.ow=m.core:=by unfold De.may;rw [qe kg,qe k4,qe k5,qe k6,qm k3]
  by_cases b1:x.ow=m.core
  ·simp only [↓qi,xd,reduceIte,reduceEqDiff,xf k3,qg,h1.l0,l1r,xf b1];exact fin ⟨λ _=>hm.2 b1,λ _=>rfl⟩ r1
  ·simp only [↓qi,xd,reduceIte,reduceEqDiff,xf k3,qg,h1.l0,l1r,b1];exact fin ⟨λ q=>Bool.noConfusion q,λ q=>absurd (hm.1 q) b1⟩ r1
 have hm:x.may m ↔ m.k=7/\x.ph=4/\x.un.core=m.core:=by unfold De.may;rw [qe kg,qe k4,qe k5,qe k6,qe k3]
 by_cases k7:m.k=7
 ·by_cases p1:x.ph=4
  ·simp only [↓qi,xd,reduceIte,reduceEqDiff,k3,xf k7,qg,h1.lF,xf p1,h1.lU];refine C3.q (Kr (M:=M) x.un l1) λ r H2 ⟨hr,f2⟩=>?_;rw [hr];simp only [↓qi,xd,reduceIte,reduceEqDiff];exact fin ⟨λ q=>hm.2 ⟨k7,p1,by simpa using q⟩,λ q=>by simpa using (hm.1 q).2.2⟩ f2
  ·simp only [↓qi,xd,reduceIte,reduceEqDiff,k3,xf k7,qg,h1.lF,p1];exact fin ⟨λ q=>Bool.noConfusion q,λ q=>absurd (hm.1 q).2.1 p1⟩ r1
 ·simp only [↓qi,xd,reduceIte,reduceEqDiff,k3,k7,w51];exact fin ⟨λ q=>Bool.noConfusion q,λ q=>absurd (hm.1 q).1 k7⟩ r1
end
end Go.Am
