/- BuK5: DiA DiB DiC DiD DiE. -/
import Derived.Test.YtiibohocdbaekaaGreatAmCCodeK
import Derived.Test.YtiibohocdbaekaaGreatAmCNmKa
import Derived.Test.YtiibohocdbaekaaGreatAmCBuK1
import Derived.Test.YtiibohocdbaekaaGreatAmCBuK4
import Derived.Test.YtiibohocdbaekaaGreatAmCNmK0
set_option linter.unusedVariables false
set_option linter.unusedSimpArgs false
set_option linter.unusedSectionVars false
set_option maxRecDepth 100000
open Nat (reduceEqDiff)
namespace Go.Am
open Go.Proofs Ca
variable {M:aA} [MK M]
structure zW (H:AHeap) (mp:Nat) (lv:AV) (ws:List L8):Prop where
 row:H.get mp=some (OR [lv] M5)
 lt:mp<H.next
 ls:dR cJ j0 8 H lv ws
 ne:mp ≠ aF lv
 le:ws.length<=64
section
variable {H:AHeap} {mp:Nat} {lv:AV} {ws:List L8}
theorem zW.fr {H':AHeap} {W:Nat->Prop} (h:zW H mp lv ws) (f:Fr W H H') (h1:¬ W mp) (h2:¬ W (aF lv)):zW H' mp lv ws:=⟨by rw [f.ah _ h.lt h1];exact h.row,qk h.lt f.next,h.ls.fr f h2,h.ne,h.le⟩
theorem qtc (h:zW H mp lv ws) {n:Int} (h0:0<=n) (h1:n<ws.length):zq M PT [.ptr mp 0,.int .i64 n] H λ v H'=>v=.tuple [.ptr (aF lv) (bI 8 lv n.toNat),.int .i64 0]/\H'=H:=by
 have hl:Op.ae [.ptr mp 0] H=some lv:=xp (qz h.row) 0;have hn:=(h.ls.sl vf).len;have q0:¬ n<0:=by omega
 have q1:¬ ((ws.length:Nat):Int)<=n:=by omega
 have hx:ws[n.toNat]? = some (ws[n.toNat]'(by omega)):=qy (by omega);have ix:Op.aQ 8 [lv,.int .i64 n]=some (.ptr (aF lv) (bI 8 lv n.toNat)):=(h.ls.sl vf).idx hx (by omega) .i64;refine qyq ?_;obtain ⟨w0,w2,w17⟩:=qyr M ⟨none,PT⟩;simp only [↓qd,qp,aa,reduceIte,reduceEqDiff,w0,w2,kv,q0,qi,hl,hn,q1,w17,ix]
theorem qwt (h:zW H mp lv ws) {n:Int} {w:L8} (h0:0<=n) (hw:ws[n.toNat]? = some w):zq M P1 [.ptr mp 0,.int .i64 n] H λ v H'=>v=.tuple [.agg (cJ w),.int .i64 0]/\Fr Em H H':=by
 have hlt:=(qe.1 hw).1;refine quk ?_;obtain ⟨w0,w4,w12⟩:=qul M ⟨none,P1⟩;obtain ⟨H1,e1⟩:∃ X,X=H.alloc (OR (cJ .zero) j0):=⟨_,rfl⟩
 have f1:Fr Em H H1:=by rw [e1];exact (Fr.refl H).alloc _
 have g1:H1.get H.next=some (OR (cJ .zero) j0):=by rw [e1,qw]
 simp only [↓qd,qp,aa,reduceIte,reduceEqDiff,w0,lZ,<-e1];refine C3.q (qtc (M:=M) (h.fr f1 id id) h0 (by omega)) λ v H2 ⟨hv,hh⟩=>?_;rw [hv,hh];have ld:Op.aG 8 [.ptr (aF lv) (bI 8 lv n.toNat)] H1=some (.agg (cJ w)):=((h.fr f1 id id).ls.sl vf).aG vf (by decide) hw;have st:=iH g1 (vf _) (vf w) (tq w);have hg:(H1.set H.next (OR (cJ w) j0)).get H.next=some (OR (cJ w) j0):=xb ..
 have ln:=fU hg (vf w);simp only [↓qd,qp,aa,reduceIte,reduceEqDiff,qn,w4,w12,qi,ld,st,ln];exact f1.set (.inr (qf _)) _
theorem qph (h:zW H mp lv ws) {n:Int} (h0:0<=n) (h1:n<ws.length) (x:L8):zq M N5 [.ptr mp 0,.int .i64 n,.agg (cJ x)] H λ v H'=>v=.int .i64 0/\zW H' mp lv (ws.set n.toNat x)/\Fr (On (aF lv)) H H':=by
 refine qwr ?_;obtain ⟨w0,w4,w10⟩:=qws M ⟨none,N5⟩;obtain ⟨H1,e1⟩:∃ X,X=H.alloc (OR (cJ x) j0):=⟨_,rfl⟩
 have f1:Fr Em H H1:=by rw [e1];exact (Fr.refl H).alloc _
 have g1:H1.get H.next=some (OR (cJ x) j0):=by rw [e1,qw]
 have hm:=h.fr f1 id id;simp only [↓qd,qp,aa,reduceIte,reduceEqDiff,w0,xk,<-e1];refine C3.q (qtc (M:=M) hm h0 h1) λ v H2 ⟨hv,hh⟩=>?_;rw [hv,hh];have ln:=fU g1 (vf x);have hx:ws[n.toNat]? = some (ws[n.toNat]'(by omega)):=qy (by omega);obtain ⟨H3,st,r3,f3⟩:=hm.ls.wW vf tq hx x;simp only [↓qd,qp,aa,reduceIte,reduceEqDiff,qn,w4,ln,qi,st,w10];exact ⟨⟨by rw [f3.ah _ hm.lt (λ q=>hm.ne q)];exact hm.row,qk hm.lt f3.next,r3,h.ne,by rw [qv];exact h.le⟩,(f1.mono λ _ _ q=>q.elim).trans f3 λ _ q=>.inl q⟩
end
end Go.Am
namespace Go.Am
open Go.Proofs Ca
variable {M:aA} [MK M]
abbrev uB (s:Nat):AV:=.int .u8 (s:Int)
theorem FA {c:Int} (c0:0<=c) (c1:c<4):Op.bin .shl [.int .u8 1,.int .i64 c]=some (uB (2 ^ c.toNat)):=by
 rcases four c0 c1 with rfl|rfl|rfl|rfl<;>rfl
theorem DR {s:Nat} (h:s<16):s=0\/s=1\/s=2\/s=3\/s=4\/s=5\/s=6\/s=7\/s=8\/s=9\/s=10\/s=11\/s=12\/s=13\/s=14\/s=15:=by omega
theorem O6 {s:Nat} (hs:s<16) {c:Int} (c0:0<=c) (c1:c<4):Op.bin .andNot [uB s,uB (2 ^ c.toNat)]=some (uB (aU s c)):=by
 rcases four c0 c1 with rfl|rfl|rfl|rfl<;>rcases DR hs with rfl|rfl|rfl|rfl|rfl|rfl|rfl|rfl|rfl|rfl|rfl|rfl|rfl|rfl|rfl|rfl<;>rfl
theorem q45 {s:Nat} (hs:s<16) {c:Int} (c0:0<=c) (c1:c<4):Op.bin .or [uB s,uB (2 ^ c.toNat)]=some (uB (jC s c)):=by
 rcases four c0 c1 with rfl|rfl|rfl|rfl<;>rcases DR hs with rfl|rfl|rfl|rfl|rfl|rfl|rfl|rfl|rfl|rfl|rfl|rfl|rfl|rfl|rfl|rfl<;>rfl
theorem q46 {s:Nat} (hs:s<16) {c:Int} (c0:0<=c) (c1:c<4):Op.bin .and [uB s,uB (2 ^ c.toNat)]=some (uB (hb s c*2 ^ c.toNat)):=by
 rcases four c0 c1 with rfl|rfl|rfl|rfl<;>rcases DR hs with rfl|rfl|rfl|rfl|rfl|rfl|rfl|rfl|rfl|rfl|rfl|rfl|rfl|rfl|rfl|rfl<;>rfl
def eh (p:De × AV):List AV:=.int .i64 p.1.ow::uB p.1.sh::(ai p.1.un ++ [.int .i64 p.1.ph,uB p.1.ask,p.2])
theorem tz (p:De × AV):(eh p).length=16:=by simp [eh,xq]
theorem BL (p:De × AV):(eh p)[0]? = some (.int .i64 p.1.ow)/\(eh p)[1]? = some (uB p.1.sh)/\(eh p)[2]? = some (.int .i64 p.1.un.k)/\(eh p)[3]? = some (.int .i64 p.1.un.core)/\(eh p)[4]? = some (.int .i64 p.1.un.line)/\(eh p)[13]? = some (.int .i64 p.1.ph)/\(eh p)[14]? = some (uB p.1.ask)/\(eh p)[15]? = some p.2/\((eh p).drop 2).take 11=ai p.1.un:=by
 obtain ⟨⟨ow,sh,⟨k,co,li,⟨d,hd⟩⟩,ph,ask,wt⟩,a⟩:=p
 match d,hd with
 | [_,_,_,_,_,_,_,_],_=>exact ⟨rfl,rfl,rfl,rfl,rfl,rfl,rfl,rfl,rfl⟩
structure iT (H:AHeap) (D mp:Nat) (lv ev:AV) (N:Int) (ws:List L8) (xs:List (De × AV)):Prop where
 row:H.get D=some (OR [.ptr mp 0,.int .i64 N,ev] MB)
 lt:D<H.next
 me:zW H mp lv ws
 es:dR eh HS 16 H ev xs
 wt:∀ (i:Nat) (x:De) (a:AV),xs[i]? = some (x,a)->Sk ai qt 11 H a x.wt
 d1:D ≠ mp/\D ≠ aF lv/\D ≠ aF ev/\mp ≠ aF ev/\aF lv ≠ aF ev
 d2:∀ (i:Nat) (x:De) (a:AV),xs[i]? = some (x,a) -> ∀ z,aI a z->z ≠ D/\z ≠ mp/\z ≠ aF lv/\z ≠ aF ev
 d3:∀ (i j:Nat) (x y:De) (a b:AV),xs[i]? = some (x,a)->xs[j]? = some (y,b)->i ≠ j -> ∀ z,aI a z -> ¬ aI b z
 len:xs.length=ws.length
def iR (D mp:Nat) (lv ev:AV) (xs:List (De × AV)):Nat->Prop:=λ z=>z=D\/z=mp\/z=aF lv\/z=aF ev \/ ∃ (i:Nat) (x:De) (a:AV),xs[i]? = some (x,a)/\aI a z
section
variable {H:AHeap} {D mp:Nat} {lv ev:AV} {N:Int} {ws:List L8} {xs:List (De × AV)}
theorem iT.fr {H':AHeap} {W:Nat->Prop} (h:iT H D mp lv ev N ws xs) (f:Fr W H H') (hw:∀ z,W z -> ¬ iR D mp lv ev xs z):iT H' D mp lv ev N ws xs :=
 ⟨by rw [f.ah _ h.lt (λ q=>hw _ q (.inl rfl))];exact h.row,qk h.lt f.next,h.me.fr f (λ q=>hw _ q (.inr (.inl rfl))) (λ q=>hw _ q (.inr (.inr (.inl rfl)))),h.es.fr f (λ q=>hw _ q (.inr (.inr (.inr (.inl rfl))))),λ i x a hx=>(h.wt i x a hx).fr f λ z hz q=>hw z q (.inr (.inr (.inr (.inr ⟨i,x,a,hx,hz⟩)))),h.d1,h.d2,h.d3,h.len⟩
theorem iT.em {H':AHeap} (h:iT H D mp lv ev N ws xs) (f:Fr Em H H'):iT H' D mp lv ev N ws xs:=h.fr f λ _ q=>q.elim
theorem iT.low (h:iT H D mp lv ev N ws xs) {z:Nat} (hz:iR D mp lv ev xs z):z<H.next:=by
 rcases hz with rfl|rfl|rfl|rfl|⟨i,x,a,hx,hz⟩
 ·exact h.lt
 ·exact h.me.lt
 ·exact h.me.ls.lt
 ·exact h.es.lt
 ·exact (h.wt i x a hx).lt z hz
abbrev xA (ev:AV) (i:Nat):AV:=.ptr (aF ev) (bI 16 ev i)
theorem iT.ld (h:iT H D mp lv ev N ws xs) {i:Nat} {p:De × AV} (hx:xs[i]? = some p) {k:Nat} (hk:k<16):Op.ae [.ptr (aF ev) (bI 16 ev i+k)] H=(eh p)[k]?:=(h.es.sl tz).ae tz hx hk
theorem iT.BS (h:iT H D mp lv ev N ws xs) {i:Nat} {p:De × AV} (hx:xs[i]? = some p):Op.ae [.ptr (aF ev) (bI 16 ev i)] H=some (.int .i64 p.1.ow):=((h.es.sl tz).jW tz hx (by decide)).trans (BL p).1
theorem iT.ldU (h:iT H D mp lv ev N ws xs) {i:Nat} {p:De × AV} (hx:xs[i]? = some p):Op.aG 11 [.ptr (aF ev) (bI 16 ev i+2)] H=some (.agg (ai p.1.un)):=by
 have hsl:=h.es.sl tz;obtain ⟨b,e,h1,h2⟩:=h.es;have hl:bI 16 ev i=i*16:=by rw [e];simp [bI]
 have hlt:=(qe.1 hx).1;have hc:aF ev=b:=by rw [e];rfl
 rw [hl,hc,Ac (qz h2) (by rw [zV tz];omega)];have:((xs.flatMap eh).drop (i*16+2)).take 11=ai p.1.un:=by
  rw [<-(BL p).2.2.2.2.2.2.2.2];apply jp;intro j;rw [kc,kc];split
  ·rw [kq,kq,kx,Fc tz xs hx (by omega)]
  ·rfl
 rw [this]
theorem iT.put (h:iT H D mp lv ev N ws xs) {i:Nat} {x y:De} {a:AV} (hx:xs[i]? = some (x,a)) (hwt:y.wt=x.wt) {j n:Nat} {u:AV} (hu:u.cells.length=n) (ho:aO u.cells=true) (hj:j+n<=16) (hy:eh (y,a)=(eh (x,a)).take j++u.cells++(eh (x,a)).drop (j+n)) :
 ∃ H',Op.store n [.ptr (aF ev) (bI 16 ev i+j),u] H=some (.undef,H')/\iT H' D mp lv ev N ws (xs.set i (y,a))/\Fr (On (aF ev)) H H':=by
 obtain ⟨H',s,r,f⟩:=h.es.r9 tz hx hu ho hj hy;have hi:=(qe.1 hx).1;obtain ⟨e1,e2,e3,e4,e5⟩:=h.d1;have hset:∀ (k:Nat) (z:De) (b:AV),(xs.set i (y,a))[k]? = some (z,b) -> ∃ z',xs[k]? = some (z',b)/\z'.wt=z.wt:=λ k z b hk=>by
  by_cases q:k=i
  ·subst q;rw [qu hi] at hk;injection hk with hk;injection hk with h1 h2
   subst h1 h2;exact ⟨x,hx,hwt.symm⟩
  ·rw [qm (yt q)] at hk;exact ⟨z,hk,rfl⟩
 refine ⟨H',s,⟨by rw [f.ah _ h.lt (λ q=>e3 q)];exact h.row,qk h.lt f.next,h.me.fr f (λ q=>e4 q) (λ q=>e5 q),r,λ k z b hk=>?_,h.d1,λ k z b hk=>?_,λ k l z w b c hk hl'=>?_,by rw [qv];exact h.len⟩,f⟩
 ·obtain ⟨z',hz,hw⟩:=hset k z b hk;rw [<-hw];exact (h.wt k z' b hz).fr f λ q hq w=>(h.d2 k z' b hz q hq).2.2.2 w
 ·obtain ⟨z',hz,-⟩:=hset k z b hk;exact h.d2 k z' b hz
 ·obtain ⟨z',hz,-⟩:=hset k z b hk;obtain ⟨w',hw,-⟩:=hset l w c hl';exact h.d3 k l z' w' b c hz hw
theorem iT.wait (h:iT H D mp lv ev N ws xs) {i:Nat} {x:De} {a a':AV} {ys:List Mg} {H1:AHeap} (hx:xs[i]? = some (x,a)) (hs:Sk ai qt 11 H1 a' ys) (f:Fr (aI a) H H1) (hf:∀ z,aI a' z->aI a z\/H.next<=z) (h1:aT a'=true) :
 ∃ H',Op.store 1 [.ptr (aF ev) (bI 16 ev i+15),a'] H1=some (.undef,H')/\iT H' D mp lv ev N ws (xs.set i ({ x with wt:=ys },a'))/\Fr (iR D mp lv ev xs) H H'/\Fr (On (aF ev)) H1 H':=by
 have hi:=(qe.1 hx).1;obtain ⟨e1,e2,e3,e4,e5⟩:=h.d1;have dd:=h.d2 i x a hx;have hes:dR eh HS 16 H1 ev xs:=h.es.fr f λ q=>(dd _ q).2.2.2 rfl;have hc:a'.cells=[a']:=by cases a'<;>first|rfl|cases h1
 obtain ⟨H',s,r,f2⟩:=hes.r9 (y:=({ x with wt:=ys },a')) tz hx (j:=15) (n:=1) (u:=a') (by rw [hc];rfl) (by rw [hc];rw [oQ];simpa using h1) (by decide) (by
  rw [hc];obtain ⟨ow,sh,⟨k,co,li,⟨d,hd⟩⟩,ph,ask,wt⟩:=x
  match d,hd with
  | [_,_,_,_,_,_,_,_],_=>rfl)
 have hfe:Fr (iR D mp lv ev xs) H H':=(f.mono λ z _ hz=>(.inr (.inr (.inr (.inr ⟨i,x,a,hx,hz⟩))):iR D mp lv ev xs z)).trans f2 λ z (q:z=aF ev)=>.inl (.inr (.inr (.inr (.inl q))));have hev:=h.es.lt;refine ⟨H',s,⟨?_,?_,?_,r,λ k z b hk=>?_,h.d1,λ k z b hk q hq=>?_,λ k l z w b c hk hl' hne q hq=>?_,by rw [qv];exact h.len⟩,hfe,f2⟩
 ·rw [f2.ah _ (qk h.lt f.next) (λ q=>e3 q),f.ah _ h.lt (λ q=>(dd _ q).1 rfl)];exact h.row
 ·exact qk (qk h.lt f.next) f2.next
 ·exact (h.me.fr f (λ q=>(dd _ q).2.1 rfl) (λ q=>(dd _ q).2.2.1 rfl)).fr f2 (λ q=>e4 q) (λ q=>e5 q)
 ·by_cases q:k=i
  ·subst q;rw [qu hi] at hk;injection hk with hk;injection hk with h2 h3
   subst h2 h3;refine hs.fr f2 λ z hz w=>?_;rcases hf z hz with q|q
   ·exact (dd z q).2.2.2 w
   ·have w:z=aF ev:=w;omega
  ·rw [qm (yt q)] at hk;refine ((h.wt k z b hk).fr f λ u hu w=>h.d3 k i z x b a hk hx q u hu w).fr f2 λ u hu w=>(h.d2 k z b hk u hu).2.2.2 w
 ·by_cases w:k=i
  ·subst w;rw [qu hi] at hk;injection hk with hk;injection hk with h2 h3
   subst h2 h3;rcases hf q hq with w|w
   ·exact dd q w
   ·have a1:=h.lt;have a2:=h.me.lt;have a3:=h.me.ls.lt;exact ⟨by omega,by omega,by omega,by omega⟩
  ·rw [qm (yt w)] at hk;exact h.d2 k z b hk q hq
 ·by_cases w1:k=i
  ·subst w1;rw [qu hi] at hk;rw [qm hne] at hl';injection hk with hk;injection hk with h2 h3
   subst h2 h3;rcases hf q hq with w|w
   ·exact h.d3 k l x _ a c hx hl' hne q w
   ·intro w2;have:=(h.wt l _ c hl').lt q w2;omega
  ·rw [qm (yt w1)] at hk
   by_cases w2:l=i
   ·subst w2;rw [qu hi] at hl';injection hl' with hl';injection hl' with h2 h3
    subst h2 h3;intro w3;rcases hf q w3 with w|w
    ·exact h.d3 k l z x b a hk hx w1 q hq w
    ·have:=(h.wt k z b hk).lt q hq;omega
   ·rw [qm (yt w2)] at hl';exact h.d3 k l z _ b c hk hl' hne q hq
end
end Go.Am
namespace Go.Am
open Go.Proofs Ca
variable {M:aA} [MK M]
structure cC (H:AHeap) (D mp:Nat) (lv ev:AV) (N:Int) (ws:List L8) (xs:List (De × AV)) (i:Nat) (x:De) (a:AV):Prop where
 il:i<xs.length
 d:iT H D mp lv ev N ws (xs.set i (x,a))
section
variable {H:AHeap} {D mp:Nat} {lv ev:AV} {N:Int} {ws:List L8} {xs:List (De × AV)} {i:Nat} {x:De} {a:AV}
theorem cC.of (h:iT H D mp lv ev N ws xs) (hx:xs[i]? = some (x,a)):cC H D mp lv ev N ws xs i x a:=by
 refine ⟨(qe.1 hx).1,?_⟩;have:xs.set i (x,a)=xs:=by
  apply jp;intro j
  by_cases q:j=i
  ·rw [q,qu (qe.1 hx).1,hx]
  ·rw [qm (yt q)]
 rw [this];exact h
theorem cC.here (h:cC H D mp lv ev N ws xs i x a):(xs.set i (x,a))[i]? = some (x,a):=qu h.il
theorem cC.em {H':AHeap} (h:cC H D mp lv ev N ws xs i x a) (f:Fr Em H H'):cC H' D mp lv ev N ws xs i x a:=⟨h.il,h.d.em f⟩
theorem cC.l0 (h:cC H D mp lv ev N ws xs i x a):Op.ae [.ptr (aF ev) (bI 16 ev i)] H=some (.int .i64 x.ow):=h.d.BS h.here
theorem cC.l1 (h:cC H D mp lv ev N ws xs i x a):Op.ae [.ptr (aF ev) (bI 16 ev i+1)] H=some (uB x.sh):=(h.d.ld h.here (by decide)).trans (BL (x,a)).2.1
theorem cC.l2 (h:cC H D mp lv ev N ws xs i x a):Op.ae [.ptr (aF ev) (bI 16 ev i+2)] H=some (.int .i64 x.un.k):=(h.d.ld h.here (by decide)).trans (BL (x,a)).2.2.1
theorem cC.l3 (h:cC H D mp lv ev N ws xs i x a):Op.ae [.ptr (aF ev) (bI 16 ev i+2+1)] H=some (.int .i64 x.un.core):=(h.d.ld h.here (k:=3) (by decide)).trans (BL (x,a)).2.2.2.1
theorem cC.l4 (h:cC H D mp lv ev N ws xs i x a):Op.ae [.ptr (aF ev) (bI 16 ev i+2+2)] H=some (.int .i64 x.un.line):=(h.d.ld h.here (k:=4) (by decide)).trans (BL (x,a)).2.2.2.2.1
theorem cC.nz (h:cC H D mp lv ev N ws xs i x a):Op.ae [.ptr (aF ev) (bI 16 ev i+13)] H=some (.int .i64 x.ph):=(h.d.ld h.here (by decide)).trans (BL (x,a)).2.2.2.2.2.1
theorem cC.rf (h:cC H D mp lv ev N ws xs i x a):Op.ae [.ptr (aF ev) (bI 16 ev i+14)] H=some (uB x.ask):=(h.d.ld h.here (by decide)).trans (BL (x,a)).2.2.2.2.2.2.1
theorem cC.ft (h:cC H D mp lv ev N ws xs i x a):Op.ae [.ptr (aF ev) (bI 16 ev i+15)] H=some a:=(h.d.ld h.here (by decide)).trans (BL (x,a)).2.2.2.2.2.2.2.1
theorem cC.lU (h:cC H D mp lv ev N ws xs i x a):Op.aG 11 [.ptr (aF ev) (bI 16 ev i+2)] H=some (.agg (ai x.un)):=h.d.ldU h.here
theorem cC.put (h:cC H D mp lv ev N ws xs i x a) {y:De} (hwt:y.wt=x.wt) {j n:Nat} {u:AV} (hu:u.cells.length=n) (ho:aO u.cells=true) (hj:j+n<=16) (hy:eh (y,a)=(eh (x,a)).take j++u.cells++(eh (x,a)).drop (j+n)) :
 ∃ H',Op.store n [.ptr (aF ev) (bI 16 ev i+j),u] H=some (.undef,H')/\cC H' D mp lv ev N ws xs i y a/\Fr (On (aF ev)) H H':=by
 obtain ⟨H',s,r,f⟩:=h.d.put h.here hwt hu ho hj hy;rw [List.set_set] at r;exact ⟨H',s,⟨h.il,r⟩,f⟩
theorem cC.s0 (h:cC H D mp lv ev N ws xs i x a) (k:Int):∃ H',Op.store 1 [.ptr (aF ev) (bI 16 ev i),.int .i64 k] H=some (.undef,H')/\cC H' D mp lv ev N ws xs i { x with ow:=k } a/\Fr (On (aF ev)) H H' :=
 h.put (y:={ x with ow:=k }) (j:=0) (n:=1) (u:=.int .i64 k) rfl rfl rfl (by decide) rfl
theorem cC.s1 (h:cC H D mp lv ev N ws xs i x a) (k:Nat):∃ H',Op.store 1 [.ptr (aF ev) (bI 16 ev i+1),uB k] H=some (.undef,H')/\cC H' D mp lv ev N ws xs i { x with sh:=k } a/\Fr (On (aF ev)) H H' :=
 h.put (y:={ x with sh:=k }) (j:=1) (n:=1) (u:=uB k) rfl rfl rfl (by decide) rfl
theorem cC.sU (h:cC H D mp lv ev N ws xs i x a) (m:Mg):∃ H',Op.store 11 [.ptr (aF ev) (bI 16 ev i+2),.agg (ai m)] H=some (.undef,H')/\cC H' D mp lv ev N ws xs i { x with un:=m } a/\Fr (On (aF ev)) H H':=by
 refine h.put (y:={ x with un:=m }) (j:=2) (n:=11) (u:=.agg (ai m)) rfl (by rw [xk];exact xq m) (by rw [xk];exact vk m) (by decide) ?_;rw [xk];obtain ⟨ow,sh,⟨k,co,li,⟨d,hd⟩⟩,ph,ask,wt⟩:=x
 match d,hd with
 | [_,_,_,_,_,_,_,_],_=>rfl
theorem cC.Jd (h:cC H D mp lv ev N ws xs i x a) (k:Int):∃ H',Op.store 1 [.ptr (aF ev) (bI 16 ev i+13),.int .i64 k] H=some (.undef,H')/\cC H' D mp lv ev N ws xs i { x with ph:=k } a/\Fr (On (aF ev)) H H':=by
 refine h.put (y:={ x with ph:=k }) (j:=13) (n:=1) (u:=.int .i64 k) rfl rfl rfl (by decide) ?_;obtain ⟨ow,sh,⟨k,co,li,⟨d,hd⟩⟩,ph,ask,wt⟩:=x
 match d,hd with
 | [_,_,_,_,_,_,_,_],_=>rfl
theorem cC.K5 (h:cC H D mp lv ev N ws xs i x a) (k:Nat):∃ H',Op.store 1 [.ptr (aF ev) (bI 16 ev i+14),uB k] H=some (.undef,H')/\cC H' D mp lv ev N ws xs i { x with ask:=k } a/\Fr (On (aF ev)) H H':=by
 refine h.put (y:={ x with ask:=k }) (j:=14) (n:=1) (u:=uB k) rfl rfl rfl (by decide) ?_;obtain ⟨ow,sh,⟨k,co,li,⟨d,hd⟩⟩,ph,ask,wt⟩:=x
 match d,hd with
 | [_,_,_,_,_,_,_,_],_=>rfl
theorem bdG (co l:Int) (d:L8):Op.build (ai ⟨0,0,0,.zero⟩) [(0,1),(1,1),(2,1),(3,8)] [.int .i64 14,.int .i64 co,.int .i64 l,.agg (cJ d)]=some (.agg (ai ⟨14,co,l,d⟩)):=by
 obtain ⟨d,hd⟩:=d
 match d,hd with
 | [_,_,_,_,_,_,_,_],_=>rfl
theorem cC.OI (h:cC H D mp lv ev N ws xs i x a):∃ H',Op.store 1 [.ptr (aF ev) (bI 16 ev i+14),.int .u8 0] H=some (.undef,H')/\cC H' D mp lv ev N ws xs i { x with ask:=0 } a/\Fr (On (aF ev)) H H':=h.K5 0
theorem cC.s1z (h:cC H D mp lv ev N ws xs i x a):∃ H',Op.store 1 [.ptr (aF ev) (bI 16 ev i+1),.int .u8 0] H=some (.undef,H')/\cC H' D mp lv ev N ws xs i { x with sh:=0 } a/\Fr (On (aF ev)) H H':=h.s1 0
abbrev Lo (H:AHeap):Nat->Prop:=λ z=>H.next<=z
theorem cC.loc {x':De} {H1 H2:AHeap} (h:cC H D mp lv ev N ws xs i x a) (h1:cC H1 D mp lv ev N ws xs i x' a) (f:Fr (Lo H) H1 H2):cC H2 D mp lv ev N ws xs i x' a:=by
 refine ⟨h1.il,h1.d.fr f λ z hz q=>?_⟩;have:iR D mp lv ev (xs.set i (x,a)) z:=by
  rcases q with q|q|q|q|⟨k,y,b,hk,q⟩
  ·exact .inl q
  ·exact .inr (.inl q)
  ·exact .inr (.inr (.inl q))
  ·exact .inr (.inr (.inr (.inl q)))
  ·by_cases w:k=i
   ·subst w;rw [h1.here] at hk;injection hk with hk;injection hk with _ hk;subst hk
    exact .inr (.inr (.inr (.inr ⟨k,x,a,h.here,q⟩)))
   ·rw [qm (yt w)] at hk;exact .inr (.inr (.inr (.inr ⟨k,y,b,by rw [qm (yt w)];exact hk,q⟩)))
 have:=h.d.low this;have hz:H.next<=z:=hz
 omega
theorem qu1 (h:cC H D mp lv ev N ws xs i x a) {w:L8} (hw:ws[x.un.line.toNat]? = some w) (hl:0<=x.un.line) (hs:x.sh<16) (c0:0<=x.un.core) (c1:x.un.core<4) :
 zq M Kc [.ptr D 0,xA ev i] H λ v H'=>v=.agg (ai (x.bD w).2)/\cC H' D mp lv ev N ws xs i (x.bD w).1 a/\Fr (On (aF ev)) H H':=by
 refine qr8 ?_;obtain ⟨w0,w4,w8,w18⟩:=qr9 M ⟨none,Kc⟩;obtain ⟨H1,e1⟩:∃ X,X=H.alloc (OR (ai ⟨0,0,0,.zero⟩) qt):=⟨_,rfl⟩
 have f1:Fr Em H H1:=by rw [e1];exact (Fr.refl H).alloc _
 have g1:H1.get H.next=some (OR (ai ⟨0,0,0,.zero⟩) qt):=by rw [e1,qw]
 have n1:H1.next=H.next+1:=by rw [e1,xd]
 obtain ⟨H2,s2,h2,f2⟩:=(h.em f1).Jd 4;obtain ⟨H3,s3,h3,f3⟩:=h2.OI;have BS:Op.ae [.ptr D 0] H3=some (.ptr mp 0):=xp (qz h3.d.row) 0;have hev:=h.d.es.lt;have nb:¬ H.next=aF ev:=by omega
 have m2:=f2.next;have m3:=f3.next
 have g3:H3.get H.next=some (OR (ai ⟨0,0,0,.zero⟩) qt):=by rw [f3.ah _ (by omega) nb,f2.ah _ (by omega) nb];exact g1
 simp only [↓qd,qp,aa,reduceIte,reduceEqDiff,w0,mZ,<-e1,qi,s2,s3,w4,BS,h3.l4];refine C3.q (qwt (M:=M) h3.d.me hl hw) λ v H4 ⟨hv,f4⟩=>?_;rw [hv];obtain ⟨H5,e5⟩:∃ X,X=H4.alloc (OR (cJ .zero) j0):=⟨_,rfl⟩
 have g5:H5.get H4.next=some (OR (cJ .zero) j0):=by rw [e5,qw]
 have st5:=iH g5 (vf _) (vf w) (tq w);obtain ⟨H6,e6⟩:∃ X,X=H5.set H4.next (OR (cJ w) j0):=⟨_,rfl⟩
 rw [<-e6] at st5;have g6:H6.get H4.next=some (OR (cJ w) j0):=by rw [e6,xb]
 have f45:Fr Em H4 H5:=by rw [e5];exact (Fr.refl H4).alloc _
 have f46:Fr Em H4 H6:=by rw [e6];exact f45.set (.inr (qf _)) _
 have f36:Fr Em H3 H6:=f4.trans f46 λ _ q=>q.elim;have h6:=h3.em f36;have l5:=fU g6 (vf w);obtain ⟨H7,e7⟩:∃ X,X=H6.alloc (OR (ai ⟨0,0,0,.zero⟩) qt):=⟨_,rfl⟩
 have g7:H7.get H6.next=some (OR (ai ⟨0,0,0,.zero⟩) qt):=by rw [e7,qw]
 have st7:=iH g7 (xq _) (xq ⟨14,x.un.core,x.un.line,w⟩) (vk _);obtain ⟨H8,e8⟩:∃ X,X=H7.set H6.next (OR (ai ⟨14,x.un.core,x.un.line,w⟩) qt):=⟨_,rfl⟩
 rw [<-e8] at st7;have g8:H8.get H6.next=some (OR (ai ⟨14,x.un.core,x.un.line,w⟩) qt):=by rw [e8,xb]
 have f67:Fr Em H6 H7:=by rw [e7];exact (Fr.refl H6).alloc _
 have f68:Fr Em H6 H8:=by rw [e8];exact f67.set (.inr (qf _)) _
 have f38:Fr Em H3 H8:=f36.trans f68 λ _ q=>q.elim;have h8:=h3.em f38;have m36:=f36.next;have m68:=f68.next
 have g38:H8.get H.next=some (OR (ai ⟨0,0,0,.zero⟩) qt):=by rw [f38.ah _ (by omega) id];exact g3
 have n8:H6.next<H8.next:=by rw [e8,C8,e7,xd];omega
 have f08:Fr (On (aF ev)) H H8:=(((f1.mono λ _ _ q=>q.elim).trans f2 λ _ q=>.inl q).trans f3 λ _ q=>.inl q).trans f38 λ _ q=>q.elim;simp only [↓qd,qp,aa,reduceIte,reduceEqDiff,qn,lZ,<-e5,st5,qi,h6.l3,h6.l4,l5,mZ,bdG,<-e7,st7,w8,h8.l2];have fin:∀ {H9:AHeap} {y:De} {m:Mg},cC H9 D mp lv ev N ws xs i y a->Fr (On (aF ev)) H H9->H9.get H.next=some (OR (ai ⟨0,0,0,.zero⟩) qt)->H.next<H9.next -> ∃ Hx,Op.store 11 [.ptr H.next 0,.agg (ai m)] H9=some (.undef,Hx)/\Op.aG 11 [.ptr H.next 0] Hx=some (.agg (ai m))/\cC Hx D mp lv ev N ws xs i y a/\Fr (On (aF ev)) H Hx:=λ {H9 y m} a1 a2 a3 a4=>by
  have st:=iH a3 (xq _) (xq m) (vk m);refine ⟨_,st,fU (xb ..) (xq m),h.loc a1 ((Fr.refl H9).set (W:=Lo H) (.inl (qf _)) _),a2.set (.inr (qf _)) _⟩
 have nb6:¬ H6.next=aF ev:=by omega
 unfold De.bD
 by_cases k1:x.un.k=1
 ·rw [ql k1];have sh1:=FA c0 c1;have sa:=q45 hs c0 c1;obtain ⟨H9,s9,h9,f9⟩:=h8.s1 (jC x.sh x.un.core);have m9:=f9.next
  have l9:Op.aG 11 [.ptr H6.next 0] H9=some (.agg (ai ⟨14,x.un.core,x.un.line,w⟩)):=fU (by rw [f9.ah _ n8 nb6];exact g8) (xq _);obtain ⟨Hx,sx,lx,hx,fx⟩:=fin (m:=⟨14,x.un.core,x.un.line,w⟩) h9 (f08.trans f9 λ _ q=>.inl q) (by rw [f9.ah _ (by omega) nb];exact g38) (by omega);simp only [↓qd,qp,aa,reduceIte,reduceEqDiff,xc k1,h8.l1,h8.l3,qi,sh1,sa,s9,l9,sx,lx];exact ⟨hx,fx⟩
 ·rw [qg k1];obtain ⟨H9,s9,h9,f9⟩:=h8.s0 x.un.core;obtain ⟨Ha,sa,ha,fa⟩:=h9.s1z;have m9:=f9.next;have ma:=fa.next
  have ga:Ha.get H6.next=some (OR (ai ⟨14,x.un.core,x.un.line,w⟩) qt):=by rw [fa.ah _ (by omega) nb6,f9.ah _ n8 nb6];exact g8
  have sb:Op.store 1 [.ptr H6.next 0,.int .i64 15] Ha=some (.undef,Ha.set H6.next (OR (ai ⟨15,x.un.core,x.un.line,w⟩) qt)):=oS (v:=.int .i64 15) ga (o:=0) (n:=1) rfl (by rw [xq];decide) rfl;obtain ⟨Hb,eb⟩:∃ X,X=Ha.set H6.next (OR (ai ⟨15,x.un.core,x.un.line,w⟩) qt):=⟨_,rfl⟩
  rw [<-eb] at sb;have fb:Fr (Lo H) Ha Hb:=by rw [eb];exact (Fr.refl Ha).set (W:=Lo H) (.inl (show H.next<=H6.next by omega)) _
  have lb:Op.aG 11 [.ptr H6.next 0] Hb=some (.agg (ai ⟨15,x.un.core,x.un.line,w⟩)):=fU (by rw [eb,xb]) (xq _);have hb:=h.loc ha fb;have nne:¬ H6.next=H.next:=by omega
  have gb:Hb.get H.next=some (OR (ai ⟨0,0,0,.zero⟩) qt):=by rw [eb,yb nne,fa.ah _ (by omega) nb,f9.ah _ (by omega) nb];exact g38
  obtain ⟨Hx,sx,lx,hx,fx⟩:=fin (m:=⟨15,x.un.core,x.un.line,w⟩) hb (((f08.trans f9 λ _ q=>.inl q).trans fa λ _ q=>.inl q).trans fb λ _ q=>.inr q) gb (by have:=fb.next;omega);simp only [↓qd,qp,aa,reduceIte,reduceEqDiff,k1,w18,h8.l3,qi,s9,sa,sb,lb,sx,lx];exact ⟨hx,fx⟩
end
end Go.Am
namespace Go.Am
open Go.Proofs Ca
variable {M:aA} [MK M]
section
variable {H:AHeap} {D mp:Nat} {lv ev:AV} {N:Int} {ws:List L8} {xs:List (De × AV)} {i:Nat} {x:De} {a:AV}
theorem xY (h:iT H D mp lv ev N ws xs) {n:Int} (h0:0<=n) (h1:n<xs.length):zq M Px [.ptr D 0,.int .i64 n] H λ v H'=>v=xA ev n.toNat/\H'=H:=by
 have hl:Op.ae [.ptr D 2] H=some ev:=xp (qz h.row) 2;have hn:=(h.es.sl tz).len;have q0:¬ n<0:=by omega
 have q1:¬ ((xs.length:Nat):Int)<=n:=by omega
 have hx:xs[n.toNat]? = some (xs[n.toNat]'(by omega)):=qy (by omega);have ix:Op.aQ 16 [ev,.int .i64 n]=some (.ptr (aF ev) (bI 16 ev n.toNat)):=(h.es.sl tz).idx hx (by omega) .i64;refine qx1 ?_;obtain ⟨w0,w2,w10⟩:=qx2 M ⟨none,Px⟩;simp only [↓qd,qp,aa,reduceIte,reduceEqDiff,w0,w2,kv,q0,qi,hl,hn,q1,w10,ix]
end
def gY (s:Nat):List Nat:=(List.range 4).filter λ (k:Nat)=>hb s (k:Int) == 1
theorem DE (s:Nat):nd s=(gY s).map λ (k:Nat)=>(k:Int):=by
 unfold nd gY;have e:([0,1,2,3]:List Int)=(List.range 4).map λ (k:Nat)=>(k:Int):=rfl;rw [e,List.filter_map];rfl
theorem q3i {H0:AHeap} {p s:Nat} (hp:H0.get p=some (OR [uB s] Le)) (hpl:p<H0.next) (hs:s<16) :
 nG M vy [] [.ptr p 0] (λ x=>x=p) (λ _=>False) H0 ((gY s).map λ (k:Nat)=>[AV.int .i64 (k:Int)]):=by
 intro Y R S W0 H1 hnx hN hR0 hW0 loc locS step;obtain ⟨p1,p2,p3⟩:=hN p (.inl rfl)
 suffices h:zq M vy [.fn (.yield Y) [] [],.ptr p 0] H1 (LF R S W0 (λ _=>False) H1 ((gY s).map λ (k:Nat)=>[AV.int .i64 (k:Int)]).length) by
  obtain ⟨v,H',hc,W',q1,q2,q3⟩:=h.elim;exact ⟨v,H',W',hc,q1,q2,q3⟩
 refine qmv ?_;obtain ⟨w0,w4,w10,w19⟩:=qmw M ⟨none,vy⟩;have lp:∀ {Hx:AHeap},Fr W0 H1 Hx->Op.ae [.ptr p 0] Hx=some (uB s):=λ f=>by rw [xp (qz (by rw [f.ah _ (by omega) p3,p2];exact hp))];rfl
 simp only [↓qd,qp,aa,reduceIte,reduceEqDiff,w0];refine aR.intro (λ n E Hx=>∃ (i:Nat) (V:Nat->Prop),E=[(4,.int .i64 (i:Int)),(0,.fn (.yield Y) [] []),(1,.ptr p 0)]/\n=4-i/\i<=4/\KD R W0 H1 Hx ((List.range i).filter λ (k:Nat)=>hb s (k:Int) == 1).length V) ?_ ?_
 ·exact ⟨_,_,⟨0,W0,rfl,rfl,xx _,⟨hR0,λ b hb=>⟨hW0 b hb,.inl hb⟩,Fr.refl _⟩⟩,by simp only [↓qd,qp,aa,reduceIte,reduceEqDiff]⟩
 rintro n E Hx ⟨i,V,rfl,rfl,hi,hx⟩;rcases zt i 4 with hlt|hge
 ·have q1:(i:Int)<4:=by omega
  have sh:=FA (c:=(i:Int)) (by omega) q1;have ha:=q46 hs (c:=(i:Int)) (by omega) q1;have wj:ak .i64 ((i:Int)+1)=((i+1:Nat):Int):=by rw [xm (by omega) (by omega)];omega
  have hf:=LH (λ (k:Nat)=>hb s (k:Int) == 1) i;have hle:=gW s (i:Int)
  by_cases h0:hb s (i:Int)=1
  ·have hf':((List.range (i+1)).filter λ (k:Nat)=>hb s (k:Int) == 1).length=((List.range i).filter λ (k:Nat)=>hb s (k:Int) == 1).length+1:=by rw [hf];simp [h0]
   have hg:((gY s).map λ (k:Nat)=>[AV.int .i64 (k:Int)])[((List.range i).filter λ (k:Nat)=>hb s (k:Int) == 1).length]? = some [.int .i64 (i:Int)]:=by
    unfold gY;rw [xg,q1r _ hlt (by simp [h0])];rfl
   have hp0:0<2 ^ (i:Int).toNat:=Nat.pos_of_ne_zero (by simp);have z0:¬ (((hb s (i:Int)*2 ^ (i:Int).toNat:Nat)):Int)=0:=by rw [h0,Nat.one_mul];omega
   obtain ⟨bb,H2,W2,hr,hf2,hW2,ht,hss⟩:=step _ _ hg V Hx hx.hR hx.hV (hx.fr.mono λ _ _ q=>.inl q);have sR:Fr W0 H1 H2:=hx.fr.trans hf2 λ b q=>(hx.hV b q).2;have hV2:∀ b,W2 b->b<H2.next/\(W0 b\/H1.next<=b):=λ b q=>⟨(hW2 b q).1,(hW2 b q).2.elim (λ w=>(hx.hV b w).2) λ w=>.inr (xj hx.fr.next w)⟩
   simp only [↓qd,qp,aa,reduceIte,reduceEqDiff,w4,q1,w10,lp hx.fr,sh,ha,z0];refine C3.B9 hr ?_;cases bb with
   | true =>
    simp only [↓qd,qp,aa,reduceIte,reduceEqDiff,w19,wj];exact ⟨_,_,⟨i+1,W2,rfl,rfl,by omega,⟨by rw [hf'];exact ht rfl,hV2,sR⟩⟩,by simp only [↓qd,qp,aa,reduceIte,reduceEqDiff],by omega⟩
   | false =>
    simp only [↓qd,qp,aa,reduceIte,reduceEqDiff];exact ⟨W2,sR.mono λ _ _ q=>.inl q,hV2,.inr (hss rfl)⟩
  ·have hb0:hb s (i:Int)=0:=by omega
   have hf':((List.range (i+1)).filter λ (k:Nat)=>hb s (k:Int) == 1).length=((List.range i).filter λ (k:Nat)=>hb s (k:Int) == 1).length:=by rw [hf];simp [hb0]
   have z0:(((hb s (i:Int)*2 ^ (i:Int).toNat:Nat)):Int)=0:=by rw [hb0,yl];rfl
   simp only [↓qd,qp,aa,reduceIte,reduceEqDiff,w4,q1,w10,lp hx.fr,sh,ha,xc z0,w19,wj];exact ⟨_,_,⟨i+1,V,rfl,rfl,by omega,by rw [hf'];exact hx⟩,by simp only [↓qd,qp,aa,reduceIte,reduceEqDiff],by omega⟩
 ·have q1:¬ (i:Int)<4:=by omega
  have hiw:i=4:=by omega
  simp only [↓qd,qp,aa,reduceIte,reduceEqDiff,w4,q1];refine ⟨V,hx.fr.mono λ _ _ q=>.inl q,hx.hV,.inl ?_⟩;have e:((gY s).map λ (k:Nat)=>[AV.int .i64 (k:Int)]).length=((List.range i).filter λ (k:Nat)=>hb s (k:Int) == 1).length:=by unfold gY;rw [xu,hiw]
  rw [e];exact hx.hR
theorem q5p {H:AHeap} (s:Nat):zq M qjs [uB s] H λ v H'=>v=.fn (.func vy) [] [.ptr H.next 0]/\H'=H.alloc (OR [uB s] Le):=by
 refine qpq ?_;have ca:AV.cells (uB s)=[uB s]:=rfl;have mk:Op.cA vy 0 [.ptr H.next 0]=some (.fn (.func vy) [] [.ptr H.next 0]):=rfl;simp only [↓qd,qp,aa,reduceIte,reduceEqDiff,qpr,ca,mk];rfl
end Go.Am
namespace Go.Am
open Go.Proofs Ca
variable {M:aA} [MK M]
abbrev wC (t:Nat):AV:=.fn (.func Lq) [] [.ptr t 0]
theorem Pq {H:AHeap} {t:Nat} {c:Int} (w:Mg) (hl:∀ {Hx:AHeap},Fr Em H Hx->Op.ae [.ptr t 1] Hx=some (.int .i64 c)):zq M Lq [.agg (ai w),.ptr t 0] H λ r H'=>r=.bool (decide (w.core=c))/\Fr Em H H':=by
 refine qob ?_;obtain ⟨H1,e1⟩:∃ X,X=H.alloc (OR (ai w) qt):=⟨_,rfl⟩
 have f1:Fr Em H H1:=by rw [e1];exact (Fr.refl H).alloc _
 have g1:H1.get H.next=some (OR (ai w) qt):=by rw [e1,qw]
 have l1:Op.ae [.ptr H.next 1] H1=some (.int .i64 w.core):=xp (qz g1) 1
 by_cases q:w.core=c
 ·simp only [↓qd,qp,aa,reduceIte,reduceEqDiff,qil,xk,<-e1,l1,hl f1,xc q];exact f1
 ·simp only [↓qd,qp,aa,reduceIte,reduceEqDiff,qil,xk,<-e1,l1,hl f1,q];exact f1
theorem q0k {H:AHeap} {v:AV} {ms:List Mg} {t:Nat} {c:Int} (h:du ai 11 H v ms) (hk:ms.length<=1000000) (hl:∀ {Hx:AHeap},Fr Em H Hx->Op.ae [.ptr t 1] Hx=some (.int .i64 c)) :
 zq M Pg [v,wC t] H λ r H'=>(∃ z:Int,r=.int .i64 z/\(0<=z ↔ ∃ w ∈ ms,w.core=c))/\Fr Em H H':=by
 refine qhq ?_;obtain ⟨w0,w2,w25,w7,w13,w24⟩:=qhr M ⟨none,Pg⟩;simp only [↓qd,qp,aa,reduceIte,reduceEqDiff,w0,w2,h.len];refine aR.intro (λ n E Hx=>∃ i:Nat,E=[(8,.int .i64 (i:Int)),(7,.int .i64 ((ms.length:Nat):Int)),(0,v),(1,wC t)]/\n=ms.length-i/\i<=ms.length/\Fr Em H Hx /\ ∀ k w,k<i->ms[k]? = some w->w.core ≠ c) ?_ ?_
 ·exact ⟨_,_,⟨0,rfl,rfl,xx _,Fr.refl _,λ k w hk=>by omega⟩,by simp only [↓qd,qp,aa,reduceIte,reduceEqDiff]⟩
 rintro n E Hx ⟨i,rfl,rfl,hi,fx,hno⟩;rcases zt i ms.length with hlt|hge
 ·have q1:(i:Int)<((ms.length:Nat):Int):=by omega
  have hx:=qy hlt;have ix:=(h.em fx).idx hx (z:=(i:Int)) rfl .i64;have ld:=(h.em fx).aG xq (by decide) hx;have wj:ak .i64 ((i:Int)+1)=((i+1:Nat):Int):=by rw [xm (by omega) (by omega)];omega
  simp only [↓qd,qp,aa,reduceIte,reduceEqDiff,w7,q1,w13,ix,ld];refine C3.q (Pq (M:=M) (ms[i]) (λ f=>hl (fx.trans f λ _ q=>q.elim))) λ r H1 ⟨hr,f1⟩=>?_;rw [hr]
  by_cases q:(ms[i]).core=c
  ·simp only [↓qd,qp,aa,reduceIte,reduceEqDiff,xc q];exact ⟨⟨_,rfl,λ _=>⟨_,List.getElem_mem hlt,q⟩,λ _=>by omega⟩,fx.trans f1 λ _ q=>q.elim⟩
  ·simp only [↓qd,qp,aa,reduceIte,reduceEqDiff,q,w24,wj];refine ⟨_,_,⟨i+1,rfl,rfl,by omega,fx.trans f1 λ _ q=>q.elim,λ k w hk hw=>?_⟩,by simp only [↓qd,qp,aa,reduceIte,reduceEqDiff],by omega⟩
   by_cases e:k=i
   ·rw [e,hx] at hw;injection hw with hw;rw [<-hw];exact q
   ·exact hno k w (by omega) hw
 ·have q1:¬ (i:Int)<((ms.length:Nat):Int):=by omega
  simp only [↓qd,qp,aa,reduceIte,reduceEqDiff,w7,q1,w25];refine ⟨⟨_,rfl,λ q=>absurd q (by decide),λ⟨w,hw,hc⟩=>?_⟩,fx⟩;obtain ⟨k,hk'⟩:=ki hw;exact absurd hc (hno k w (by have:=(qe.1 hk').1;omega) hk')
theorem qlz {H:AHeap} {v:AV} {ms:List Mg} {t:Nat} {c:Int} (h:du ai 11 H v ms) (hk:ms.length<=1000000) (hl:∀ {Hx:AHeap},Fr Em H Hx->Op.ae [.ptr t 1] Hx=some (.int .i64 c)) :
 zq M qcl [v,wC t] H λ r H'=>r=.bool (decide (∃ w ∈ ms,w.core=c))/\Fr Em H H':=by
 refine qgg ?_;simp only [↓qd,qp,aa,reduceIte,reduceEqDiff,qgh];refine C3.q (q0k (M:=M) h hk hl) λ r H1 ⟨⟨z,hr,hz⟩,f1⟩=>?_;rw [hr];simp only [↓qd,qp,aa,reduceIte,reduceEqDiff]
 by_cases q:0<=z
 ·simp only [q,hz.1 q,decide_true,sy];exact f1
 ·have q2:¬ ∃ w ∈ ms,w.core=c:=λ w=>q (hz.2 w);simp only [q,q2,decide_false,sy];exact f1
section
variable {H:AHeap} {D mp:Nat} {lv ev:AV} {N:Int} {ws:List L8} {xs:List (De × AV)} {i:Nat} {x:De} {a:AV}
theorem q5l (h:cC H D mp lv ev N ws xs i x a) (m:Mg) (c0:0<=m.core) (c1:m.core<4) (ha:x.ask<16) (hw:x.wt.length<=1000000):zq M Cx [xA ev i,.agg (ai m)] H λ v H'=>v=.bool (decide (x.may m))/\Fr Em H H':=by
 refine qsa ?_;obtain ⟨w0,w4,w51,w14,w17,w26,w38⟩:=qsb M ⟨none,Cx⟩;obtain ⟨H1,e1⟩:∃ X,X=H.alloc (OR (ai m) qt):=⟨_,rfl⟩
 have f1:Fr Em H H1:=by rw [e1];exact (Fr.refl H).alloc _
 have g1:H1.get H.next=some (OR (ai m) qt):=by rw [e1,qw]
 have n1:H1.next=H.next+1:=by rw [e1,xd]
 have lm:∀ {Hx:AHeap} (k:Nat),Fr Em H1 Hx->Op.ae [.ptr H.next k] Hx=(ai m)[k]?:=λ k f=>xp (qz (by rw [f.ah _ (by omega) id];exact g1)) k;have l0:Op.ae [.ptr H.next 0] H1=some (.int .i64 m.k):=lm 0 (Fr.refl _);have l1:∀ {Hx:AHeap},Fr Em H1 Hx->Op.ae [.ptr H.next 1] Hx=some (.int .i64 m.core):=λ f=>lm 1 f;have l1r:=l1 (Fr.refl H1);have mk:Op.cA Lq 0 [.ptr H.next 0]=some (wC H.next):=rfl;have h1:=h.em f1;have sh1:=FA c0 c1;have sa:=q46 ha c0 c1;have hle:=gW x.ask m.core;have hp0:0<2 ^ m.core.toNat:=Nat.pos_of_ne_zero (by simp);have fin:∀ {b:Bool} {Hx:AHeap},(b=true ↔ x.may m)->Fr Em H1 Hx->(AV.bool b=.bool (decide (x.may m))/\Fr Em H Hx):=λ {b Hx} e f=>by
  refine ⟨?_,f1.trans f λ _ q=>q.elim⟩;congr 1;cases b with
  | true=>exact (Af (e.1 rfl)).symm
  | false=>exact (AO λ w=>by cases e.2 w).symm
 have r1:=Fr.refl (W:=Em) H1;simp only [↓qd,qp,aa,reduceIte,reduceEqDiff,w0,xk,<-e1,mk,w4,l0]
 by_cases kg:m.k=1\/m.k=2
 ·have hm:x.may m ↔ ¬ (x.ph ≠ 0/\x.ph ≠ 4/\x.un.core=m.core)/\(x.ow ≠ m.core\/x.ph=2) /\ ¬ ∃ w ∈ x.wt,w.core=m.core:=by unfold De.may De.own;rw [ql kg]
  have key:∀ {E:Env},lk E 10=some (.bool true)->lk E 0=some (xA ev i)->lk E 3=some (.ptr H.next 0)->lk E 5=some (wC H.next)->W M ⟨none,Cx⟩ (LQ 14) true (cw 0 (cT (W M ⟨none,Cx⟩ (LQ 51)) (c6 M [.tmp 4] (kO λ v H'=>v=.bool (decide (x.may m))/\Fr Em H H')))) E [] H1:=by
   intro E b10 b0 b3 b5
   -- the rest,once it is known whether one is under way
   have rest:∀ {Hx:AHeap} (u:Bool),Fr Em H1 Hx->(u=true ↔ (x.ph ≠ 0/\x.ph ≠ 4/\x.un.core=m.core))->W M ⟨none,Cx⟩ (LQ 17) true (cw 0 (cT (W M ⟨none,Cx⟩ (LQ 51)) (c6 M [.tmp 4] (kO λ v H'=>v=.bool (decide (x.may m))/\Fr Em H H')))) ((6,.bool u)::E) [] Hx:=by
    intro Hx u fx hu;have hx:=h1.em fx;have wtd:=hx.d.wt i x a hx.here;cases u with
    | true =>
     simp only [↓qd,qp,aa,reduceIte,reduceEqDiff,w17];exact fin ⟨λ q=>Bool.noConfusion q,λ q=>absurd (hu.1 rfl) (hm.1 q).1⟩ fx
    | false =>
     have hu':¬ (x.ph ≠ 0/\x.ph ≠ 4/\x.un.core=m.core):=λ q=>by cases hu.2 q
     by_cases q1:x.ow=m.core
     ·by_cases q2:x.ph=2
      ·simp only [↓qd,qp,aa,reduceIte,reduceEqDiff,w17,b0,b3,b5,qi,hx.l0,l1 fx,xc q1,hx.nz,xc q2,hx.ft];refine C3.q (qlz (M:=M) (wtd.sl xq) hw (λ f=>l1 (fx.trans f λ _ q=>q.elim))) λ r H2 ⟨hr,f2⟩=>?_;rw [hr];simp only [↓qd,qp,aa,reduceIte,reduceEqDiff];refine fin ?_ (fx.trans f2 λ _ q=>q.elim);rw [hm];constructor
       ·intro q;exact ⟨hu',.inr q2,by simpa using q⟩
       ·intro q;simpa using q.2.2
      ·simp only [↓qd,qp,aa,reduceIte,reduceEqDiff,w17,b0,b3,b5,qi,hx.l0,l1 fx,xc q1,hx.nz,q2];exact fin ⟨λ q=>Bool.noConfusion q,λ q=>((hm.1 q).2.1.elim (λ w=>absurd q1 w) λ w=>absurd w q2)⟩ fx
     ·simp only [↓qd,qp,aa,reduceIte,reduceEqDiff,w17,b0,b3,b5,qi,hx.l0,l1 fx,q1,hx.ft];refine C3.q (qlz (M:=M) (wtd.sl xq) hw (λ f=>l1 (fx.trans f λ _ q=>q.elim))) λ r H2 ⟨hr,f2⟩=>?_;rw [hr];simp only [↓qd,qp,aa,reduceIte,reduceEqDiff];refine fin ?_ (fx.trans f2 λ _ q=>q.elim);rw [hm];constructor
      ·intro q;exact ⟨hu',.inl q1,by simpa using q⟩
      ·intro q;simpa using q.2.2
   by_cases p0:x.ph=0
   ·simp only [↓qd,qp,aa,reduceIte,reduceEqDiff,w14,b10,b0,qi,h1.nz,xc p0];exact rest false r1 ⟨λ q=>Bool.noConfusion q,λ q=>absurd p0 q.1⟩
   by_cases p4:x.ph=4
   ·simp only [↓qd,qp,aa,reduceIte,reduceEqDiff,w14,b10,b0,qi,h1.nz,p0,xc p4];exact rest false r1 ⟨λ q=>Bool.noConfusion q,λ q=>absurd p4 q.2.1⟩
   simp only [↓qd,qp,aa,reduceIte,reduceEqDiff,w14,b10,b0,b5,qi,h1.nz,p0,p4,h1.lU];refine C3.q (Pq (M:=M) x.un l1) λ r H2 ⟨hr,f2⟩=>?_;rw [hr];simp only [↓qd,qp,aa,reduceIte,reduceEqDiff];exact rest _ f2 ⟨λ q=>⟨p0,p4,by simpa using q⟩,λ q=>by simpa using q.2.2⟩
  rcases kg with k|k
  ·simp only [↓qd,qp,aa,reduceIte,reduceEqDiff,xc k];exact key rfl rfl rfl rfl
  ·have k1:¬ m.k=1:=by omega
   simp only [↓qd,qp,aa,reduceIte,reduceEqDiff,k1,xc k];exact key rfl rfl rfl rfl
 have k1:¬ m.k=1:=λ q=>kg (.inl q);have k2:¬ m.k=2:=λ q=>kg (.inr q);have bit0:(((hb x.ask m.core*2 ^ m.core.toNat:Nat)):Int)=0 ↔ ¬ hb x.ask m.core=1:=by
  constructor
  ·intro q w;rw [w,Nat.one_mul] at q;omega
  ·intro q;rw [show hb x.ask m.core=0 by omega,yl];rfl
 simp only [↓qd,qp,aa,reduceIte,reduceEqDiff,k1,k2,w14]
 by_cases k4:m.k=4
 ·have hm:x.may m ↔ x.ph=1/\hb x.ask m.core=1:=by unfold De.may;rw [qg kg,ql k4]
  by_cases p1:x.ph=1
  ·by_cases b1:hb x.ask m.core=1
   ·have z:=λ w=>bit0.1 w b1;simp only [↓qd,qp,aa,reduceIte,reduceEqDiff,xc k4,qi,h1.nz,xc p1,h1.rf,l1r,sh1,sa,z];exact fin ⟨λ _=>hm.2 ⟨p1,b1⟩,λ _=>Af z⟩ r1
   ·have z:=bit0.2 b1;simp only [↓qd,qp,aa,reduceIte,reduceEqDiff,xc k4,qi,h1.nz,xc p1,h1.rf,l1r,sh1,sa,xc z];exact fin ⟨λ q=>Bool.noConfusion q,λ q=>absurd (hm.1 q).2 b1⟩ r1
  ·simp only [↓qd,qp,aa,reduceIte,reduceEqDiff,xc k4,qi,h1.nz,p1];exact fin ⟨λ q=>Bool.noConfusion q,λ q=>absurd (hm.1 q).1 p1⟩ r1
 simp only [↓qd,qp,aa,reduceIte,reduceEqDiff,k4,w26]
 by_cases k5:m.k=5
 ·have hm:x.may m ↔ x.ph=2/\x.ow=m.core:=by unfold De.may;rw [qg kg,qg k4,ql k5]
  by_cases p1:x.ph=2
  ·by_cases b1:x.ow=m.core
   ·simp only [↓qd,qp,aa,reduceIte,reduceEqDiff,xc k5,qi,h1.nz,xc p1,h1.l0,l1r,xc b1];exact fin ⟨λ _=>hm.2 ⟨p1,b1⟩,λ _=>rfl⟩ r1
   ·simp only [↓qd,qp,aa,reduceIte,reduceEqDiff,xc k5,qi,h1.nz,xc p1,h1.l0,l1r,b1];exact fin ⟨λ q=>Bool.noConfusion q,λ q=>absurd (hm.1 q).2 b1⟩ r1
  ·simp only [↓qd,qp,aa,reduceIte,reduceEqDiff,xc k5,qi,h1.nz,p1];exact fin ⟨λ q=>Bool.noConfusion q,λ q=>absurd (hm.1 q).1 p1⟩ r1
 by_cases k6:m.k=6
 ·have hm:x.may m ↔ x.ph=2/\hb x.ask m.core=1:=by unfold De.may;rw [qg kg,qg k4,qg k5,ql k6]
  by_cases p1:x.ph=2
  ·by_cases b1:hb x.ask m.core=1
   ·have z:=λ w=>bit0.1 w b1;simp only [↓qd,qp,aa,reduceIte,reduceEqDiff,k5,xc k6,qi,h1.nz,xc p1,h1.rf,l1r,sh1,sa,z];exact fin ⟨λ _=>hm.2 ⟨p1,b1⟩,λ _=>Af z⟩ r1
   ·have z:=bit0.2 b1;simp only [↓qd,qp,aa,reduceIte,reduceEqDiff,k5,xc k6,qi,h1.nz,xc p1,h1.rf,l1r,sh1,sa,xc z];exact fin ⟨λ q=>Bool.noConfusion q,λ q=>absurd (hm.1 q).2 b1⟩ r1
  ·simp only [↓qd,qp,aa,reduceIte,reduceEqDiff,k5,xc k6,qi,h1.nz,p1];exact fin ⟨λ q=>Bool.noConfusion q,λ q=>absurd (hm.1 q).1 p1⟩ r1
 simp only [↓qd,qp,aa,reduceIte,reduceEqDiff,k5,k6,w38]
 by_cases k3:m.k=3
 ·have hm:x.may m ↔ x.ow=m.core:=by unfold De.may;rw [qg kg,qg k4,qg k5,qg k6,ql k3]
  by_cases b1:x.ow=m.core
  ·simp only [↓qd,qp,aa,reduceIte,reduceEqDiff,xc k3,qi,h1.l0,l1r,xc b1];exact fin ⟨λ _=>hm.2 b1,λ _=>rfl⟩ r1
  ·simp only [↓qd,qp,aa,reduceIte,reduceEqDiff,xc k3,qi,h1.l0,l1r,b1];exact fin ⟨λ q=>Bool.noConfusion q,λ q=>absurd (hm.1 q) b1⟩ r1
 have hm:x.may m ↔ m.k=7/\x.ph=4/\x.un.core=m.core:=by unfold De.may;rw [qg kg,qg k4,qg k5,qg k6,qg k3]
 by_cases k7:m.k=7
 ·by_cases p1:x.ph=4
  ·simp only [↓qd,qp,aa,reduceIte,reduceEqDiff,k3,xc k7,qi,h1.nz,xc p1,h1.lU];refine C3.q (Pq (M:=M) x.un l1) λ r H2 ⟨hr,f2⟩=>?_;rw [hr];simp only [↓qd,qp,aa,reduceIte,reduceEqDiff];exact fin ⟨λ q=>hm.2 ⟨k7,p1,by simpa using q⟩,λ q=>by simpa using (hm.1 q).2.2⟩ f2
  ·simp only [↓qd,qp,aa,reduceIte,reduceEqDiff,k3,xc k7,qi,h1.nz,p1];exact fin ⟨λ q=>Bool.noConfusion q,λ q=>absurd (hm.1 q).2.1 p1⟩ r1
 ·simp only [↓qd,qp,aa,reduceIte,reduceEqDiff,k3,k7,w51];exact fin ⟨λ q=>Bool.noConfusion q,λ q=>absurd (hm.1 q).1 k7⟩ r1
end
end Go.Am
