import Derived.Test.YtgjdmncoonceaaaGreatDoorAmEZf
import Derived.Test.YtgjdmncoonceaaaGreatDoorAmEZh
import Derived.Test.YtgjdmncoonceaaaGreatDoorAmEZe
import Derived.Test.YtgjdmncoonceaaaGreatDoorAmEZg
import Derived.Test.YtgjdmncoonceaaaGreatDoorAmEZd
set_option linter.defProp false
set_option linter.unusedVariables false
set_option linter.unusedSimpArgs false
set_option linter.unusedSectionVars false
set_option maxRecDepth 100000
open Bool renaming noConfusion→RF,false→B2,true→B4
open List renaming range→N2,replicate→I5
open Option renaming none→B5,some→B1
open Nat renaming reduceEqDiff→bc
namespace Go.Am
open Go.Proofs Ca
variable{M:ak}[MK M]
structure AL(H:ar)(mp:Nat)(lv:AV)(ws:List L8):Prop where
 row:H.get mp=B1 (OR [lv] Θ)
 lt:mp<H.au
 ls:gV cG z7 8 H lv ws
 ne:mp≠aG lv
 le:ws.length<=64
section
variable{H:ar}{mp:Nat}{lv:AV}{ws:List L8}
def AL.fr{H':ar}{W:Nat->Prop}(h:AL H mp lv ws)(f:Fr W H H')(b:¬W mp)(c:¬W (aG lv)):AL H' mp lv ws:=⟨by rw[f.ah _ h.lt b];exact h.row,qn h.lt f.au,h.ls.fr f c,h.ne,h.le⟩
def q5t(h:AL H mp lv ws){n:Int}(f:0<=n)(g:n<ws.length):zb M UU [.ptr mp 0,.int .i64 n] H λ v H'=>v=.tuple [.ptr (aG lv) (cJ 8 lv n.toNat),.int .i64 0]/\H'=H:=by
 have hl:Op.ae [.ptr mp 0] H=B1 lv:=x9 (xc h.row) 0;have hn:=(h.ls.sl yi).len;have d:¬n<0:=by omega
 have e:¬((ws.length:Nat):Int)<=n:=by omega
 have c:ws[n.toNat]? = B1 (ws[n.toNat]'(by omega)):=(by grind)
 have ix:Op.aR 8 [lv,.int .i64 n]=B1 (.ptr (aG lv) (cJ 8 lv n.toNat)):=(h.ls.sl yi).idx c (by omega) .i64;refine xdd ?_;obtain⟨w0,w2,b⟩:=xde M ⟨B5,UU⟩;simp only[aa,bc,w0,w2,yr,d,qo,hl,hn,e,b,ix]
def _6(h:AL H mp lv ws){n:Int}{w:L8}(e:0<=n)(hw:ws[n.toNat]? = B1 w):zb M Yn [.ptr mp 0,.int .i64 n] H λ v H'=>v=.tuple [.agg (cG w),.int .i64 0]/\Fr Em H H':=by
 have g:=(qt.1 hw).1;refine q71 ?_;obtain⟨w0,w4,c⟩:=q72 M ⟨B5,Yn⟩;obtain⟨H1,e1,b,-,d⟩:=cq H (OR (cG .zero) z7);simp only[aa,bc,w0,lZ,<-e1];refine C3.q (q5t (h.fr b id id) e (by omega)) λ v k⟨j,f⟩=>?_;rw[j,f];have ld:Op.aq 8 [.ptr (aG lv) (cJ 8 lv n.toNat)] H1=B1 (.agg (cG w)):=((h.fr b id id).ls.sl yi).aq yi (by decide) hw;have st:=fH d (yi _) (yi w) (ue w);have hg:(H1.set H.au (OR (cG w) z7)).get H.au=B1 (OR (cG w) z7):=xb ..;have ln:=eI hg (yi w);simp only[aa,bc,xj,w4,c,qo,ld,st,ln];exact b.set (by omega) _
def U0(h:AL H mp lv ws){n:Int}(f:0<=n)(g:n<ws.length)(x:L8):zb M U3 [.ptr mp 0,.int .i64 n,.agg (cG x)] H λ v H'=>v=.int .i64 0/\AL H' mp lv (ws.set n.toNat x)/\Fr (On (aG lv)) H H':=by
 refine xaq ?_;obtain⟨w0,w4,c⟩:=xar M ⟨B5,U3⟩;obtain⟨H1,e1,d,-,e⟩:=cq H (OR (cG x) z7);have hm:=h.fr d id id;simp only[aa,bc,w0,<-e1];refine C3.q (q5t hm f g) λ v o⟨k,j⟩=>?_;rw[k,j];have ln:=eI e (yi x);have l:ws[n.toNat]? = B1 (ws[n.toNat]'(by omega)):=(by grind)
 have⟨p,st,m,b⟩:=hm.ls.Mu yi ue l x;simp only[aa,bc,xj,w4,ln,qo,st,c];exact⟨⟨by rw[b.ah _ hm.lt (λ q=>hm.ne q)];exact hm.row,qn hm.lt b.au,m,h.ne,by rw[zg];exact h.le⟩,(d.mono λ _ _ q=>q.elim).trans b λ _ q=>.inl q⟩
end
end Go.Am
namespace Go.Am
open Go.Proofs Ca
variable{M:ak}[MK M]
abbrev uB(s:Nat):AV:=.int .u8 (s:Int)
def NG{c:Int}(b:0<=c)(d:c<4):Op.bin .shl [.int .u8 1,.int .i64 c]=B1 (uB (2 ^ c.toNat)):=by
 rcases four b d with rfl|rfl|rfl|rfl<;>rfl
def KX{s:Nat}(h:s<16):s=0\/s=1\/s=2\/s=3\/s=4\/s=5\/s=6\/s=7\/s=8\/s=9\/s=10\/s=11\/s=12\/s=13\/s=14\/s=15:=by omega
def WW{s:Nat}(hs:s<16){c:Int}(b:0<=c)(d:c<4):Op.bin .andNot [uB s,uB (2 ^ c.toNat)]=B1 (uB (cT s c)):=by
 rcases four b d with rfl|rfl|rfl|rfl<;>rcases KX hs with rfl|rfl|rfl|rfl|rfl|rfl|rfl|rfl|rfl|rfl|rfl|rfl|rfl|rfl|rfl|rfl<;>rfl
def _A{s:Nat}(hs:s<16){c:Int}(b:0<=c)(d:c<4):Op.bin .or [uB s,uB (2 ^ c.toNat)]=B1 (uB (rz s c)):=by
 rcases four b d with rfl|rfl|rfl|rfl<;>rcases KX hs with rfl|rfl|rfl|rfl|rfl|rfl|rfl|rfl|rfl|rfl|rfl|rfl|rfl|rfl|rfl|rfl<;>rfl
def xlc{s:Nat}(hs:s<16){c:Int}(b:0<=c)(d:c<4):Op.bin .and [uB s,uB (2 ^ c.toNat)]=B1 (uB (hb s c*2 ^ c.toNat)):=by
 rcases four b d with rfl|rfl|rfl|rfl<;>rcases KX hs with rfl|rfl|rfl|rfl|rfl|rfl|rfl|rfl|rfl|rfl|rfl|rfl|rfl|rfl|rfl|rfl<;>rfl
def gU(p:De×AV):List AV:=.int .i64 p.1.ow::uB p.1.sh::(ao p.1.un ++ [.int .i64 p.1.ph,uB p.1.ask,p.2])
def AH(p:De×AV):(gU p).length=16:=by simp[gU,zh]
theorem G8(p:De×AV):(gU p)[0]? = B1 (.int .i64 p.1.ow)/\(gU p)[1]? = B1 (uB p.1.sh)/\(gU p)[2]? = B1 (.int .i64 p.1.un.k)/\(gU p)[3]? = B1 (.int .i64 p.1.un.core)/\(gU p)[4]? = B1 (.int .i64 p.1.un.line)/\(gU p)[13]? = B1 (.int .i64 p.1.ph)/\(gU p)[14]? = B1 (uB p.1.ask)/\(gU p)[15]? = B1 p.2/\((gU p).drop 2).take 11=ao p.1.un:=by
 have⟨⟨ow,sh,⟨k,co,li,⟨d,b⟩⟩,ph,ask,wt⟩,a⟩:=p
 match d,b with
 |[_,_,_,_,_,_,_,_],_=>exact⟨rfl,rfl,rfl,rfl,rfl,rfl,rfl,rfl,rfl⟩
structure mN(H:ar)(D mp:Nat)(lv ev:AV)(N:Int)(ws:List L8)(xs:List (De×AV)):Prop where
 row:H.get D=B1 (OR [.ptr mp 0,.int .i64 N,ev] _N)
 lt:D<H.au
 me:AL H mp lv ws
 es:gV gU P2 16 H ev xs
 wt:∀(i:Nat)(x:De)(a:AV),xs[i]? = B1 (x,a)->Sk ao xm 11 H a x.wt
 d1:D≠mp/\D≠aG lv/\D≠aG ev/\mp≠aG ev/\aG lv≠aG ev
 d2:∀(i:Nat)(x:De)(a:AV),xs[i]? = B1 (x,a) -> ∀z,aM a z->z≠D/\z≠mp/\z≠aG lv/\z≠aG ev
 d3:∀(i j:Nat)(x y:De)(a b:AV),xs[i]? = B1 (x,a)->xs[j]? = B1 (y,b)->i≠j -> ∀z,aM a z -> ¬aM b z
 len:xs.length=ws.length
def mP(D mp:Nat)(lv ev:AV)(xs:List (De×AV)):Nat->Prop:=λ z=>z=D\/z=mp\/z=aG lv\/z=aG ev \/ ∃(i:Nat)(x:De)(a:AV),xs[i]? = B1 (x,a)/\aM a z
section
variable{H:ar}{D mp:Nat}{lv ev:AV}{N:Int}{ws:List L8}{xs:List (De×AV)}
def mN.fr{H':ar}{W:Nat->Prop}(h:mN H D mp lv ev N ws xs)(f:Fr W H H')(hw:∀z,W z -> ¬mP D mp lv ev xs z):mN H' D mp lv ev N ws xs :=
 ⟨by rw[f.ah _ h.lt (λ q=>hw _ q (.inl rfl))];exact h.row,qn h.lt f.au,h.me.fr f (λ q=>hw _ q (.inr (.inl rfl))) (λ q=>hw _ q (.inr (.inr (.inl rfl)))),h.es.fr f (λ q=>hw _ q (.inr (.inr (.inr (.inl rfl))))),λ i x a b=>(h.wt i x a b).fr f λ z c q=>hw z q (.inr (.inr (.inr (.inr ⟨i,x,a,b,c⟩)))),h.d1,h.d2,h.d3,h.len⟩
def mN.em{H':ar}(h:mN H D mp lv ev N ws xs)(f:Fr Em H H'):mN H' D mp lv ev N ws xs:=h.fr f λ _ q=>q.elim
def mN.low(h:mN H D mp lv ev N ws xs){z:Nat}(b:mP D mp lv ev xs z):z<H.au:=by
 rcases b with rfl|rfl|rfl|rfl|⟨i,x,a,c,b⟩
 .exact h.lt
 .exact h.me.lt
 .exact h.me.ls.lt
 .exact h.es.lt
 .exact (h.wt i x a c).lt z b
abbrev xA(ev:AV)(i:Nat):AV:=.ptr (aG ev) (cJ 16 ev i)
def mN.ld(h:mN H D mp lv ev N ws xs){i:Nat}{p:De×AV}(b:xs[i]? = B1 p){k:Nat}(hk:k<16):Op.ae [.ptr (aG ev) (cJ 16 ev i+k)] H=(gU p)[k]?:=(h.es.sl AH).ae AH b hk
def mN.yX(h:mN H D mp lv ev N ws xs){i:Nat}{p:De×AV}(b:xs[i]? = B1 p):Op.ae [.ptr (aG ev) (cJ 16 ev i)] H=B1 (.int .i64 p.1.ow):=((h.es.sl AH).iR AH b (by decide)).trans (G8 p).1
def mN.ldU(h:mN H D mp lv ev N ws xs){i:Nat}{p:De×AV}(c:xs[i]? = B1 p):Op.aq 11 [.ptr (aG ev) (cJ 16 ev i+2)] H=B1 (.agg (ao p.1.un)):=by
 have k:=h.es.sl AH;have⟨b,e,l,d⟩:=h.es;have hl:cJ 16 ev i=i*16:=by grind [cJ]
 have g:=(qt.1 c).1;have f:aG ev=b:=by rw[e];rfl
 rw[hl,f,rT (xc d) (by rw[FO AH];omega)];have:((xs.flatMap gU).drop (i*16+2)).take 11=ao p.1.un:=by
  rw[<-(G8 p).2.2.2.2.2.2.2.2];apply yk;intro j;rw[Ob,Ob];split
  .rw [wn,wn,Ad,J2 AH xs c (by omega)]
  .rfl
 rw[this]
theorem mN.put(h:mN H D mp lv ev N ws xs){i:Nat}{x y:De}{a:AV}(o:xs[i]? = B1 (x,a))(C:y.wt=x.wt){j n:Nat}{u:AV}(hu:u.cells.length=n)(ho:aN u.cells=B4)(A:j+n<=16)(E:gU (y,a)=(gU (x,a)).take j++u.cells++(gU (x,a)).drop (j+n)) :
 ∃H',Op.store n [.ptr (aG ev) (cJ 16 ev i+j),u] H=B1 (.undef,H')/\mN H' D mp lv ev N ws (xs.set i (y,a))/\Fr (On (aG ev)) H H':=by
 have⟨H',s,r,f⟩:=h.es.Aq AH o hu ho A E;have F:=(qt.1 o).1;have⟨e1,e2,p,t,v⟩:=h.d1;have d:∀(k:Nat)(z:De)(b:AV),(xs.set i (y,a))[k]? = B1 (z,b) -> ∃e,xs[k]? = B1 (e,b)/\e.wt=z.wt:=λ k z b hk=>by
  grind
 refine⟨H',s,⟨by rw[f.ah _ h.lt (λ q=>p q)];exact h.row,qn h.lt f.au,h.me.fr f (λ q=>t q) (λ q=>v q),r,λ k z b hk=>?_,h.d1,λ k z b hk=>?_,λ k l z w b c hk m=>?_,by rw[zg];exact h.len⟩,f⟩
 .have ⟨e,g,hw⟩:=d k z b hk;rw[<-hw];exact(h.wt k e b g).fr f λ q B w=>(h.d2 k e b g q B).2.2.2 w
 .obtain ⟨e,g,-⟩:=d k z b hk;exact h.d2 k e b g
 .obtain ⟨e,g,-⟩:=d k z b hk;obtain⟨w',hw,-⟩:=d l w c m;exact h.d3 k l e w' b c g hw
def mN.wait(h:mN H D mp lv ev N ws xs){i:Nat}{x:De}{a g:AV}{ys:List Mg}{H1:ar}(A:xs[i]? = B1 (x,a))(hs:Sk ao xm 11 H1 g ys)(f:Fr (aM a) H H1)(B:∀z,aM g z->aM a z\/H.au<=z)(O:aB g=B4) :
 ∃H',Op.store 1 [.ptr (aG ev) (cJ 16 ev i+15),g] H1=B1 (.undef,H')/\mN H' D mp lv ev N ws (xs.set i ({x with wt:=ys},g))/\Fr (mP D mp lv ev xs) H H'/\Fr (On (aG ev)) H1 H':=by
 have C:=(qt.1 A).1;have⟨e1,e2,J,K,L⟩:=h.d1;have I:=h.d2 i x a A;have E:gV gU P2 16 H1 ev xs:=h.es.fr f λ q=>(by grind)
 have P:g.cells=[g]:=by cases g<;>first|rfl|cases O
 have⟨H',s,r,m⟩:=E.Aq (y:=({x with wt:=ys},g)) AH A (j:=15) (n:=1) (u:=g) (by grind) (by grind [vh]) (by decide) (by
  rw[P];have⟨ow,sh,⟨k,co,li,⟨d,Q⟩⟩,ph,ask,wt⟩:=x
  match d,Q with
  |[_,_,_,_,_,_,_,_],_=>rfl)
 have F:Fr (mP D mp lv ev xs) H H':=(f.mono λ z _ G=>(.inr (.inr (.inr (.inr ⟨i,x,a,A,G⟩))):mP D mp lv ev xs z)).trans m λ z(q:z=aG ev)=>.inl (.inr (.inr (.inr (.inl q))));have R:=h.es.lt;refine⟨H',s,⟨?_,?_,?_,r,λ k z b hk=>?_,h.d1,λ k z b hk q v=>?_,λ k l z w b c hk e t q v=>?_,by rw[zg];exact h.len⟩,F,m⟩
 .rw [m.ah _ (qn h.lt f.au) (λ q=>J q),f.ah _ h.lt (by grind)];exact h.row
 .exact qn (qn h.lt f.au) m.au
 .exact (h.me.fr f (by grind) (by grind)).fr m (λ q=>K q) (λ q=>L q)
 .by_cases q:k=i
  .subst q;rw[zm C]at hk;injection hk with hk;injection hk with o p
   subst o p;refine hs.fr m λ z G w=>?_;rcases B z G with q|q
   .exact (I z q).2.2.2 w
   .have w:z=aG ev:=w;omega
  .rw [zr (rS q)]at hk;refine((h.wt k z b hk).fr f λ u hu w=>h.d3 k i z x b a hk A q u hu w).fr m λ u hu w=>(h.d2 k z b hk u hu).2.2.2 w
 .by_cases w:k=i
  .subst w;rw[zm C]at hk;injection hk with hk;injection hk with o p
   subst o p;rcases B q v with w|w
   .grind
   .have T:=h.lt;have U:=h.me.lt;have V:=h.me.ls.lt;omega
  .rw [zr (rS w)]at hk;exact h.d2 k z b hk q v
 .by_cases w1:k=i
  .subst w1;rw[zm C]at hk;rw[zr t]at e;injection hk with hk;injection hk with o p
   subst o p;rcases B q v with w|w
   .exact h.d3 k l x _ a c A e t q w
   .intro w2;have:=(h.wt l _ c e).lt q w2;omega
  .rw [zr (rS w1)]at hk
   by_cases w2:l=i
   .subst w2;rw[zm C]at e;injection e with e;injection e with o p
    subst o p;intro S;rcases B q S with w|w
    .exact h.d3 k l z x b a hk A w1 q v w
    .have:=(h.wt k z b hk).lt q v;omega
   .rw [zr (rS w2)]at e;exact h.d3 k l z _ b c hk e t q v
end
end Go.Am
namespace Go.Am
open Go.Proofs Ca
variable{M:ak}[MK M]
structure dW(H:ar)(D mp:Nat)(lv ev:AV)(N:Int)(ws:List L8)(xs:List (De×AV))(i:Nat)(x:De)(a:AV):Prop where
 il:i<xs.length
 d:mN H D mp lv ev N ws (xs.set i (x,a))
section
variable{H:ar}{D mp:Nat}{lv ev:AV}{N:Int}{ws:List L8}{xs:List (De×AV)}{i:Nat}{x:De}{a:AV}
def dW.of(h:mN H D mp lv ev N ws xs)(b:xs[i]? = B1 (x,a)):dW H D mp lv ev N ws xs i x a:=by
 refine⟨(qt.1 b).1,?_⟩;have:xs.set i (x,a)=xs:=by
  apply yk
  grind
 grind
def dW.here(h:dW H D mp lv ev N ws xs i x a):(xs.set i (x,a))[i]? = B1 (x,a):=zm h.il
def dW.em{H':ar}(h:dW H D mp lv ev N ws xs i x a)(f:Fr Em H H'):dW H' D mp lv ev N ws xs i x a:=⟨h.il,h.d.em f⟩
def dW.l0(h:dW H D mp lv ev N ws xs i x a):Op.ae [.ptr (aG ev) (cJ 16 ev i)] H=B1 (.int .i64 x.ow):=h.d.yX h.here
def dW.l1(h:dW H D mp lv ev N ws xs i x a):Op.ae [.ptr (aG ev) (cJ 16 ev i+1)] H=B1 (uB x.sh):=(h.d.ld h.here (by decide)).trans (G8 (x,a)).2.1
def dW.l2(h:dW H D mp lv ev N ws xs i x a):Op.ae [.ptr (aG ev) (cJ 16 ev i+2)] H=B1 (.int .i64 x.un.k):=(h.d.ld h.here (by decide)).trans (G8 (x,a)).2.2.1
def dW.l3(h:dW H D mp lv ev N ws xs i x a):Op.ae [.ptr (aG ev) (cJ 16 ev i+2+1)] H=B1 (.int .i64 x.un.core):=(h.d.ld h.here (k:=3) (by decide)).trans (by grind [G8])
def dW.l4(h:dW H D mp lv ev N ws xs i x a):Op.ae [.ptr (aG ev) (cJ 16 ev i+2+2)] H=B1 (.int .i64 x.un.line):=(h.d.ld h.here (k:=4) (by decide)).trans (by grind [G8])
def dW.si(h:dW H D mp lv ev N ws xs i x a):Op.ae [.ptr (aG ev) (cJ 16 ev i+13)] H=B1 (.int .i64 x.ph):=(h.d.ld h.here (by decide)).trans (by grind [G8])
def dW.vR(h:dW H D mp lv ev N ws xs i x a):Op.ae [.ptr (aG ev) (cJ 16 ev i+14)] H=B1 (uB x.ask):=(h.d.ld h.here (by decide)).trans (by grind [G8])
def dW.jE(h:dW H D mp lv ev N ws xs i x a):Op.ae [.ptr (aG ev) (cJ 16 ev i+15)] H=B1 a:=(h.d.ld h.here (by decide)).trans (by grind [G8])
def dW.lU(h:dW H D mp lv ev N ws xs i x a):Op.aq 11 [.ptr (aG ev) (cJ 16 ev i+2)] H=B1 (.agg (ao x.un)):=h.d.ldU h.here
theorem dW.put(h:dW H D mp lv ev N ws xs i x a){y:De}(b:y.wt=x.wt){j n:Nat}{u:AV}(hu:u.cells.length=n)(ho:aN u.cells=B4)(c:j+n<=16)(e:gU (y,a)=(gU (x,a)).take j++u.cells++(gU (x,a)).drop (j+n)) :
 ∃H',Op.store n [.ptr (aG ev) (cJ 16 ev i+j),u] H=B1 (.undef,H')/\dW H' D mp lv ev N ws xs i y a/\Fr (On (aG ev)) H H':=by
 have⟨H',s,r,f⟩:=h.d.put h.here b hu ho c e;rw[List.set_set]at r;exact⟨H',s,⟨h.il,r⟩,f⟩
def dW.s0(h:dW H D mp lv ev N ws xs i x a)(k:Int):∃H',Op.store 1 [.ptr (aG ev) (cJ 16 ev i),.int .i64 k] H=B1 (.undef,H')/\dW H' D mp lv ev N ws xs i {x with ow:=k} a/\Fr (On (aG ev)) H H' :=
 h.put (y:={x with ow:=k}) (j:=0) (n:=1) (u:=.int .i64 k) rfl rfl rfl (by decide) rfl
def dW.s1(h:dW H D mp lv ev N ws xs i x a)(k:Nat):∃H',Op.store 1 [.ptr (aG ev) (cJ 16 ev i+1),uB k] H=B1 (.undef,H')/\dW H' D mp lv ev N ws xs i {x with sh:=k} a/\Fr (On (aG ev)) H H' :=
 h.put (y:={x with sh:=k}) (j:=1) (n:=1) (u:=uB k) rfl rfl rfl (by decide) rfl
def dW.sU(h:dW H D mp lv ev N ws xs i x a)(m:Mg):∃H',Op.store 11 [.ptr (aG ev) (cJ 16 ev i+2),.agg (ao m)] H=B1 (.undef,H')/\dW H' D mp lv ev N ws xs i {x with un:=m} a/\Fr (On (aG ev)) H H':=by
 refine h.put (y:={x with un:=m}) (j:=2) (n:=11) (u:=.agg (ao m)) rfl (by grind [zp,zh]) (by grind [zp,qS]) (by decide) ?_;rw[zp];have⟨ow,sh,⟨k,co,li,⟨d,b⟩⟩,ph,ask,wt⟩:=x
 match d,b with
 |[_,_,_,_,_,_,_,_],_=>rfl
def dW.O4(h:dW H D mp lv ev N ws xs i x a)(k:Int):∃H',Op.store 1 [.ptr (aG ev) (cJ 16 ev i+13),.int .i64 k] H=B1 (.undef,H')/\dW H' D mp lv ev N ws xs i {x with ph:=k} a/\Fr (On (aG ev)) H H':=by
 refine h.put (y:={x with ph:=k}) (j:=13) (n:=1) (u:=.int .i64 k) rfl rfl rfl (by decide) ?_;have⟨ow,sh,⟨k,co,li,⟨d,b⟩⟩,ph,ask,wt⟩:=x
 match d,b with
 |[_,_,_,_,_,_,_,_],_=>rfl
def dW.Tm(h:dW H D mp lv ev N ws xs i x a)(k:Nat):∃H',Op.store 1 [.ptr (aG ev) (cJ 16 ev i+14),uB k] H=B1 (.undef,H')/\dW H' D mp lv ev N ws xs i {x with ask:=k} a/\Fr (On (aG ev)) H H':=by
 refine h.put (y:={x with ask:=k}) (j:=14) (n:=1) (u:=uB k) rfl rfl rfl (by decide) ?_;have⟨ow,sh,⟨k,co,li,⟨d,b⟩⟩,ph,ask,wt⟩:=x
 match d,b with
 |[_,_,_,_,_,_,_,_],_=>rfl
def bdG(co l:Int)(d:L8):Op.build (ao ⟨0,0,0,.zero⟩) [(0,1),(1,1),(2,1),(3,8)] [.int .i64 14,.int .i64 co,.int .i64 l,.agg (cG d)]=B1 (.agg (ao ⟨14,co,l,d⟩)):=by
 have⟨d,b⟩:=d
 match d,b with
 |[_,_,_,_,_,_,_,_],_=>rfl
def dW.ZC(h:dW H D mp lv ev N ws xs i x a):∃H',Op.store 1 [.ptr (aG ev) (cJ 16 ev i+14),.int .u8 0] H=B1 (.undef,H')/\dW H' D mp lv ev N ws xs i {x with ask:=0} a/\Fr (On (aG ev)) H H':=h.Tm 0
def dW.s1z(h:dW H D mp lv ev N ws xs i x a):∃H',Op.store 1 [.ptr (aG ev) (cJ 16 ev i+1),.int .u8 0] H=B1 (.undef,H')/\dW H' D mp lv ev N ws xs i {x with sh:=0} a/\Fr (On (aG ev)) H H':=h.s1 0
abbrev Lo(H:ar):Nat->Prop:=λ z=>H.au<=z
def dW.loc{g:De}{H1 e:ar}(h:dW H D mp lv ev N ws xs i x a)(c:dW H1 D mp lv ev N ws xs i g a)(f:Fr (Lo H) H1 e):dW e D mp lv ev N ws xs i g a:=by
 refine⟨c.il,c.d.fr f λ z j q=>?_⟩;have:mP D mp lv ev (xs.set i (x,a)) z:=by
  rcases q with q|q|q|q|⟨k,y,b,hk,q⟩
  .exact .inl q
  .exact .inr (.inl q)
  .exact .inr (.inr (.inl q))
  .exact .inr (.inr (.inr (.inl q)))
  .by_cases w:k=i
   .subst w;rw[c.here]at hk;injection hk with hk;injection hk with _ hk;subst hk
    exact .inr (.inr (.inr (.inr ⟨k,x,a,h.here,q⟩)))
   .rw [zr (rS w)]at hk;exact .inr (.inr (.inr (.inr ⟨k,y,b,by grind,q⟩)))
 have:=h.d.low this;omega
def _R(h:dW H D mp lv ev N ws xs i x a){w:L8}(hw:ws[x.un.line.toNat]? = B1 w)(hl:0<=x.un.line)(hs:x.sh<16)(c0:0<=x.un.core)(c1:x.un.core<4) :
 zb M Sv [.ptr D 0,xA ev i] H λ v H'=>v=.agg (ao (x.dY w).2)/\dW H' D mp lv ev N ws xs i (x.dY w).1 a/\Fr (On (aG ev)) H H':=by
 refine q4k ?_;obtain⟨w0,w4,w8,w18⟩:=q4l M ⟨B5,Sv⟩;have⟨H1,e1,f1,n1,g1⟩:=cq H (OR (ao ⟨0,0,0,.zero⟩) xm);have⟨H2,s2,h2,L⟩:=(h.em f1).O4 4;have⟨E,s3,A,O⟩:=h2.ZC;have yX:Op.ae [.ptr D 0] E=B1 (.ptr mp 0):=x9 (xc A.d.row) 0;have hev:=h.d.es.lt;have nb:¬H.au=aG ev:=by omega
 have m2:=L.au;have m3:=O.au;have g3:E.get H.au=B1 (OR (ao ⟨0,0,0,.zero⟩) xm):=by rw[O.ah _ (by omega) nb,L.ah _ (by omega) nb];exact g1
 simp only[aa,bc,w0,mZ,<-e1,qo,s2,s3,w4,yX,A.l4];refine C3.q (_6 A.d.me hl hw) λ v F⟨hv,f4⟩=>?_;rw[hv];obtain⟨H5,e5,P,-,g5⟩:=cq F (OR (cG .zero) z7);have B:=fH g5 (yi _) (yi w) (ue w);obtain⟨b,J⟩:∃X,X=H5.set F.au (OR (cG w) z7):=⟨_,rfl⟩
 rw[<-J]at B;have g6:b.get F.au=B1 (OR (cG w) z7):=by rw[J,xb]
 have Q:Fr Em F b:=by rw[J];exact P.set (by omega) _
 have f:Fr Em E b:=f4.trans Q λ _ q=>q.elim;have h6:=A.em f;have l5:=eI g6 (yi w);obtain⟨H7,e7,R,-,g7⟩:=cq b (OR (ao ⟨0,0,0,.zero⟩) xm);have C:=fH g7 (zh _) (zh ⟨14,x.un.core,x.un.line,w⟩) (qS _);obtain⟨l,K⟩:∃X,X=H7.set b.au (OR (ao ⟨14,x.un.core,x.un.line,w⟩) xm):=⟨_,rfl⟩
 rw[<-K]at C;have g8:l.get b.au=B1 (OR (ao ⟨14,x.un.core,x.un.line,w⟩) xm):=by rw[K,xb]
 have u:Fr Em b l:=by rw[K];exact R.set (by omega) _
 have g:Fr Em E l:=f.trans u λ _ q=>q.elim;have s:=A.em g;have m36:=f.au;have m68:=u.au;have z:l.get H.au=B1 (OR (ao ⟨0,0,0,.zero⟩) xm):=by rw[g.ah _ (by omega) id];exact g3
 have n8:b.au<l.au:=by grind [tj,xy]
 have t:Fr (On (aG ev)) H l:=(((f1.mono λ _ _ q=>q.elim).trans L λ _ q=>.inl q).trans O λ _ q=>.inl q).trans g λ _ q=>q.elim;simp only[aa,bc,xj,lZ,<-e5,B,qo,h6.l3,h6.l4,l5,bdG,<-e7,C,w8,s.l2];have fin:∀{c:ar}{y:De}{m:Mg},dW c D mp lv ev N ws xs i y a->Fr (On (aG ev)) H c->c.get H.au=B1 (OR (ao ⟨0,0,0,.zero⟩) xm)->H.au<c.au -> ∃r,Op.store 11 [.ptr H.au 0,.agg (ao m)] c=B1 (.undef,r)/\Op.aq 11 [.ptr H.au 0] r=B1 (.agg (ao m))/\dW r D mp lv ev N ws xs i y a/\Fr (On (aG ev)) H r:=λ{c y m}a1 a2 a3 a4=>by
  have st:=fH a3 (zh _) (zh m) (qS m);refine⟨_,st,eI (xb ..) (zh m),h.loc a1 ((Fr.refl c).set (W:=Lo H) (by omega) _),a2.set (by omega) _⟩
 have j:¬b.au=aG ev:=by omega
 unfold De.dY
 by_cases I:x.un.k=1
 .rw [xg I];have sh1:=NG c0 c1;have Z:=_A hs c0 c1;have⟨c,Y,T,e⟩:=s.s1 (rz x.sh x.un.core);have m9:=e.au;have l9:Op.aq 11 [.ptr b.au 0] c=B1 (.agg (ao ⟨14,x.un.core,x.un.line,w⟩)):=eI (by rw[e.ah _ n8 j];exact g8) (zh _);have⟨r,sx,U,hx,fx⟩:=fin (m:=⟨14,x.un.core,x.un.line,w⟩) T (t.trans e λ _ q=>.inl q) (by rw[e.ah _ (by omega) nb];exact z) (by omega);simp only[aa,bc,qv I,s.l1,s.l3,qo,sh1,Z,Y,l9,sx,U]
  grind
 .rw [qy I];have⟨c,Y,T,e⟩:=s.s0 x.un.core;have⟨p,Z,ha,fa⟩:=T.s1z;have m9:=e.au;have ma:=fa.au;have ga:p.get b.au=B1 (OR (ao ⟨14,x.un.core,x.un.line,w⟩) xm):=by rw[fa.ah _ (by omega) j,e.ah _ n8 j];exact g8
  have sb:Op.store 1 [.ptr b.au 0,.int .i64 15] p=B1 (.undef,p.set b.au (OR (ao ⟨15,x.un.core,x.un.line,w⟩) xm)):=xC (v:=.int .i64 15) ga (o:=0) (n:=1) rfl (by rw[zh];decide) rfl;obtain⟨Hb,G⟩:∃X,X=p.set b.au (OR (ao ⟨15,x.un.core,x.un.line,w⟩) xm):=⟨_,rfl⟩
  rw[<-G]at sb;have S:Fr (Lo H) p Hb:=by rw[G];exact(Fr.refl p).set (W:=Lo H) (by omega) _
  have lb:Op.aq 11 [.ptr b.au 0] Hb=B1 (.agg (ao ⟨15,x.un.core,x.un.line,w⟩)):=eI (by rw[G,xb]) (zh _);have hb:=h.loc ha S;have V:¬b.au=H.au:=by omega
  have gb:Hb.get H.au=B1 (OR (ao ⟨0,0,0,.zero⟩) xm):=by rw[G,kr V,fa.ah _ (by omega) nb,e.ah _ (by omega) nb];exact z
  have⟨r,sx,U,hx,fx⟩:=fin (m:=⟨15,x.un.core,x.un.line,w⟩) hb (((t.trans e λ _ q=>.inl q).trans fa λ _ q=>.inl q).trans S λ _ q=>.inr q) gb (by have:=S.au;omega);simp only[aa,bc,I,w18,s.l3,qo,Y,Z,sb,lb,sx,U]
  grind
end
end Go.Am
namespace Go.Am
open Go.Proofs Ca
variable{M:ak}[MK M]
section
variable{H:ar}{D mp:Nat}{lv ev:AV}{N:Int}{ws:List L8}{xs:List (De×AV)}{i:Nat}{x:De}{a:AV}
def af8(h:mN H D mp lv ev N ws xs){n:Int}(f:0<=n)(g:n<xs.length):zb M ZY [.ptr D 0,.int .i64 n] H λ v H'=>v=xA ev n.toNat/\H'=H:=by
 have hl:Op.ae [.ptr D 2] H=B1 ev:=x9 (xc h.row) 2;have hn:=(h.es.sl AH).len;have d:¬n<0:=by omega
 have e:¬((xs.length:Nat):Int)<=n:=by omega
 have c:xs[n.toNat]? = B1 (xs[n.toNat]'(by omega)):=(by grind)
 have ix:Op.aR 16 [ev,.int .i64 n]=B1 (.ptr (aG ev) (cJ 16 ev n.toNat)):=(h.es.sl AH).idx c (by omega) .i64;refine xcd ?_;obtain⟨w0,w2,b⟩:=xce M ⟨B5,ZY⟩;simp only[aa,bc,w0,w2,yr,d,qo,hl,hn,e,b,ix]
end
def lC(s:Nat):List Nat:=(N2 4).filter λ(k:Nat)=>hb s (k:Int) == 1
def MB(s:Nat):wI s=(lC s).map λ(k:Nat)=>(k:Int):=by
 unfold wI lC;have e:([0,1,2,3]:List Int)=(N2 4).map λ(k:Nat)=>(k:Int):=rfl;rw[e,List.filter_map];rfl
def xiz{H0:ar}{p s:Nat}(hp:H0.get p=B1 (OR [uB s] Yp))(hpl:p<H0.au)(hs:s<16) :
 qU M Pe [] [.ptr p 0] (λ x=>x=p) (λ _=>False) H0 ((lC s).map λ(k:Nat)=>[AV.int .i64 (k:Int)]):=by
 intro Y R S l H1 X P B Q loc L step;have⟨p1,p2,p3⟩:=P p (.inl rfl)
 suffices h:zb M Pe [.fn (.yield Y) [] [],.ptr p 0] H1 (Iv R S l (λ _=>False) H1 ((lC s).map λ(k:Nat)=>[AV.int .i64 (k:Int)]).length)by
  have⟨v,H',hc,W',g,q2,q3⟩:=h.elim
  grind
 refine qvy ?_;obtain⟨w0,w4,y,z⟩:=qvz M ⟨B5,Pe⟩;have lp:∀{j:ar},Fr l H1 j->Op.ae [.ptr p 0] j=B1 (uB s):=λ f=>by rw[x9 (xc (by rw[f.ah _ (by omega) p3,p2];exact hp))];rfl
 simp only[aa,bc,w0];refine b9.intro (λ n E j=>∃(i:Nat)(V:Nat->Prop),E=[(4,.int .i64 (i:Int)),(0,.fn (.yield Y) [] []),(1,.ptr p 0)]/\n=4-i/\i<=4/\Jw R l H1 j ((N2 i).filter λ(k:Nat)=>hb s (k:Int) == 1).length V) ?_ ?_
 .exact ⟨_,_,⟨0,l,rfl,rfl,xw _,⟨B,λ b hb=>(by grind),Fr.refl _⟩⟩,by simp only[aa,bc]⟩
 rintro n E j ⟨i,V,rfl,rfl,hi,d⟩;rcases xz i 4 with W|T
 .have g:(i:Int)<4:=by omega
  have sh:=NG (c:=(i:Int)) (by omega) g;have ha:=xlc hs (c:=(i:Int)) (by omega) g;have O:aj .i64 ((i:Int)+1)=((i+1:Nat):Int):=by grind [jb]
  have K:=OK (λ(k:Nat)=>hb s (k:Int) == 1) i;have hle:=IW s (i:Int)
  by_cases J:hb s (i:Int)=1
  .have u:((N2 (i+1)).filter λ(k:Nat)=>hb s (k:Int) == 1).length=((N2 i).filter λ(k:Nat)=>hb s (k:Int) == 1).length+1:=by rw[K];simp[J]
   have hg:((lC s).map λ(k:Nat)=>[AV.int .i64 (k:Int)])[((N2 i).filter λ(k:Nat)=>hb s (k:Int) == 1).length]? = B1 [.int .i64 (i:Int)]:=by
    grind [lC,VO]
   have Z:0<2 ^ (i:Int).toNat:=(by grind)
   have G:¬(((hb s (i:Int)*2 ^ (i:Int).toNat:Nat)):Int)=0:=by rw[J,Nat.one_mul];omega
   have⟨bb,I,A,hr,C,r,ht,F⟩:=step _ _ hg V j d.hR d.hV (d.fr.mono λ _ _ q=>.inl q);have m:Fr l H1 I:=d.fr.trans C λ b q=>(d.hV b q).2;have o:∀b,A b->b<I.au/\(l b\/H1.au<=b):=λ b q=>⟨(r b q).1,(r b q).2.elim (λ w=>(d.hV b w).2) λ w=>.inr (xx d.fr.au w)⟩
   simp only[aa,bc,w4,g,y,lp d.fr,sh,ha,G];refine C3.tR hr ?_;cases bb with
   |true =>
    simp only[aa,bc,z,O];exact⟨_,_,⟨i+1,A,rfl,rfl,by omega,⟨by grind,o,m⟩⟩,by simp only[aa,bc],by omega⟩
   |false =>
    simp only[aa,bc];exact⟨A,m.mono λ _ _ q=>.inl q,o,.inr (F rfl)⟩
  .have t:hb s (i:Int)=0:=by omega
   have u:((N2 (i+1)).filter λ(k:Nat)=>hb s (k:Int) == 1).length=((N2 i).filter λ(k:Nat)=>hb s (k:Int) == 1).length:=by rw[K];simp[t]
   have G:(((hb s (i:Int)*2 ^ (i:Int).toNat:Nat)):Int)=0:=by rw[t,AG];rfl
   simp only[aa,bc,w4,g,y,lp d.fr,sh,ha,qv G,z,O];exact⟨_,_,⟨i+1,V,rfl,rfl,by omega,by rw[u];exact d⟩,by simp only[aa,bc],by omega⟩
 .have g:¬(i:Int)<4:=by omega
  have U:i=4:=by omega
  simp only[aa,bc,w4,g];refine⟨V,d.fr.mono λ _ _ q=>.inl q,d.hV,.inl ?_⟩;have e:((lC s).map λ(k:Nat)=>[AV.int .i64 (k:Int)]).length=((N2 i).filter λ(k:Nat)=>hb s (k:Int) == 1).length:=by grind [lC]
  rw[e];exact d.hR
def xl0{H:ar}(s:Nat):zb M _x [uB s] H λ v H'=>v=.fn (.func Pe) [] [.ptr H.au 0]/\H'=H.alloc (OR [uB s] Yp):=by
 refine q0k ?_;simp_all[aa,q0l]
end Go.Am
namespace Go.Am
open Go.Proofs Ca
variable{M:ak}[MK M]
abbrev EU(t:Nat):AV:=.fn (.func Uj) [] [.ptr t 0]
def Xx{H:ar}{t:Nat}{c:Int}(w:Mg)(hl:∀{d:ar},Fr Em H d->Op.ae [.ptr t 1] d=B1 (.int .i64 c)):zb M Uj [.agg (ao w),.ptr t 0] H λ r H'=>r=.bool (decide (w.core=c))/\Fr Em H H':=by
 refine qxu ?_;obtain⟨H1,e1,b,-,e⟩:=cq H (OR (ao w) xm);have l1:Op.ae [.ptr H.au 1] H1=B1 (.int .i64 w.core):=x9 (xc e) 1
 by_cases q:w.core=c
 .simp only[aa,bc,qnt,<-e1,l1,hl b,qv q];exact b
 .simp only[aa,bc,qnt,<-e1,l1,hl b,q];exact b
def xfj{H:ar}{v:AV}{ms:List Mg}{t:Nat}{c:Int}(h:bN ao 11 H v ms)(hk:ms.length<=1000000)(hl:∀{d:ar},Fr Em H d->Op.ae [.ptr t 1] d=B1 (.int .i64 c)) :
 zb M ZZ [v,EU t] H λ r H'=>(∃z:Int,r=.int .i64 z/\(0<=z↔ ∃w∈ms,w.core=c))/\Fr Em H H':=by
 refine qlx ?_;obtain⟨w0,w2,u,A,p,s⟩:=qly M ⟨B5,ZZ⟩;simp only[aa,bc,w0,w2,h.len];refine b9.intro (λ n E d=>∃i:Nat,E=[(8,.int .i64 (i:Int)),(7,.int .i64 ((ms.length:Nat):Int)),(0,v),(1,EU t)]/\n=ms.length-i/\i<=ms.length/\Fr Em H d /\ ∀k w,k<i->ms[k]? = B1 w->w.core≠c) ?_ ?_
 .exact ⟨_,_,⟨0,rfl,rfl,xw _,Fr.refl _,λ k w hk=>by omega⟩,by simp only[aa,bc]⟩
 rintro n E d ⟨i,rfl,rfl,F,b,l⟩;rcases xz i ms.length with j|B
 .have o:(i:Int)<((ms.length:Nat):Int):=by omega
  have m:=xf j;have ix:=(h.em b).idx m (z:=(i:Int)) rfl .i64;have ld:=(h.em b).aq zh (by decide) m;have C:aj .i64 ((i:Int)+1)=((i+1:Nat):Int):=by rw[jb (by omega) (by omega)];omega
  simp only[aa,bc,A,o,p,ix,ld];refine C3.q (Xx (ms[i]) (λ f=>hl (b.trans f λ _ q=>q.elim))) λ r H1⟨hr,y⟩=>?_;rw[hr]
  by_cases q:(ms[i]).core=c
  .simp only[aa,bc,qv q];exact⟨⟨_,rfl,λ _=>⟨_,List.getElem_mem j,q⟩,λ _=>by omega⟩,b.trans y λ _ q=>q.elim⟩
  .simp only[aa,bc,q,s,C];refine⟨_,_,⟨i+1,rfl,rfl,by omega,b.trans y λ _ q=>q.elim,λ k w hk hw=>?_⟩,by simp only[aa,bc],by omega⟩
   by_cases e:k=i
   .rw [e,m]at hw;injection hw with hw;rw[<-hw];exact q
   .exact l k w (by omega) hw
 .have o:¬(i:Int)<((ms.length:Nat):Int):=by omega
  simp only[aa,bc,A,o,u];refine⟨⟨_,rfl,λ q=>absurd q (by decide),λ⟨w,hw,hc⟩=>?_⟩,b⟩;have⟨k,g⟩:=MA hw;exact absurd hc (l k w (by have:=(qt.1 g).1;omega) g)
def qtk{H:ar}{v:AV}{ms:List Mg}{t:Nat}{c:Int}(h:bN ao 11 H v ms)(hk:ms.length<=1000000)(hl:∀{b:ar},Fr Em H b->Op.ae [.ptr t 1] b=B1 (.int .i64 c)) :
 zb M l_ [v,EU t] H λ r H'=>r=.bool (decide (∃w∈ms,w.core=c))/\Fr Em H H':=by
 refine qjz ?_;simp only[aa,bc,qj0];refine C3.q (xfj h hk hl) λ r H1⟨⟨z,hr,e⟩,d⟩=>?_;rw[hr];simp only[aa,bc]
 by_cases q:0<=z
 .simp only[q,e.1 q,decide_true,Gc];exact d
 .have f:¬ ∃w∈ms,w.core=c:=λ w=>q (e.2 w);simp only[q,f,JP,Gc];exact d
section
variable{H:ar}{D mp:Nat}{lv ev:AV}{N:Int}{ws:List L8}{xs:List (De×AV)}{i:Nat}{x:De}{a:AV}
def xlv(h:dW H D mp lv ev N ws xs i x a)(m:Mg)(c0:0<=m.core)(c1:m.core<4)(ha:x.ask<16)(hw:x.wt.length<=1000000):zb M Jv [xA ev i,.agg (ao m)] H λ v H'=>v=.bool (decide (x.may m))/\Fr Em H H':=by
 refine q4m ?_;obtain⟨w0,w4,w51,F,G,w26,w38⟩:=q4n M ⟨B5,Jv⟩;have⟨H1,e1,f1,n1,g1⟩:=cq H (OR (ao m) xm);have lm:∀{p:ar}(k:Nat),Fr Em H1 p->Op.ae [.ptr H.au k] p=(ao m)[k]?:=λ k f=>x9 (xc (by rw[f.ah _ (by omega) id];exact g1)) k;have l0:Op.ae [.ptr H.au 0] H1=B1 (.int .i64 m.k):=lm 0 (Fr.refl _);have l1:∀{p:ar},Fr Em H1 p->Op.ae [.ptr H.au 1] p=B1 (.int .i64 m.core):=λ f=>lm 1 f;have l:=l1 (Fr.refl H1);have mk:Op.bH Uj 0 [.ptr H.au 0]=B1 (EU H.au):=rfl;have c:=h.em f1;have C:=NG c0 c1;have X:=xlc ha c0 c1;have hle:=IW x.ask m.core;have hp0:0<2 ^ m.core.toNat:=Nat.pos_of_ne_zero (by simp);have fin:∀{b:Bool}{p:ar},(b=B4↔x.may m)->Fr Em H1 p->(AV.bool b=.bool (decide (x.may m))/\Fr Em H p):=λ{b p}e f=>by
  refine⟨?_,f1.trans f λ _ q=>q.elim⟩;congr 1;cases b with
  |true=>exact(ke (e.1 rfl)).symm
  |false=>exact(ju λ w=>by cases e.2 w).symm
 have n:=Fr.refl (W:=Em) H1;simp only[aa,bc,w0,<-e1,w4,l0]
 by_cases B:m.k=1\/m.k=2
 .have hm:x.may m↔ ¬(x.ph≠0/\x.ph≠4/\x.un.core=m.core)/\(x.ow≠m.core\/x.ph=2) /\ ¬ ∃w∈x.wt,w.core=m.core:=by unfold De.may De.own;rw[xg B]
  have key:∀{E:Env},lk E 10=B1 (.bool B4)->lk E 0=B1 (xA ev i)->lk E 3=B1 (.ptr H.au 0)->lk E 5=B1 (EU H.au)->W M ⟨B5,Jv⟩ (S4 14) B4 (eX 0 (fm (W M ⟨B5,Jv⟩ (S4 51)) (eH M [.tmp 4] (uj λ v H'=>v=.bool (decide (x.may m))/\Fr Em H H')))) E [] H1:=by
   intro E I O Z b5
   -- the rest,once it is known whether one is under way
   have rest:∀{p:ar}(u:Bool),Fr Em H1 p->(u=B4↔(x.ph≠0/\x.ph≠4/\x.un.core=m.core))->W M ⟨B5,Jv⟩ (S4 17) B4 (eX 0 (fm (W M ⟨B5,Jv⟩ (S4 51)) (eH M [.tmp 4] (uj λ v H'=>v=.bool (decide (x.may m))/\Fr Em H H')))) ((6,.bool u)::E) [] p:=by
    intro p u t hu;have y:=c.em t;have T:=y.d.wt i x a y.here;cases u with
    |true =>
     simp only[aa,bc,G];exact fin ⟨λ q=>RF q,λ q=>absurd (hu.1 rfl) (hm.1 q).1⟩ t
    |false =>
     have P:¬(x.ph≠0/\x.ph≠4/\x.un.core=m.core):=λ q=>by cases hu.2 q
     by_cases S:x.ow=m.core
     .by_cases V:x.ph=2
      .simp only[aa,bc,G,O,Z,b5,qo,y.l0,l1 t,qv S,y.si,qv V,y.jE];refine C3.q (qtk (T.sl zh) hw (λ f=>l1 (t.trans f λ _ q=>q.elim))) λ r Y⟨hr,J⟩=>?_;rw[hr];simp only[aa,bc];refine fin ?_ (t.trans J λ _ q=>q.elim);rw[hm];constructor
       .intro q;exact⟨P,.inr V,by simpa using q⟩
       .intro q;simpa using q.2.2
      .simp only[aa,bc,G,O,Z,b5,qo,y.l0,l1 t,qv S,y.si,V];exact fin ⟨λ q=>RF q,λ q=>((hm.1 q).2.1.elim (λ w=>absurd S w) λ w=>absurd w V)⟩ t
     .simp only[aa,bc,G,O,Z,b5,qo,y.l0,l1 t,S,y.jE];refine C3.q (qtk (T.sl zh) hw (λ f=>l1 (t.trans f λ _ q=>q.elim))) λ r Y⟨hr,J⟩=>?_;rw[hr];simp only[aa,bc];refine fin ?_ (t.trans J λ _ q=>q.elim);rw[hm];constructor
      .intro q;exact⟨P,.inl S,by simpa using q⟩
      .intro q;simpa using q.2.2
   by_cases R:x.ph=0
   .simp only[aa,bc,F,I,O,qo,c.si,qv R];exact rest B2 n ⟨λ q=>RF q,λ q=>absurd R q.1⟩
   by_cases U:x.ph=4
   .simp only[aa,bc,F,I,O,qo,c.si,R,qv U];exact rest B2 n ⟨λ q=>RF q,λ q=>absurd U q.2.1⟩
   simp only[aa,bc,F,I,O,b5,qo,c.si,R,U,c.lU];refine C3.q (Xx x.un l1) λ r Y⟨hr,J⟩=>?_;rw[hr];simp only[aa,bc];exact rest _ J ⟨λ q=>⟨R,U,by simpa using q⟩,λ q=>by simpa using q.2.2⟩
  rcases B with k|k
  .simp only[aa,bc,qv k];exact key rfl rfl rfl rfl
  .have k1:¬m.k=1:=by omega
   simp only[aa,bc,k1,qv k];exact key rfl rfl rfl rfl
 have k1:¬m.k=1:=λ q=>B (.inl q);have k2:¬m.k=2:=λ q=>B (.inr q);have o:(((hb x.ask m.core*2 ^ m.core.toNat:Nat)):Int)=0↔ ¬hb x.ask m.core=1:=by
  constructor
  .intro q w;rw[w,Nat.one_mul]at q;omega
  .intro q;rw[show hb x.ask m.core=0 by omega,AG];rfl
 simp only[aa,bc,k1,k2,F]
 by_cases A:m.k=4
 .have hm:x.may m↔x.ph=1/\hb x.ask m.core=1:=by unfold De.may;rw[qy B,xg A]
  by_cases g:x.ph=1
  .by_cases j:hb x.ask m.core=1
   .have z:=λ w=>o.1 w j;simp only[aa,bc,qv A,qo,c.si,qv g,c.vR,l,C,X];exact fin ⟨λ _=>hm.2 ⟨g,j⟩,λ _=>ke z⟩ n
   .have z:=o.2 j;simp only[aa,bc,qv A,qo,c.si,qv g,c.vR,l,C,X,qv z];exact fin ⟨λ q=>RF q,λ q=>absurd (hm.1 q).2 j⟩ n
  .simp only[aa,bc,qv A,qo,c.si,g];exact fin ⟨λ q=>RF q,λ q=>absurd (hm.1 q).1 g⟩ n
 simp only[aa,bc,A,w26]
 by_cases s:m.k=5
 .have hm:x.may m↔x.ph=2/\x.ow=m.core:=by unfold De.may;rw[qy B,qy A,xg s]
  by_cases g:x.ph=2
  .by_cases j:x.ow=m.core
   .simp only[aa,bc,qv s,qo,c.si,qv g,c.l0,l,qv j];exact fin ⟨λ _=>hm.2 ⟨g,j⟩,λ _=>rfl⟩ n
   .simp only[aa,bc,qv s,qo,c.si,qv g,c.l0,l,j];exact fin ⟨λ q=>RF q,λ q=>absurd (hm.1 q).2 j⟩ n
  .simp only[aa,bc,qv s,qo,c.si,g];exact fin ⟨λ q=>RF q,λ q=>absurd (hm.1 q).1 g⟩ n
 by_cases L:m.k=6
 .have hm:x.may m↔x.ph=2/\hb x.ask m.core=1:=by unfold De.may;rw[qy B,qy A,qy s,xg L]
  by_cases g:x.ph=2
  .by_cases j:hb x.ask m.core=1
   .have z:=λ w=>o.1 w j;simp only[aa,bc,s,qv L,qo,c.si,qv g,c.vR,l,C,X];exact fin ⟨λ _=>hm.2 ⟨g,j⟩,λ _=>ke z⟩ n
   .have z:=o.2 j;simp only[aa,bc,s,qv L,qo,c.si,qv g,c.vR,l,C,X,qv z];exact fin ⟨λ q=>RF q,λ q=>absurd (hm.1 q).2 j⟩ n
  .simp only[aa,bc,s,qv L,qo,c.si,g];exact fin ⟨λ q=>RF q,λ q=>absurd (hm.1 q).1 g⟩ n
 simp only[aa,bc,s,L,w38]
 by_cases K:m.k=3
 .have hm:x.may m↔x.ow=m.core:=by unfold De.may;rw[qy B,qy A,qy s,qy L,xg K]
  by_cases j:x.ow=m.core
  .simp only[aa,bc,qv K,qo,c.l0,l,qv j];exact fin ⟨λ _=>hm.2 j,λ _=>rfl⟩ n
  .simp only[aa,bc,qv K,qo,c.l0,l,j];exact fin ⟨λ q=>RF q,λ q=>absurd (hm.1 q) j⟩ n
 have hm:x.may m↔m.k=7/\x.ph=4/\x.un.core=m.core:=by unfold De.may;rw[qy B,qy A,qy s,qy L,qy K]
 by_cases Q:m.k=7
 .by_cases g:x.ph=4
  .simp only[aa,bc,K,qv Q,qo,c.si,qv g,c.lU];refine C3.q (Xx x.un l1) λ r Y⟨hr,J⟩=>?_;rw[hr];simp only[aa,bc];exact fin ⟨λ q=>hm.2 ⟨Q,g,by simpa using q⟩,λ q=>by simpa using(hm.1 q).2.2⟩ J
  .simp only[aa,bc,K,qv Q,qo,c.si,g];exact fin ⟨λ q=>RF q,λ q=>absurd (hm.1 q).2.1 g⟩ n
 .simp only[aa,bc,K,Q,w51];exact fin ⟨λ q=>RF q,λ q=>absurd (hm.1 q).1 Q⟩ n
end
end Go.Am
namespace Go.Am
open Go.Proofs Ca
variable{M:ak}[MK M]
structure R5(t:Nat)(ms:List Mg)(V:Nat->Prop)(Hx:ar):Prop where
 vt:V t
 lt:t<Hx.au
 ls:∃lv,Hx.get t=B1 (OR [lv] sE)/\aO ao xm 11 Hx lv ms /\ ∀z,aM lv z->V z/\t<z
def R5.loc{t:Nat}{ms:List Mg}{V:Nat->Prop}{c Hb:ar}(h:R5 t ms V c)(hs:∀x,V x->Hb.get x=c.get x)(hn:c.au<=Hb.au):R5 t ms V Hb:=by
 have⟨lv,l1,l2,l3⟩:=h.ls;exact⟨h.vt,qn h.lt hn,lv,by rw[hs _ h.vt];exact l1,Own.fr l2 (⟨hn,λ b _ hw=>hs b (wh.1 hw)⟩:Fr (λ b=>¬V b) c Hb) λ x d w=>w (l3 x d).1,l3⟩
abbrev sk(l:Int)(k:Nat):Mg:=⟨11,(k:Int),l,.zero⟩
def xmf(s:Nat)(l:Int):(wI s).map (λ c=>(⟨11,c,l,.zero⟩:Mg))=(lC s).map (sk l):=by
 rw[MB,A5];rfl
def DQ(s:Nat):(lC s).length<=4:=by
 have:=List.length_filter_le (λ(k:Nat)=>hb s (k:Int) == 1) (N2 4);rw[jd]at this;exact this
section
variable{H:ar}{D mp:Nat}{lv ev:AV}{N:Int}{ws:List L8}{xs:List (De×AV)}{i:Nat}{x:De}{a:AV}
def po(h:dW H D mp lv ev N ws xs i x a)(m:Mg){w:L8}(hw:ws[m.line.toNat]? = B1 w)(hl:0<=m.line)(hs:x.sh<16)(c0:0<=m.core)(c1:m.core<4)(hk:m.k=1\/m.k=2)(ho:x.ow<4) :
 zb M Ni [.ptr D 0,xA ev i,.agg (ao m)] H λ v H'=>mS H H' v (x.begin m w).2/\dW H' D mp lv ev N ws xs i (x.begin m w).1 a/\Fr (On (aG ev)) H H':=by
 refine q4j ?_;have⟨w0,wa,wb,w4,L,w10,O,w12,w32,w18,w36,w41⟩:=S2 M ⟨B5,Ni⟩;have⟨H1,e1,f1,n1,g1⟩:=cq H (OR (ao m) xm);have hev:=h.d.es.lt;have nb:¬H.au=aG ev:=by omega
 have lU:=eI g1 (zh m);have⟨T,s2,C,f2⟩:=(h.em f1).sU m;have m2:=f2.au;have F2:Fr (On (aG ev)) H T:=(f1.mono λ _ _ q=>q.elim).trans f2 λ _ q=>.inl q;have lm:∀{Hx:ar}(k:Nat),Fr (On (aG ev)) T Hx->Op.ae [.ptr H.au k] Hx=(ao m)[k]?:=λ k f=>x9 (xc (by rw[f.ah _ (by omega) nb,f2.ah _ (by omega) nb];exact g1)) k;simp only[aa,bc,w0,<-e1,lU,qo,s2,w4,C.l0];unfold De.begin
 by_cases q:0<=x.ow
 .rw [xg q];have s:=NG q ho;have⟨U,S,Q,Y⟩:=C.O4 2;have⟨c,s4,J,Z⟩:=Q.Tm (2 ^ x.ow.toNat);have l:Fr (On (aG ev)) T c:=Y.trans Z λ _ q=>.inl q;have G:=F2.trans l λ _ q=>.inl q;have l0:Op.ae [.ptr H.au 0] c=B1 (.int .i64 m.k):=lm 0 l;have l2:Op.ae [.ptr H.au 2] c=B1 (.int .i64 m.line):=lm 2 l;have m4:=G.au;have out:∀k:Int,mS H (c.alloc (OR (ao ⟨k,x.ow,m.line,.zero⟩) xm)) (Op.sliceTo 1 1 c.au) [⟨k,x.ow,m.line,.zero⟩]/\dW (c.alloc (OR (ao ⟨k,x.ow,m.line,.zero⟩) xm)) D mp lv ev N ws xs i {x with un:=m,ph:=2,ask:=2 ^ x.ow.toNat} a/\Fr (On (aG ev)) H (c.alloc (OR (ao ⟨k,x.ow,m.line,.zero⟩) xm)):=λ k =>
   ⟨LB _ m4,J.em ((Fr.refl c).alloc _),G.alloc _⟩
  by_cases k2:m.k=2
  .rw [xg k2];simp only[aa,bc,qv q,C.l0,qo,s,S,s4,w10,w12,l0,qv k2,w18,J.l0,l2,mZ,Sx,AY];exact out 13
  .rw [qy k2];simp only[aa,bc,qv q,C.l0,qo,s,S,s4,w10,w12,l0,k2,w18,J.l0,l2,mZ,Sx,AY];exact out 12
 .rw [qy q];have s:=NG c0 c1;have sd:=WW hs c0 c1;have⟨U,S,Q,Y⟩:=C.Tm (cT x.sh m.core);have F3:=F2.trans Y λ _ q=>.inl q;have l1:Op.ae [.ptr H.au 1] T=B1 (.int .i64 m.core):=lm 1 (Fr.refl _);have l0:Op.ae [.ptr H.au 0] U=B1 (.int .i64 m.k):=lm 0 Y;have dz:cT x.sh m.core=0↔((cT x.sh m.core:Nat):Int)=0:=by omega
  have tog:m.k=1\/cT x.sh m.core=0->zb M Sv [.ptr D 0,xA ev i] U λ v H'=>v=.agg (ao (De.dY {x with un:=m,ask:=cT x.sh m.core} w).2)/\dW H' D mp lv ev N ws xs i (De.dY {x with un:=m,ask:=cT x.sh m.core} w).1 a/\Fr (On (aG ev)) U H':=λ _=>_R Q hw hl hs c0 c1;have F:∀{v:AV}{c:ar},(v=.agg (ao (De.dY {x with un:=m,ask:=cT x.sh m.core} w).2)/\dW c D mp lv ev N ws xs i (De.dY {x with un:=m,ask:=cT x.sh m.core} w).1 a/\Fr (On (aG ev)) U c) ->
   mS H (c.alloc (OR (ao (De.dY {x with un:=m,ask:=cT x.sh m.core} w).2) xm)) (Op.sliceTo 1 1 c.au) [(De.dY {x with un:=m,ask:=cT x.sh m.core} w).2]/\dW (c.alloc (OR (ao (De.dY {x with un:=m,ask:=cT x.sh m.core} w).2) xm)) D mp lv ev N ws xs i (De.dY {x with un:=m,ask:=cT x.sh m.core} w).1 a/\Fr (On (aG ev)) H (c.alloc (OR (ao (De.dY {x with un:=m,ask:=cT x.sh m.core} w).2) xm)):=λ{v c}⟨_,J,Z⟩=>by
   have G:=F3.trans Z λ _ q=>.inl q;exact⟨LB _ G.au,J.em ((Fr.refl c).alloc _),G.alloc _⟩
  by_cases R:m.k=1
  .rw [xg (.inl R)];simp only[aa,bc,q,L,C.l1,qo,l1,s,sd,S,O,l0,qv R];refine C3.q (tog (.inl R)) λ v c E=>?_;rw[E.1];simp only[aa,bc,mZ,AY];exact F E
  by_cases d0:cT x.sh m.core=0
  .rw [xg (.inr d0)];have d1:=dz.1 d0;simp only[aa,bc,q,L,C.l1,qo,l1,s,sd,S,O,l0,R,Q.vR,qv d1];refine C3.q (tog (.inr d0)) λ v c E=>?_;rw[E.1];simp only[aa,bc,mZ,AY];exact F E
  rw[qy (λ w=>w.elim R d0)];have d1:¬((cT x.sh m.core:Nat):Int)=0:=λ q=>d0 (dz.2 q);have⟨c,s4,J,Z⟩:=Q.O4 1;have⟨H5,e5,I,n5,g5⟩:=cq c (OR [.nils] sE);have h5:=J.em I;have l:Fr (On (aG ev)) T c:=Y.trans Z λ _ q=>.inl q;have G:=F2.trans l λ _ q=>.inl q;have m24:=l.au;simp only[aa,bc,q,L,C.l1,qo,l1,s,sd,S,O,l0,R,Q.vR,d1,w32,s4,<-e5,w36,h5.vR];refine C3.q (xl0 (cT x.sh m.core)) λ v H7⟨hv,E⟩=>?_;obtain⟨H6,e6,A,-,g6⟩:=cq H5 (OR [uB (cT x.sh m.core)] Yp);rw[<-e6]at E;rw[hv,E];have n6:H6.au=c.au+2:=by rw[e6,xy,n5]
  have g6t:H6.get c.au=B1 (OR [.nils] sE):=by rw[A.ah _ (by omega) id];exact g5
  have h6:=h5.em A;have g6m:H6.get H.au=B1 (OR (ao m) xm):=by
   rw[A.ah _ (by omega) id,I.ah _ (by omega) id,l.ah _ (by omega) nb,f2.ah _ (by omega) nb];exact g1
  have hd16:cT x.sh m.core<16:=(Nb hs c0 c1 (d:=0) (by decide) (by decide)).1;refine iE.iter (fn:=Ur) (lp:=Pa) (pa:=Yl 0) (pb:=Wf 0) q0j kn.1 kn.2 (by decide) qxs qxt
   (xiz g6 (by omega) hd16) (λ j V Hx=>R5 c.au (((lC (cT x.sh m.core)).take j).map (sk m.line)) V Hx) (λ _ _ _=>False) (λ z=>z=c.au) (qm _) ?_ ?_ ?_ ?_ ?_ ?_ ?_ ?_
  .rintro z (q|q)
   .exact ⟨by omega,rfl,by omega⟩
   .exact q.elim
  .exact λ z t=>by omega
  .exact ⟨rfl,by omega,.nils,g6t,Own.nil ..,λ z q=>(q.1 rfl).elim⟩
  .exact λ j V Ha Hb hp hs hn=>hp.loc hs hn
  .exact λ e V Ha Hb hp _ _=>hp
  .intro n j lr lb y hy hL2 V u B hV hfc K hLc hgL;rw[xq,xr]at hy;obtain⟨k,hk,rfl⟩:=hy;refine⟨_,rfl,?_⟩;obtain⟨-,wa,wb,-⟩:=S2 M ⟨B1 n,Ni⟩;simp only[aa,bc,wa,A9];refine⟨hgL,?_⟩;have fx:Fr (On n) u (u.set n lb):=(Fr.refl u).set (W:=On n) (.inl rfl) _;have gL:(u.set n lb).get n=B1 lb:=xb ..;have nL:(u.set n lb).au=u.au:=rfl;have hP7:=B.loc (Hb:=u.set n lb) (λ y hy=>by rw[kr (λ q:n=y=>K (by rw[q];exact hy))]) (qm _);have gm:(u.set n lb).get H.au=B1 (OR (ao m) xm):=by
    rw[kr (by omega),hfc.ah H.au (by omega) (λ q=>q.elim (λ q=>by omega) id)];exact g6m
   generalize u.set n lb=o at *;have⟨g,l1,l2,l3⟩:=hP7.ls;have lq:Op.ae [.ptr c.au 0] o=B1 g:=x9 (xc l1) 0;have ll:Op.ae [.ptr H.au 2] o=B1 (.int .i64 m.line):=x9 (xc gm) 2;have nj:(((lC (cT x.sh m.core)).take j).map (sk m.line)).length<=4:=by
    rw[xu,jx];have:=DQ (cT x.sh m.core);omega
   simp only[aa,bc,wb,lq,ll,mZ,Sx];refine nH (e:=xm) (size:=11) (bytes:=88) l2 (x:=.agg (ao (sk m.line k))) (zh _) (by rw[zp];exact zh _) (by rw[zp];exact qS _) (by decide) (by omega) (by omega) λ r P p hf hfr=>?_;rw[zp]at p;have q8:P.get c.au=B1 (OR [g] sE):=by rw[hf.ah _ hP7.lt λ q=>by have:=(l3 _ q).2;omega];exact l1
   have o1:aB r=true:=by have:=Sl.one (Own.sl p);exact this
   have st:=N8 q8 o1;obtain⟨H9,e9⟩:∃X,X=P.set c.au (OR [r] sE):=⟨_,rfl⟩
   rw[<-e9]at st;have f9:Fr (On c.au) P H9:=by rw[e9];exact(Fr.refl P).set (W:=On c.au) (.inl rfl) _
   simp only[aa,bc,st];have lo':∀y,aM r y->c.au<y:=λ y q=>(hfr y q).elim (λ q=>(l3 y q).2) λ q=>by have:=B.lt;omega
   have nf:=hf.au;have n9:H9.au=P.au:=by rw[e9];rfl
   refine⟨rfl,?_,λ y=>V y\/aM r y,?_,?_,.inl ⟨rfl,⟨.inl B.vt,?_,r,?_,?_,λ y q=>⟨.inr q,lo' y q⟩⟩⟩⟩
   .rw [f9.ah n (by omega) (λ(q:n=c.au)=>K (by rw[q];exact B.vt)),hf.ah n (by omega) λ q=>K (l3 _ q).1];exact gL
   .rintro y (q|q)
    .exact ⟨by have:=(hV y q).1;omega,.inl q⟩
    .refine ⟨by rw[n9];exact Own.lt p y q,?_⟩;rcases hfr y q with w|w
     .exact .inl (l3 y w).1
     .exact .inr (by omega)
   .have a1:Fr (λ b=>V b\/b=n) u o:=fx.mono λ x _ q=>.inr q;exact(a1.trans hf λ x hx=>.inl (.inl (l3 x hx).1)).trans f9 λ x hx=>.inl (.inl (by rw[show x=c.au from hx];exact B.vt))
   .have:=B.lt;omega
   .rw [e9,xb]
   .have hx2:((lC (cT x.sh m.core)).take (j+1)).map (sk m.line)=((lC (cT x.sh m.core)).take j).map (sk m.line) ++ [sk m.line k]:=by rw[kq,hk];simp
    rw[hx2];have ow:aO ao xm 11 P r (((lC (cT x.sh m.core)).take j).map (sk m.line) ++ [sk m.line k]):=by
     unfold aO;rw[xe,kh,j8,List.flatMap_nil,zq];exact p
    exact Own.fr ow f9 λ x hx(q:x=c.au)=>by have:=lo' x hx;omega
  .intro d V o hd1 hd2 hgd hfd hVd B;have⟨g,l1,l2,l3⟩:=B.ls;have el:((lC (cT x.sh m.core)).map λ(k:Nat)=>[AV.int .i64 (k:Int)]).length=(lC (cT x.sh m.core)).length:=xu _;rw[el,zd (qm _)]at l2;have lq:Op.ae [.ptr c.au 0] (o.set d (.deferred B5))=B1 g:=x9 (xc (show(o.set d (.deferred B5)).get c.au=B1 (OR [g] sE)from by rw[kr (λ q:d=c.au=>by have:=(hVd _ B.vt).2.2;omega)];exact l1)) 0;have lq0:Op.ae [.ptr c.au 0] o=B1 g:=x9 (xc l1) 0;have sl2:bN ao 11 (o.set d (.deferred B5)) g ((lC (cT x.sh m.core)).map (sk m.line)):=by
    have fs:Fr (On d) o (o.set d (.deferred B5)):=(Fr.refl o).set (W:=On d) (.inl rfl) _;exact(Own.fr l2 fs λ z t(q:z=d)=>(hVd z (l3 z t).1).2.2 q).sl
   have hx1:dW (o.set d (.deferred B5)) D mp lv ev N ws xs i {x with un:=m,ph:=1,ask:=cT x.sh m.core} a:=by
    refine h.loc h6 ((hfd.mono λ z _ t=>?_).set (.inl (show H.au<=d by omega)) _);rcases t with t|t
    .show H.au<=z;omega
    .exact t.elim
   have fr1:Fr (On (aG ev)) H (o.set d (.deferred B5)):=by
    refine(((G.trans I λ _ q=>q.elim).trans A λ _ q=>q.elim).trans hfd λ z t=>?_).set (.inr (by omega)) _;rcases t with t|t
    .exact .inr (by omega)
    .exact t.elim
   simp only[aa,bc,w41,lq0,JH];refine⟨hgd,⟨by rw[xmf];exact sl2,λ hne=>?_⟩,hx1,fr1⟩;have hlo:g≠ .nils:=λ q=>by
    rw[xmf]at hne;subst q;have:=l2.1;rw[AE zh]at this;rcases l2.2 with⟨z,-⟩|⟨b,q,-⟩
    .exact hne (js.1 z)
    .cases q
   have:=(l3 (aG g) ⟨hlo,rfl⟩).2;omega
  .exact λ e d V o _ _ _ _ _ _ hp=>hp.elim
end
end Go.Am
namespace Go.Am
open Go.Proofs Ca
variable{M:ak}[MK M]
section
variable{H:ar}{D mp:Nat}{lv ev:AV}{N:Int}{ws:List L8}{xs:List (De×AV)}{i:Nat}{x:De}{a:AV}
def dW.mem(h:dW H D mp lv ev N ws xs i x a){H':ar}{c:List L8}(hm:AL H' mp lv c)(f:Fr (On (aG lv)) H H')(hl:c.length=ws.length):dW H' D mp lv ev N c xs i x a:=by
 have⟨e1,e2,j,l,e⟩:=h.d.d1;exact⟨h.il,by rw[f.ah _ h.d.lt (λ q=>e2 q)];exact h.d.row,qn h.d.lt f.au,hm,h.d.es.fr f (λ q=>e q.symm),λ k y b hk=>(h.d.wt k y b hk).fr f λ z g q=>(h.d.d2 k y b hk z g).2.2.1 q,h.d.d1,h.d.d2,h.d.d3,by rw[hl];exact h.d.len⟩
def Dh(H:ar)(D mp:Nat)(lv ev:AV)(N:Int)(ws:List L8)(xs:List (De×AV))(i:Nat)(a:AV)(r:De×L8×List Mg)(v:AV)(H':ar):Prop :=
 (∃ov e,v=.tuple [ov,e]/\mS H H' ov r.2.2) /\ ∃a',dW H' D mp lv ev N (ws.set i r.2.1) xs i r.1 a'/\Fr (mP D mp lv ev xs) H H' /\ ∀z,aM a' z->aM a z\/H.au<=z
def QE{ws:List L8}{i:Nat}{w:L8}(h:ws[i]? = B1 w):ws.set i w=ws:=by
 apply yk
 grind
def ET{H1 b:ar}(f:Fr (On (aG ev)) H1 b):Fr (mP D mp lv ev xs) H1 b:=f.mono λ _ _ q=>.inr (.inr (.inr (.inl q)))
def frM{H1 b:ar}(f:Fr (On (aG lv)) H1 b):Fr (mP D mp lv ev xs) H1 b:=f.mono λ _ _ q=>.inr (.inr (.inl q))
def wZ{H1 b c:ar}(f:Fr (mP D mp lv ev xs) H1 b)(g:Fr (mP D mp lv ev xs) b c):Fr (mP D mp lv ev xs) H1 c:=f.trans g λ _ q=>.inl q
def oZ{E:Env}{p:ar}{y:De}{w':L8}{o:List Mg}{g:AV}{q:Prop}[Decidable q]{b8:Bool}(u:b8=decide q)(G:lk E 8=B1 (.bool b8))(Q:lk E 7=B1 g)(T:lk E 0=B1 (.ptr D 0))(b4:lk E 6=B1 (xA ev i))
 (hx:xs[i]? = B1 (x,a)) (h:dW p D mp lv ev N (ws.set i w') xs i y a) (hq:q->(ws.set i w')[y.un.line.toNat]? = B1 w'/\0<=y.un.line/\y.sh<16/\0<=y.un.core/\y.un.core<4)
 (ho:aO ao xm 11 p g o) (Z:o.length<=3) (r:∀z,aM g z->H.au<=z) (f:Fr (mP D mp lv ev xs) H p) (j:∀z,mP D mp lv ev xs z->z<H.au) :
 W M ⟨B5,Ga⟩ (Wx 113) B4 (eH M [.tmp 4,.tmp 5] (uj (Dh H D mp lv ev N ws xs i a (y.wA w' q o)))) E [] p:=by
 obtain⟨-,-,-,-,-,-,-,l,-,n,-⟩:=Ω M ⟨B5,Ga⟩;have A:∀{g:AV}{o:List Mg}{p:ar},aO ao xm 11 p g o->(∀z,aM g z->H.au<=z)->o≠[]->H.au<=aG g:=λ{g o p}R t h3=>by
  refine t _ ⟨λ e=>?_,rfl⟩;subst e;have:=R.1;rw[AE zh]at this;rcases R.2 with⟨z,-⟩|⟨b,q,-⟩
  .grind
  grind
 unfold De.wA
 by_cases F:q
 .have ⟨hw,hl,hs,U,V⟩:=hq F;rw[xg F];rw[u,ke F]at G;simp only[aa,bc,l,G,Q,T,b4];refine C3.q (_R h hw hl hs U V) λ v I⟨hv,t,J⟩=>?_;rw[hv];have L:aO ao xm 11 I g o:=Own.fr ho J λ z c(q:z=aG ev)=>by have:=r z c;have:=j (aG ev) (.inr (.inr (.inr (.inl rfl))));omega
  simp only[aa,bc,mZ];refine nH (e:=xm) (size:=11) (bytes:=88) L (x:=.agg (ao (y.dY w').2)) (zh _) (by grind [zp,zh]) (by grind [zp,qS]) (by decide) (by omega) (by omega) λ S P O X Y=>?_;rw[zp]at O;simp only[aa,bc,n];have s:Fr (Lo H) I P:=X.mono λ z _ c=>r z c;have B:aO ao xm 11 P S (o ++ [(y.dY w').2]):=by
   grind [aO]
  have hn:H.au<=I.au:=xx f.au J.au;have C:∀z,aM S z->H.au<=z:=λ z c=>(by grind)
  have K:∀z,mP D mp lv ev (xs.set i ((y.dY w').1,a)) z->z<H.au:=λ z c=>by
   refine j z ?_;rcases c with c|c|c|c|⟨k,yy,b,hk,c⟩
   .exact .inl c
   .exact .inr (.inl c)
   .exact .inr (.inr (.inl c))
   .exact .inr (.inr (.inr (.inl c)))
   .by_cases e:k=i
    .subst e;rw[t.here]at hk;injection hk with hk;injection hk with _ hk;subst hk
     exact .inr (.inr (.inr (.inr ⟨k,x,a,hx,c⟩)))
    .rw [zr (rS e)]at hk;exact .inr (.inr (.inr (.inr ⟨k,yy,b,hk,c⟩)))
  refine⟨⟨_,_,rfl,B.sl,λ e=>A B C e⟩,a,⟨t.il,t.d.fr s λ z c q=>?_⟩,?_,λ z c=>.inl c⟩
  .grind
  .exact (wZ f (ET J)).trans s λ z c=>.inr c
 .rw [qy F];rw[u,ju F]at G;simp only[aa,bc,l,G,Q,n];exact⟨⟨_,_,rfl,ho.sl,λ e=>A ho r e⟩,a,h,f,λ z c=>.inl c⟩
end
end Go.Am
namespace Go.Am
open Go.Proofs Ca
variable{M:ak}[MK M]
def bdA(co l:Int):Op.build (ao ⟨0,0,0,.zero⟩) [(0,1),(1,1),(2,1)] [.int .i64 16,.int .i64 co,.int .i64 l]=B1 (.agg (ao ⟨16,co,l,.zero⟩)):=rfl
def ω:Op.build (cG .zero) [] []=B1 (.agg (cG .zero)):=rfl
def Hk:Op.build (ao ⟨0,0,0,.zero⟩) [] []=B1 (.agg (ao ⟨0,0,0,.zero⟩)):=rfl
def Gl(m:Mg):(ao m).take 3++(AV.agg (cG .zero)).cells++(ao m).drop (3+8)=ao {m with d:=.zero}:=Zf m .zero
section
variable{H:ar}{D mp:Nat}{lv ev:AV}{N:Int}{ws:List L8}{xs:List (De×AV)}{x:De}{a:AV}{m:Mg}{w:L8}{ys:List Mg}
def dW.wait{i:Nat}(h:dW H D mp lv ev N ws xs i x a){b:AV}{ys:List Mg}{H1:ar}(hs:Sk ao xm 11 H1 b ys)(f:Fr (aM a) H H1)(j:∀z,aM b z->aM a z\/H.au<=z)(g:aB b=B4) :
 ∃H',Op.store 1 [.ptr (aG ev) (cJ 16 ev i+15),b] H1=B1 (.undef,H')/\dW H' D mp lv ev N ws xs i {x with wt:=ys} b/\Fr (mP D mp lv ev (xs.set i (x,a))) H H'/\Fr (On (aG ev)) H1 H':=by
 have⟨H',s,r,c,e⟩:=h.d.wait h.here hs f j g;rw[List.set_set]at r;exact⟨H',s,⟨h.il,r⟩,c,e⟩
def Sk.one(h:Sk ao xm 11 H a ys):aB a=true:=by
 rcases h with⟨rfl,-⟩|⟨b,i,alt,r,h⟩
 .rfl
 .rw [h.eq];rfl
def E1{i:Nat}{y:De}(f:xs[i]? = B1 (x,a)){z:Nat}:mP D mp lv ev (xs.set i (y,a)) z↔mP D mp lv ev xs z:=by
 have g:=(qt.1 f).1;have key:(∃(k:Nat)(c:De)(b:AV),(xs.set i (y,a))[k]? = B1 (c,b)/\aM b z)↔ ∃(k:Nat)(c:De)(b:AV),xs[k]? = B1 (c,b)/\aM b z:=by
  constructor
  .rintro ⟨k,c,b,hk,d⟩
   by_cases e:k=i
   .subst e;rw[zm g]at hk;injection hk with hk;injection hk with _ hk;subst hk
    exact⟨k,x,a,f,d⟩
   .rw [zr (rS e)]at hk;exact⟨k,c,b,hk,d⟩
  .rintro ⟨k,c,b,hk,d⟩
   by_cases e:k=i
   .subst e;rw[f]at hk;injection hk with hk;injection hk with _ hk;subst hk
    exact⟨k,y,a,zm g,d⟩
   .exact ⟨k,c,b,by rw[zr (rS e)];exact hk,d⟩
 unfold mP;rw[key]
def xib(h:mN H D mp lv ev N ws xs)(Q:xs[m.line.toNat]? = B1 (x,a))(hw:ws[m.line.toNat]? = B1 w)(I:XI x N m.line)(h0:0<=m.line)(c0:0<=m.core)(c1:m.core<N)(hwl:x.wt.length<=900000) :
 zb M Ga [.ptr D 0,.agg (ao m)] H (Dh H D mp lv ev N ws xs m.line.toNat a (x.bT w m)):=by
 have N4:=I.N4;have c4:m.core<4:=by omega
 have hil:=(qt.1 Q).1;have l:∀z,mP D mp lv ev xs z->z<H.au:=λ z u=>h.low u;refine q7f ?_;have⟨w0,w2,w10,w12,w20,w28,w32,w113,w42,w119,w45,w61,Y,w55,w71,w86,w73,w99,w79⟩:=Ω M ⟨B5,Ga⟩;have⟨H1,e1,f1,n1,g1⟩:=cq H (OR (ao m) xm);have d1:=h.em f1;have l2:Op.ae [.ptr H.au 2] H1=B1 (.int .i64 m.line):=x9 (xc g1) 2;have l1:Op.ae [.ptr H.au 1] H1=B1 (.int .i64 m.core):=x9 (xc g1) 1;have lN:Op.ae [.ptr D 1] H1=B1 (.int .i64 N):=x9 (xc d1.row) 1;have lU:=eI g1 (zh m);have q0:¬m.core<0:=by omega
 have q1:¬N<=m.core:=by omega
 simp only[aa,bc,w0,<-e1,w2,yr,w10,l2];refine C3.q (af8 d1 h0 (by omega)) λ v A⟨hv,hh⟩=>?_;rw[hv,hh];simp only[aa,bc,w12,yr,l1,q0,qo,lN,q1,w20,lU];have en1:dW H1 D mp lv ev N ws xs m.line.toNat x a:=dW.of d1 Q;refine C3.q (xlv en1 m c0 c4 I.ab (by omega)) λ v A⟨hv,f2⟩=>?_;rw[hv];have s:=en1.em f2;have F2:Fr Em H A:=f1.trans f2 λ _ q=>q.elim;have m2:=f2.au
 by_cases may:x.may m
 case neg =>
  simp only[aa,bc,may];unfold De.bT;rw[xg may];exact⟨⟨_,_,rfl,.nil ..⟩,a,by rw[QE hw];exact s,F2.mono λ _ _ q=>q.elim,λ z u=>.inl u⟩
 -- what the box of the message stays under
 have lm:∀{t:ar}(k:Nat),Fr (mP D mp lv ev xs) A t->Op.ae [.ptr H.au k] t=(ao m)[k]?:=λ k f=>x9 (xc (by rw[f.ah _ (by omega) (λ q=>by have:=l _ q;omega),f2.ah _ (by omega) id];exact g1)) k;have lD:∀{t:ar},Fr (mP D mp lv ev xs) A t->Op.aq 8 [.ptr H.au 3] t=B1 (.agg (cG m.d)):=λ{t}f=>by
  have g:t.get H.au=B1 (OR (ao m) xm):=by rw[f.ah _ (by omega) (λ q=>by have:=l _ q;omega),f2.ah _ (by omega) id];exact g1
  rw[rT (xc g) (by rw[zh];decide)];have⟨k,co,li,⟨d,hd⟩⟩:=m
  match d,hd with
  |[_,_,_,_,_,_,_,_],_=>rfl
 have r2:=Fr.refl (W:=mP D mp lv ev xs) A;have k0:Op.ae [.ptr H.au 0] A=B1 (.int .i64 m.k):=lm 0 r2;have k1r:∀{t:ar},Fr (mP D mp lv ev xs) A t->Op.ae [.ptr H.au 1] t=B1 (.int .i64 m.core):=λ f=>lm 1 f;have k2r:∀{t:ar},Fr (mP D mp lv ev xs) A t->Op.ae [.ptr H.au 2] t=B1 (.int .i64 m.line):=λ f=>lm 2 f;have hwt:=s.d.wt m.line.toNat x a s.here;have bx:=λ z(u:aM a z)=>(l z (.inr (.inr (.inr (.inr ⟨_,x,a,Q,u⟩)))))
 unfold De.bT;rw[qy (λ q=>q may)];have sh1:=NG c0 c4;simp only[aa,bc,may,w28,w32,k0]
 by_cases kg:m.k=1\/m.k=2
 .rw [xg kg]
  -- the message in hand has no words
  have st:Op.store 8 [.ptr H.au 3,.agg (cG .zero)] A=B1 (.undef,A.set H.au (OR (ao {m with d:=.zero}) xm)):=by
   have g:A.get H.au=B1 (OR (ao m) xm):=by rw[f2.ah _ (by omega) id];exact g1
   have:=xC g (o:=3) (n:=8) (v:=.agg (cG .zero)) (by rw[zp];exact yi _) (by rw[zh];decide) (by rw[zp];exact ue _);rw[this,Gl]
  obtain⟨P,e3⟩:∃X,X=A.set H.au (OR (ao {m with d:=.zero}) xm):=⟨_,rfl⟩
  rw[<-e3]at st;have J:Fr (On H.au) A P:=by rw[e3];exact(Fr.refl A).set (W:=On H.au) (.inl rfl) _
  have g3:P.get H.au=B1 (OR (ao {m with d:=.zero}) xm):=by rw[e3,xb]
  have lU3:=eI g3 (zh {m with d:=.zero});have c:dW P D mp lv ev N ws xs m.line.toNat x a:=(dW.of h Q).loc s (J.mono λ z _(q:z=H.au)=>by show H.au<=z;omega);have R:Fr Em H P:=F2.trans (J.mono (W':=Lo H) λ z _(q:z=H.au)=>by show H.au<=z;omega) λ z q=>.inr q;have m3:=J.au;have key:∀{E:Env},lk E 38=B1 (.bool B4)->lk E 3=B1 (.ptr H.au 0)->lk E 6=B1 (xA ev m.line.toNat)->lk E 0=B1 (.ptr D 0)->lk E 4=B1 .nils ->
   W M ⟨B5,Ga⟩ (Wx 42) B4 (eX 0 (fm (W M ⟨B5,Ga⟩ (Wx 113)) (eH M [.tmp 4,.tmp 5] (uj (Dh H D mp lv ev N ws xs m.line.toNat a (if x.ph≠0 then({x with wt:=x.wt ++ [{m with d:=.zero}]},w,[])else((x.begin {m with d:=.zero} w).1,w,(x.begin {m with d:=.zero} w).2))))))) E [] A:=by
   intro E b38 b3 b6 b0 b4
   by_cases p0:x.ph=0
   .rw [qy (λ q=>q p0)];simp only[aa,bc,w42,b38,lZ,ω,b3,st,w45,b6,qo,c.si,qv p0,w55,b0,lU3];refine C3.q (po c {m with d:=.zero} hw h0 I.sb c0 c4 kg (by have:=I.ow;omega)) λ v B⟨T,j,f4⟩=>?_;simp only[aa,bc];refine⟨⟨_,_,rfl,T.1,λ q=>xx R.au (T.2 q)⟩,a,by rw[QE hw];exact j,(R.mono λ _ _ q=>q.elim).trans (ET f4) λ _ q=>.inl q,λ z u=>.inl u⟩
   .rw [xg p0];have hsk:=c.d.wt m.line.toNat x a c.here;obtain⟨B,e4,f34,n4,-⟩:=cq P (OR (ao {m with d:=.zero}) xm);have rw1:=Ld (H:=P) {m with d:=.zero};rw[<-e4]at rw1;have sl1:=rw1.sl zh;have⟨v5,H5,s5,Z,f5,o5⟩:=(hsk.em f34).app zh (by decide) (ys:=[{m with d:=.zero}]) (k:=1) (new:=ao {m with d:=.zero}) rfl (by simp) (Sl.eJ sl1) (by have:=Sl.first sl1;simpa using this) (qS _) (bytes:=88) (by omega) (by omega);have f35:Fr (aM a) P H5:=(f34.mono λ _ _ q=>q.elim).trans f5 λ _ q=>.inl q;have⟨H6,s6,en6,f6,f56⟩:=c.wait Z f35 (λ z u=>(o5 z u).elim .inl λ q=>.inr (by omega)) Z.one;simp only[aa,bc,w42,b38,lZ,ω,b3,st];simp only[aa,bc,w45,b3,b6,qo,c.si,p0,c.jE,lU3,mZ,AY,<-e4,s5,s6];refine⟨⟨_,_,rfl,.nil ..⟩,v5,by rw[QE hw];exact en6,?_,λ z u=>(o5 z u).elim .inl λ q=>.inr (by have:=R.au;omega)⟩;exact(R.mono λ _ _ q=>q.elim).trans f6 λ z q=>.inl ((E1 Q).1 q)
  rcases kg with k|k
  .simp only[aa,bc,qv k];exact key rfl rfl rfl rfl rfl
  .have nk:¬m.k=1:=by omega
   simp only[aa,bc,nk,qv k];exact key rfl rfl rfl rfl rfl
 rw[qy kg];have nk1:¬m.k=1:=λ q=>kg (.inl q);have nk2:¬m.k=2:=λ q=>kg (.inr q);have hm:=may;unfold De.may at hm;rw[qy kg]at hm;have hU:=I.un;have S:∀{y:De}{w':L8},x.ph≠0->y.un=x.un->y.sh<16->(ws.set m.line.toNat w')[y.un.line.toNat]? = B1 w'/\0<=y.un.line/\y.sh<16/\0<=y.un.core/\y.un.core<4:=λ{y w'}p e1 e2=>by
  obtain⟨-,u0,u1,ul⟩:=hU p;have hl:=(qt.1 hw).1;rw[e1];exact⟨by rw[ul,zm hl],by rw[ul];exact h0,e2,u0,by omega⟩
 have K:∀{t:ar}{y:De},dW t D mp lv ev N ws xs m.line.toNat y a->dW t D mp lv ev N (ws.set m.line.toNat w) xs m.line.toNat y a:=λ e=>by rw[QE hw];exact e
 have full:∀{t:ar},Fr (mP D mp lv ev xs) A t->Fr (mP D mp lv ev xs) H t:=λ f=>(F2.mono λ _ _ q=>q.elim).trans f λ _ q=>.inl q;have G:∀{t:ar},aO ao xm 11 t .nils ([]:List Mg):=Own.nil ..;have F:∀z,aM AV.nils z->H.au<=z:=λ z q=>absurd rfl q.1;simp only[aa,bc,nk1,nk2,w42]
 by_cases k4:m.k=4
 .rw [xg k4]at hm⊢;have sd:=WW I.sb c0 c4;have sda:=WW I.ab c0 c4;have⟨P,s3,c,J⟩:=s.s1 (cT x.sh m.core);have⟨B,s4,j,f4⟩:=c.Tm (cT x.ask m.core);have R:=ET (D:=D) (mp:=mp) (lv:=lv) (xs:=xs) J;have L:=wZ R (ET f4);have dl:cT x.sh m.core<16:=(Nb I.sb c0 c4 (d:=0) (by decide) (by decide)).1;have dd:decide (((cT x.ask m.core:Nat):Int)=0)=decide (cT x.ask m.core=0):=by
   by_cases e:cT x.ask m.core=0
   .rw [e];rfl
   .rw [ju e,ju (by omega)]
  simp only[aa,bc,qv k4,w61,qo,s.l1,k1r r2,sh1,sd,s3,c.vR,k1r R,sda,s4,j.vR];exact oZ (q:=cT x.ask m.core=0) dd rfl rfl rfl rfl Q (K j) (λ _=>S (by omega) rfl dl) G (by decide) F (full L) l
 rw[qy k4]at hm⊢
 by_cases Z:m.k=5
 .rw [xg Z]at hm⊢;have yX:Op.ae [.ptr D 0] A=B1 (.ptr mp 0):=x9 (xc s.d.row) 0;have hlen:m.line<ws.length:=by have:=(qt.1 hw).1;omega
  simp only[aa,bc,k4,Y,qv Z,qo,yX,k2r r2,lD r2];refine C3.q (U0 s.d.me h0 hlen m.d) λ v P⟨hv,hm3,J⟩=>?_;have c:=s.mem hm3 J (zg ..);have R:=frM (D:=D) (mp:=mp) (ev:=ev) (xs:=xs) J;have⟨B,s4,j,f4⟩:=c.s0 (-1);have L:=wZ R (ET f4)
  by_cases u1:x.un.k=1
  .rw [xg u1];have sa:=_A I.sb c0 c4;have⟨H5,s5,en5,f5⟩:=j.s1 (rz x.sh m.core);have F5:=wZ L (ET f5);simp only[aa,bc,w71,qo,s4,w73,j.l2,qv u1,j.l1,k1r L,sh1,sa,s5,w79];exact oZ (q:=True) rfl rfl rfl rfl rfl Q en5 (λ _=>S (by omega) rfl (RI I.sb c0 c4 (d:=0) (by decide) (by decide)).1) G (by decide) F (full F5) l
  .rw [qy u1];simp only[aa,bc,w71,qo,s4,w73,j.l2,u1,w79];exact oZ (q:=True) rfl rfl rfl rfl rfl Q j (λ _=>S (by omega) rfl I.sb) G (by decide) F (full L) l
 rw[qy Z]at hm⊢
 by_cases k6:m.k=6
 .rw [xg k6]at hm⊢;have⟨P,s3,c,J⟩:=s.O4 3;simp only[aa,bc,k4,Y,Z,qv k6,qo,s3,c.l0];exact oZ (q:=x.ow<0) rfl rfl rfl rfl rfl Q (K c) (λ _=>S (by omega) rfl I.sb) G (by decide) F (full (ET J)) l
 rw[qy k6]at hm⊢
 by_cases k3:m.k=3
 .rw [xg k3]at hm⊢;have yX:Op.ae [.ptr D 0] A=B1 (.ptr mp 0):=x9 (xc s.d.row) 0;have hlen:m.line<ws.length:=by have:=(qt.1 hw).1;omega
  simp only[aa,bc,k4,Y,Z,k6,w86,qv k3,qo,yX,k2r r2,lD r2];refine C3.q (U0 s.d.me h0 hlen m.d) λ v P⟨hv,hm3,J⟩=>?_;have c:=s.mem hm3 J (zg ..);have R:=frM (D:=D) (mp:=mp) (ev:=ev) (xs:=xs) J;have⟨B,s4,j,f4⟩:=c.s0 (-1);have L:=wZ R (ET f4);simp only[aa,bc,qo,s4,k1r L,k2r L,mZ,bdA];refine nH (e:=xm) (size:=11) (bytes:=88) (Own.nil B xm 11) (x:=.agg (ao ⟨16,m.core,m.line,.zero⟩)) (zh _) (by rw[zp];exact zh _) (by rw[zp];exact qS _) (by decide) (by omega) (by omega) λ v5 H5 hv5 hf hfr=>?_;rw[zp]at hv5;have f45:Fr Em B H5:=hf.mono λ z _ u=>absurd rfl u.1;have en5:=j.em f45;have F5:=L.trans f45 λ _ q=>q.elim;have nn:H.au<=B.au:=(full L).au;simp only[aa,bc,qo,en5.si];refine oZ (q:=x.ph=3) rfl rfl rfl rfl rfl Q en5 (λ q=>S (by omega) rfl I.sb) (o:=[⟨16,m.core,m.line,.zero⟩]) ?_ (by simp) (λ z u=>(hfr z u).elim (λ q=>absurd rfl q.1) λ q=>by omega) (full F5) l;unfold aO
  simpa using hv5
 rw[qy k3]at hm⊢;have⟨k7,p4,pu⟩:=hm;have⟨P,s3,c,J⟩:=s.O4 0;have⟨B,s4,j,f4⟩:=c.sU ⟨0,0,0,.zero⟩;have L:=wZ (ET (D:=D) (mp:=mp) (lv:=lv) (xs:=xs) J) (ET f4);have hsk:=j.d.wt m.line.toNat _ a j.here;have O:=hsk.len zh;cases C:x.wt with
 |nil =>
  have O:Op.cw [a]=B1 (.int .i64 0):=by rw[O];simp only[C];rfl
  have z00:¬(0:Int)<0:=by decide
  have en4n:dW B D mp lv ev N ws xs m.line.toNat {x with ph:=0,un:=⟨0,0,0,.zero⟩,wt:=[]} a:=by rw[<-C];exact j
  simp only[aa,bc,k4,Y,Z,k6,w86,k3,qv k7,w99,qo,mZ,Hk,s3,s4,j.jE,O,z00];exact oZ (q:=False) (b8:=B2) rfl rfl rfl rfl rfl Q (K en4n) (λ q=>q.elim) G (by decide) F (full L) l
 |cons n r =>
  have hn:=I.wt n (by rw[C];simp);have O:Op.cw [a]=B1 (.int .i64 ((r.length+1:Nat):Int)):=by rw[O];simp only[C];rfl
  have z01:(0:Int)<((r.length+1:Nat):Int):=by omega
  have V:Sk ao xm 11 B a (n::r):=by
   have:({x with ph:=0,un:=⟨0,0,0,.zero⟩}:De).wt=n::r:=C;rw[<-this];exact hsk
  have ix:=(V.sl zh).idx (i:=0) (x:=n) rfl (z:=0) rfl .i64;have ld:=(V.sl zh).aq zh (by decide) (i:=0) (x:=n) rfl;obtain⟨H5,e5,f45,-,g5⟩:=cq B (OR (ao ⟨0,0,0,.zero⟩) xm);have st5:=fH g5 (zh _) (zh n) (qS n);obtain⟨H6,e6⟩:∃X,X=H5.set B.au (OR (ao n) xm):=⟨_,rfl⟩
  rw[<-e6]at st5;have g6:H6.get B.au=B1 (OR (ao n) xm):=by rw[e6,xb]
  have f46:Fr Em B H6:=by rw[e6];exact f45.set (.inr (qm _)) _
  have n6:B.au<H6.au:=by rw[e6,tj,e5,xy];omega
  have en6:=j.em f46;have hsk6:=V.em f46;rcases hsk6 with⟨-,q⟩|⟨b,i,alt,rr,hsb⟩
  .cases q
  obtain⟨v7,alt',s7,U,-⟩:=hsb.off zh (k:=1) (by simp) .i64;have s7:Op.aA 11 [B1 0,B5,B5] [a,.int .i64 1]=B1 v7:=s7;have hon7:∀z,aM v7 z->aM a z:=λ z u=>by rw[U.TW u];exact hsb.on
  have⟨H8,s8,en8,f8,f68⟩:=en6.wait (ys:=r) (.inr ⟨_,_,_,_,U⟩) (Fr.refl H6) (λ z u=>.inl (hon7 z u)) (by rw[U.eq];rfl);have F6:=L.trans f46 λ _ q=>q.elim;have F8:=F6.trans f8 λ z q=>.inl ((E1 Q).1 q);have nev:¬B.au=aG ev:=by have:=l (aG ev) (.inr (.inr (.inr (.inl rfl))));have:=(full L).au;omega
  have l8:Op.aq 11 [.ptr B.au 0] H8=B1 (.agg (ao n)):=eI (by rw[f68.ah _ n6 nev];exact g6) (zh n);simp only[aa,bc,k4,Y,Z,k6,w86,k3,qv k7,w99,qo,mZ,Hk,s3,s4,j.jE,O,qv z01,ix,ld,<-e5,st5,en6.jE,s7,s8,l8];have⟨nk,n0,n1',nl⟩:=hn;refine C3.q (po en8 n (w:=w) (by rw[nl];exact hw) (by rw[nl];exact h0) I.sb n0 (by omega) nk (by have:=I.ow;show x.ow<4;omega)) λ v H9⟨T,en9,f9⟩=>?_;simp only[aa,bc];refine⟨⟨_,_,rfl,T.1,λ q=>xx (full F8).au (T.2 q)⟩,v7,by rw[QE hw];exact en9,full (wZ F8 (ET f9)),λ z u=>.inl (hon7 z u)⟩
end
end Go.Am
namespace Go.Am
open Go.Proofs Ca
open Lang (ints)
variable{M:ak}[MK M]
structure Na where
 r:Nat
 b:Nat
 sv:AV
 bv:AV
 ks:List Nat
structure Bs where
 D:Nat
 mp:Nat
 lv:AV
 ev:AV
 xs:List (De×AV)
 nv:AV
 fv:AV
 ad:List Na
def pM(r:Nat):List AV:=[.ptr r 0]
def UK(r:Nat):(pM r).length=1:=rfl
def Na.w(A:Na):Nat->Prop:=iJ A.r A.b A.sv A.bv
def Bs.dw(s:Bs):Nat->Prop:=mP s.D s.mp s.lv s.ev s.xs
def gE(B:Nat)(s:Bs)(z:Nat):Prop:=z=B\/s.dw z\/aM s.nv z\/aM s.fv z \/ ∃(c:Nat)(A:Na),s.ad[c]? = B1 A/\A.w z
structure eL(H0 H:ar)(B:Nat)(s:Bs)(b:Bu)(own:Nat->Nat):Prop where
 row:H.get B=B1 (OR [.ptr s.D 0,s.nv,s.fv,.int .i64 (b.l.length:Int)] KD)
 lt:B<H.au
 d:mN H s.D s.mp s.lv s.ev b.ns.length b.m s.xs
 dx:s.xs.map Prod.fst=b.l
 nv:aO pM Li 1 H s.nv (s.ad.map Na.r)
 no:∀(c:Nat)(n:No)(A:Na),b.ns[c]? = B1 n->s.ad[c]? = B1 A->dg H0 H A.r A.b A.sv A.bv n A.ks
 al:s.ad.length=b.ns.length
 fl:Sk ao xm 11 H s.fv b.fl
 oB:own B=0
 oD:∀z,s.dw z->own z=1
 oN:∀z,aM s.nv z->own z=2
 oF:∀z,aM s.fv z->own z=3
 oC:∀(c:Nat)(A:Na),s.ad[c]? = B1 A -> ∀z,A.w z->own z=4+c
 lo:∀z,gE B s z->H0.au<=z
def dg.low{H0 H:ar}{r b:Nat}{sv bv:AV}{n:No}{ks:List Nat}(h:dg H0 H r b sv bv n ks){z:Nat}(a:iJ r b sv bv z):z<H.au:=by
 rcases a with rfl|(rfl|rfl)|a
 .exact h.lt
 .exact h.ca.lt
 .exact h.ca.sl.lt
 .exact (h.bk.fresh z a).2
section
variable{H0 H:ar}{B:Nat}{s:Bs}{b:Bu}{own:Nat->Nat}
def eL.yF(h:eL H0 H B s b own){c:Nat}{n:No}(hn:b.ns[c]? = B1 n):∃A,s.ad[c]? = B1 A/\dg H0 H A.r A.b A.sv A.bv n A.ks:=by
 have hl:=(qt.1 hn).1;have ha:s.ad[c]? = B1 (s.ad[c]'(by rw[h.al];exact hl)):=xf _;exact⟨_,ha,h.no c n _ hn ha⟩
def eL.low(h:eL H0 H B s b own){z:Nat}(a:gE B s z):z<H.au:=by
 rcases a with rfl|a|a|a|⟨c,A,e,a⟩
 .exact h.lt
 .exact h.d.low a
 .exact Own.lt h.nv z a
 .exact h.fl.lt z a
 .have hl:=(qt.1 e).1;have hn:b.ns[c]? = B1 (b.ns[c]'(by rw[<-h.al];exact hl)):=xf _;exact(h.no c _ A hn e).low a
def eL.fr{H':ar}{W:Nat->Prop}(h:eL H0 H B s b own)(f:Fr W H H')(hw:∀z,W z->H0.au<=z /\ ¬gE B s z):eL H0 H' B s b own :=
 ⟨by rw[f.ah _ h.lt (λ q=>(hw _ q).2 (.inl rfl))];exact h.row,qn h.lt f.au,h.d.fr f (λ z q w=>(hw z q).2 (.inr (.inl w))),h.dx,Own.fr h.nv f (λ z a q=>(hw z q).2 (.inr (.inr (.inl a)))),
  λ c n A hn e=>(h.no c n A hn e).off f λ z q=>⟨(hw z q).1,λ w=>(hw z q).2 (.inr (.inr (.inr (.inr ⟨c,A,e,w⟩))))⟩,h.al,h.fl.fr f (λ z a q=>(hw z q).2 (.inr (.inr (.inr (.inl a))))),h.oB,h.oD,h.oN,h.oF,h.oC,h.lo⟩
def eL.em{H':ar}(h:eL H0 H B s b own)(f:Fr Em H H'):eL H0 H' B s b own:=h.fr f λ z q=>q.elim
def eL.l1(h:eL H0 H B s b own):Op.ae [.ptr B 1] H=B1 s.nv:=x9 (xc h.row) 1
def eL.l0(h:eL H0 H B s b own):Op.ae [.ptr B 0] H=B1 (.ptr s.D 0):=x9 (xc h.row) 0
def eL.l2(h:eL H0 H B s b own):Op.ae [.ptr B 2] H=B1 s.fv:=x9 (xc h.row) 2
def eL.l3(h:eL H0 H B s b own):Op.ae [.ptr B 3] H=B1 (.int .i64 (b.l.length:Int)):=x9 (xc h.row) 3
def aP(own:Nat->Nat)(n k z:Nat):Nat:=if z<n then own z else k
def eL.node(h:eL H0 H B s b own){c:Nat}{n n':No}{A:Na}{H':ar}(hn:b.ns[c]? = B1 n)(m:s.ad[c]? = B1 A)(D:rY H0 H A.r A.b A.sv A.bv n' H') :
 ∃u o,eL H0 H' B u {b with ns:=b.ns.set c n'} o/\(∀z,gE B u z->gE B s z\/H.au<=z)/\Fr (gE B s) H H':=by
 have⟨i,j,hr,f,hb⟩:=D;have C:=(qt.1 hn).1;have y:=(qt.1 m).1;have x:Fr (gE B s) H H':=f.mono λ z _ q=>.inr (.inr (.inr (.inr ⟨c,A,m,q⟩)));have nw:∀z,iJ A.r A.b A.sv A.bv z->own z=4+c:=h.oC c A m;have has:∀(d:Nat)(e:Na),(s.ad.set c {A with bv:=i,ks:=j})[d]? = B1 e->(d=c/\e = {A with bv:=i,ks:=j})\/d≠c/\s.ad[d]? = B1 e:=λ d e g=>by
  grind
 have t:∀z,gE B {s with ad:=s.ad.set c {A with bv:=i,ks:=j}} z->gE B s z\/H.au<=z:=λ z a=>by
  rcases a with a|a|a|a|⟨d,e,g,a⟩
  .exact .inl (.inl a)
  .exact .inl (.inr (.inl a))
  .exact .inl (.inr (.inr (.inl a)))
  .exact .inl (.inr (.inr (.inr (.inl a))))
  .rcases has d e g with⟨rfl,rfl⟩|⟨q,g⟩
   .rcases a with a|a|a
    .exact .inl (.inr (.inr (.inr (.inr ⟨d,A,m,.inl a⟩))))
    .exact .inl (.inr (.inr (.inr (.inr ⟨d,A,m,.inr (.inl a)⟩))))
    .rcases hb z a with w|w
     .exact .inl (.inr (.inr (.inr (.inr ⟨d,A,m,.inr (.inr w)⟩))))
     omega
   .exact .inl (.inr (.inr (.inr (.inr ⟨d,e,g,a⟩))))
 have v:H0.au<=H.au:=by have:=h.lo B (.inl rfl);have:=h.lt;omega
 have ne:∀{z k:Nat},own z=k->k≠4+c -> ¬iJ A.r A.b A.sv A.bv z:=λ e1 e2 q=>(by grind)
 have ow:∀{z:Nat},z<H.au->aP own H.au (4+c) z=own z:=λ q=>xg q;refine⟨{s with ad:=s.ad.set c {A with bv:=i,ks:=j}},aP own H.au (4+c),⟨?_,qn h.lt f.au,?_,h.dx,?_,λ d n2 e l p=>?_,?_,?_,?_,λ z a=>?_,λ z a=>?_,λ z a=>?_,λ d e g z a=>?_,λ z a=>?_⟩,t,x⟩
 .rw [f.ah _ h.lt (ne h.oB (by omega))];exact h.row
 .simp only[zg];exact h.d.fr f λ z q w=>ne (h.oD z w) (by omega) q
 .have:(s.ad.set c {A with bv:=i,ks:=j}).map Na.r=s.ad.map Na.r:=by
   rw[List.map_set];apply yk
   grind
  simp only[this];exact Own.fr h.nv f λ z a q=>ne (h.oN z a) (by omega) q
 .have l:(b.ns.set c n')[d]? = B1 n2:=l;rcases has d e p with⟨rfl,rfl⟩|⟨q,g⟩
  .grind
  .rw [zr (rS q)]at l;refine(h.no d n2 e l g).off f λ z w=>⟨h.lo z (.inr (.inr (.inr (.inr ⟨c,A,m,w⟩)))),λ w2=>?_⟩
   have e1:=h.oC d e g z w2
   grind
 .simp only[zg];exact h.al
 .exact h.fl.fr f λ z a q=>ne (h.oF z a) (by omega) q
 .rw [ow h.lt];exact h.oB
 .rw [ow (h.low (.inr (.inl a)))];exact h.oD z a
 .rw [ow (h.low (.inr (.inr (.inl a))))];exact h.oN z a
 .rw [ow (h.low (.inr (.inr (.inr (.inl a)))))];exact h.oF z a
 .rcases has d e g with⟨rfl,rfl⟩|⟨q,g⟩
  .unfold aP;split
   .rename_i q;rcases a with a|a|a
    .exact nw z (.inl a)
    .exact nw z (.inr (.inl a))
    .rcases hb z a with w|w
     .exact nw z (.inr (.inr w))
     .omega
   .rfl
  .rw [ow (h.low (.inr (.inr (.inr (.inr ⟨d,e,g,a⟩)))))];exact h.oC d e g z a
 .rcases t z a with w|w
  .exact h.lo z w
  .omega
end
end Go.Am
namespace Go.Am
open Go.Proofs Ca
open Lang (ints)
variable{M:ak}[MK M]
def kD(H0 H:ar)(B:Nat)(s:Bs)(b':Bu)(H':ar):Prop:=∃s' aP,eL H0 H' B s' b' aP/\(∀z,gE B s' z->gE B s z\/H.au<=z)/\Fr (gE B s) H H'
section
variable{H0 H:ar}{B:Nat}{s:Bs}{b:Bu}{own:Nat->Nat}
def eL.same(h:eL H0 H B s b own){H':ar}(f:Fr Em H H'):kD H0 H B s b H':=⟨s,own,h.em f,λ _ q=>.inl q,f.mono λ _ _ q=>q.elim⟩
def kD.then{H1 d:ar}{s1:Bs}{e:Bu}(g:Fr (gE B s) H H1)(hs:∀z,gE B s1 z->gE B s z\/H.au<=z)(h:kD H0 H1 B s1 e d):kD H0 H B s e d:=by
 have⟨s2,o2,r,q,f⟩:=h;refine⟨s2,o2,r,λ z a=>(q z a).elim (hs z) λ w=>.inr (xx g.au w),g.trans f λ z a=>hs z a⟩
def kD.em{H1 a:ar}{d:Bu}(h:kD H0 H B s d H1)(f:Fr Em H1 a):kD H0 H B s d a:=by
 have⟨s2,o2,r,q,g⟩:=h;exact⟨s2,o2,r.em f,q,g.trans f λ _ w=>w.elim⟩
theorem kD.pre{H1 a:ar}{d:Bu}(f:Fr Em H H1)(h:kD H0 H1 B s d a):kD H0 H B s d a:=kD.then (f.mono λ _ _ q=>q.elim) (λ _ q=>.inl q) h
def eL.Cs(h:eL H0 H B s b own){H1:ar}{e:AV}{j:List Mg}(hk:Sk ao xm 11 H1 e j)(f:Fr (aM s.fv) H H1)(p:∀z,aM e z->aM s.fv z\/H.au<=z):∃H',Op.store 1 [.ptr B 2,e] H1=B1 (.undef,H')/\kD H0 H B s {b with fl:=j} H':=by
 have t:aB e=true:=hk.one;have ne:∀{z k:Nat},own z=k->k≠3 -> ¬aM s.fv z:=λ e1 e2 q=>e2 (by rw[<-e1];exact h.oF _ q);have E:H1.get B=B1 (OR [.ptr s.D 0,s.nv,s.fv,.int .i64 (b.l.length:Int)] KD):=by rw[f.ah _ h.lt (ne h.oB (by decide))];exact h.row
 have m:e.cells=[e]:=by cases e<;>first|rfl|cases t
 have st:=xC E (o:=2) (n:=1) (v:=e) (by rw[m];rfl) (by simp) (by rw[m,vh];simpa using t);rw[m]at st;have C:Fr (gE B s) H H1:=f.mono λ z _ q=>.inr (.inr (.inr (.inl q)));have y:H0.au<=H.au:=by have:=h.lo B (.inl rfl);have:=h.lt;omega
 have u:∀z,gE B {s with fv:=e} z->gE B s z\/H.au<=z:=λ z a=>by
  rcases a with a|a|a|a|a
  .exact .inl (.inl a)
  .exact .inl (.inr (.inl a))
  .exact .inl (.inr (.inr (.inl a)))
  .rcases p z a with w|w
   .exact .inl (.inr (.inr (.inr (.inl w))))
   .exact .inr w
  .exact .inl (.inr (.inr (.inr (.inr a))))
 have ow:∀{z:Nat},z<H.au->aP own H.au 3 z=own z:=λ q=>xg q;have g:Fr (On B) H1 (H1.set B (OR ([AV.ptr s.D 0,s.nv,s.fv,.int .i64 (b.l.length:Int)].take 2 ++ [e] ++ [AV.ptr s.D 0,s.nv,s.fv,.int .i64 (b.l.length:Int)].drop (2+1)) KD)):=(Fr.refl H1).set (W:=On B) (.inl rfl) _;have x:∀{z k:Nat},own z=k->k≠0 -> ¬z=B:=λ e1 e2 q=>e2 (by rw[<-e1,q];exact h.oB);refine⟨_,st,{s with fv:=e},aP own H.au 3,⟨xb ..,?_,?_,h.dx,?_,λ c n A hn i=>?_,h.al,?_,?_,λ z a=>?_,λ z a=>?_,λ z a=>?_,λ c A i z a=>?_,λ z a=>?_⟩,u,C.trans g λ z q=>.inl (.inl q)⟩
 .exact qn h.lt (xx f.au g.au)
 .exact (h.d.fr f λ z q w=>ne (h.oD z w) (by decide) q).fr g λ z q w=>x (h.oD z w) (by decide) q
 .exact Own.fr (Own.fr h.nv f λ z a q=>ne (h.oN z a) (by decide) q) g λ z a q=>x (h.oN z a) (by decide) q
 .refine ((h.no c n A hn i).off f λ z w=>⟨h.lo z (.inr (.inr (.inr (.inl w)))),λ w2=>?_⟩).off g λ z w=>?_
  .have:=h.oC c A i z w2;have:=h.oF z w;omega
  .have w:z=B:=w;refine⟨by rw[w];exact h.lo B (.inl rfl),λ w2=>?_⟩;have:=h.oC c A i z w2;rw[w,h.oB]at this;omega
 .refine hk.fr g λ z a q=>?_;have q:z=B:=q;rcases p z a with w|w
  .rw [q]at w;exact ne h.oB (by decide) w
  .have:=h.lt;omega
 .rw [ow h.lt];exact h.oB
 .rw [ow (h.low (.inr (.inl a)))];exact h.oD z a
 .rw [ow (h.low (.inr (.inr (.inl a))))];exact h.oN z a
 .unfold aP;split
  .rcases p z a with w|w
   .exact h.oF z w
   .omega
  .rfl
 .rw [ow (h.low (.inr (.inr (.inr (.inr ⟨c,A,i,a⟩)))))];exact h.oC c A i z a
 .rcases u z a with w|w
  .exact h.lo z w
  .omega
def El(l:List Mg):aN (l.flatMap ao)=true:=by
 rw[vh,List.all_flatMap,Ic];intro x _;have:=qS x;rw[vh]at this;exact this
def Vc(h:eL H0 H B s b own){a:AV}{ms:List Mg}(hm:bN ao 11 H a ms)(hl:b.fl.length+ms.length<=1000000):zb M UX [.ptr B 0,a] H λ _ H'=>kD H0 H B s {b with fl:=b.fl++ms} H':=by
 refine q7c ?_;have⟨v1,H1,s1,e,d,o1⟩:=h.fl.app zh (by decide) (ys:=ms) rfl rfl (Sl.eJ hm) (Sl.first hm) (El ms) (bytes:=88) (by omega) (by omega);have⟨g,s2,f⟩:=h.Cs e d o1;simp only[aa,bc,q7d,qo,h.l2,s1,s2];exact f
def Iu(h:eL H0 H B s b own)(k:b.ns.length<=4)(c:Int):zb M Yz [.ptr B 0,.int .i64 c] H λ v H'=>H'=H/\((0<=c/\c<b.ns.length -> ∃A,s.ad[c.toNat]? = B1 A/\v=.tuple [.ptr A.r 0,.int .i64 0])/\(¬(0<=c/\c<b.ns.length)->v=.tuple [.nilp,.int .i64 2])):=by
 refine xb4 ?_;obtain⟨w0,w2,f⟩:=xb5 M ⟨B5,Yz⟩;have a:=h.nv.sl.len;rw[xu,h.al]at a
 by_cases e:c<0
 .simp only[aa,bc,w0,w2,yr,qv e];exact⟨λ q=>by omega,λ _=>trivial⟩
 by_cases j:((b.ns.length:Nat):Int)<=c
 .simp only[aa,bc,w0,w2,yr,e,qo,h.l1,a,qv j];exact⟨λ q=>by omega,λ _=>trivial⟩
 have d:c.toNat<s.ad.length:=by rw[h.al];omega
 have g:s.ad[c.toNat]? = B1 (s.ad[c.toNat]):=xf d;have i:(s.ad.map Na.r)[c.toNat]? = B1 (s.ad[c.toNat]).r:=by rw[xq,g];rfl
 have ix:=h.nv.sl.idx i (z:=c) (by omega) .i64;have ld:=h.nv.sl.iR UK i (by decide);have ld:Op.ae [.ptr (aG s.nv) (cJ 1 s.nv c.toNat)] H=B1 (.ptr (s.ad[c.toNat]).r 0):=ld;simp only[aa,bc,w0,w2,yr,e,qo,h.l1,a,j,f,ix,ld];exact⟨λ _=>⟨_,g,rfl⟩,λ q=>absurd ⟨by omega,by omega⟩ q⟩
end
end Go.Am
namespace Go.Am
open Go.Proofs Ca
open Lang (ints)
variable{M:ak}[MK M]
def No.jP(n:No)(a o:Int):Bool×Bool×Int:=if n.may a then if n.live then(B2,B2,41)else if n.owned (No.ln a)then(decide ((n.c.word a.toNat).2.getD 0=o),B4,0)else(B2,B2,0)else(B2,B2,2)
section
variable{H0 H:ar}{r b:Nat}{sv bv:AV}{n:No}{ks:List Nat}
def xez(h:dg H0 H r b sv bv n ks):zb M YE [.ptr r 0] H λ v H'=>v=.int .i64 (if n.live=B4 then 41 else 0)/\dg H0 H' r b sv bv n.begin ks/\Fr (iJ r b sv bv) H H':=by
 refine qx7 ?_;obtain⟨w0,w2,a⟩:=qx8 M ⟨B5,YE⟩;have jE:=h.jE;unfold No.begin;cases hl:n.live with
 |true =>
  rw[hl]at jE;simp only[aa,bc,w0,w2,yr,qo,jE];exact⟨h,Fr.refl _⟩
 |false =>
  rw[hl]at jE;have⟨j,s2,f,d⟩:=h.tO B4;have⟨k,i,g,e⟩:=f.yU 0;simp only[aa,bc,w0,w2,yr,qo,jE,a,s2,i];exact⟨by first|rfl|trivial|(simp),by rw[qy (by decide)];exact g,jV (Km d) (Km e)⟩
def xaw(h:dg H0 H r b sv bv n ks):zb M YU [.ptr r 0] H λ v H'=>v=.int .i64 (if n.live=B4 then 0 else 40)/\dg H0 H' r b sv bv n.bt ks/\Fr (iJ r b sv bv) H H':=by
 refine qwd ?_;obtain⟨w0,w2,d⟩:=qwe M ⟨B5,YU⟩;have jE:=h.jE;unfold No.bt;cases hl:n.live with
 |false =>
  rw[hl]at jE;simp only[aa,bc,w0,w2,yr,qo,jE];exact⟨by first|rfl|trivial|(simp),by rw[qy (by decide)];exact h,Fr.refl _⟩
 |true =>
  rw[hl]at jE;simp only[aa,bc,w0,w2,yr,qo,jE,d,h.l2];refine C3.q (_U h.ca h.len) λ _ H1⟨g,e⟩=>?_;have a:=h.iF g e (by show(n.c.sl.map rA).length<=40;rw[xu];exact h.len);have⟨j,s2,i,f⟩:=a.tO B2;simp only[aa,bc,qo,s2];exact⟨i,jV (wH e) (Km f)⟩
def zY(H0 H:ar)(r b:Nat)(sv bv:AV)(n:No)(ks:List Nat)(a o y:Int)(v:AV)(H':ar):Prop:=(∃ov,v=.tuple [.bool (n.jP a o).1,.bool (n.jP a o).2.1,ov,.int .i64 (n.jP a o).2.2]/\mS H H' ov (n.nq a o y).2)/\dg H0 H' r b sv bv (n.nq a o y).1 ks/\Fr (iJ r b sv bv) H H'
def xll(h:dg H0 H r b sv bv n ks)(m:CI n.lines n.c)(hk:n.aS.length<=900000)(hu:n.c.us+2<=1000000)(a o y:Int):zb M ZH [.ptr r 0,.int .i64 a,.int .u64 o,.int .u64 y] H (zY H0 H r b sv bv n ks a o y):=by
 refine q5y ?_;obtain⟨w0,w2,w,E,F,G,x,z⟩:=q5z M ⟨B5,ZH⟩;simp only[aa,bc,w0,w2];refine C3.q (ZP h a) λ v H1⟨u,P⟩=>?_;rw[u,P]
 by_cases hm:n.may a
 case neg =>
  have j:n.nq a o y=(n,[]):=by unfold No.nq;rw[qy hm]
  have ev:n.jP a o=(B2,B2,2):=by unfold No.jP;rw[qy hm]
  have T:¬(2:Int)=0:=by decide
  rw[qy hm];unfold zY;rw[j,ev];simp only[aa,bc,T];exact⟨⟨.nils,rfl,mS.nil ..⟩,h,Fr.refl _⟩
 rw[xg hm];have hl:=h.li;have⟨K,S⟩:=hm;obtain⟨e,rfl⟩:=jk K;have l:e<1000000:=by omega
 have g:n.may (e:Int):=⟨K,S⟩
 have k:No.ln (e:Int)=((e / 8:Nat):Int):=rfl;have W:=qv (show(0:Int)=0 from rfl);have jE:=h.jE;cases f:n.live with
 |true =>
  have j:n.nq (e:Int) o y=(n,[]):=by unfold No.nq;rw[xg g,f];rfl
  have ev:n.jP (e:Int) o=(B2,B2,41):=by unfold No.jP;rw[xg g,f];rfl
  rw[f]at jE;unfold zY;rw[j,ev];simp only[aa,bc,w,qo,jE];exact⟨⟨.nils,rfl,mS.nil ..⟩,h,Fr.refl _⟩
 |false =>
  rw[f]at jE;simp only[aa,bc,w,qo,jE,E,zW l,F];refine C3.q (q8z (line:=((e / 8:Nat):Int)) h m) λ v H1⟨u,A⟩=>?_;rw[u];have hb:=h.em A;cases ho:n.owned ((e / 8:Nat):Int)with
  |false =>
   have j:n.nq (e:Int) o y=n.ask 2 ((e / 8:Nat):Int):=by
    unfold No.nq;rw[xg g,f,k,ho];rfl
   have ev:n.jP (e:Int) o=(B2,B2,0):=by unfold No.jP;rw[xg g,f,k,ho];rfl
   simp only[aa,bc];refine C3.q (X9 hb hk 2 ((e / 8:Nat):Int)) λ v U⟨t,hn,C⟩=>?_;unfold zY;rw[j,ev];simp only[aa,bc];exact⟨⟨v,rfl,t.1,λ q=>xx A.au (t.2 q)⟩,hn,jV (nG A) C⟩
  |true =>
   have⟨i,hp,Q⟩:=xm7 ho;have hw:(n.c.word e).2=B1 ((n.c.en i).d.get (e % 8)):=by unfold Ca.word;rw[hp]
   have j:n.nq (e:Int) o y=({n with c:=if(n.c.en i).d.get (e % 8)=o then(n.c.word e).1.put e y else(n.c.word e).1},[]):=by
    unfold No.nq;rw[xg g,f,k,ho,qy (by decide),xg rfl];simp only[G7,hw,vp]
   have ev:n.jP (e:Int) o=(decide ((n.c.en i).d.get (e % 8)=o),B4,0):=by
    unfold No.jP;rw[xg g,f,k,ho,qy (by decide),xg rfl];simp only[G7,hw,vp]
   simp only[aa,bc,G,qo,hb.l2];refine C3.q (xeh hb.ca m (by omega) l) λ v L⟨u,N,I⟩=>?_;rw[u];have hn:=hb.iF N I (by rw[(PI ..).1];exact h.len);unfold zN;rw[hp];have p:Fr (iJ r b sv bv) H L:=jV (nG A) (wH I)
   by_cases q:(n.c.en i).d.get (e % 8)=o
   .rw [xg q]at j;rw[ke q]at ev;simp only[aa,bc,xj,x,qv q,qo,hn.l2];refine C3.q (_S hn.ca (m.word e) (by show(n.c.word e).1.us+1<=1000000;have:=(PI n.c e).2;omega) l y) λ v V⟨R,O,J⟩=>?_;have D:=hn.iF O J (by rw[(Sc ..).1,(PI ..).1];exact h.len);unfold zY;rw[j,ev];simp only[aa,bc,z,qv q];exact⟨⟨.nils,rfl,mS.nil ..⟩,D,jV p (wH J)⟩
   .rw [qy q]at j;rw[ju q]at ev;unfold zY;rw[j,ev];simp only[aa,bc,xj,x,q,z];exact⟨⟨.nils,rfl,mS.nil ..⟩,hn,p⟩
end
end Go.Am
namespace Go.Am
open Go.Proofs Ca
open Lang (ints)
variable{M:ak}[MK M]
structure BB(b:Bu):Prop where
 N4:b.ns.length<=4
 fl:b.fl.length<=900000
 no:∀(c:Nat)n,b.ns[c]? = B1 n->n.NI/\n.aS.length<=900000/\n.c.us+2<=1000000
def US(n:No)(k l:Int):(n.ask k l).2.length<=1:=by unfold No.ask;split<;>simp
def V1(n:No)(a:Int):(n.load a).2.2.2.1.length<=1:=by
 unfold No.load;split
 .cases n.c.find (No.ln a)with
  |none=>exact US ..
  |some x=>simp
 .simp
def xea(n:No)(a y:Int):(n.store a y).2.2.1.length<=1:=by
 unfold No.store;split
 .split
  .simp
  .exact US ..
 .simp
def xlk(n:No)(a o y:Int):(n.nq a o y).2.length<=1:=by
 unfold No.nq;split
 .split
  .simp
  .split
   .simp
   .exact US ..
 .simp
def qp(n:No)(x:En):(n.gone x).2.length<=1:=by unfold No.gone;split<;>simp
def xcg(n:No)(l:Int):(n.da l).2.length<=1:=by
 unfold No.da;split
 .simp
 .cases n.c.find l with
  |none=>simp
  |some x=>exact qp ..
def ad6(n:No)(m:Mg):(n.fill m).2.length<=1:=by
 have:∀(n:No)st,(n.dZ m st).2.length<=1:=λ n st=>by
  unfold No.dZ;split
  .exact qp ..
  .simp
 unfold No.fill No.mH;generalize(if m.k=15 then(2:Int)else 1)=st;split<;>exact this _ _
def yc(n:No)(m:Mg):(n.bT m).2.length<=2:=by
 unfold No.bT;split;· simp
 split;· simp
 split
 .cases n.c.find m.line with
  |none=>simp
  |some x=>simp only;split<;>simp
 split;· simp
 cases n.c.find m.line with
 |some x=>simp
 |none =>
  have:=ad6 {n with out:=⟨0,0,0,.zero⟩} m;simp only[xe,zt,jo];omega
section
variable{H0 H:ar}{B:Nat}{s:Bs}{b:Bu}{own:Nat->Nat}{c:Int}{n:No}
def dg.t{r b:Nat}{sv bv:AV}{n':No}{ks:List Nat}{H':ar}(h:dg H0 H' r b sv bv n' ks)(f:Fr (iJ r b sv bv) H H'):rY H0 H r b sv bv n' H':=⟨bv,ks,h,f,λ _ q=>.inl q⟩
def eL.out(h:eL H0 H B s b own)(hb:BB b){c:Nat}{n n':No}{A:Na}{H1:ar}{a:AV}{ms:List Mg}(hn:b.ns[c]? = B1 n)(f:s.ad[c]? = B1 A)(j:rY H0 H A.r A.b A.sv A.bv n' H1)(hm:mS H H1 a ms)(hl:ms.length<=2){Q:AV->ar->Prop}{r:AV}
 (g:∀{H'},kD H0 H B s (b.put c (n',ms)) H'->Q r H'):zb M UX [.ptr B 0,a] H1 λ _ H'=>Q r H':=by
 have⟨l,o',e,k,d⟩:=h.node hn f j;have i:=hb.fl;exact(Vc e hm.1 (by show b.fl.length+ms.length<=1000000;omega)).mono λ v H' hp=>g (kD.then d k hp)
def zV(hn:b.ns[c.toNat]? = B1 n)(a:0<=c):0<=c/\c<b.ns.length:=by have:=(qt.1 hn).1;omega
def xkv(h:eL H0 H B s b own)(hb:BB b)(j:0<=c)(hn:b.ns[c.toNat]? = B1 n)(a:Int):zb M Tj [.ptr B 0,.int .i64 c,.int .i64 a] H λ v H'=>v=.tuple [.int .u64 (n.load a).2.1,.bool (n.load a).2.2.1,.int .i64 (n.load a).2.2.2.2]/\kD H0 H B s (b.put c.toNat ((n.load a).1,(n.load a).2.2.2.1)) H':=by
 refine q68 ?_;obtain⟨w0,w4,g⟩:=q69 M ⟨B5,Tj⟩;simp only[aa,bc,w0];refine C3.q (Iu h hb.N4 c) λ v H1⟨m,k,_⟩=>?_;have⟨A,i,o⟩:=k (zV hn j);rw[o,m];have y:=qv (show(0:Int)=0 from rfl);have⟨ni,bk,us⟩:=hb.no _ n hn;have p:=h.no _ n A hn i;simp only[aa,bc,xj,w4,g];refine C3.q (xmp p ni.ci bk (by omega) a) λ v u⟨⟨x,f,d⟩,e,l⟩=>?_;rw[f];simp only[aa,bc,xj];refine C3.q (h.out hb hn i (e.t l) d (by have:=V1 n a;omega) (Q:=λ _ H'=>kD H0 H B s (b.put c.toNat ((n.load a).1,(n.load a).2.2.2.1)) H') (r:=.nils) id) λ v w hp=>?_;simp only[aa,bc];exact hp
def xin(h:eL H0 H B s b own)(hb:BB b)(j:0<=c)(hn:b.ns[c.toNat]? = B1 n)(a y:Int):zb M T6 [.ptr B 0,.int .i64 c,.int .i64 a,.int .u64 y] H λ v H'=>v=.tuple [.bool (n.store a y).2.1,.int .i64 (n.store a y).2.2.2]/\kD H0 H B s (b.put c.toNat ((n.store a y).1,(n.store a y).2.2.1)) H':=by
 refine q36 ?_;obtain⟨w0,w4,g⟩:=q37 M ⟨B5,T6⟩;simp only[aa,bc,w0];refine C3.q (Iu h hb.N4 c) λ v H1⟨m,k,_⟩=>?_;have⟨A,i,o⟩:=k (zV hn j);rw[o,m];have z:=qv (show(0:Int)=0 from rfl);have⟨ni,bk,us⟩:=hb.no _ n hn;have p:=h.no _ n A hn i;simp only[aa,bc,xj,w4,g];refine C3.q (xkh p ni.ci bk (by omega) a y) λ v u⟨⟨x,f,d⟩,e,l⟩=>?_;rw[f];simp only[aa,bc,xj];refine C3.q (h.out hb hn i (e.t l) d (by have:=xea n a y;omega) (Q:=λ _ H'=>kD H0 H B s (b.put c.toNat ((n.store a y).1,(n.store a y).2.2.1)) H') (r:=.nils) id) λ v w hp=>?_;simp only[aa,bc];exact hp
def ad3(h:eL H0 H B s b own)(hb:BB b)(j:0<=c)(hn:b.ns[c.toNat]? = B1 n)(a o y:Int):zb M TQ [.ptr B 0,.int .i64 c,.int .i64 a,.int .u64 o,.int .u64 y] H λ v H'=>v=.tuple [.bool (n.jP a o).1,.bool (n.jP a o).2.1,.int .i64 (n.jP a o).2.2]/\kD H0 H B s (b.put c.toNat (n.nq a o y)) H':=by
 refine q9r ?_;obtain⟨w0,w4,g⟩:=q9s M ⟨B5,TQ⟩;simp only[aa,bc,w0];refine C3.q (Iu h hb.N4 c) λ v H1⟨m,k,_⟩=>?_;have⟨A,i,p⟩:=k (zV hn j);rw[p,m];have C:=qv (show(0:Int)=0 from rfl);have⟨ni,bk,us⟩:=hb.no _ n hn;have u:=h.no _ n A hn i;simp only[aa,bc,xj,w4,g];refine C3.q (xll u ni.ci bk us a o y) λ v w⟨⟨z,f,d⟩,e,l⟩=>?_;rw[f];simp only[aa,bc,xj];refine C3.q (h.out hb hn i (e.t l) d (by have:=xlk n a o y;omega) (Q:=λ _ H'=>kD H0 H B s (b.put c.toNat (n.nq a o y)) H') (r:=.nils) id) λ v x hp=>?_;simp only[aa,bc];exact hp
def xbs(h:eL H0 H B s b own)(hb:BB b)(e:0<=c)(hn:b.ns[c.toNat]? = B1 n):zb M TB [.ptr B 0,.int .i64 c] H λ v H'=>v=.bool n.live/\H'=H:=by
 refine q66 ?_;simp only[aa,bc,q67];refine C3.q (Iu h hb.N4 c) λ v H1⟨i,f,_⟩=>?_;have⟨A,g,j⟩:=f (zV hn e);rw[j,i];have k:=h.no _ n A hn g;simp only[aa,bc,xj];refine C3.q (xmn k) λ v l⟨d,a⟩=>?_;rw[d,a];simp only[aa,bc]
end
end Go.Am
namespace Go.Am
open Go.Proofs Ca
open Lang (ints)
variable{M:ak}[MK M]
def Bu.wB(b:Bu)(i:Nat):Bu:=match b.fl[i]? with
 |none=>b
 |some m=>if m.k<=7 then match b.l[m.line.toNat]?,b.m[m.line.toNat]? with
  |some x,B1 w=>{b with m:=b.m.set m.line.toNat (x.bT w m).2.1,l:=b.l.set m.line.toNat (x.bT w m).1,fl:=b.fl.eraseIdx i++(x.bT w m).2.2}
  |_,_=>b
  else match b.ns[m.core.toNat]? with
   |some n=>{b with ns:=b.ns.set m.core.toNat (n.bT m).1,fl:=b.fl.eraseIdx i++(n.bT m).2}
   |none=>b
section
variable{H0 H:ar}{B:Nat}{s:Bs}{b:Bu}{own:Nat->Nat}{c:Int}{n:No}
def eL.quiet(h:eL H0 H B s b own){c:Nat}{n n':No}{A:Na}{H1:ar}(hn:b.ns[c]? = B1 n)(e:s.ad[c]? = B1 A)(f:rY H0 H A.r A.b A.sv A.bv n' H1):kD H0 H B s (b.put c (n',[])) H1:=by
 have⟨i,o',d,g,a⟩:=h.node hn e f;refine⟨i,o',?_,g,a⟩;have:b.put c (n',[]) = {b with ns:=b.ns.set c n'}:=by unfold Bu.put;simp
 rw[this];exact d
def T7{H1:ar}{e:AV}{n':No}(h:eL H0 H B s b own)(hb:BB b)(k:0<=c)(hn:b.ns[c.toNat]? = B1 n){f:Nat}{cap:List AV}
 (m:∀{A:Na},s.ad[c.toNat]? = B1 A->zb M f ([AV.ptr A.r 0]++cap) H λ v H'=>v=e/\dg H0 H' A.r A.b A.sv A.bv n' A.ks/\Fr (iJ A.r A.b A.sv A.bv) H H'):zb M RS [.ptr B 0,.int .i64 c,.fn (.func f) [] cap] H λ v H'=>v=e/\kD H0 H B s (b.put c.toNat (n',[])) H':=by
 refine hK ?_;obtain⟨w0,w4,i⟩:=qti M ⟨B5,RS⟩;simp only[aa,bc,w0];refine C3.q (Iu h hb.N4 c) λ v H1⟨o,l,_⟩=>?_;have⟨A,j,p⟩:=l (zV hn k);rw[p,o];have w:=qv (show(0:Int)=0 from rfl);simp only[aa,bc,xj,w4,i];refine C3.q (m j) λ v u⟨g,d,a⟩=>?_;rw[g];simp only[aa,bc];exact h.quiet hn j (d.t a)
def GV(h:eL H0 H B s b own)(hb:BB b)(d:¬(0<=c/\c<b.ns.length))(fv:AV):zb M RS [.ptr B 0,.int .i64 c,fv] H λ v H'=>v=.int .i64 2/\H'=H:=by
 refine hK ?_;obtain⟨w0,w4,g⟩:=qti M ⟨B5,RS⟩;simp only[aa,bc,w0];refine C3.q (Iu h hb.N4 c) λ v H1⟨e,_,a⟩=>?_;rw[a d,e];have f:¬(2:Int)=0:=by decide
 simp only[aa,bc,xj,w4,f]
def xh9(h:eL H0 H B s b own)(hb:BB b)(a:0<=c)(hn:b.ns[c.toNat]? = B1 n):zb M Ue [.ptr B 0,.int .i64 c] H λ v H'=>v=.int .i64 (if n.live=B4 then 41 else 0)/\kD H0 H B s (b.put c.toNat (n.begin,[])) H':=by
 refine q34 ?_;simp only[aa,bc,q35];refine C3.q (T7 (H1:=H) h hb a hn (cap:=[]) λ{A}d=>xez (h.no _ n A hn d)) λ v f⟨e,hp⟩=>?_;rw[e];simp only[aa,bc];exact hp
def xen(h:eL H0 H B s b own)(hb:BB b)(a:0<=c)(hn:b.ns[c.toNat]? = B1 n):zb M SM [.ptr B 0,.int .i64 c] H λ v H'=>v=.int .i64 (if n.live=B4 then 0 else 40)/\kD H0 H B s (b.put c.toNat (n.bt,[])) H':=by
 refine qz1 ?_;simp only[aa,bc,qz2];refine C3.q (T7 (H1:=H) h hb a hn (cap:=[]) λ{A}d=>xaw (h.no _ n A hn d)) λ v f⟨e,hp⟩=>?_;rw[e];simp only[aa,bc];exact hp
def t8{A:Na}{t:Nat}{k:Int}(d:dg H0 H A.r A.b A.sv A.bv n A.ks)(hl:Op.ae [.ptr t 0] H=B1 (.int .i64 k)):zb M Jd ([.ptr A.r 0] ++ [.ptr t 0]) H λ v H'=>v=.int .i64 (n.abort k).2/\dg H0 H' A.r A.b A.sv A.bv (n.abort k).1 A.ks/\Fr (iJ A.r A.b A.sv A.bv) H H':=by
 refine qxd ?_;simp only[aa,bc,qxe,hl];refine C3.q (xh7 d k) λ v e⟨a,hp⟩=>?_;rw[a];simp only[aa,bc];exact hp
def q9a(h:eL H0 H B s b own)(hb:BB b)(f:0<=c)(hn:b.ns[c.toNat]? = B1 n)(k:Int):zb M Nh [.ptr B 0,.int .i64 c,.int .i64 k] H λ v H'=>kD H0 H B s (b.put c.toNat ((n.abort k).1,[])) H':=by
 refine YD ?_;obtain⟨H1,e1,a,-,g⟩:=cq H (OR [.int .i64 k] cF);have ca:AV.cells (.int .i64 k)=[.int .i64 k]:=rfl;have l1:Op.ae [.ptr H.au 0] H1=B1 (.int .i64 k):=x9 (xc g) 0;have mk:Op.bH Jd 0 [.ptr H.au 0]=B1 (.fn (.func Jd) [] [.ptr H.au 0]):=rfl;simp only[aa,bc,U7,ca,<-e1];have d:=h.em a;refine C3.q (T7 (H1:=H1) (e:=.int .i64 (n.abort k).2) (n':=(n.abort k).1) d hb f hn (cap:=[.ptr H.au 0]) λ{A}i=>t8 (d.no _ n A hn i) l1) λ v j⟨l,hp⟩=>?_;simp only[aa,bc];exact kD.pre a hp
def ae3{fv:AV}{fl:List Mg}(h:Sk ao xm 11 H fv fl){i:Nat}(e:i<fl.length)(hl:fl.length<=1000000):zb M Wy [fv,.int .i64 (i:Int),.int .i64 ((i+1:Nat):Int)] H λ v H'=>Sk ao xm 11 H' v (fl.eraseIdx i)/\Fr (aM fv) H H' /\ ∀z,aM v z->aM fv z:=by
 refine qo0 ?_;obtain⟨w0,w4,d⟩:=qo1 M ⟨B5,Wy⟩;rcases h with⟨-,rfl⟩|⟨b,j,alt,r,hk⟩
 .simp at e
 have⟨v0,v1,v2,w,H1,v4,u,a0,g,k,l,p,m,o,b5,t⟩:=hk.del zh qS (by decide) e (zero:=ao ⟨0,0,0,.zero⟩) (zh _) (qS _) 88;have a:=(hk.sl zh).len;have ne:¬(i:Int)=((i+1:Nat):Int):=by omega
 simp only[aa,bc,w0,a,a0,w4,ne,d,g,k,l,p,m,mZ,o];exact⟨.inr ⟨_,_,_,_,b5⟩,t.mono λ z f(q:z=b)=>by rw[q];exact hk.on,λ z f=>by rw[b5.TW f];exact hk.on⟩
def eL.dir(h:eL H0 H B s b own){i:Nat}{x j:De}{a g:AV}{w':L8}{H':ar}(v:s.xs[i]? = B1 (x,a))(he:dW H' s.D s.mp s.lv s.ev b.ns.length (b.m.set i w') s.xs i j g)(f:Fr s.dw H H')(r:∀z,aM g z->aM a z\/H.au<=z) :
 ∃C t,eL H0 H' B C {b with m:=b.m.set i w',l:=b.l.set i j} t/\(∀z,gE B C z->gE B s z\/H.au<=z)/\Fr (gE B s) H H':=by
 have F:Fr (gE B s) H H':=f.mono λ z _ q=>.inr (.inl q);have ne:∀{z k:Nat},own z=k->k≠1 -> ¬s.dw z:=λ e1 e2 q=>e2 (by rw[<-e1];exact h.oD _ q);have E:H0.au<=H.au:=by have:=h.lo B (.inl rfl);have:=h.lt;omega
 have G:=(qt.1 v).1;have p:∀z,Bs.dw {s with xs:=s.xs.set i (j,g)} z->s.dw z\/H.au<=z:=λ z q=>by
  rcases q with q|q|q|q|⟨k,y,c,hk,q⟩
  .exact .inl (.inl q)
  .exact .inl (.inr (.inl q))
  .exact .inl (.inr (.inr (.inl q)))
  .exact .inl (.inr (.inr (.inr (.inl q))))
  .have hk:(s.xs.set i (j,g))[k]? = B1 (y,c):=hk
   by_cases e:k=i
   .subst e;rw[zm G]at hk;injection hk with hk;injection hk with _ hk;subst hk
    exact(r z q).elim (λ q=>.inl (.inr (.inr (.inr (.inr ⟨k,x,a,v,q⟩))))) .inr
   .rw [zr (rS e)]at hk;exact .inl (.inr (.inr (.inr (.inr ⟨k,y,c,hk,q⟩))))
 have u:∀z,gE B {s with xs:=s.xs.set i (j,g)} z->gE B s z\/H.au<=z:=λ z q=>by
  rcases q with q|q|q|q|q
  .exact .inl (.inl q)
  .exact (p z q).elim (λ q=>.inl (.inr (.inl q))) .inr
  .exact .inl (.inr (.inr (.inl q)))
  .exact .inl (.inr (.inr (.inr (.inl q))))
  .exact .inl (.inr (.inr (.inr (.inr q))))
 have ow:∀{z:Nat},z<H.au->aP own H.au 1 z=own z:=λ q=>xg q;refine⟨{s with xs:=s.xs.set i (j,g)},aP own H.au 1,⟨?_,qn h.lt f.au,he.d,?_,?_,λ c n A hn o=>?_,h.al,?_,?_,λ z q=>?_,λ z q=>?_,λ z q=>?_,λ c A o z q=>?_,λ z q=>?_⟩,u,F⟩
 .simp only[zg];rw[f.ah _ h.lt (ne h.oB (by decide))];exact h.row
 .simp only[List.map_set,h.dx]
 .exact Own.fr h.nv f λ z r q=>ne (h.oN z r) (by decide) q
 .refine (h.no c n A hn o).off f λ z w=>⟨h.lo z (.inr (.inl w)),λ w2=>?_⟩
  have:=h.oC c A o z w2;have:=h.oD z w;omega
 .exact h.fl.fr f λ z r q=>ne (h.oF z r) (by decide) q
 .rw [ow h.lt];exact h.oB
 .unfold aP;split
  .rcases p z q with w|w
   .exact h.oD z w
   .omega
  .rfl
 .rw [ow (h.low (.inr (.inr (.inl q))))];exact h.oN z q
 .rw [ow (h.low (.inr (.inr (.inr (.inl q)))))];exact h.oF z q
 .rw [ow (h.low (.inr (.inr (.inr (.inr ⟨c,A,o,q⟩)))))];exact h.oC c A o z q
 .rcases u z q with w|w
  .exact h.lo z w
  .omega
end
end Go.Am
namespace Go.Am
open Go.Proofs Ca
open Lang (ints)
variable{M:ak}[MK M]
def m0(x:De)(w:L8)(m:Mg):(x.bT w m).2.2.length<=4:=by
 have hb:∀(y:De)n,(y.begin n w).2.length<=4:=λ y n=>by
  unfold De.begin;split
  .simp
  .split
   .simp
   .rw [xu];unfold wI;exact List.length_filter_le ..
 have hr:∀(y:De)w'(q:Prop)[Decidable q](r:List Mg),r.length<=3->(y.wA w' q r).2.2.length<=4:=λ y w' q _ r h=>by
  unfold De.wA;split
  .simp only[xe,zt,jo];omega
  .simp only;omega
 unfold De.bT;split;· simp
 split
 .split
  .simp
  .exact hb _ _
 split;· exact hr _ _ _ _ (by simp)
 split;· exact hr _ _ _ _ (by simp)
 split;· exact hr _ _ _ _ (by simp)
 split;· exact hr _ _ _ _ (by simp)
 cases x.wt with
 |nil=>simp
 |cons n r=>exact hb _ _
section
variable{H0 H:ar}{B:Nat}{s:Bs}{b:Bu}{own:Nat->Nat}{V:Int->L8}
def xia(h:eL H0 H B s b own)(hb:BB b){i:Int}(k:¬(0<=i/\i<b.fl.length)):zb M RX [.ptr B 0,.int .i64 i] H λ v H'=>v=.tuple [.agg (ao ⟨0,0,0,.zero⟩),.int .i64 50]/\Fr Em H H':=by
 refine Ξ ?_;obtain⟨w0,w2,-,-,-,-⟩:=qnq M ⟨B5,RX⟩;obtain⟨H1,e1,d,-,g⟩:=cq H (OR (ao ⟨0,0,0,.zero⟩) xm);have st:=fH g (zh _) (zh ⟨0,0,0,.zero⟩) (qS _);have ln:=eI (xb H1 H.au (OR (ao ⟨0,0,0,.zero⟩) xm)) (zh ⟨0,0,0,.zero⟩);have e:=h.em d;have a:=e.fl.len zh;have fin:Fr Em H (H1.set H.au (OR (ao ⟨0,0,0,.zero⟩) xm)):=d.set (.inr (qm _)) _
 by_cases f:i<0
 .simp only[aa,bc,w0,mZ,<-e1,w2,yr,qv f,Hk,st,ln];exact fin
 have j:((b.fl.length:Nat):Int)<=i:=by omega
 simp only[aa,bc,w0,mZ,<-e1,w2,yr,f,qo,e.l2,a,qv j,Hk,st,ln];exact fin
def xbt(h:eL H0 H B s b own)(hb:BB b)(hI:BuI b V)(hwl:∀x∈b.l,x.wt.length<=900000){i:Nat}{m:Mg}(hm:b.fl[i]? = B1 m):zb M RX [.ptr B 0,.int .i64 (i:Int)] H λ v H'=>v=.tuple [.agg (ao m),.int .i64 0]/\kD H0 H B s (b.wB i) H':=by
 have hil:=(qt.1 hm).1;have hfl:=hb.fl;have N4:=hI.N4;obtain⟨mk,mc,ml⟩:=hI.mw m (ze hm);refine Ξ ?_;obtain⟨w0,w2,w17,w21,w23,Y⟩:=qnq M ⟨B5,RX⟩;have⟨H1,e1,f1,n1,g1⟩:=cq H (OR (ao ⟨0,0,0,.zero⟩) xm);have h1:=h.em f1;have Q:=h1.fl.sl zh;have hln:=h1.fl.len zh;have q0:¬(i:Int)<0:=by omega
 have q1:¬((b.fl.length:Nat):Int)<=(i:Int):=by omega
 have ix:=Q.idx hm (z:=(i:Int)) rfl .i64;have ld:=Q.aq zh (by decide) hm;obtain⟨H2,e2,f12,-,g2⟩:=cq H1 (OR (ao ⟨0,0,0,.zero⟩) xm);have U:=fH g2 (zh _) (zh m) (qS m);obtain⟨j,Z⟩:∃X,X=H2.set H1.au (OR (ao m) xm):=⟨_,rfl⟩
 rw[<-Z]at U;have F:Fr Em H1 j:=by rw[Z];exact f12.set (.inr (qm _)) _
 have n3:j.au=H.au+2:=by rw[Z,tj,e2,xy,n1]
 have g3:j.get H1.au=B1 (OR (ao m) xm):=by rw[Z,xb]
 have g3z:j.get H.au=B1 (OR (ao ⟨0,0,0,.zero⟩) xm):=by rw[F.ah _ (by omega) id];exact g1
 have h3:=h1.em F;have wi:aj .i64 ((i:Int)+1)=((i+1:Nat):Int):=by rw[jb (by omega) (by omega)];omega
 have F3:Fr Em H j:=f1.trans F λ _ q=>q.elim;simp only[aa,bc,w0,mZ,<-e1,w2,yr,q0,qo,h1.l2,hln,q1,w17,ix,ld,<-e2,U,h3.l2,wi];refine C3.q (ae3 h3.fl hil (by omega)) λ v4 H4⟨k4,f4,o4⟩=>?_;have⟨C,s5,g,aP,u,o5,f5⟩:=h3.Cs k4 f4 (λ z o=>.inl (o4 z o));have L:∀z,gE B s z->z<H.au:=λ z o=>h.low o;have t:∀z,gE B g z->gE B s z\/j.au<=z:=o5;have f:∀z,z<j.au->H.au<=z->C.get z=j.get z:=λ z q1 q2=>f5.ah z q1 λ w=>by have:=L z w;omega
 have lk5:Op.ae [.ptr H1.au 0] C=B1 (.int .i64 m.k):=x9 (xc (show C.get H1.au=B1 (OR (ao m) xm)from by rw[f _ (by omega) (by omega)];exact g3)) 0;have lc5:Op.ae [.ptr H1.au 1] C=B1 (.int .i64 m.core):=x9 (xc (show C.get H1.au=B1 (OR (ao m) xm)from by rw[f _ (by omega) (by omega)];exact g3)) 1;have S:Op.aq 11 [.ptr H1.au 0] C=B1 (.agg (ao m)):=eI (by rw[f _ (by omega) (by omega)];exact g3) (zh m);have mk1:Op.bH Ga 1 [.ptr g.D 0]=B1 (.fn (.func Ga) [.ptr g.D 0] []):=rfl;have m5:=f5.au
 -- behind the hearing
 have fin:∀{y:ar}{b':Bu},kD H0 C B g b' y->(∃O,Op.aq 11 [.ptr H1.au 0] y=B1 (.agg (ao m))/\Op.store 11 [.ptr H.au 0,.agg (ao m)] y=B1 (.undef,O)/\Op.aq 11 [.ptr H.au 0] O=B1 (.agg (ao m))/\kD H0 H B s b' O):=λ{y b'}hp=>by
  have⟨N,o7,h7,q7,f7⟩:=hp;have p:∀z,z<j.au->H.au<=z->y.get z=j.get z:=λ z w1 w2=>by
   rw[f7.ah z (by omega) λ w=>(t z w).elim (λ w=>by have:=L z w;omega) λ w=>by omega];exact f z w1 w2
  have gz:y.get H.au=B1 (OR (ao ⟨0,0,0,.zero⟩) xm):=by rw[p _ (by omega) (by omega)];exact g3z
  have m7:=f7.au;have E:∀z,gE B N z->gE B s z\/j.au<=z:=λ z o=>(q7 z o).elim (t z) λ w=>.inr (by omega);refine⟨_,eI (by rw[p _ (by omega) (by omega)];exact g3) (zh m),fH gz (zh _) (zh m) (qS m),eI (xb ..) (zh m),N,o7,h7.fr ((Fr.refl y).set (W:=On H.au) (.inl rfl) _) λ z o=>?_,λ z o=>(E z o).elim .inl λ w=>.inr (by omega),?_⟩
  .have o:z=H.au:=o;subst o;refine⟨by have:=h.lo B (.inl rfl);have:=h.lt;omega,λ w=>(E _ w).elim (λ w=>by have:=L _ w;omega) λ w=>by omega⟩
  .refine ((((F3.mono λ _ _ q=>q.elim).trans f5 λ z q=>.inl q).trans f7 λ z q=>?_).set (.inr (qm _)) _);exact(t z q).elim .inl λ w=>.inr (by omega)
 have hel:(b.fl.eraseIdx i).length<=b.fl.length:=List.length_eraseIdx_le ..;simp only[aa,bc,qo,s5,w21,u.l0,w23,lk5];unfold Bu.wB;rw[hm]
 by_cases k7:m.k<=7
 .have nk:¬7<m.k:=by omega
  simp only[xg k7];have⟨x,w,K,hw,he⟩:=hI.entry ml.1 ml.2;rw[K,hw];have hxx:∃a,g.xs[m.line.toNat]? = B1 (x,a):=by
   have hl:=(qt.1 K).1;have P:m.line.toNat<g.xs.length:=by
    have:=congrArg List.length u.dx;rw[xu]at this;have:g.xs.length=b.l.length:=this;omega
   refine⟨(g.xs[m.line.toNat]).2,?_⟩;rw[xf P];have e:=congrArg (λ l=>l[m.line.toNat]?) u.dx;simp only[xq,xf P,Gs]at e;have e:B1 (g.xs[m.line.toNat]).1=B1 x:=e.trans K;injection e with e
   rw[<-e]
  have⟨a,R⟩:=hxx;simp only[aa,bc,nk,Y,S];refine C3.q (xib (M:=M) (m:=m) u.d R hw he ml.1 mc.1 mc.2 (hwl x (ze K))) λ v6 H6⟨⟨ov,e,J,G⟩,a',en6,f6,o6⟩=>?_;rw[J];have⟨s6,T,h6,q6,g6⟩:=u.dir R en6 f6 o6;have hlen:=m0 x w m;simp only[aa,bc,xj];refine C3.q (Vc h6 G.1 (by show(b.fl.eraseIdx i).length+_<=_;omega)) λ v7 y hp=>?_;have⟨O,l7,N,l8,I⟩:=fin (kD.then g6 q6 hp);simp only[aa,bc,l7,N,l8];exact I
 .have nk:7<m.k:=by omega
  simp only[qy k7];have⟨n,hn,hnw⟩:=hI.core mc.1 mc.2;rw[hn];have⟨ni,bk,us⟩:=hb.no _ n hn;have⟨A,hA,nr⟩:=u.yF hn;have K:(g.ad.map Na.r)[m.core.toNat]? = B1 A.r:=by rw[xq,hA];rfl
  have ixn:=u.nv.sl.idx K (z:=m.core) (by omega) .i64;have ldn:Op.ae [.ptr (aG g.nv) (cJ 1 g.nv m.core.toNat)] C=B1 (.ptr A.r 0):=u.nv.sl.iR UK K (by decide);have mk2:Op.bH vc 1 [.ptr A.r 0]=B1 (.fn (.func vc) [.ptr A.r 0] []):=rfl;simp only[aa,bc,qv nk,u.l1,qo,lc5,ixn,ldn,Y,S];refine C3.q (xkq nr ni.ci bk (by omega) m) λ v6 H6⟨⟨ov,e,J,G⟩,ht⟩=>?_;rw[J];have⟨s6,T,h6,q6,g6⟩:=u.node hn hA ht;have hlen:=yc n m;simp only[aa,bc,xj];refine C3.q (Vc h6 G.1 (by show(b.fl.eraseIdx i).length+_<=_;omega)) λ v7 y hp=>?_;have⟨O,l7,N,l8,I⟩:=fin (kD.then g6 q6 hp);simp only[aa,bc,l7,N,l8];exact I
end
end Go.Am
namespace Go.Am
open Go.Proofs Ca
open Lang (ints)
variable{M:ak}[MK M]
def Vt{α:Type}(enc:α->List AV)(x:α):∀n:Nat,(I5 n x).flatMap enc=fP n (enc x)
 |0=>rfl
 |n+1=>by rw[Q1,j8,Vt enc x n,fP,px]
def yS(l:Int):Prop:=2<=l/\l<=64
instance(l:Int):Decidable (yS l):=inferInstanceAs (Decidable (_/\_))
def IF(H:ar)(l:Int)(v:AV)(H':ar):Prop:=Fr Em H H'/\(¬yS l/\v=.tuple [.nilp,.int .i64 2]\/yS l /\ ∃mp lv,v=.tuple [.ptr mp 0,.int .i64 0]/\AL H' mp lv (I5 l.toNat .zero)/\H.au<=mp/\H.au<=aG lv)
def xfy{H:ar}(l:Int):zb M VT [.int .i64 l] H (IF H l):=by
 refine xmy ?_;obtain⟨w0,w2,g⟩:=xmz M ⟨B5,VT⟩
 by_cases e:l<2
 .simp only[aa,bc,w0,w2,e];exact⟨Fr.refl _,.inl ⟨λ q=>by have:=q.1;omega,rfl⟩⟩
 by_cases i:64<l
 .simp only[aa,bc,w0,w2,e,i];exact⟨Fr.refl _,.inl ⟨λ q=>by have:=q.2;omega,rfl⟩⟩
 obtain⟨a,rfl⟩:=jk (show 0<=l by omega);have mk:=X5 z7 64 (cG .zero) a .i64 .i64 (by omega) (by omega);rw[<-Vt]at mk;obtain⟨H1,e1,k,n1,-⟩:=cq H (OR ((I5 a L8.zero).flatMap cG) z7);obtain⟨sv,d⟩:∃sv:AV,sv=.slice H.au 0 a a:=⟨_,rfl⟩
 have f:Op.sliceTo a a H.au=sv:=by rw[d];rfl
 have o:aG sv=H.au:=by rw[d];rfl
 have j:Op.build [.nils] [(0,1)] [sv]=B1 (.agg [sv]):=by rw[d];rfl
 obtain⟨p,e2,h,-,m⟩:=cq H1 (OR [sv] Θ);simp only[aa,bc,w0,w2,e,i,g,lZ,mk,f,<-e1,j,<-e2];refine⟨k.trans h λ _ q=>q.elim,.inr ⟨⟨by omega,by omega⟩,_,sv,rfl,⟨m,by rw[e2,xy];omega,⟨H.au,?_,?_,?_⟩,by omega,by rw[jh];omega⟩,by omega,by omega⟩⟩
 .rw [jh];exact d
 .rw [e2,xy];omega
 .rw [h.ah _ (by omega) id,e1,xp];rfl
def qR:De:=⟨0,0,⟨0,0,0,.zero⟩,0,0,[]⟩
def iK:De:={qR with ow:=-1}
def eXZ:[AV.int .i64 0,.int .u8 0,.int .i64 0,.int .i64 0,.int .i64 0,.int .u64 0,.int .u64 0,.int .u64 0,.int .u64 0,.int .u64 0,.int .u64 0,.int .u64 0,.int .u64 0,.int .i64 0,.int .u8 0,.nils]=gU (qR,.nils):=rfl
def uh(n i:Nat):List (De×AV):=(N2 n).map λ k=>(if k<i then iK else qR,.nils)
def Ez(n:Nat):uh n 0=I5 n (qR,.nils):=by
 unfold uh;apply yk;intro j;rw[xq];rcases xz j n with q|q
 .rw [kj q,List.getElem?_replicate,xg q];simp
 .rw [jp (by rw[jd];exact q),jp (by rw[jh];exact q)];rfl
def GU(n:Nat):uh n n=I5 n (iK,.nils):=by
 unfold uh;apply yk;intro j;rw[xq];rcases xz j n with q|q
 .rw [kj q,List.getElem?_replicate,xg q];simp[q]
 .rw [jp (by rw[jd];exact q),jp (by rw[jh];exact q)];rfl
def TZ{n i j:Nat}(h:j<n):(uh n i)[j]? = B1 (if j<i then iK else qR,.nils):=by
 unfold uh;rw[xq,kj h];rfl
def af5{n i:Nat}(h:i<n):(uh n i).set i (iK,.nils)=uh n (i+1):=by
 have hl:∀k,(uh n k).length=n:=λ k=>by unfold uh;rw[xu,jd]
 apply yk;intro j
 by_cases q:j=i
 .subst q;rw[zm (by rw[hl];exact h),TZ h,xg (by omega)]
 .rw [zr (rS q)];rcases xz j n with w|w
  .rw [TZ w,TZ w]
   by_cases e:j<i
   .rw [xg e,xg (by omega)]
   .rw [qy e,qy (by omega)]
  .rw [jp (by rw[hl];exact w),jp (by rw[hl];exact w)]
def Tk{n i k:Nat}{x:De}{a:AV}(h:(uh n i)[k]? = B1 (x,a)):a=.nils/\x.wt=[]:=by
 unfold uh at h;rw[xq,xr]at h;obtain⟨j,-,e⟩:=h;injection e with e1 e2
 refine⟨e2.symm,?_⟩;rw[<-e1];split<;>rfl
def xV(l c:Int):Prop:=yS l/\1<=c/\c<=4
instance(l c:Int):Decidable (xV l c):=inferInstanceAs (Decidable (_/\_))
def IL(H:ar)(l c:Int)(v:AV)(H':ar):Prop:=Fr Em H H'/\(¬xV l c/\v=.tuple [.nilp,.int .i64 2]\/xV l c /\ ∃D mp lv ev,v=.tuple [.ptr D 0,.int .i64 0]/\mN H' D mp lv ev c (I5 l.toNat .zero) (I5 l.toNat (iK,.nils)) /\ ∀z,mP D mp lv ev (I5 l.toNat (iK,.nils)) z->H.au<=z)
def xe8{H:ar}(l c:Int):zb M ZV [.int .i64 l,.int .i64 c] H (IL H l c):=by
 refine xlt ?_;obtain⟨w0,w4,N,O,R,A,P,Q⟩:=xlu M ⟨B5,ZV⟩;simp only[aa,bc,w0];refine C3.q (xfy l) λ v H1⟨p,hv⟩=>?_;rcases hv with⟨hm,rfl⟩|⟨hm,mp,lv,rfl,me,Y,Z⟩
 .have t2:¬(2:Int)=0:=by decide
  simp only[aa,bc,xj,w4,t2];exact⟨p,.inl ⟨λ q=>hm q.1,rfl⟩⟩
 have t0:=qv (show(0:Int)=0 from rfl)
 by_cases F:c<1
 .simp only[aa,bc,xj,w4,F];exact⟨p,.inl ⟨λ q=>by have:=q.2.1;omega,rfl⟩⟩
 by_cases U:4<c
 .simp only[aa,bc,xj,w4,F,U];exact⟨p,.inl ⟨λ q=>by have:=q.2.2;omega,rfl⟩⟩
 have J:=hm;have⟨m1,m2⟩:=J;obtain⟨n,rfl⟩:=jk (show 0<=l by omega);have mk:=X5 P2 144 (gU (qR,.nils)) n .i64 .i64 (by omega) (by omega);rw[<-Vt gU]at mk;obtain⟨m,e2,f2,n2,-⟩:=cq H1 (OR ((I5 n (qR,AV.nils)).flatMap gU) P2);obtain⟨sv,e⟩:∃sv:AV,sv=.slice H1.au 0 n n:=⟨_,rfl⟩
 have K:Op.sliceTo n n H1.au=sv:=by rw[e];rfl
 have hsb:aG sv=H1.au:=by rw[e];rfl
 have bd:Op.build [.nilp,.int .i64 0,.nils] [(0,1),(1,1),(2,1)] [.ptr mp 0,.int .i64 c,sv]=B1 (.agg [.ptr mp 0,.int .i64 c,sv]):=by rw[e];rfl
 obtain⟨C,S,T,-,g3⟩:=cq m (OR [.ptr mp 0,.int .i64 c,sv] _N);have n3:C.au=H1.au+2:=by rw[S,xy,n2]
 have r:Fr Em H1 C:=f2.trans T λ _ q=>q.elim;have ml:=me.lt;have mls:=me.ls.lt;have r3:gV gU P2 16 C sv (uh n 0):=by
  rw[Ez];refine⟨H1.au,by rw[jh];exact e,by omega,?_⟩;rw[T.ah _ (by omega) id,e2,xp]
 have m1':=p.au;have d3:mN C m.au mp lv sv c (I5 n .zero) (uh n 0) :=
  ⟨g3,by omega,me.fr r id id,r3,λ i x a f=>by rw[(Tk f).1,(Tk f).2];exact Sk.nil _,⟨by omega,by omega,by omega,by omega,by omega⟩,λ i x a f z g=>by rw[(Tk f).1]at g;exact absurd rfl g.1,λ i j x y a b f _ _ z g=>by rw[(Tk f).1]at g;exact absurd rfl g.1,by rw[jh];unfold uh;rw[xu,jd]⟩
 have hn3:H.au<=H1.au:=p.au;have w:∀{o:ar}{i:Nat},mN o m.au mp lv sv c (I5 n .zero) (uh n i)->Op.ae [.ptr m.au 2] o=B1 sv:=λ h=>x9 (xc h.row) 2;have I:Op.cw [sv]=B1 (.int .i64 ((n:Nat):Int)):=by rw[e];rfl
 simp only[aa,bc,xj,w4,F,U,N,eXZ,mk,K,<-e2,bd,<-S,O,qo,w d3,I];refine b9.intro (λ k E o=>∃(i:Nat),E=[(36,.int .i64 (i:Int)),(35,.int .i64 ((n:Nat):Int)),(8,.ptr m.au 0)]/\k=n-i/\i<=n/\mN o m.au mp lv sv c (I5 n .zero) (uh n i)/\Fr Em H o) ?_ ?_
 .exact ⟨_,_,⟨0,rfl,rfl,xw _,d3,p.trans r λ _ q=>q.elim⟩,by simp only[aa,bc]⟩
 rintro k E o ⟨i,rfl,rfl,hi,t,W⟩;rcases xz i n with u|hge
 .have L:(i:Int)<((n:Nat):Int):=by omega
  have f:=TZ (i:=i) u;rw[qy (IK i)]at f;have en:=dW.of t f;have ix:Op.aR 16 [sv,.int .i64 (i:Int)]=B1 (.ptr (aG sv) (cJ 16 sv i)):=(t.es.sl AH).idx f rfl .i64;have⟨X,s5,D,f5⟩:=en.s0 (-1);have wj:aj .i64 ((i:Int)+1)=((i+1:Nat):Int):=by rw[jb (by omega) (by omega)];omega
  have d5:mN X m.au mp lv sv c (I5 n .zero) (uh n (i+1)):=by rw[<-af5 u];exact D.d
  simp only[aa,bc,A,L,P,qo,w t,ix,s5,Q,wj];exact⟨_,_,⟨i+1,rfl,rfl,by omega,d5,W.trans f5 λ z(q:z=aG sv)=>.inr (by omega)⟩,by simp only[aa,bc],by omega⟩
 .have G:i=n:=by omega
  have L:¬(i:Int)<((n:Nat):Int):=by omega
  subst G;simp only[aa,bc,A,L,R];rw[GU]at t;refine⟨W,.inr ⟨⟨hm,by omega,by omega⟩,_,mp,lv,sv,rfl,t,λ z g=>?_⟩⟩;rcases g with rfl|rfl|rfl|rfl|⟨k,x,a,hk,g⟩
  .omega
  .exact Y
  .exact Z
  .omega
  .rw [G7,List.getElem?_replicate]at hk;split at hk
   .injection hk with hk;injection hk with _ hk;rw[<-hk]at g;exact absurd rfl g.1
   .cases hk
end Go.Am
