import Derived.Test.YtgjdmncoonceaaaGreatDoorAmTZf
import Derived.Test.YtgjdmncoonceaaaGreatDoorAmTZh
import Derived.Test.YtgjdmncoonceaaaGreatDoorAmTZe
import Derived.Test.YtgjdmncoonceaaaGreatDoorAmTZg
import Derived.Test.YtgjdmncoonceaaaGreatDoorAmTZd
set_option linter.defProp false
set_option linter.unusedVariables false
set_option linter.unusedSimpArgs false
set_option linter.unusedSectionVars false
set_option maxRecDepth 100000
open Bool renaming noConfusion→Pf,false→B2,true→B4
open List renaming range→MX,replicate→Ji
open Option renaming none→B5,some→B1
open Nat renaming reduceEqDiff→bc
namespace Go.Am
open Go.Proofs Ca
variable{M:ak}[MK M]
structure Ba(H:ar)(mp:Nat)(lv:AV)(ws:List L8):Prop where
 row:H.get mp=B1 (OR [lv] _l)
 lt:mp<H.au
 ls:gW cD z7 8 H lv ws
 ne:mp≠aE lv
 le:ws.length<=64
section
variable{H:ar}{mp:Nat}{lv:AV}{ws:List L8}
def Ba.fr{H':ar}{W:Nat->Prop}(h:Ba H mp lv ws)(f:Fr W H H')(b:¬W mp)(c:¬W (aE lv)):Ba H' mp lv ws:=⟨by rw[f.ah _ h.lt b];exact h.row,qn h.lt f.au,h.ls.fr f c,h.ne,h.le⟩
def q5j(h:Ba H mp lv ws){n:Int}(f:0<=n)(g:n<ws.length):zb M V0 [.ptr mp 0,.int .i64 n] H λ v H'=>v=.tuple [.ptr (aE lv) (cK 8 lv n.toNat),.int .i64 0]/\H'=H:=by
 have hl:Op.ae [.ptr mp 0] H=B1 lv:=x9 (xb h.row) 0;have hn:=(h.ls.sl ye).len;have d:¬n<0:=by omega
 have e:¬((ws.length:Nat):Int)<=n:=by omega
 have c:ws[n.toNat]? = B1 (ws[n.toNat]'(by omega)):=(by grind)
 have ix:Op.aR 8 [lv,.int .i64 n]=B1 (.ptr (aE lv) (cK 8 lv n.toNat)):=(h.ls.sl ye).idx c (by omega) .i64;refine xcx ?_;obtain⟨w0,w2,b⟩:=xcy M ⟨B5,V0⟩;simp only[aa,bc,w0,w2,yp,d,qo,hl,hn,e,b,ix]
def _u(h:Ba H mp lv ws){n:Int}{w:L8}(e:0<=n)(hw:ws[n.toNat]? = B1 w):zb M XU [.ptr mp 0,.int .i64 n] H λ v H'=>v=.tuple [.agg (cD w),.int .i64 0]/\Fr Em H H':=by
 have g:=(qt.1 hw).1;refine q7p ?_;obtain⟨w0,w4,c⟩:=q7q M ⟨B5,XU⟩;obtain⟨H1,e1,b,-,d⟩:=bZ H (OR (cD .zero) z7);simp only[aa,bc,w0,lZ,<-e1];refine C3.q (q5j (h.fr b id id) e (by omega)) λ v k⟨j,f⟩=>?_;rw[j,f];have ld:Op.aq 8 [.ptr (aE lv) (cK 8 lv n.toNat)] H1=B1 (.agg (cD w)):=((h.fr b id id).ls.sl ye).aq ye (by decide) hw;have st:=fK d (ye _) (ye w) (ug w);have hg:(H1.set H.au (OR (cD w) z7)).get H.au=B1 (OR (cD w) z7):=xc ..;have ln:=eJ hg (ye w);simp only[aa,bc,xj,w4,c,qo,ld,st,ln];exact b.set (by omega) _
def Uy(h:Ba H mp lv ws){n:Int}(f:0<=n)(g:n<ws.length)(x:L8):zb M UX [.ptr mp 0,.int .i64 n,.agg (cD x)] H λ v H'=>v=.int .i64 0/\Ba H' mp lv (ws.set n.toNat x)/\Fr (On (aE lv)) H H':=by
 refine xaf ?_;obtain⟨w0,w4,c⟩:=xag M ⟨B5,UX⟩;obtain⟨H1,e1,d,-,e⟩:=bZ H (OR (cD x) z7);have hm:=h.fr d id id;simp only[aa,bc,w0,<-e1];refine C3.q (q5j hm f g) λ v o⟨k,j⟩=>?_;rw[k,j];have ln:=eJ e (ye x);have l:ws[n.toNat]? = B1 (ws[n.toNat]'(by omega)):=(by grind)
 have⟨p,st,m,b⟩:=hm.ls.Kc ye ug l x;simp only[aa,bc,xj,w4,ln,qo,st,c];exact⟨⟨by rw[b.ah _ hm.lt (λ q=>hm.ne q)];exact hm.row,qn hm.lt b.au,m,h.ne,by rw[ze];exact h.le⟩,(d.mono λ _ _ q=>q.elim).trans b λ _ q=>.inl q⟩
end
end Go.Am
namespace Go.Am
open Go.Proofs Ca
variable{M:ak}[MK M]
abbrev uB(s:Nat):AV:=.int .u8 (s:Int)
def NX{c:Int}(b:0<=c)(d:c<4):Op.bin .shl [.int .u8 1,.int .i64 c]=B1 (uB (2 ^ c.toNat)):=by
 rcases four b d with rfl|rfl|rfl|rfl<;>rfl
def Lc{s:Nat}(h:s<16):s=0\/s=1\/s=2\/s=3\/s=4\/s=5\/s=6\/s=7\/s=8\/s=9\/s=10\/s=11\/s=12\/s=13\/s=14\/s=15:=by omega
def WG{s:Nat}(hs:s<16){c:Int}(b:0<=c)(d:c<4):Op.bin .andNot [uB s,uB (2 ^ c.toNat)]=B1 (uB (cW s c)):=by
 rcases four b d with rfl|rfl|rfl|rfl<;>rcases Lc hs with rfl|rfl|rfl|rfl|rfl|rfl|rfl|rfl|rfl|rfl|rfl|rfl|rfl|rfl|rfl|rfl<;>rfl
def ω{s:Nat}(hs:s<16){c:Int}(b:0<=c)(d:c<4):Op.bin .or [uB s,uB (2 ^ c.toNat)]=B1 (uB (rI s c)):=by
 rcases four b d with rfl|rfl|rfl|rfl<;>rcases Lc hs with rfl|rfl|rfl|rfl|rfl|rfl|rfl|rfl|rfl|rfl|rfl|rfl|rfl|rfl|rfl|rfl<;>rfl
def xkq{s:Nat}(hs:s<16){c:Int}(b:0<=c)(d:c<4):Op.bin .and [uB s,uB (2 ^ c.toNat)]=B1 (uB (hb s c*2 ^ c.toNat)):=by
 rcases four b d with rfl|rfl|rfl|rfl<;>rcases Lc hs with rfl|rfl|rfl|rfl|rfl|rfl|rfl|rfl|rfl|rfl|rfl|rfl|rfl|rfl|rfl|rfl<;>rfl
def hC(p:De×AV):List AV:=.int .i64 p.1.ow::uB p.1.sh::(ao p.1.un ++ [.int .i64 p.1.ph,uB p.1.ask,p.2])
def A8(p:De×AV):(hC p).length=16:=by simp[hC,zf]
theorem Gj(p:De×AV):(hC p)[0]? = B1 (.int .i64 p.1.ow)/\(hC p)[1]? = B1 (uB p.1.sh)/\(hC p)[2]? = B1 (.int .i64 p.1.un.k)/\(hC p)[3]? = B1 (.int .i64 p.1.un.core)/\(hC p)[4]? = B1 (.int .i64 p.1.un.line)/\(hC p)[13]? = B1 (.int .i64 p.1.ph)/\(hC p)[14]? = B1 (uB p.1.ask)/\(hC p)[15]? = B1 p.2/\((hC p).drop 2).take 11=ao p.1.un:=by
 have⟨⟨ow,sh,⟨k,co,li,⟨d,b⟩⟩,ph,ask,wt⟩,a⟩:=p
 match d,b with
 |[_,_,_,_,_,_,_,_],_=>exact⟨rfl,rfl,rfl,rfl,rfl,rfl,rfl,rfl,rfl⟩
structure mT(H:ar)(D mp:Nat)(lv ev:AV)(N:Int)(ws:List L8)(xs:List (De×AV)):Prop where
 row:H.get D=B1 (OR [.ptr mp 0,.int .i64 N,ev] t8)
 lt:D<H.au
 me:Ba H mp lv ws
 es:gW hC Rk 16 H ev xs
 wt:∀(i:Nat)(x:De)(a:AV),xs[i]? = B1 (x,a)->Sk ao xm 11 H a x.wt
 d1:D≠mp/\D≠aE lv/\D≠aE ev/\mp≠aE ev/\aE lv≠aE ev
 d2:∀(i:Nat)(x:De)(a:AV),xs[i]? = B1 (x,a) -> ∀z,aM a z->z≠D/\z≠mp/\z≠aE lv/\z≠aE ev
 d3:∀(i j:Nat)(x y:De)(a b:AV),xs[i]? = B1 (x,a)->xs[j]? = B1 (y,b)->i≠j -> ∀z,aM a z -> ¬aM b z
 len:xs.length=ws.length
def mO(D mp:Nat)(lv ev:AV)(xs:List (De×AV)):Nat->Prop:=λ z=>z=D\/z=mp\/z=aE lv\/z=aE ev \/ ∃(i:Nat)(x:De)(a:AV),xs[i]? = B1 (x,a)/\aM a z
section
variable{H:ar}{D mp:Nat}{lv ev:AV}{N:Int}{ws:List L8}{xs:List (De×AV)}
def mT.fr{H':ar}{W:Nat->Prop}(h:mT H D mp lv ev N ws xs)(f:Fr W H H')(hw:∀z,W z -> ¬mO D mp lv ev xs z):mT H' D mp lv ev N ws xs :=
 ⟨by rw[f.ah _ h.lt (λ q=>hw _ q (.inl rfl))];exact h.row,qn h.lt f.au,h.me.fr f (λ q=>hw _ q (.inr (.inl rfl))) (λ q=>hw _ q (.inr (.inr (.inl rfl)))),h.es.fr f (λ q=>hw _ q (.inr (.inr (.inr (.inl rfl))))),λ i x a b=>(h.wt i x a b).fr f λ z c q=>hw z q (.inr (.inr (.inr (.inr ⟨i,x,a,b,c⟩)))),h.d1,h.d2,h.d3,h.len⟩
def mT.em{H':ar}(h:mT H D mp lv ev N ws xs)(f:Fr Em H H'):mT H' D mp lv ev N ws xs:=h.fr f λ _ q=>q.elim
def mT.low(h:mT H D mp lv ev N ws xs){z:Nat}(b:mO D mp lv ev xs z):z<H.au:=by
 rcases b with rfl|rfl|rfl|rfl|⟨i,x,a,c,b⟩
 .exact h.lt
 .exact h.me.lt
 .exact h.me.ls.lt
 .exact h.es.lt
 .exact (h.wt i x a c).lt z b
abbrev xA(ev:AV)(i:Nat):AV:=.ptr (aE ev) (cK 16 ev i)
def mT.ld(h:mT H D mp lv ev N ws xs){i:Nat}{p:De×AV}(b:xs[i]? = B1 p){k:Nat}(hk:k<16):Op.ae [.ptr (aE ev) (cK 16 ev i+k)] H=(hC p)[k]?:=(h.es.sl A8).ae A8 b hk
def mT.yH(h:mT H D mp lv ev N ws xs){i:Nat}{p:De×AV}(b:xs[i]? = B1 p):Op.ae [.ptr (aE ev) (cK 16 ev i)] H=B1 (.int .i64 p.1.ow):=((h.es.sl A8).ig A8 b (by decide)).trans (Gj p).1
def mT.ldU(h:mT H D mp lv ev N ws xs){i:Nat}{p:De×AV}(c:xs[i]? = B1 p):Op.aq 11 [.ptr (aE ev) (cK 16 ev i+2)] H=B1 (.agg (ao p.1.un)):=by
 have k:=h.es.sl A8;have⟨b,e,l,d⟩:=h.es;have hl:cK 16 ev i=i*16:=by grind [cK]
 have g:=(qt.1 c).1;have f:aE ev=b:=by rw[e];rfl
 rw[hl,f,rS (xb d) (by rw[FZ A8];omega)];have:((xs.flatMap hC).drop (i*16+2)).take 11=ao p.1.un:=by
  rw[<-(Gj p).2.2.2.2.2.2.2.2];apply yj;intro j;rw[N0,N0];split
  .rw [wh,wh,Ad,J0 A8 xs c (by omega)]
  .rfl
 rw[this]
theorem mT.put(h:mT H D mp lv ev N ws xs){i:Nat}{x y:De}{a:AV}(o:xs[i]? = B1 (x,a))(C:y.wt=x.wt){j n:Nat}{u:AV}(hu:u.cells.length=n)(ho:aL u.cells=B4)(A:j+n<=16)(E:hC (y,a)=(hC (x,a)).take j++u.cells++(hC (x,a)).drop (j+n)) :
 ∃H',Op.store n [.ptr (aE ev) (cK 16 ev i+j),u] H=B1 (.undef,H')/\mT H' D mp lv ev N ws (xs.set i (y,a))/\Fr (On (aE ev)) H H':=by
 have⟨H',s,r,f⟩:=h.es.zV A8 o hu ho A E;have F:=(qt.1 o).1;have⟨e1,e2,p,t,v⟩:=h.d1;have d:∀(k:Nat)(z:De)(b:AV),(xs.set i (y,a))[k]? = B1 (z,b) -> ∃e,xs[k]? = B1 (e,b)/\e.wt=z.wt:=λ k z b hk=>by
  grind
 refine⟨H',s,⟨by rw[f.ah _ h.lt (λ q=>p q)];exact h.row,qn h.lt f.au,h.me.fr f (λ q=>t q) (λ q=>v q),r,λ k z b hk=>?_,h.d1,λ k z b hk=>?_,λ k l z w b c hk m=>?_,by rw[ze];exact h.len⟩,f⟩
 .have ⟨e,g,hw⟩:=d k z b hk;rw[<-hw];exact(h.wt k e b g).fr f λ q B w=>(h.d2 k e b g q B).2.2.2 w
 .obtain ⟨e,g,-⟩:=d k z b hk;exact h.d2 k e b g
 .obtain ⟨e,g,-⟩:=d k z b hk;obtain⟨w',hw,-⟩:=d l w c m;exact h.d3 k l e w' b c g hw
def mT.wait(h:mT H D mp lv ev N ws xs){i:Nat}{x:De}{a g:AV}{ys:List Mg}{H1:ar}(A:xs[i]? = B1 (x,a))(hs:Sk ao xm 11 H1 g ys)(f:Fr (aM a) H H1)(B:∀z,aM g z->aM a z\/H.au<=z)(O:aD g=B4) :
 ∃H',Op.store 1 [.ptr (aE ev) (cK 16 ev i+15),g] H1=B1 (.undef,H')/\mT H' D mp lv ev N ws (xs.set i ({x with wt:=ys},g))/\Fr (mO D mp lv ev xs) H H'/\Fr (On (aE ev)) H1 H':=by
 have C:=(qt.1 A).1;have⟨e1,e2,J,K,L⟩:=h.d1;have I:=h.d2 i x a A;have E:gW hC Rk 16 H1 ev xs:=h.es.fr f λ q=>(by grind)
 have P:g.cells=[g]:=by cases g<;>first|rfl|cases O
 have⟨H',s,r,m⟩:=E.zV (y:=({x with wt:=ys},g)) A8 A (j:=15) (n:=1) (u:=g) (by grind) (by grind [vd]) (by decide) (by
  rw[P];have⟨ow,sh,⟨k,co,li,⟨d,Q⟩⟩,ph,ask,wt⟩:=x
  match d,Q with
  |[_,_,_,_,_,_,_,_],_=>rfl)
 have F:Fr (mO D mp lv ev xs) H H':=(f.mono λ z _ G=>(.inr (.inr (.inr (.inr ⟨i,x,a,A,G⟩))):mO D mp lv ev xs z)).trans m λ z(q:z=aE ev)=>.inl (.inr (.inr (.inr (.inl q))));have R:=h.es.lt;refine⟨H',s,⟨?_,?_,?_,r,λ k z b hk=>?_,h.d1,λ k z b hk q v=>?_,λ k l z w b c hk e t q v=>?_,by rw[ze];exact h.len⟩,F,m⟩
 .rw [m.ah _ (qn h.lt f.au) (λ q=>J q),f.ah _ h.lt (by grind)];exact h.row
 .exact qn (qn h.lt f.au) m.au
 .exact (h.me.fr f (by grind) (by grind)).fr m (λ q=>K q) (λ q=>L q)
 .by_cases q:k=i
  .subst q;rw[zk C]at hk;injection hk with hk;injection hk with o p
   subst o p;refine hs.fr m λ z G w=>?_;rcases B z G with q|q
   .exact (I z q).2.2.2 w
   .have w:z=aE ev:=w;omega
  .rw [zq (rT q)]at hk;refine((h.wt k z b hk).fr f λ u hu w=>h.d3 k i z x b a hk A q u hu w).fr m λ u hu w=>(h.d2 k z b hk u hu).2.2.2 w
 .by_cases w:k=i
  .subst w;rw[zk C]at hk;injection hk with hk;injection hk with o p
   subst o p;rcases B q v with w|w
   .grind
   .have T:=h.lt;have U:=h.me.lt;have V:=h.me.ls.lt;omega
  .rw [zq (rT w)]at hk;exact h.d2 k z b hk q v
 .by_cases w1:k=i
  .subst w1;rw[zk C]at hk;rw[zq t]at e;injection hk with hk;injection hk with o p
   subst o p;rcases B q v with w|w
   .exact h.d3 k l x _ a c A e t q w
   .intro w2;have:=(h.wt l _ c e).lt q w2;omega
  .rw [zq (rT w1)]at hk
   by_cases w2:l=i
   .subst w2;rw[zk C]at e;injection e with e;injection e with o p
    subst o p;intro S;rcases B q S with w|w
    .exact h.d3 k l z x b a hk A w1 q v w
    .have:=(h.wt k z b hk).lt q v;omega
   .rw [zq (rT w2)]at e;exact h.d3 k l z _ b c hk e t q v
end
end Go.Am
namespace Go.Am
open Go.Proofs Ca
variable{M:ak}[MK M]
structure dX(H:ar)(D mp:Nat)(lv ev:AV)(N:Int)(ws:List L8)(xs:List (De×AV))(i:Nat)(x:De)(a:AV):Prop where
 il:i<xs.length
 d:mT H D mp lv ev N ws (xs.set i (x,a))
section
variable{H:ar}{D mp:Nat}{lv ev:AV}{N:Int}{ws:List L8}{xs:List (De×AV)}{i:Nat}{x:De}{a:AV}
def dX.of(h:mT H D mp lv ev N ws xs)(b:xs[i]? = B1 (x,a)):dX H D mp lv ev N ws xs i x a:=by
 refine⟨(qt.1 b).1,?_⟩;have:xs.set i (x,a)=xs:=by
  apply yj
  grind
 grind
def dX.here(h:dX H D mp lv ev N ws xs i x a):(xs.set i (x,a))[i]? = B1 (x,a):=zk h.il
def dX.em{H':ar}(h:dX H D mp lv ev N ws xs i x a)(f:Fr Em H H'):dX H' D mp lv ev N ws xs i x a:=⟨h.il,h.d.em f⟩
def dX.l0(h:dX H D mp lv ev N ws xs i x a):Op.ae [.ptr (aE ev) (cK 16 ev i)] H=B1 (.int .i64 x.ow):=h.d.yH h.here
def dX.l1(h:dX H D mp lv ev N ws xs i x a):Op.ae [.ptr (aE ev) (cK 16 ev i+1)] H=B1 (uB x.sh):=(h.d.ld h.here (by decide)).trans (Gj (x,a)).2.1
def dX.l2(h:dX H D mp lv ev N ws xs i x a):Op.ae [.ptr (aE ev) (cK 16 ev i+2)] H=B1 (.int .i64 x.un.k):=(h.d.ld h.here (by decide)).trans (Gj (x,a)).2.2.1
def dX.l3(h:dX H D mp lv ev N ws xs i x a):Op.ae [.ptr (aE ev) (cK 16 ev i+2+1)] H=B1 (.int .i64 x.un.core):=(h.d.ld h.here (k:=3) (by decide)).trans (by grind [Gj])
def dX.l4(h:dX H D mp lv ev N ws xs i x a):Op.ae [.ptr (aE ev) (cK 16 ev i+2+2)] H=B1 (.int .i64 x.un.line):=(h.d.ld h.here (k:=4) (by decide)).trans (by grind [Gj])
def dX.rU(h:dX H D mp lv ev N ws xs i x a):Op.ae [.ptr (aE ev) (cK 16 ev i+13)] H=B1 (.int .i64 x.ph):=(h.d.ld h.here (by decide)).trans (by grind [Gj])
def dX.vN(h:dX H D mp lv ev N ws xs i x a):Op.ae [.ptr (aE ev) (cK 16 ev i+14)] H=B1 (uB x.ask):=(h.d.ld h.here (by decide)).trans (by grind [Gj])
def dX.jG(h:dX H D mp lv ev N ws xs i x a):Op.ae [.ptr (aE ev) (cK 16 ev i+15)] H=B1 a:=(h.d.ld h.here (by decide)).trans (by grind [Gj])
def dX.lU(h:dX H D mp lv ev N ws xs i x a):Op.aq 11 [.ptr (aE ev) (cK 16 ev i+2)] H=B1 (.agg (ao x.un)):=h.d.ldU h.here
theorem dX.put(h:dX H D mp lv ev N ws xs i x a){y:De}(b:y.wt=x.wt){j n:Nat}{u:AV}(hu:u.cells.length=n)(ho:aL u.cells=B4)(c:j+n<=16)(e:hC (y,a)=(hC (x,a)).take j++u.cells++(hC (x,a)).drop (j+n)) :
 ∃H',Op.store n [.ptr (aE ev) (cK 16 ev i+j),u] H=B1 (.undef,H')/\dX H' D mp lv ev N ws xs i y a/\Fr (On (aE ev)) H H':=by
 have⟨H',s,r,f⟩:=h.d.put h.here b hu ho c e;rw[List.set_set]at r;exact⟨H',s,⟨h.il,r⟩,f⟩
def dX.s0(h:dX H D mp lv ev N ws xs i x a)(k:Int):∃H',Op.store 1 [.ptr (aE ev) (cK 16 ev i),.int .i64 k] H=B1 (.undef,H')/\dX H' D mp lv ev N ws xs i {x with ow:=k} a/\Fr (On (aE ev)) H H' :=
 h.put (y:={x with ow:=k}) (j:=0) (n:=1) (u:=.int .i64 k) rfl rfl rfl (by decide) rfl
def dX.s1(h:dX H D mp lv ev N ws xs i x a)(k:Nat):∃H',Op.store 1 [.ptr (aE ev) (cK 16 ev i+1),uB k] H=B1 (.undef,H')/\dX H' D mp lv ev N ws xs i {x with sh:=k} a/\Fr (On (aE ev)) H H' :=
 h.put (y:={x with sh:=k}) (j:=1) (n:=1) (u:=uB k) rfl rfl rfl (by decide) rfl
def dX.sU(h:dX H D mp lv ev N ws xs i x a)(m:Mg):∃H',Op.store 11 [.ptr (aE ev) (cK 16 ev i+2),.agg (ao m)] H=B1 (.undef,H')/\dX H' D mp lv ev N ws xs i {x with un:=m} a/\Fr (On (aE ev)) H H':=by
 refine h.put (y:={x with un:=m}) (j:=2) (n:=11) (u:=.agg (ao m)) rfl (by grind [zo,zf]) (by grind [zo,rh]) (by decide) ?_;rw[zo];have⟨ow,sh,⟨k,co,li,⟨d,b⟩⟩,ph,ask,wt⟩:=x
 match d,b with
 |[_,_,_,_,_,_,_,_],_=>rfl
def dX.OD(h:dX H D mp lv ev N ws xs i x a)(k:Int):∃H',Op.store 1 [.ptr (aE ev) (cK 16 ev i+13),.int .i64 k] H=B1 (.undef,H')/\dX H' D mp lv ev N ws xs i {x with ph:=k} a/\Fr (On (aE ev)) H H':=by
 refine h.put (y:={x with ph:=k}) (j:=13) (n:=1) (u:=.int .i64 k) rfl rfl rfl (by decide) ?_;have⟨ow,sh,⟨k,co,li,⟨d,b⟩⟩,ph,ask,wt⟩:=x
 match d,b with
 |[_,_,_,_,_,_,_,_],_=>rfl
def dX.TR(h:dX H D mp lv ev N ws xs i x a)(k:Nat):∃H',Op.store 1 [.ptr (aE ev) (cK 16 ev i+14),uB k] H=B1 (.undef,H')/\dX H' D mp lv ev N ws xs i {x with ask:=k} a/\Fr (On (aE ev)) H H':=by
 refine h.put (y:={x with ask:=k}) (j:=14) (n:=1) (u:=uB k) rfl rfl rfl (by decide) ?_;have⟨ow,sh,⟨k,co,li,⟨d,b⟩⟩,ph,ask,wt⟩:=x
 match d,b with
 |[_,_,_,_,_,_,_,_],_=>rfl
def bdG(co l:Int)(d:L8):Op.build (ao ⟨0,0,0,.zero⟩) [(0,1),(1,1),(2,1),(3,8)] [.int .i64 14,.int .i64 co,.int .i64 l,.agg (cD d)]=B1 (.agg (ao ⟨14,co,l,d⟩)):=by
 have⟨d,b⟩:=d
 match d,b with
 |[_,_,_,_,_,_,_,_],_=>rfl
def dX.Xz(h:dX H D mp lv ev N ws xs i x a):∃H',Op.store 1 [.ptr (aE ev) (cK 16 ev i+14),.int .u8 0] H=B1 (.undef,H')/\dX H' D mp lv ev N ws xs i {x with ask:=0} a/\Fr (On (aE ev)) H H':=h.TR 0
def dX.s1z(h:dX H D mp lv ev N ws xs i x a):∃H',Op.store 1 [.ptr (aE ev) (cK 16 ev i+1),.int .u8 0] H=B1 (.undef,H')/\dX H' D mp lv ev N ws xs i {x with sh:=0} a/\Fr (On (aE ev)) H H':=h.s1 0
abbrev Lo(H:ar):Nat->Prop:=λ z=>H.au<=z
def dX.loc{g:De}{H1 e:ar}(h:dX H D mp lv ev N ws xs i x a)(c:dX H1 D mp lv ev N ws xs i g a)(f:Fr (Lo H) H1 e):dX e D mp lv ev N ws xs i g a:=by
 refine⟨c.il,c.d.fr f λ z j q=>?_⟩;have:mO D mp lv ev (xs.set i (x,a)) z:=by
  rcases q with q|q|q|q|⟨k,y,b,hk,q⟩
  .exact .inl q
  .exact .inr (.inl q)
  .exact .inr (.inr (.inl q))
  .exact .inr (.inr (.inr (.inl q)))
  .by_cases w:k=i
   .subst w;rw[c.here]at hk;injection hk with hk;injection hk with _ hk;subst hk
    exact .inr (.inr (.inr (.inr ⟨k,x,a,h.here,q⟩)))
   .rw [zq (rT w)]at hk;exact .inr (.inr (.inr (.inr ⟨k,y,b,by grind,q⟩)))
 have:=h.d.low this;omega
def _i(h:dX H D mp lv ev N ws xs i x a){w:L8}(hw:ws[x.un.line.toNat]? = B1 w)(hl:0<=x.un.line)(hs:x.sh<16)(c0:0<=x.un.core)(c1:x.un.core<4) :
 zb M RZ [.ptr D 0,xA ev i] H λ v H'=>v=.agg (ao (x.eh w).2)/\dX H' D mp lv ev N ws xs i (x.eh w).1 a/\Fr (On (aE ev)) H H':=by
 refine q4a ?_;obtain⟨w0,w4,w8,w18⟩:=q4b M ⟨B5,RZ⟩;have⟨H1,e1,f1,n1,g1⟩:=bZ H (OR (ao ⟨0,0,0,.zero⟩) xm);have⟨H2,s2,h2,L⟩:=(h.em f1).OD 4;have⟨E,s3,A,O⟩:=h2.Xz;have yH:Op.ae [.ptr D 0] E=B1 (.ptr mp 0):=x9 (xb A.d.row) 0;have hev:=h.d.es.lt;have nb:¬H.au=aE ev:=by omega
 have m2:=L.au;have m3:=O.au;have g3:E.get H.au=B1 (OR (ao ⟨0,0,0,.zero⟩) xm):=by rw[O.ah _ (by omega) nb,L.ah _ (by omega) nb];exact g1
 simp only[aa,bc,w0,mZ,<-e1,qo,s2,s3,w4,yH,A.l4];refine C3.q (_u A.d.me hl hw) λ v F⟨hv,f4⟩=>?_;rw[hv];obtain⟨H5,e5,P,-,g5⟩:=bZ F (OR (cD .zero) z7);have B:=fK g5 (ye _) (ye w) (ug w);obtain⟨b,J⟩:∃X,X=H5.set F.au (OR (cD w) z7):=⟨_,rfl⟩
 rw[<-J]at B;have g6:b.get F.au=B1 (OR (cD w) z7):=by rw[J,xc]
 have Q:Fr Em F b:=by rw[J];exact P.set (by omega) _
 have f:Fr Em E b:=f4.trans Q λ _ q=>q.elim;have h6:=A.em f;have l5:=eJ g6 (ye w);obtain⟨H7,e7,R,-,g7⟩:=bZ b (OR (ao ⟨0,0,0,.zero⟩) xm);have C:=fK g7 (zf _) (zf ⟨14,x.un.core,x.un.line,w⟩) (rh _);obtain⟨l,K⟩:∃X,X=H7.set b.au (OR (ao ⟨14,x.un.core,x.un.line,w⟩) xm):=⟨_,rfl⟩
 rw[<-K]at C;have g8:l.get b.au=B1 (OR (ao ⟨14,x.un.core,x.un.line,w⟩) xm):=by rw[K,xc]
 have u:Fr Em b l:=by rw[K];exact R.set (by omega) _
 have g:Fr Em E l:=f.trans u λ _ q=>q.elim;have s:=A.em g;have m36:=f.au;have m68:=u.au;have z:l.get H.au=B1 (OR (ao ⟨0,0,0,.zero⟩) xm):=by rw[g.ah _ (by omega) id];exact g3
 have n8:b.au<l.au:=by grind [t9,xy]
 have t:Fr (On (aE ev)) H l:=(((f1.mono λ _ _ q=>q.elim).trans L λ _ q=>.inl q).trans O λ _ q=>.inl q).trans g λ _ q=>q.elim;simp only[aa,bc,xj,lZ,<-e5,B,qo,h6.l3,h6.l4,l5,bdG,<-e7,C,w8,s.l2];have fin:∀{c:ar}{y:De}{m:Mg},dX c D mp lv ev N ws xs i y a->Fr (On (aE ev)) H c->c.get H.au=B1 (OR (ao ⟨0,0,0,.zero⟩) xm)->H.au<c.au -> ∃r,Op.store 11 [.ptr H.au 0,.agg (ao m)] c=B1 (.undef,r)/\Op.aq 11 [.ptr H.au 0] r=B1 (.agg (ao m))/\dX r D mp lv ev N ws xs i y a/\Fr (On (aE ev)) H r:=λ{c y m}a1 a2 a3 a4=>by
  have st:=fK a3 (zf _) (zf m) (rh m);refine⟨_,st,eJ (xc ..) (zf m),h.loc a1 ((Fr.refl c).set (W:=Lo H) (by omega) _),a2.set (by omega) _⟩
 have j:¬b.au=aE ev:=by omega
 unfold De.eh
 by_cases I:x.un.k=1
 .rw [xg I];have sh1:=NX c0 c1;have Z:=ω hs c0 c1;have⟨c,Y,T,e⟩:=s.s1 (rI x.sh x.un.core);have m9:=e.au;have l9:Op.aq 11 [.ptr b.au 0] c=B1 (.agg (ao ⟨14,x.un.core,x.un.line,w⟩)):=eJ (by rw[e.ah _ n8 j];exact g8) (zf _);have⟨r,sx,U,hx,fx⟩:=fin (m:=⟨14,x.un.core,x.un.line,w⟩) T (t.trans e λ _ q=>.inl q) (by rw[e.ah _ (by omega) nb];exact z) (by omega);simp only[aa,bc,qv I,s.l1,s.l3,qo,sh1,Z,Y,l9,sx,U]
  grind
 .rw [qy I];have⟨c,Y,T,e⟩:=s.s0 x.un.core;have⟨p,Z,ha,fa⟩:=T.s1z;have m9:=e.au;have ma:=fa.au;have ga:p.get b.au=B1 (OR (ao ⟨14,x.un.core,x.un.line,w⟩) xm):=by rw[fa.ah _ (by omega) j,e.ah _ n8 j];exact g8
  have sb:Op.store 1 [.ptr b.au 0,.int .i64 15] p=B1 (.undef,p.set b.au (OR (ao ⟨15,x.un.core,x.un.line,w⟩) xm)):=xK (v:=.int .i64 15) ga (o:=0) (n:=1) rfl (by rw[zf];decide) rfl;obtain⟨Hb,G⟩:∃X,X=p.set b.au (OR (ao ⟨15,x.un.core,x.un.line,w⟩) xm):=⟨_,rfl⟩
  rw[<-G]at sb;have S:Fr (Lo H) p Hb:=by rw[G];exact(Fr.refl p).set (W:=Lo H) (by omega) _
  have lb:Op.aq 11 [.ptr b.au 0] Hb=B1 (.agg (ao ⟨15,x.un.core,x.un.line,w⟩)):=eJ (by rw[G,xc]) (zf _);have hb:=h.loc ha S;have V:¬b.au=H.au:=by omega
  have gb:Hb.get H.au=B1 (OR (ao ⟨0,0,0,.zero⟩) xm):=by rw[G,yd V,fa.ah _ (by omega) nb,e.ah _ (by omega) nb];exact z
  have⟨r,sx,U,hx,fx⟩:=fin (m:=⟨15,x.un.core,x.un.line,w⟩) hb (((t.trans e λ _ q=>.inl q).trans fa λ _ q=>.inl q).trans S λ _ q=>.inr q) gb (by have:=S.au;omega);simp only[aa,bc,I,w18,s.l3,qo,Y,Z,sb,lb,sx,U]
  grind
end
end Go.Am
namespace Go.Am
open Go.Proofs Ca
variable{M:ak}[MK M]
section
variable{H:ar}{D mp:Nat}{lv ev:AV}{N:Int}{ws:List L8}{xs:List (De×AV)}{i:Nat}{x:De}{a:AV}
def af3(h:mT H D mp lv ev N ws xs){n:Int}(f:0<=n)(g:n<xs.length):zb M U5 [.ptr D 0,.int .i64 n] H λ v H'=>v=xA ev n.toNat/\H'=H:=by
 have hl:Op.ae [.ptr D 2] H=B1 ev:=x9 (xb h.row) 2;have hn:=(h.es.sl A8).len;have d:¬n<0:=by omega
 have e:¬((xs.length:Nat):Int)<=n:=by omega
 have c:xs[n.toNat]? = B1 (xs[n.toNat]'(by omega)):=(by grind)
 have ix:Op.aR 16 [ev,.int .i64 n]=B1 (.ptr (aE ev) (cK 16 ev n.toNat)):=(h.es.sl A8).idx c (by omega) .i64;refine xbx ?_;obtain⟨w0,w2,b⟩:=xby M ⟨B5,U5⟩;simp only[aa,bc,w0,w2,yp,d,qo,hl,hn,e,b,ix]
end
def lC(s:Nat):List Nat:=(MX 4).filter λ(k:Nat)=>hb s (k:Int) == 1
def MI(s:Nat):xP s=(lC s).map λ(k:Nat)=>(k:Int):=by
 unfold xP lC;have e:([0,1,2,3]:List Int)=(MX 4).map λ(k:Nat)=>(k:Int):=rfl;rw[e,List.filter_map];rfl
def xie{H0:ar}{p s:Nat}(hp:H0.get p=B1 (OR [uB s] Zn))(hpl:p<H0.au)(hs:s<16) :
 qQ M O4 [] [.ptr p 0] (λ x=>x=p) (λ _=>False) H0 ((lC s).map λ(k:Nat)=>[AV.int .i64 (k:Int)]):=by
 intro Y R S l H1 X P B Q loc L step;have⟨p1,p2,p3⟩:=P p (.inl rfl)
 suffices h:zb M O4 [.fn (.yield Y) [] [],.ptr p 0] H1 (I4 R S l (λ _=>False) H1 ((lC s).map λ(k:Nat)=>[AV.int .i64 (k:Int)]).length)by
  have⟨v,H',hc,W',g,q2,q3⟩:=h.elim
  grind
 refine qvs ?_;obtain⟨w0,w4,y,z⟩:=qvt M ⟨B5,O4⟩;have lp:∀{j:ar},Fr l H1 j->Op.ae [.ptr p 0] j=B1 (uB s):=λ f=>by rw[x9 (xb (by rw[f.ah _ (by omega) p3,p2];exact hp))];rfl
 simp only[aa,bc,w0];refine cu.intro (λ n E j=>∃(i:Nat)(V:Nat->Prop),E=[(4,.int .i64 (i:Int)),(0,.fn (.yield Y) [] []),(1,.ptr p 0)]/\n=4-i/\i<=4/\LH R l H1 j ((MX i).filter λ(k:Nat)=>hb s (k:Int) == 1).length V) ?_ ?_
 .exact ⟨_,_,⟨0,l,rfl,rfl,xw _,⟨B,λ b hb=>(by grind),Fr.refl _⟩⟩,by simp only[aa,bc]⟩
 rintro n E j ⟨i,V,rfl,rfl,hi,d⟩;rcases xz i 4 with W|T
 .have g:(i:Int)<4:=by omega
  have sh:=NX (c:=(i:Int)) (by omega) g;have ha:=xkq hs (c:=(i:Int)) (by omega) g;have O:aj .i64 ((i:Int)+1)=((i+1:Nat):Int):=by grind [jc]
  have K:=P0 (λ(k:Nat)=>hb s (k:Int) == 1) i;have hle:=JS s (i:Int)
  by_cases J:hb s (i:Int)=1
  .have u:((MX (i+1)).filter λ(k:Nat)=>hb s (k:Int) == 1).length=((MX i).filter λ(k:Nat)=>hb s (k:Int) == 1).length+1:=by rw[K];simp[J]
   have hg:((lC s).map λ(k:Nat)=>[AV.int .i64 (k:Int)])[((MX i).filter λ(k:Nat)=>hb s (k:Int) == 1).length]? = B1 [.int .i64 (i:Int)]:=by
    grind [lC,VJ]
   have Z:0<2 ^ (i:Int).toNat:=(by grind)
   have G:¬(((hb s (i:Int)*2 ^ (i:Int).toNat:Nat)):Int)=0:=by rw[J,Nat.one_mul];omega
   have⟨bb,I,A,hr,C,r,ht,F⟩:=step _ _ hg V j d.hR d.hV (d.fr.mono λ _ _ q=>.inl q);have m:Fr l H1 I:=d.fr.trans C λ b q=>(d.hV b q).2;have o:∀b,A b->b<I.au/\(l b\/H1.au<=b):=λ b q=>⟨(r b q).1,(r b q).2.elim (λ w=>(d.hV b w).2) λ w=>.inr (xx d.fr.au w)⟩
   simp only[aa,bc,w4,g,y,lp d.fr,sh,ha,G];refine C3.uZ hr ?_;cases bb with
   |true =>
    simp only[aa,bc,z,O];exact⟨_,_,⟨i+1,A,rfl,rfl,by omega,⟨by grind,o,m⟩⟩,by simp only[aa,bc],by omega⟩
   |false =>
    simp only[aa,bc];exact⟨A,m.mono λ _ _ q=>.inl q,o,.inr (F rfl)⟩
  .have t:hb s (i:Int)=0:=by omega
   have u:((MX (i+1)).filter λ(k:Nat)=>hb s (k:Int) == 1).length=((MX i).filter λ(k:Nat)=>hb s (k:Int) == 1).length:=by rw[K];simp[t]
   have G:(((hb s (i:Int)*2 ^ (i:Int).toNat:Nat)):Int)=0:=by rw[t,AN];rfl
   simp only[aa,bc,w4,g,y,lp d.fr,sh,ha,qv G,z,O];exact⟨_,_,⟨i+1,V,rfl,rfl,by omega,by rw[u];exact d⟩,by simp only[aa,bc],by omega⟩
 .have g:¬(i:Int)<4:=by omega
  have U:i=4:=by omega
  simp only[aa,bc,w4,g];refine⟨V,d.fr.mono λ _ _ q=>.inl q,d.hV,.inl ?_⟩;have e:((lC s).map λ(k:Nat)=>[AV.int .i64 (k:Int)]).length=((MX i).filter λ(k:Nat)=>hb s (k:Int) == 1).length:=by grind [lC]
  rw[e];exact d.hR
def xlf{H:ar}(s:Nat):zb M l_ [uB s] H λ v H'=>v=.fn (.func O4) [] [.ptr H.au 0]/\H'=H.alloc (OR [uB s] Zn):=by
 refine q0b ?_;simp_all[aa,q0c]
end Go.Am
namespace Go.Am
open Go.Proofs Ca
variable{M:ak}[MK M]
abbrev CB(t:Nat):AV:=.fn (.func Sw) [] [.ptr t 0]
def U2{H:ar}{t:Nat}{c:Int}(w:Mg)(hl:∀{d:ar},Fr Em H d->Op.ae [.ptr t 1] d=B1 (.int .i64 c)):zb M Sw [.agg (ao w),.ptr t 0] H λ r H'=>r=.bool (decide (w.core=c))/\Fr Em H H':=by
 refine qxo ?_;obtain⟨H1,e1,b,-,e⟩:=bZ H (OR (ao w) xm);have l1:Op.ae [.ptr H.au 1] H1=B1 (.int .i64 w.core):=x9 (xb e) 1
 by_cases q:w.core=c
 .simp only[aa,bc,qnm,<-e1,l1,hl b,qv q];exact b
 .simp only[aa,bc,qnm,<-e1,l1,hl b,q];exact b
def xe4{H:ar}{v:AV}{ms:List Mg}{t:Nat}{c:Int}(h:bI ao 11 H v ms)(hk:ms.length<=1000000)(hl:∀{d:ar},Fr Em H d->Op.ae [.ptr t 1] d=B1 (.int .i64 c)) :
 zb M Yx [v,CB t] H λ r H'=>(∃z:Int,r=.int .i64 z/\(0<=z↔ ∃w∈ms,w.core=c))/\Fr Em H H':=by
 refine qlr ?_;obtain⟨w0,w2,u,A,p,s⟩:=qls M ⟨B5,Yx⟩;simp only[aa,bc,w0,w2,h.len];refine cu.intro (λ n E d=>∃i:Nat,E=[(8,.int .i64 (i:Int)),(7,.int .i64 ((ms.length:Nat):Int)),(0,v),(1,CB t)]/\n=ms.length-i/\i<=ms.length/\Fr Em H d /\ ∀k w,k<i->ms[k]? = B1 w->w.core≠c) ?_ ?_
 .exact ⟨_,_,⟨0,rfl,rfl,xw _,Fr.refl _,λ k w hk=>by omega⟩,by simp only[aa,bc]⟩
 rintro n E d ⟨i,rfl,rfl,F,b,l⟩;rcases xz i ms.length with j|B
 .have o:(i:Int)<((ms.length:Nat):Int):=by omega
  have m:=xf j;have ix:=(h.em b).idx m (z:=(i:Int)) rfl .i64;have ld:=(h.em b).aq zf (by decide) m;have C:aj .i64 ((i:Int)+1)=((i+1:Nat):Int):=by rw[jc (by omega) (by omega)];omega
  simp only[aa,bc,A,o,p,ix,ld];refine C3.q (U2 (ms[i]) (λ f=>hl (b.trans f λ _ q=>q.elim))) λ r H1⟨hr,y⟩=>?_;rw[hr]
  by_cases q:(ms[i]).core=c
  .simp only[aa,bc,qv q];exact⟨⟨_,rfl,λ _=>⟨_,List.getElem_mem j,q⟩,λ _=>by omega⟩,b.trans y λ _ q=>q.elim⟩
  .simp only[aa,bc,q,s,C];refine⟨_,_,⟨i+1,rfl,rfl,by omega,b.trans y λ _ q=>q.elim,λ k w hk hw=>?_⟩,by simp only[aa,bc],by omega⟩
   by_cases e:k=i
   .rw [e,m]at hw;injection hw with hw;rw[<-hw];exact q
   .exact l k w (by omega) hw
 .have o:¬(i:Int)<((ms.length:Nat):Int):=by omega
  simp only[aa,bc,A,o,u];refine⟨⟨_,rfl,λ q=>absurd q (by decide),λ⟨w,hw,hc⟩=>?_⟩,b⟩;have⟨k,g⟩:=LY hw;exact absurd hc (l k w (by have:=(qt.1 g).1;omega) g)
def qtd{H:ar}{v:AV}{ms:List Mg}{t:Nat}{c:Int}(h:bI ao 11 H v ms)(hk:ms.length<=1000000)(hl:∀{b:ar},Fr Em H b->Op.ae [.ptr t 1] b=B1 (.int .i64 c)) :
 zb M _Q [v,CB t] H λ r H'=>r=.bool (decide (∃w∈ms,w.core=c))/\Fr Em H H':=by
 refine qjt ?_;simp only[aa,bc,qju];refine C3.q (xe4 h hk hl) λ r H1⟨⟨z,hr,e⟩,d⟩=>?_;rw[hr];simp only[aa,bc]
 by_cases q:0<=z
 .simp only[q,e.1 q,decide_true,FO];exact d
 .have f:¬ ∃w∈ms,w.core=c:=λ w=>q (e.2 w);simp only[q,f,JJ,FO];exact d
section
variable{H:ar}{D mp:Nat}{lv ev:AV}{N:Int}{ws:List L8}{xs:List (De×AV)}{i:Nat}{x:De}{a:AV}
def xla(h:dX H D mp lv ev N ws xs i x a)(m:Mg)(c0:0<=m.core)(c1:m.core<4)(ha:x.ask<16)(hw:x.wt.length<=1000000):zb M JG [xA ev i,.agg (ao m)] H λ v H'=>v=.bool (decide (x.may m))/\Fr Em H H':=by
 refine q4c ?_;obtain⟨w0,w4,w51,F,G,w26,w38⟩:=q4d M ⟨B5,JG⟩;have⟨H1,e1,f1,n1,g1⟩:=bZ H (OR (ao m) xm);have lm:∀{p:ar}(k:Nat),Fr Em H1 p->Op.ae [.ptr H.au k] p=(ao m)[k]?:=λ k f=>x9 (xb (by rw[f.ah _ (by omega) id];exact g1)) k;have l0:Op.ae [.ptr H.au 0] H1=B1 (.int .i64 m.k):=lm 0 (Fr.refl _);have l1:∀{p:ar},Fr Em H1 p->Op.ae [.ptr H.au 1] p=B1 (.int .i64 m.core):=λ f=>lm 1 f;have l:=l1 (Fr.refl H1);have mk:Op.bK Sw 0 [.ptr H.au 0]=B1 (CB H.au):=rfl;have c:=h.em f1;have C:=NX c0 c1;have X:=xkq ha c0 c1;have hle:=JS x.ask m.core;have hp0:0<2 ^ m.core.toNat:=Nat.pos_of_ne_zero (by simp);have fin:∀{b:Bool}{p:ar},(b=B4↔x.may m)->Fr Em H1 p->(AV.bool b=.bool (decide (x.may m))/\Fr Em H p):=λ{b p}e f=>by
  refine⟨?_,f1.trans f λ _ q=>q.elim⟩;congr 1;cases b with
  |true=>exact(ke (e.1 rfl)).symm
  |false=>exact(ju λ w=>by cases e.2 w).symm
 have n:=Fr.refl (W:=Em) H1;simp only[aa,bc,w0,<-e1,w4,l0]
 by_cases B:m.k=1\/m.k=2
 .have hm:x.may m↔ ¬(x.ph≠0/\x.ph≠4/\x.un.core=m.core)/\(x.ow≠m.core\/x.ph=2) /\ ¬ ∃w∈x.wt,w.core=m.core:=by unfold De.may De.own;rw[xg B]
  have key:∀{E:Env},lk E 10=B1 (.bool B4)->lk E 0=B1 (xA ev i)->lk E 3=B1 (.ptr H.au 0)->lk E 5=B1 (CB H.au)->W M ⟨B5,JG⟩ (SI 14) B4 (fj 0 (fq (W M ⟨B5,JG⟩ (SI 51)) (eS M [.tmp 4] (tq λ v H'=>v=.bool (decide (x.may m))/\Fr Em H H')))) E [] H1:=by
   intro E I O Z b5
   -- the rest,once it is known whether one is under way
   have rest:∀{p:ar}(u:Bool),Fr Em H1 p->(u=B4↔(x.ph≠0/\x.ph≠4/\x.un.core=m.core))->W M ⟨B5,JG⟩ (SI 17) B4 (fj 0 (fq (W M ⟨B5,JG⟩ (SI 51)) (eS M [.tmp 4] (tq λ v H'=>v=.bool (decide (x.may m))/\Fr Em H H')))) ((6,.bool u)::E) [] p:=by
    intro p u t hu;have y:=c.em t;have T:=y.d.wt i x a y.here;cases u with
    |true =>
     simp only[aa,bc,G];exact fin ⟨λ q=>Pf q,λ q=>absurd (hu.1 rfl) (hm.1 q).1⟩ t
    |false =>
     have P:¬(x.ph≠0/\x.ph≠4/\x.un.core=m.core):=λ q=>by cases hu.2 q
     by_cases S:x.ow=m.core
     .by_cases V:x.ph=2
      .simp only[aa,bc,G,O,Z,b5,qo,y.l0,l1 t,qv S,y.rU,qv V,y.jG];refine C3.q (qtd (T.sl zf) hw (λ f=>l1 (t.trans f λ _ q=>q.elim))) λ r Y⟨hr,J⟩=>?_;rw[hr];simp only[aa,bc];refine fin ?_ (t.trans J λ _ q=>q.elim);rw[hm];constructor
       .intro q;exact⟨P,.inr V,by simpa using q⟩
       .intro q;simpa using q.2.2
      .simp only[aa,bc,G,O,Z,b5,qo,y.l0,l1 t,qv S,y.rU,V];exact fin ⟨λ q=>Pf q,λ q=>((hm.1 q).2.1.elim (λ w=>absurd S w) λ w=>absurd w V)⟩ t
     .simp only[aa,bc,G,O,Z,b5,qo,y.l0,l1 t,S,y.jG];refine C3.q (qtd (T.sl zf) hw (λ f=>l1 (t.trans f λ _ q=>q.elim))) λ r Y⟨hr,J⟩=>?_;rw[hr];simp only[aa,bc];refine fin ?_ (t.trans J λ _ q=>q.elim);rw[hm];constructor
      .intro q;exact⟨P,.inl S,by simpa using q⟩
      .intro q;simpa using q.2.2
   by_cases R:x.ph=0
   .simp only[aa,bc,F,I,O,qo,c.rU,qv R];exact rest B2 n ⟨λ q=>Pf q,λ q=>absurd R q.1⟩
   by_cases U:x.ph=4
   .simp only[aa,bc,F,I,O,qo,c.rU,R,qv U];exact rest B2 n ⟨λ q=>Pf q,λ q=>absurd U q.2.1⟩
   simp only[aa,bc,F,I,O,b5,qo,c.rU,R,U,c.lU];refine C3.q (U2 x.un l1) λ r Y⟨hr,J⟩=>?_;rw[hr];simp only[aa,bc];exact rest _ J ⟨λ q=>⟨R,U,by simpa using q⟩,λ q=>by simpa using q.2.2⟩
  rcases B with k|k
  .simp only[aa,bc,qv k];exact key rfl rfl rfl rfl
  .have k1:¬m.k=1:=by omega
   simp only[aa,bc,k1,qv k];exact key rfl rfl rfl rfl
 have k1:¬m.k=1:=λ q=>B (.inl q);have k2:¬m.k=2:=λ q=>B (.inr q);have o:(((hb x.ask m.core*2 ^ m.core.toNat:Nat)):Int)=0↔ ¬hb x.ask m.core=1:=by
  constructor
  .intro q w;rw[w,Nat.one_mul]at q;omega
  .intro q;rw[show hb x.ask m.core=0 by omega,AN];rfl
 simp only[aa,bc,k1,k2,F]
 by_cases A:m.k=4
 .have hm:x.may m↔x.ph=1/\hb x.ask m.core=1:=by unfold De.may;rw[qy B,xg A]
  by_cases g:x.ph=1
  .by_cases j:hb x.ask m.core=1
   .have z:=λ w=>o.1 w j;simp only[aa,bc,qv A,qo,c.rU,qv g,c.vN,l,C,X];exact fin ⟨λ _=>hm.2 ⟨g,j⟩,λ _=>ke z⟩ n
   .have z:=o.2 j;simp only[aa,bc,qv A,qo,c.rU,qv g,c.vN,l,C,X,qv z];exact fin ⟨λ q=>Pf q,λ q=>absurd (hm.1 q).2 j⟩ n
  .simp only[aa,bc,qv A,qo,c.rU,g];exact fin ⟨λ q=>Pf q,λ q=>absurd (hm.1 q).1 g⟩ n
 simp only[aa,bc,A,w26]
 by_cases s:m.k=5
 .have hm:x.may m↔x.ph=2/\x.ow=m.core:=by unfold De.may;rw[qy B,qy A,xg s]
  by_cases g:x.ph=2
  .by_cases j:x.ow=m.core
   .simp only[aa,bc,qv s,qo,c.rU,qv g,c.l0,l,qv j];exact fin ⟨λ _=>hm.2 ⟨g,j⟩,λ _=>rfl⟩ n
   .simp only[aa,bc,qv s,qo,c.rU,qv g,c.l0,l,j];exact fin ⟨λ q=>Pf q,λ q=>absurd (hm.1 q).2 j⟩ n
  .simp only[aa,bc,qv s,qo,c.rU,g];exact fin ⟨λ q=>Pf q,λ q=>absurd (hm.1 q).1 g⟩ n
 by_cases L:m.k=6
 .have hm:x.may m↔x.ph=2/\hb x.ask m.core=1:=by unfold De.may;rw[qy B,qy A,qy s,xg L]
  by_cases g:x.ph=2
  .by_cases j:hb x.ask m.core=1
   .have z:=λ w=>o.1 w j;simp only[aa,bc,s,qv L,qo,c.rU,qv g,c.vN,l,C,X];exact fin ⟨λ _=>hm.2 ⟨g,j⟩,λ _=>ke z⟩ n
   .have z:=o.2 j;simp only[aa,bc,s,qv L,qo,c.rU,qv g,c.vN,l,C,X,qv z];exact fin ⟨λ q=>Pf q,λ q=>absurd (hm.1 q).2 j⟩ n
  .simp only[aa,bc,s,qv L,qo,c.rU,g];exact fin ⟨λ q=>Pf q,λ q=>absurd (hm.1 q).1 g⟩ n
 simp only[aa,bc,s,L,w38]
 by_cases K:m.k=3
 .have hm:x.may m↔x.ow=m.core:=by unfold De.may;rw[qy B,qy A,qy s,qy L,xg K]
  by_cases j:x.ow=m.core
  .simp only[aa,bc,qv K,qo,c.l0,l,qv j];exact fin ⟨λ _=>hm.2 j,λ _=>rfl⟩ n
  .simp only[aa,bc,qv K,qo,c.l0,l,j];exact fin ⟨λ q=>Pf q,λ q=>absurd (hm.1 q) j⟩ n
 have hm:x.may m↔m.k=7/\x.ph=4/\x.un.core=m.core:=by unfold De.may;rw[qy B,qy A,qy s,qy L,qy K]
 by_cases Q:m.k=7
 .by_cases g:x.ph=4
  .simp only[aa,bc,K,qv Q,qo,c.rU,qv g,c.lU];refine C3.q (U2 x.un l1) λ r Y⟨hr,J⟩=>?_;rw[hr];simp only[aa,bc];exact fin ⟨λ q=>hm.2 ⟨Q,g,by simpa using q⟩,λ q=>by simpa using(hm.1 q).2.2⟩ J
  .simp only[aa,bc,K,qv Q,qo,c.rU,g];exact fin ⟨λ q=>Pf q,λ q=>absurd (hm.1 q).2.1 g⟩ n
 .simp only[aa,bc,K,Q,w51];exact fin ⟨λ q=>Pf q,λ q=>absurd (hm.1 q).1 Q⟩ n
end
end Go.Am
namespace Go.Am
open Go.Proofs Ca
variable{M:ak}[MK M]
structure TJ(t:Nat)(ms:List Mg)(V:Nat->Prop)(Hx:ar):Prop where
 vt:V t
 lt:t<Hx.au
 ls:∃lv,Hx.get t=B1 (OR [lv] sH)/\aO ao xm 11 Hx lv ms /\ ∀z,aM lv z->V z/\t<z
def TJ.loc{t:Nat}{ms:List Mg}{V:Nat->Prop}{c Hb:ar}(h:TJ t ms V c)(hs:∀x,V x->Hb.get x=c.get x)(hn:c.au<=Hb.au):TJ t ms V Hb:=by
 have⟨lv,l1,l2,l3⟩:=h.ls;exact⟨h.vt,qn h.lt hn,lv,by rw[hs _ h.vt];exact l1,Own.fr l2 (⟨hn,λ b _ hw=>hs b (we.1 hw)⟩:Fr (λ b=>¬V b) c Hb) λ x d w=>w (l3 x d).1,l3⟩
abbrev rV(l:Int)(k:Nat):Mg:=⟨11,(k:Int),l,.zero⟩
def Z6(s:Nat)(l:Int):(xP s).map (λ c=>(⟨11,c,l,.zero⟩:Mg))=(lC s).map (rV l):=by
 rw[MI,AF];rfl
def af6(s:Nat):(lC s).length<=4:=by
 have:=List.length_filter_le (λ(k:Nat)=>hb s (k:Int) == 1) (MX 4);rw[jj]at this;exact this
section
variable{H:ar}{D mp:Nat}{lv ev:AV}{N:Int}{ws:List L8}{xs:List (De×AV)}{i:Nat}{x:De}{a:AV}
def pE(h:dX H D mp lv ev N ws xs i x a)(m:Mg){w:L8}(hw:ws[m.line.toNat]? = B1 w)(hl:0<=m.line)(hs:x.sh<16)(c0:0<=m.core)(c1:m.core<4)(hk:m.k=1\/m.k=2)(ho:x.ow<4) :
 zb M NT [.ptr D 0,xA ev i,.agg (ao m)] H λ v H'=>mU H H' v (x.begin m w).2/\dX H' D mp lv ev N ws xs i (x.begin m w).1 a/\Fr (On (aE ev)) H H':=by
 refine q39 ?_;have⟨w0,wa,wb,w4,L,w10,O,w12,w32,w18,w36,w41⟩:=_h M ⟨B5,NT⟩;have⟨H1,e1,f1,n1,g1⟩:=bZ H (OR (ao m) xm);have hev:=h.d.es.lt;have nb:¬H.au=aE ev:=by omega
 have lU:=eJ g1 (zf m);have⟨T,s2,C,f2⟩:=(h.em f1).sU m;have m2:=f2.au;have F2:Fr (On (aE ev)) H T:=(f1.mono λ _ _ q=>q.elim).trans f2 λ _ q=>.inl q;have lm:∀{Hx:ar}(k:Nat),Fr (On (aE ev)) T Hx->Op.ae [.ptr H.au k] Hx=(ao m)[k]?:=λ k f=>x9 (xb (by rw[f.ah _ (by omega) nb,f2.ah _ (by omega) nb];exact g1)) k;simp only[aa,bc,w0,<-e1,lU,qo,s2,w4,C.l0];unfold De.begin
 by_cases q:0<=x.ow
 .rw [xg q];have s:=NX q ho;have⟨U,S,Q,Y⟩:=C.OD 2;have⟨c,s4,J,Z⟩:=Q.TR (2 ^ x.ow.toNat);have l:Fr (On (aE ev)) T c:=Y.trans Z λ _ q=>.inl q;have G:=F2.trans l λ _ q=>.inl q;have l0:Op.ae [.ptr H.au 0] c=B1 (.int .i64 m.k):=lm 0 l;have l2:Op.ae [.ptr H.au 2] c=B1 (.int .i64 m.line):=lm 2 l;have m4:=G.au;have out:∀k:Int,mU H (c.alloc (OR (ao ⟨k,x.ow,m.line,.zero⟩) xm)) (Op.sliceTo 1 1 c.au) [⟨k,x.ow,m.line,.zero⟩]/\dX (c.alloc (OR (ao ⟨k,x.ow,m.line,.zero⟩) xm)) D mp lv ev N ws xs i {x with un:=m,ph:=2,ask:=2 ^ x.ow.toNat} a/\Fr (On (aE ev)) H (c.alloc (OR (ao ⟨k,x.ow,m.line,.zero⟩) xm)):=λ k =>
   ⟨LB _ m4,J.em ((Fr.refl c).alloc _),G.alloc _⟩
  by_cases k2:m.k=2
  .rw [xg k2];simp only[aa,bc,qv q,C.l0,qo,s,S,s4,w10,w12,l0,qv k2,w18,J.l0,l2,mZ,S7,AX];exact out 13
  .rw [qy k2];simp only[aa,bc,qv q,C.l0,qo,s,S,s4,w10,w12,l0,k2,w18,J.l0,l2,mZ,S7,AX];exact out 12
 .rw [qy q];have s:=NX c0 c1;have sd:=WG hs c0 c1;have⟨U,S,Q,Y⟩:=C.TR (cW x.sh m.core);have F3:=F2.trans Y λ _ q=>.inl q;have l1:Op.ae [.ptr H.au 1] T=B1 (.int .i64 m.core):=lm 1 (Fr.refl _);have l0:Op.ae [.ptr H.au 0] U=B1 (.int .i64 m.k):=lm 0 Y;have dz:cW x.sh m.core=0↔((cW x.sh m.core:Nat):Int)=0:=by omega
  have tog:m.k=1\/cW x.sh m.core=0->zb M RZ [.ptr D 0,xA ev i] U λ v H'=>v=.agg (ao (De.eh {x with un:=m,ask:=cW x.sh m.core} w).2)/\dX H' D mp lv ev N ws xs i (De.eh {x with un:=m,ask:=cW x.sh m.core} w).1 a/\Fr (On (aE ev)) U H':=λ _=>_i Q hw hl hs c0 c1;have F:∀{v:AV}{c:ar},(v=.agg (ao (De.eh {x with un:=m,ask:=cW x.sh m.core} w).2)/\dX c D mp lv ev N ws xs i (De.eh {x with un:=m,ask:=cW x.sh m.core} w).1 a/\Fr (On (aE ev)) U c) ->
   mU H (c.alloc (OR (ao (De.eh {x with un:=m,ask:=cW x.sh m.core} w).2) xm)) (Op.sliceTo 1 1 c.au) [(De.eh {x with un:=m,ask:=cW x.sh m.core} w).2]/\dX (c.alloc (OR (ao (De.eh {x with un:=m,ask:=cW x.sh m.core} w).2) xm)) D mp lv ev N ws xs i (De.eh {x with un:=m,ask:=cW x.sh m.core} w).1 a/\Fr (On (aE ev)) H (c.alloc (OR (ao (De.eh {x with un:=m,ask:=cW x.sh m.core} w).2) xm)):=λ{v c}⟨_,J,Z⟩=>by
   have G:=F3.trans Z λ _ q=>.inl q;exact⟨LB _ G.au,J.em ((Fr.refl c).alloc _),G.alloc _⟩
  by_cases R:m.k=1
  .rw [xg (.inl R)];simp only[aa,bc,q,L,C.l1,qo,l1,s,sd,S,O,l0,qv R];refine C3.q (tog (.inl R)) λ v c E=>?_;rw[E.1];simp only[aa,bc,mZ,AX];exact F E
  by_cases d0:cW x.sh m.core=0
  .rw [xg (.inr d0)];have d1:=dz.1 d0;simp only[aa,bc,q,L,C.l1,qo,l1,s,sd,S,O,l0,R,Q.vN,qv d1];refine C3.q (tog (.inr d0)) λ v c E=>?_;rw[E.1];simp only[aa,bc,mZ,AX];exact F E
  rw[qy (λ w=>w.elim R d0)];have d1:¬((cW x.sh m.core:Nat):Int)=0:=λ q=>d0 (dz.2 q);have⟨c,s4,J,Z⟩:=Q.OD 1;have⟨H5,e5,I,n5,g5⟩:=bZ c (OR [.nils] sH);have h5:=J.em I;have l:Fr (On (aE ev)) T c:=Y.trans Z λ _ q=>.inl q;have G:=F2.trans l λ _ q=>.inl q;have m24:=l.au;simp only[aa,bc,q,L,C.l1,qo,l1,s,sd,S,O,l0,R,Q.vN,d1,w32,s4,<-e5,w36,h5.vN];refine C3.q (xlf (cW x.sh m.core)) λ v H7⟨hv,E⟩=>?_;obtain⟨H6,e6,A,-,g6⟩:=bZ H5 (OR [uB (cW x.sh m.core)] Zn);rw[<-e6]at E;rw[hv,E];have n6:H6.au=c.au+2:=by rw[e6,xy,n5]
  have g6t:H6.get c.au=B1 (OR [.nils] sH):=by rw[A.ah _ (by omega) id];exact g5
  have h6:=h5.em A;have g6m:H6.get H.au=B1 (OR (ao m) xm):=by
   rw[A.ah _ (by omega) id,I.ah _ (by omega) id,l.ah _ (by omega) nb,f2.ah _ (by omega) nb];exact g1
  have hd16:cW x.sh m.core<16:=(Oe hs c0 c1 (d:=0) (by decide) (by decide)).1;refine iP.iter (fn:=TQ) (lp:=QI) (pa:=WO 0) (pb:=YA 0) q0a qnl.1 qnl.2 (by decide) qxm qxn
   (xie g6 (by omega) hd16) (λ j V Hx=>TJ c.au (((lC (cW x.sh m.core)).take j).map (rV m.line)) V Hx) (λ _ _ _=>False) (λ z=>z=c.au) (qm _) ?_ ?_ ?_ ?_ ?_ ?_ ?_ ?_
  .rintro z (q|q)
   .exact ⟨by omega,rfl,by omega⟩
   .exact q.elim
  .exact λ z t=>by omega
  .exact ⟨rfl,by omega,.nils,g6t,Own.nil ..,λ z q=>(q.1 rfl).elim⟩
  .exact λ j V Ha Hb hp hs hn=>hp.loc hs hn
  .exact λ e V Ha Hb hp _ _=>hp
  .intro n j lr lb y hy hL2 V u B hV hfc K hLc hgL;rw[xq,xr]at hy;obtain⟨k,hk,rfl⟩:=hy;refine⟨_,rfl,?_⟩;obtain⟨-,wa,wb,-⟩:=_h M ⟨B1 n,NT⟩;simp only[aa,bc,wa,Ct];refine⟨hgL,?_⟩;have fx:Fr (On n) u (u.set n lb):=(Fr.refl u).set (W:=On n) (.inl rfl) _;have gL:(u.set n lb).get n=B1 lb:=xc ..;have nL:(u.set n lb).au=u.au:=rfl;have hP7:=B.loc (Hb:=u.set n lb) (λ y hy=>by rw[yd (λ q:n=y=>K (by rw[q];exact hy))]) (qm _);have gm:(u.set n lb).get H.au=B1 (OR (ao m) xm):=by
    rw[yd (by omega),hfc.ah H.au (by omega) (λ q=>q.elim (λ q=>by omega) id)];exact g6m
   generalize u.set n lb=o at *;have⟨g,l1,l2,l3⟩:=hP7.ls;have lq:Op.ae [.ptr c.au 0] o=B1 g:=x9 (xb l1) 0;have ll:Op.ae [.ptr H.au 2] o=B1 (.int .i64 m.line):=x9 (xb gm) 2;have mX:(((lC (cW x.sh m.core)).take j).map (rV m.line)).length<=4:=by
    rw[xu,js];have:=af6 (cW x.sh m.core);omega
   simp only[aa,bc,wb,lq,ll,mZ,S7];refine nR (e:=xm) (size:=11) (bytes:=88) l2 (x:=.agg (ao (rV m.line k))) (zf _) (by rw[zo];exact zf _) (by rw[zo];exact rh _) (by decide) (by omega) (by omega) λ r P p hf hfr=>?_;rw[zo]at p;have q8:P.get c.au=B1 (OR [g] sH):=by rw[hf.ah _ hP7.lt λ q=>by have:=(l3 _ q).2;omega];exact l1
   have o1:aD r=true:=by have:=Sl.one (Own.sl p);exact this
   have st:=M5 q8 o1;obtain⟨H9,e9⟩:∃X,X=P.set c.au (OR [r] sH):=⟨_,rfl⟩
   rw[<-e9]at st;have f9:Fr (On c.au) P H9:=by rw[e9];exact(Fr.refl P).set (W:=On c.au) (.inl rfl) _
   simp only[aa,bc,st];have lo':∀y,aM r y->c.au<y:=λ y q=>(hfr y q).elim (λ q=>(l3 y q).2) λ q=>by have:=B.lt;omega
   have nf:=hf.au;have n9:H9.au=P.au:=by rw[e9];rfl
   refine⟨rfl,?_,λ y=>V y\/aM r y,?_,?_,.inl ⟨rfl,⟨.inl B.vt,?_,r,?_,?_,λ y q=>⟨.inr q,lo' y q⟩⟩⟩⟩
   .rw [f9.ah n (by omega) (λ(q:n=c.au)=>K (by rw[q];exact B.vt)),hf.ah n (by omega) λ q=>K (l3 _ q).1];exact gL
   .rintro y (q|q)
    .exact ⟨by have:=(hV y q).1;omega,.inl q⟩
    .refine ⟨by rw[n9];exact Own.lt p y q,?_⟩;rcases hfr y q with w|w
     .exact .inl (l3 y w).1
     .exact .inr (by omega)
   .have a1:Fr (λ b=>V b\/b=n) u o:=fx.mono λ x _ q=>.inr q;exact(a1.trans hf λ x hx=>.inl (.inl (l3 x hx).1)).trans f9 λ x hx=>.inl (.inl (by rw[show x=c.au from hx];exact B.vt))
   .have:=B.lt;omega
   .rw [e9,xc]
   .have hx2:((lC (cW x.sh m.core)).take (j+1)).map (rV m.line)=((lC (cW x.sh m.core)).take j).map (rV m.line) ++ [rV m.line k]:=by rw[j7,hk];simp
    rw[hx2];have ow:aO ao xm 11 P r (((lC (cW x.sh m.core)).take j).map (rV m.line) ++ [rV m.line k]):=by
     unfold aO;rw[xe,ki,j6,List.flatMap_nil,zp];exact p
    exact Own.fr ow f9 λ x hx(q:x=c.au)=>by have:=lo' x hx;omega
  .intro d V o hd1 hd2 hgd hfd hVd B;have⟨g,l1,l2,l3⟩:=B.ls;have el:((lC (cW x.sh m.core)).map λ(k:Nat)=>[AV.int .i64 (k:Int)]).length=(lC (cW x.sh m.core)).length:=xu _;rw[el,za (qm _)]at l2;have lq:Op.ae [.ptr c.au 0] (o.set d (.deferred B5))=B1 g:=x9 (xb (show(o.set d (.deferred B5)).get c.au=B1 (OR [g] sH)from by rw[yd (λ q:d=c.au=>by have:=(hVd _ B.vt).2.2;omega)];exact l1)) 0;have lq0:Op.ae [.ptr c.au 0] o=B1 g:=x9 (xb l1) 0;have sl2:bI ao 11 (o.set d (.deferred B5)) g ((lC (cW x.sh m.core)).map (rV m.line)):=by
    have fs:Fr (On d) o (o.set d (.deferred B5)):=(Fr.refl o).set (W:=On d) (.inl rfl) _;exact(Own.fr l2 fs λ z t(q:z=d)=>(hVd z (l3 z t).1).2.2 q).sl
   have hx1:dX (o.set d (.deferred B5)) D mp lv ev N ws xs i {x with un:=m,ph:=1,ask:=cW x.sh m.core} a:=by
    refine h.loc h6 ((hfd.mono λ z _ t=>?_).set (.inl (show H.au<=d by omega)) _);rcases t with t|t
    .show H.au<=z;omega
    .exact t.elim
   have fr1:Fr (On (aE ev)) H (o.set d (.deferred B5)):=by
    refine(((G.trans I λ _ q=>q.elim).trans A λ _ q=>q.elim).trans hfd λ z t=>?_).set (.inr (by omega)) _;rcases t with t|t
    .exact .inr (by omega)
    .exact t.elim
   simp only[aa,bc,w41,lq0,I2];refine⟨hgd,⟨by rw[Z6];exact sl2,λ hne=>?_⟩,hx1,fr1⟩;have hlo:g≠ .nils:=λ q=>by
    rw[Z6]at hne;subst q;have:=l2.1;rw[AG zf]at this;rcases l2.2 with⟨z,-⟩|⟨b,q,-⟩
    .exact hne (jz.1 z)
    .cases q
   have:=(l3 (aE g) ⟨hlo,rfl⟩).2;omega
  .exact λ e d V o _ _ _ _ _ _ hp=>hp.elim
end
end Go.Am
namespace Go.Am
open Go.Proofs Ca
variable{M:ak}[MK M]
section
variable{H:ar}{D mp:Nat}{lv ev:AV}{N:Int}{ws:List L8}{xs:List (De×AV)}{i:Nat}{x:De}{a:AV}
def dX.mem(h:dX H D mp lv ev N ws xs i x a){H':ar}{c:List L8}(hm:Ba H' mp lv c)(f:Fr (On (aE lv)) H H')(hl:c.length=ws.length):dX H' D mp lv ev N c xs i x a:=by
 have⟨e1,e2,j,l,e⟩:=h.d.d1;exact⟨h.il,by rw[f.ah _ h.d.lt (λ q=>e2 q)];exact h.d.row,qn h.d.lt f.au,hm,h.d.es.fr f (λ q=>e q.symm),λ k y b hk=>(h.d.wt k y b hk).fr f λ z g q=>(h.d.d2 k y b hk z g).2.2.1 q,h.d.d1,h.d.d2,h.d.d3,by rw[hl];exact h.d.len⟩
def Bj(H:ar)(D mp:Nat)(lv ev:AV)(N:Int)(ws:List L8)(xs:List (De×AV))(i:Nat)(a:AV)(r:De×L8×List Mg)(v:AV)(H':ar):Prop :=
 (∃ov e,v=.tuple [ov,e]/\mU H H' ov r.2.2) /\ ∃a',dX H' D mp lv ev N (ws.set i r.2.1) xs i r.1 a'/\Fr (mO D mp lv ev xs) H H' /\ ∀z,aM a' z->aM a z\/H.au<=z
def Q6{ws:List L8}{i:Nat}{w:L8}(h:ws[i]? = B1 w):ws.set i w=ws:=by
 apply yj
 grind
def EV{H1 b:ar}(f:Fr (On (aE ev)) H1 b):Fr (mO D mp lv ev xs) H1 b:=f.mono λ _ _ q=>.inr (.inr (.inr (.inl q)))
def frM{H1 b:ar}(f:Fr (On (aE lv)) H1 b):Fr (mO D mp lv ev xs) H1 b:=f.mono λ _ _ q=>.inr (.inr (.inl q))
def xJ{H1 b c:ar}(f:Fr (mO D mp lv ev xs) H1 b)(g:Fr (mO D mp lv ev xs) b c):Fr (mO D mp lv ev xs) H1 c:=f.trans g λ _ q=>.inl q
def oR{E:Env}{p:ar}{y:De}{w':L8}{o:List Mg}{g:AV}{q:Prop}[Decidable q]{b8:Bool}(u:b8=decide q)(G:lk E 8=B1 (.bool b8))(Q:lk E 7=B1 g)(T:lk E 0=B1 (.ptr D 0))(b4:lk E 6=B1 (xA ev i))
 (hx:xs[i]? = B1 (x,a)) (h:dX p D mp lv ev N (ws.set i w') xs i y a) (hq:q->(ws.set i w')[y.un.line.toNat]? = B1 w'/\0<=y.un.line/\y.sh<16/\0<=y.un.core/\y.un.core<4)
 (ho:aO ao xm 11 p g o) (Z:o.length<=3) (r:∀z,aM g z->H.au<=z) (f:Fr (mO D mp lv ev xs) H p) (j:∀z,mO D mp lv ev xs z->z<H.au) :
 W M ⟨B5,Ft⟩ (VV 113) B4 (eS M [.tmp 4,.tmp 5] (tq (Bj H D mp lv ev N ws xs i a (y.vJ w' q o)))) E [] p:=by
 obtain⟨-,-,-,-,-,-,-,l,-,n,-⟩:=qtf M ⟨B5,Ft⟩;have A:∀{g:AV}{o:List Mg}{p:ar},aO ao xm 11 p g o->(∀z,aM g z->H.au<=z)->o≠[]->H.au<=aE g:=λ{g o p}R t h3=>by
  refine t _ ⟨λ e=>?_,rfl⟩;subst e;have:=R.1;rw[AG zf]at this;rcases R.2 with⟨z,-⟩|⟨b,q,-⟩
  .grind
  grind
 unfold De.vJ
 by_cases F:q
 .have ⟨hw,hl,hs,U,V⟩:=hq F;rw[xg F];rw[u,ke F]at G;simp only[aa,bc,l,G,Q,T,b4];refine C3.q (_i h hw hl hs U V) λ v I⟨hv,t,J⟩=>?_;rw[hv];have L:aO ao xm 11 I g o:=Own.fr ho J λ z c(q:z=aE ev)=>by have:=r z c;have:=j (aE ev) (.inr (.inr (.inr (.inl rfl))));omega
  simp only[aa,bc,mZ];refine nR (e:=xm) (size:=11) (bytes:=88) L (x:=.agg (ao (y.eh w').2)) (zf _) (by grind [zo,zf]) (by grind [zo,rh]) (by decide) (by omega) (by omega) λ S P O X Y=>?_;rw[zo]at O;simp only[aa,bc,n];have s:Fr (Lo H) I P:=X.mono λ z _ c=>r z c;have B:aO ao xm 11 P S (o ++ [(y.eh w').2]):=by
   grind [aO]
  have hn:H.au<=I.au:=xx f.au J.au;have C:∀z,aM S z->H.au<=z:=λ z c=>(by grind)
  have K:∀z,mO D mp lv ev (xs.set i ((y.eh w').1,a)) z->z<H.au:=λ z c=>by
   refine j z ?_;rcases c with c|c|c|c|⟨k,yy,b,hk,c⟩
   .exact .inl c
   .exact .inr (.inl c)
   .exact .inr (.inr (.inl c))
   .exact .inr (.inr (.inr (.inl c)))
   .by_cases e:k=i
    .subst e;rw[t.here]at hk;injection hk with hk;injection hk with _ hk;subst hk
     exact .inr (.inr (.inr (.inr ⟨k,x,a,hx,c⟩)))
    .rw [zq (rT e)]at hk;exact .inr (.inr (.inr (.inr ⟨k,yy,b,hk,c⟩)))
  refine⟨⟨_,_,rfl,B.sl,λ e=>A B C e⟩,a,⟨t.il,t.d.fr s λ z c q=>?_⟩,?_,λ z c=>.inl c⟩
  .grind
  .exact (xJ f (EV J)).trans s λ z c=>.inr c
 .rw [qy F];rw[u,ju F]at G;simp only[aa,bc,l,G,Q,n];exact⟨⟨_,_,rfl,ho.sl,λ e=>A ho r e⟩,a,h,f,λ z c=>.inl c⟩
end
end Go.Am
namespace Go.Am
open Go.Proofs Ca
variable{M:ak}[MK M]
def bdA(co l:Int):Op.build (ao ⟨0,0,0,.zero⟩) [(0,1),(1,1),(2,1)] [.int .i64 16,.int .i64 co,.int .i64 l]=B1 (.agg (ao ⟨16,co,l,.zero⟩)):=rfl
def x_:Op.build (cD .zero) [] []=B1 (.agg (cD .zero)):=rfl
def Ig:Op.build (ao ⟨0,0,0,.zero⟩) [] []=B1 (.agg (ao ⟨0,0,0,.zero⟩)):=rfl
def Gm(m:Mg):(ao m).take 3++(AV.agg (cD .zero)).cells++(ao m).drop (3+8)=ao {m with d:=.zero}:=W7 m .zero
section
variable{H:ar}{D mp:Nat}{lv ev:AV}{N:Int}{ws:List L8}{xs:List (De×AV)}{x:De}{a:AV}{m:Mg}{w:L8}{ys:List Mg}
def dX.wait{i:Nat}(h:dX H D mp lv ev N ws xs i x a){b:AV}{ys:List Mg}{H1:ar}(hs:Sk ao xm 11 H1 b ys)(f:Fr (aM a) H H1)(j:∀z,aM b z->aM a z\/H.au<=z)(g:aD b=B4) :
 ∃H',Op.store 1 [.ptr (aE ev) (cK 16 ev i+15),b] H1=B1 (.undef,H')/\dX H' D mp lv ev N ws xs i {x with wt:=ys} b/\Fr (mO D mp lv ev (xs.set i (x,a))) H H'/\Fr (On (aE ev)) H1 H':=by
 have⟨H',s,r,c,e⟩:=h.d.wait h.here hs f j g;rw[List.set_set]at r;exact⟨H',s,⟨h.il,r⟩,c,e⟩
def Sk.one(h:Sk ao xm 11 H a ys):aD a=true:=by
 rcases h with⟨rfl,-⟩|⟨b,i,alt,r,h⟩
 .rfl
 .rw [h.eq];rfl
def sS{i:Nat}{y:De}(f:xs[i]? = B1 (x,a)){z:Nat}:mO D mp lv ev (xs.set i (y,a)) z↔mO D mp lv ev xs z:=by
 have g:=(qt.1 f).1;have key:(∃(k:Nat)(c:De)(b:AV),(xs.set i (y,a))[k]? = B1 (c,b)/\aM b z)↔ ∃(k:Nat)(c:De)(b:AV),xs[k]? = B1 (c,b)/\aM b z:=by
  constructor
  .rintro ⟨k,c,b,hk,d⟩
   by_cases e:k=i
   .subst e;rw[zk g]at hk;injection hk with hk;injection hk with _ hk;subst hk
    exact⟨k,x,a,f,d⟩
   .rw [zq (rT e)]at hk;exact⟨k,c,b,hk,d⟩
  .rintro ⟨k,c,b,hk,d⟩
   by_cases e:k=i
   .subst e;rw[f]at hk;injection hk with hk;injection hk with _ hk;subst hk
    exact⟨k,y,a,zk g,d⟩
   .exact ⟨k,c,b,by rw[zq (rT e)];exact hk,d⟩
 unfold mO;rw[key]
def xht(h:mT H D mp lv ev N ws xs)(Q:xs[m.line.toNat]? = B1 (x,a))(hw:ws[m.line.toNat]? = B1 w)(I:XI x N m.line)(h0:0<=m.line)(c0:0<=m.core)(c1:m.core<N)(hwl:x.wt.length<=900000) :
 zb M Ft [.ptr D 0,.agg (ao m)] H (Bj H D mp lv ev N ws xs m.line.toNat a (x.bT w m)):=by
 have N4:=I.N4;have c4:m.core<4:=by omega
 have hil:=(qt.1 Q).1;have l:∀z,mO D mp lv ev xs z->z<H.au:=λ z u=>h.low u;refine q63 ?_;have⟨w0,w2,w10,w12,w20,w28,w32,w113,w42,w119,w45,w61,Y,w55,w71,w86,w73,w99,w79⟩:=qtf M ⟨B5,Ft⟩;have⟨H1,e1,f1,n1,g1⟩:=bZ H (OR (ao m) xm);have d1:=h.em f1;have l2:Op.ae [.ptr H.au 2] H1=B1 (.int .i64 m.line):=x9 (xb g1) 2;have l1:Op.ae [.ptr H.au 1] H1=B1 (.int .i64 m.core):=x9 (xb g1) 1;have lN:Op.ae [.ptr D 1] H1=B1 (.int .i64 N):=x9 (xb d1.row) 1;have lU:=eJ g1 (zf m);have q0:¬m.core<0:=by omega
 have q1:¬N<=m.core:=by omega
 simp only[aa,bc,w0,<-e1,w2,yp,w10,l2];refine C3.q (af3 d1 h0 (by omega)) λ v A⟨hv,hh⟩=>?_;rw[hv,hh];simp only[aa,bc,w12,yp,l1,q0,qo,lN,q1,w20,lU];have en1:dX H1 D mp lv ev N ws xs m.line.toNat x a:=dX.of d1 Q;refine C3.q (xla en1 m c0 c4 I.ab (by omega)) λ v A⟨hv,f2⟩=>?_;rw[hv];have s:=en1.em f2;have F2:Fr Em H A:=f1.trans f2 λ _ q=>q.elim;have m2:=f2.au
 by_cases may:x.may m
 case neg =>
  simp only[aa,bc,may];unfold De.bT;rw[xg may];exact⟨⟨_,_,rfl,.nil ..⟩,a,by rw[Q6 hw];exact s,F2.mono λ _ _ q=>q.elim,λ z u=>.inl u⟩
 -- what the box of the message stays under
 have lm:∀{t:ar}(k:Nat),Fr (mO D mp lv ev xs) A t->Op.ae [.ptr H.au k] t=(ao m)[k]?:=λ k f=>x9 (xb (by rw[f.ah _ (by omega) (λ q=>by have:=l _ q;omega),f2.ah _ (by omega) id];exact g1)) k;have lD:∀{t:ar},Fr (mO D mp lv ev xs) A t->Op.aq 8 [.ptr H.au 3] t=B1 (.agg (cD m.d)):=λ{t}f=>by
  have g:t.get H.au=B1 (OR (ao m) xm):=by rw[f.ah _ (by omega) (λ q=>by have:=l _ q;omega),f2.ah _ (by omega) id];exact g1
  rw[rS (xb g) (by rw[zf];decide)];have⟨k,co,li,⟨d,hd⟩⟩:=m
  match d,hd with
  |[_,_,_,_,_,_,_,_],_=>rfl
 have r2:=Fr.refl (W:=mO D mp lv ev xs) A;have k0:Op.ae [.ptr H.au 0] A=B1 (.int .i64 m.k):=lm 0 r2;have k1r:∀{t:ar},Fr (mO D mp lv ev xs) A t->Op.ae [.ptr H.au 1] t=B1 (.int .i64 m.core):=λ f=>lm 1 f;have k2r:∀{t:ar},Fr (mO D mp lv ev xs) A t->Op.ae [.ptr H.au 2] t=B1 (.int .i64 m.line):=λ f=>lm 2 f;have hwt:=s.d.wt m.line.toNat x a s.here;have bx:=λ z(u:aM a z)=>(l z (.inr (.inr (.inr (.inr ⟨_,x,a,Q,u⟩)))))
 unfold De.bT;rw[qy (λ q=>q may)];have sh1:=NX c0 c4;simp only[aa,bc,may,w28,w32,k0]
 by_cases kg:m.k=1\/m.k=2
 .rw [xg kg]
  -- the message in hand has no words
  have st:Op.store 8 [.ptr H.au 3,.agg (cD .zero)] A=B1 (.undef,A.set H.au (OR (ao {m with d:=.zero}) xm)):=by
   have g:A.get H.au=B1 (OR (ao m) xm):=by rw[f2.ah _ (by omega) id];exact g1
   have:=xK g (o:=3) (n:=8) (v:=.agg (cD .zero)) (by rw[zo];exact ye _) (by rw[zf];decide) (by rw[zo];exact ug _);rw[this,Gm]
  obtain⟨P,e3⟩:∃X,X=A.set H.au (OR (ao {m with d:=.zero}) xm):=⟨_,rfl⟩
  rw[<-e3]at st;have J:Fr (On H.au) A P:=by rw[e3];exact(Fr.refl A).set (W:=On H.au) (.inl rfl) _
  have g3:P.get H.au=B1 (OR (ao {m with d:=.zero}) xm):=by rw[e3,xc]
  have lU3:=eJ g3 (zf {m with d:=.zero});have c:dX P D mp lv ev N ws xs m.line.toNat x a:=(dX.of h Q).loc s (J.mono λ z _(q:z=H.au)=>by show H.au<=z;omega);have R:Fr Em H P:=F2.trans (J.mono (W':=Lo H) λ z _(q:z=H.au)=>by show H.au<=z;omega) λ z q=>.inr q;have m3:=J.au;have key:∀{E:Env},lk E 38=B1 (.bool B4)->lk E 3=B1 (.ptr H.au 0)->lk E 6=B1 (xA ev m.line.toNat)->lk E 0=B1 (.ptr D 0)->lk E 4=B1 .nils ->
   W M ⟨B5,Ft⟩ (VV 42) B4 (fj 0 (fq (W M ⟨B5,Ft⟩ (VV 113)) (eS M [.tmp 4,.tmp 5] (tq (Bj H D mp lv ev N ws xs m.line.toNat a (if x.ph≠0 then({x with wt:=x.wt ++ [{m with d:=.zero}]},w,[])else((x.begin {m with d:=.zero} w).1,w,(x.begin {m with d:=.zero} w).2))))))) E [] A:=by
   intro E b38 b3 b6 b0 b4
   by_cases p0:x.ph=0
   .rw [qy (λ q=>q p0)];simp only[aa,bc,w42,b38,lZ,x_,b3,st,w45,b6,qo,c.rU,qv p0,w55,b0,lU3];refine C3.q (pE c {m with d:=.zero} hw h0 I.sb c0 c4 kg (by have:=I.ow;omega)) λ v B⟨T,j,f4⟩=>?_;simp only[aa,bc];refine⟨⟨_,_,rfl,T.1,λ q=>xx R.au (T.2 q)⟩,a,by rw[Q6 hw];exact j,(R.mono λ _ _ q=>q.elim).trans (EV f4) λ _ q=>.inl q,λ z u=>.inl u⟩
   .rw [xg p0];have hsk:=c.d.wt m.line.toNat x a c.here;obtain⟨B,e4,f34,n4,-⟩:=bZ P (OR (ao {m with d:=.zero}) xm);have rw1:=Mj (H:=P) {m with d:=.zero};rw[<-e4]at rw1;have sl1:=rw1.sl zf;have⟨v5,H5,s5,Z,f5,o5⟩:=(hsk.em f34).app zf (by decide) (ys:=[{m with d:=.zero}]) (k:=1) (new:=ao {m with d:=.zero}) rfl (by simp) (Sl.eN sl1) (by have:=Sl.first sl1;simpa using this) (rh _) (bytes:=88) (by omega) (by omega);have f35:Fr (aM a) P H5:=(f34.mono λ _ _ q=>q.elim).trans f5 λ _ q=>.inl q;have⟨H6,s6,en6,f6,f56⟩:=c.wait Z f35 (λ z u=>(o5 z u).elim .inl λ q=>.inr (by omega)) Z.one;simp only[aa,bc,w42,b38,lZ,x_,b3,st];simp only[aa,bc,w45,b3,b6,qo,c.rU,p0,c.jG,lU3,mZ,AX,<-e4,s5,s6];refine⟨⟨_,_,rfl,.nil ..⟩,v5,by rw[Q6 hw];exact en6,?_,λ z u=>(o5 z u).elim .inl λ q=>.inr (by have:=R.au;omega)⟩;exact(R.mono λ _ _ q=>q.elim).trans f6 λ z q=>.inl ((sS Q).1 q)
  rcases kg with k|k
  .simp only[aa,bc,qv k];exact key rfl rfl rfl rfl rfl
  .have nk:¬m.k=1:=by omega
   simp only[aa,bc,nk,qv k];exact key rfl rfl rfl rfl rfl
 rw[qy kg];have nk1:¬m.k=1:=λ q=>kg (.inl q);have nk2:¬m.k=2:=λ q=>kg (.inr q);have hm:=may;unfold De.may at hm;rw[qy kg]at hm;have hU:=I.un;have S:∀{y:De}{w':L8},x.ph≠0->y.un=x.un->y.sh<16->(ws.set m.line.toNat w')[y.un.line.toNat]? = B1 w'/\0<=y.un.line/\y.sh<16/\0<=y.un.core/\y.un.core<4:=λ{y w'}p e1 e2=>by
  obtain⟨-,u0,u1,ul⟩:=hU p;have hl:=(qt.1 hw).1;rw[e1];exact⟨by rw[ul,zk hl],by rw[ul];exact h0,e2,u0,by omega⟩
 have K:∀{t:ar}{y:De},dX t D mp lv ev N ws xs m.line.toNat y a->dX t D mp lv ev N (ws.set m.line.toNat w) xs m.line.toNat y a:=λ e=>by rw[Q6 hw];exact e
 have full:∀{t:ar},Fr (mO D mp lv ev xs) A t->Fr (mO D mp lv ev xs) H t:=λ f=>(F2.mono λ _ _ q=>q.elim).trans f λ _ q=>.inl q;have G:∀{t:ar},aO ao xm 11 t .nils ([]:List Mg):=Own.nil ..;have F:∀z,aM AV.nils z->H.au<=z:=λ z q=>absurd rfl q.1;simp only[aa,bc,nk1,nk2,w42]
 by_cases k4:m.k=4
 .rw [xg k4]at hm⊢;have sd:=WG I.sb c0 c4;have sda:=WG I.ab c0 c4;have⟨P,s3,c,J⟩:=s.s1 (cW x.sh m.core);have⟨B,s4,j,f4⟩:=c.TR (cW x.ask m.core);have R:=EV (D:=D) (mp:=mp) (lv:=lv) (xs:=xs) J;have L:=xJ R (EV f4);have dl:cW x.sh m.core<16:=(Oe I.sb c0 c4 (d:=0) (by decide) (by decide)).1;have dd:decide (((cW x.ask m.core:Nat):Int)=0)=decide (cW x.ask m.core=0):=by
   by_cases e:cW x.ask m.core=0
   .rw [e];rfl
   .rw [ju e,ju (by omega)]
  simp only[aa,bc,qv k4,w61,qo,s.l1,k1r r2,sh1,sd,s3,c.vN,k1r R,sda,s4,j.vN];exact oR (q:=cW x.ask m.core=0) dd rfl rfl rfl rfl Q (K j) (λ _=>S (by omega) rfl dl) G (by decide) F (full L) l
 rw[qy k4]at hm⊢
 by_cases Z:m.k=5
 .rw [xg Z]at hm⊢;have yH:Op.ae [.ptr D 0] A=B1 (.ptr mp 0):=x9 (xb s.d.row) 0;have hlen:m.line<ws.length:=by have:=(qt.1 hw).1;omega
  simp only[aa,bc,k4,Y,qv Z,qo,yH,k2r r2,lD r2];refine C3.q (Uy s.d.me h0 hlen m.d) λ v P⟨hv,hm3,J⟩=>?_;have c:=s.mem hm3 J (ze ..);have R:=frM (D:=D) (mp:=mp) (ev:=ev) (xs:=xs) J;have⟨B,s4,j,f4⟩:=c.s0 (-1);have L:=xJ R (EV f4)
  by_cases u1:x.un.k=1
  .rw [xg u1];have sa:=ω I.sb c0 c4;have⟨H5,s5,en5,f5⟩:=j.s1 (rI x.sh m.core);have F5:=xJ L (EV f5);simp only[aa,bc,w71,qo,s4,w73,j.l2,qv u1,j.l1,k1r L,sh1,sa,s5,w79];exact oR (q:=True) rfl rfl rfl rfl rfl Q en5 (λ _=>S (by omega) rfl (QH I.sb c0 c4 (d:=0) (by decide) (by decide)).1) G (by decide) F (full F5) l
  .rw [qy u1];simp only[aa,bc,w71,qo,s4,w73,j.l2,u1,w79];exact oR (q:=True) rfl rfl rfl rfl rfl Q j (λ _=>S (by omega) rfl I.sb) G (by decide) F (full L) l
 rw[qy Z]at hm⊢
 by_cases k6:m.k=6
 .rw [xg k6]at hm⊢;have⟨P,s3,c,J⟩:=s.OD 3;simp only[aa,bc,k4,Y,Z,qv k6,qo,s3,c.l0];exact oR (q:=x.ow<0) rfl rfl rfl rfl rfl Q (K c) (λ _=>S (by omega) rfl I.sb) G (by decide) F (full (EV J)) l
 rw[qy k6]at hm⊢
 by_cases k3:m.k=3
 .rw [xg k3]at hm⊢;have yH:Op.ae [.ptr D 0] A=B1 (.ptr mp 0):=x9 (xb s.d.row) 0;have hlen:m.line<ws.length:=by have:=(qt.1 hw).1;omega
  simp only[aa,bc,k4,Y,Z,k6,w86,qv k3,qo,yH,k2r r2,lD r2];refine C3.q (Uy s.d.me h0 hlen m.d) λ v P⟨hv,hm3,J⟩=>?_;have c:=s.mem hm3 J (ze ..);have R:=frM (D:=D) (mp:=mp) (ev:=ev) (xs:=xs) J;have⟨B,s4,j,f4⟩:=c.s0 (-1);have L:=xJ R (EV f4);simp only[aa,bc,qo,s4,k1r L,k2r L,mZ,bdA];refine nR (e:=xm) (size:=11) (bytes:=88) (Own.nil B xm 11) (x:=.agg (ao ⟨16,m.core,m.line,.zero⟩)) (zf _) (by rw[zo];exact zf _) (by rw[zo];exact rh _) (by decide) (by omega) (by omega) λ v5 H5 hv5 hf hfr=>?_;rw[zo]at hv5;have f45:Fr Em B H5:=hf.mono λ z _ u=>absurd rfl u.1;have en5:=j.em f45;have F5:=L.trans f45 λ _ q=>q.elim;have nn:H.au<=B.au:=(full L).au;simp only[aa,bc,qo,en5.rU];refine oR (q:=x.ph=3) rfl rfl rfl rfl rfl Q en5 (λ q=>S (by omega) rfl I.sb) (o:=[⟨16,m.core,m.line,.zero⟩]) ?_ (by simp) (λ z u=>(hfr z u).elim (λ q=>absurd rfl q.1) λ q=>by omega) (full F5) l;unfold aO
  simpa using hv5
 rw[qy k3]at hm⊢;have⟨k7,p4,pu⟩:=hm;have⟨P,s3,c,J⟩:=s.OD 0;have⟨B,s4,j,f4⟩:=c.sU ⟨0,0,0,.zero⟩;have L:=xJ (EV (D:=D) (mp:=mp) (lv:=lv) (xs:=xs) J) (EV f4);have hsk:=j.d.wt m.line.toNat _ a j.here;have O:=hsk.len zf;cases C:x.wt with
 |nil =>
  have O:Op.cG [a]=B1 (.int .i64 0):=by rw[O];simp only[C];rfl
  have z00:¬(0:Int)<0:=by decide
  have en4n:dX B D mp lv ev N ws xs m.line.toNat {x with ph:=0,un:=⟨0,0,0,.zero⟩,wt:=[]} a:=by rw[<-C];exact j
  simp only[aa,bc,k4,Y,Z,k6,w86,k3,qv k7,w99,qo,mZ,Ig,s3,s4,j.jG,O,z00];exact oR (q:=False) (b8:=B2) rfl rfl rfl rfl rfl Q (K en4n) (λ q=>q.elim) G (by decide) F (full L) l
 |cons n r =>
  have hn:=I.wt n (by rw[C];simp);have O:Op.cG [a]=B1 (.int .i64 ((r.length+1:Nat):Int)):=by rw[O];simp only[C];rfl
  have z01:(0:Int)<((r.length+1:Nat):Int):=by omega
  have V:Sk ao xm 11 B a (n::r):=by
   have:({x with ph:=0,un:=⟨0,0,0,.zero⟩}:De).wt=n::r:=C;rw[<-this];exact hsk
  have ix:=(V.sl zf).idx (i:=0) (x:=n) rfl (z:=0) rfl .i64;have ld:=(V.sl zf).aq zf (by decide) (i:=0) (x:=n) rfl;obtain⟨H5,e5,f45,-,g5⟩:=bZ B (OR (ao ⟨0,0,0,.zero⟩) xm);have st5:=fK g5 (zf _) (zf n) (rh n);obtain⟨H6,e6⟩:∃X,X=H5.set B.au (OR (ao n) xm):=⟨_,rfl⟩
  rw[<-e6]at st5;have g6:H6.get B.au=B1 (OR (ao n) xm):=by rw[e6,xc]
  have f46:Fr Em B H6:=by rw[e6];exact f45.set (.inr (qm _)) _
  have n6:B.au<H6.au:=by rw[e6,t9,e5,xy];omega
  have en6:=j.em f46;have hsk6:=V.em f46;rcases hsk6 with⟨-,q⟩|⟨b,i,alt,rr,hsb⟩
  .cases q
  obtain⟨v7,alt',s7,U,-⟩:=hsb.off zf (k:=1) (by simp) .i64;have s7:Op.aA 11 [B1 0,B5,B5] [a,.int .i64 1]=B1 v7:=s7;have hon7:∀z,aM v7 z->aM a z:=λ z u=>by rw[U.RY u];exact hsb.on
  have⟨H8,s8,en8,f8,f68⟩:=en6.wait (ys:=r) (.inr ⟨_,_,_,_,U⟩) (Fr.refl H6) (λ z u=>.inl (hon7 z u)) (by rw[U.eq];rfl);have F6:=L.trans f46 λ _ q=>q.elim;have F8:=F6.trans f8 λ z q=>.inl ((sS Q).1 q);have nev:¬B.au=aE ev:=by have:=l (aE ev) (.inr (.inr (.inr (.inl rfl))));have:=(full L).au;omega
  have l8:Op.aq 11 [.ptr B.au 0] H8=B1 (.agg (ao n)):=eJ (by rw[f68.ah _ n6 nev];exact g6) (zf n);simp only[aa,bc,k4,Y,Z,k6,w86,k3,qv k7,w99,qo,mZ,Ig,s3,s4,j.jG,O,qv z01,ix,ld,<-e5,st5,en6.jG,s7,s8,l8];have⟨nk,n0,n1',nl⟩:=hn;refine C3.q (pE en8 n (w:=w) (by rw[nl];exact hw) (by rw[nl];exact h0) I.sb n0 (by omega) nk (by have:=I.ow;show x.ow<4;omega)) λ v H9⟨T,en9,f9⟩=>?_;simp only[aa,bc];refine⟨⟨_,_,rfl,T.1,λ q=>xx (full F8).au (T.2 q)⟩,v7,by rw[Q6 hw];exact en9,full (xJ F8 (EV f9)),λ z u=>.inl (hon7 z u)⟩
end
end Go.Am
namespace Go.Am
open Go.Proofs Ca
open Lang (ints)
variable{M:ak}[MK M]
structure Na where
 r:Nat
 b:Nat
 sv:AV
 bv:AV
 ks:List Nat
structure Bs where
 D:Nat
 mp:Nat
 lv:AV
 ev:AV
 xs:List (De×AV)
 nv:AV
 fv:AV
 ad:List Na
def pA(r:Nat):List AV:=[.ptr r 0]
def WK(r:Nat):(pA r).length=1:=rfl
def Na.w(A:Na):Nat->Prop:=iK A.r A.b A.sv A.bv
def Bs.dw(s:Bs):Nat->Prop:=mO s.D s.mp s.lv s.ev s.xs
def gJ(B:Nat)(s:Bs)(z:Nat):Prop:=z=B\/s.dw z\/aM s.nv z\/aM s.fv z \/ ∃(c:Nat)(A:Na),s.ad[c]? = B1 A/\A.w z
structure eL(H0 H:ar)(B:Nat)(s:Bs)(b:Bu)(own:Nat->Nat):Prop where
 row:H.get B=B1 (OR [.ptr s.D 0,s.nv,s.fv,.int .i64 (b.l.length:Int)] Kn)
 lt:B<H.au
 d:mT H s.D s.mp s.lv s.ev b.ns.length b.m s.xs
 dx:s.xs.map Prod.fst=b.l
 nv:aO pA KH 1 H s.nv (s.ad.map Na.r)
 no:∀(c:Nat)(n:No)(A:Na),b.ns[c]? = B1 n->s.ad[c]? = B1 A->di H0 H A.r A.b A.sv A.bv n A.ks
 al:s.ad.length=b.ns.length
 fl:Sk ao xm 11 H s.fv b.fl
 oB:own B=0
 oD:∀z,s.dw z->own z=1
 oN:∀z,aM s.nv z->own z=2
 oF:∀z,aM s.fv z->own z=3
 oC:∀(c:Nat)(A:Na),s.ad[c]? = B1 A -> ∀z,A.w z->own z=4+c
 lo:∀z,gJ B s z->H0.au<=z
def di.low{H0 H:ar}{r b:Nat}{sv bv:AV}{n:No}{ks:List Nat}(h:di H0 H r b sv bv n ks){z:Nat}(a:iK r b sv bv z):z<H.au:=by
 rcases a with rfl|(rfl|rfl)|a
 .exact h.lt
 .exact h.ca.lt
 .exact h.ca.sl.lt
 .exact (h.bk.fresh z a).2
section
variable{H0 H:ar}{B:Nat}{s:Bs}{b:Bu}{own:Nat->Nat}
def eL.yO(h:eL H0 H B s b own){c:Nat}{n:No}(hn:b.ns[c]? = B1 n):∃A,s.ad[c]? = B1 A/\di H0 H A.r A.b A.sv A.bv n A.ks:=by
 have hl:=(qt.1 hn).1;have ha:s.ad[c]? = B1 (s.ad[c]'(by rw[h.al];exact hl)):=xf _;exact⟨_,ha,h.no c n _ hn ha⟩
def eL.low(h:eL H0 H B s b own){z:Nat}(a:gJ B s z):z<H.au:=by
 rcases a with rfl|a|a|a|⟨c,A,e,a⟩
 .exact h.lt
 .exact h.d.low a
 .exact Own.lt h.nv z a
 .exact h.fl.lt z a
 .have hl:=(qt.1 e).1;have hn:b.ns[c]? = B1 (b.ns[c]'(by rw[<-h.al];exact hl)):=xf _;exact(h.no c _ A hn e).low a
def eL.fr{H':ar}{W:Nat->Prop}(h:eL H0 H B s b own)(f:Fr W H H')(hw:∀z,W z->H0.au<=z /\ ¬gJ B s z):eL H0 H' B s b own :=
 ⟨by rw[f.ah _ h.lt (λ q=>(hw _ q).2 (.inl rfl))];exact h.row,qn h.lt f.au,h.d.fr f (λ z q w=>(hw z q).2 (.inr (.inl w))),h.dx,Own.fr h.nv f (λ z a q=>(hw z q).2 (.inr (.inr (.inl a)))),
  λ c n A hn e=>(h.no c n A hn e).off f λ z q=>⟨(hw z q).1,λ w=>(hw z q).2 (.inr (.inr (.inr (.inr ⟨c,A,e,w⟩))))⟩,h.al,h.fl.fr f (λ z a q=>(hw z q).2 (.inr (.inr (.inr (.inl a))))),h.oB,h.oD,h.oN,h.oF,h.oC,h.lo⟩
def eL.em{H':ar}(h:eL H0 H B s b own)(f:Fr Em H H'):eL H0 H' B s b own:=h.fr f λ z q=>q.elim
def eL.l1(h:eL H0 H B s b own):Op.ae [.ptr B 1] H=B1 s.nv:=x9 (xb h.row) 1
def eL.l0(h:eL H0 H B s b own):Op.ae [.ptr B 0] H=B1 (.ptr s.D 0):=x9 (xb h.row) 0
def eL.l2(h:eL H0 H B s b own):Op.ae [.ptr B 2] H=B1 s.fv:=x9 (xb h.row) 2
def eL.l3(h:eL H0 H B s b own):Op.ae [.ptr B 3] H=B1 (.int .i64 (b.l.length:Int)):=x9 (xb h.row) 3
def aQ(own:Nat->Nat)(n k z:Nat):Nat:=if z<n then own z else k
def eL.node(h:eL H0 H B s b own){c:Nat}{n n':No}{A:Na}{H':ar}(hn:b.ns[c]? = B1 n)(m:s.ad[c]? = B1 A)(D:rZ H0 H A.r A.b A.sv A.bv n' H') :
 ∃u o,eL H0 H' B u {b with ns:=b.ns.set c n'} o/\(∀z,gJ B u z->gJ B s z\/H.au<=z)/\Fr (gJ B s) H H':=by
 have⟨i,j,hr,f,hb⟩:=D;have C:=(qt.1 hn).1;have y:=(qt.1 m).1;have x:Fr (gJ B s) H H':=f.mono λ z _ q=>.inr (.inr (.inr (.inr ⟨c,A,m,q⟩)));have nw:∀z,iK A.r A.b A.sv A.bv z->own z=4+c:=h.oC c A m;have has:∀(d:Nat)(e:Na),(s.ad.set c {A with bv:=i,ks:=j})[d]? = B1 e->(d=c/\e = {A with bv:=i,ks:=j})\/d≠c/\s.ad[d]? = B1 e:=λ d e g=>by
  grind
 have t:∀z,gJ B {s with ad:=s.ad.set c {A with bv:=i,ks:=j}} z->gJ B s z\/H.au<=z:=λ z a=>by
  rcases a with a|a|a|a|⟨d,e,g,a⟩
  .exact .inl (.inl a)
  .exact .inl (.inr (.inl a))
  .exact .inl (.inr (.inr (.inl a)))
  .exact .inl (.inr (.inr (.inr (.inl a))))
  .rcases has d e g with⟨rfl,rfl⟩|⟨q,g⟩
   .rcases a with a|a|a
    .exact .inl (.inr (.inr (.inr (.inr ⟨d,A,m,.inl a⟩))))
    .exact .inl (.inr (.inr (.inr (.inr ⟨d,A,m,.inr (.inl a)⟩))))
    .rcases hb z a with w|w
     .exact .inl (.inr (.inr (.inr (.inr ⟨d,A,m,.inr (.inr w)⟩))))
     omega
   .exact .inl (.inr (.inr (.inr (.inr ⟨d,e,g,a⟩))))
 have v:H0.au<=H.au:=by have:=h.lo B (.inl rfl);have:=h.lt;omega
 have ne:∀{z k:Nat},own z=k->k≠4+c -> ¬iK A.r A.b A.sv A.bv z:=λ e1 e2 q=>(by grind)
 have ow:∀{z:Nat},z<H.au->aQ own H.au (4+c) z=own z:=λ q=>xg q;refine⟨{s with ad:=s.ad.set c {A with bv:=i,ks:=j}},aQ own H.au (4+c),⟨?_,qn h.lt f.au,?_,h.dx,?_,λ d n2 e l p=>?_,?_,?_,?_,λ z a=>?_,λ z a=>?_,λ z a=>?_,λ d e g z a=>?_,λ z a=>?_⟩,t,x⟩
 .rw [f.ah _ h.lt (ne h.oB (by omega))];exact h.row
 .simp only[ze];exact h.d.fr f λ z q w=>ne (h.oD z w) (by omega) q
 .have:(s.ad.set c {A with bv:=i,ks:=j}).map Na.r=s.ad.map Na.r:=by
   rw[List.map_set];apply yj
   grind
  simp only[this];exact Own.fr h.nv f λ z a q=>ne (h.oN z a) (by omega) q
 .have l:(b.ns.set c n')[d]? = B1 n2:=l;rcases has d e p with⟨rfl,rfl⟩|⟨q,g⟩
  .grind
  .rw [zq (rT q)]at l;refine(h.no d n2 e l g).off f λ z w=>⟨h.lo z (.inr (.inr (.inr (.inr ⟨c,A,m,w⟩)))),λ w2=>?_⟩
   have e1:=h.oC d e g z w2
   grind
 .simp only[ze];exact h.al
 .exact h.fl.fr f λ z a q=>ne (h.oF z a) (by omega) q
 .rw [ow h.lt];exact h.oB
 .rw [ow (h.low (.inr (.inl a)))];exact h.oD z a
 .rw [ow (h.low (.inr (.inr (.inl a))))];exact h.oN z a
 .rw [ow (h.low (.inr (.inr (.inr (.inl a)))))];exact h.oF z a
 .rcases has d e g with⟨rfl,rfl⟩|⟨q,g⟩
  .unfold aQ;split
   .rename_i q;rcases a with a|a|a
    .exact nw z (.inl a)
    .exact nw z (.inr (.inl a))
    .rcases hb z a with w|w
     .exact nw z (.inr (.inr w))
     .omega
   .rfl
  .rw [ow (h.low (.inr (.inr (.inr (.inr ⟨d,e,g,a⟩)))))];exact h.oC d e g z a
 .rcases t z a with w|w
  .exact h.lo z w
  .omega
end
end Go.Am
namespace Go.Am
open Go.Proofs Ca
open Lang (ints)
variable{M:ak}[MK M]
def kC(H0 H:ar)(B:Nat)(s:Bs)(b':Bu)(H':ar):Prop:=∃s' aQ,eL H0 H' B s' b' aQ/\(∀z,gJ B s' z->gJ B s z\/H.au<=z)/\Fr (gJ B s) H H'
section
variable{H0 H:ar}{B:Nat}{s:Bs}{b:Bu}{own:Nat->Nat}
def eL.same(h:eL H0 H B s b own){H':ar}(f:Fr Em H H'):kC H0 H B s b H':=⟨s,own,h.em f,λ _ q=>.inl q,f.mono λ _ _ q=>q.elim⟩
def kC.then{H1 d:ar}{s1:Bs}{e:Bu}(g:Fr (gJ B s) H H1)(hs:∀z,gJ B s1 z->gJ B s z\/H.au<=z)(h:kC H0 H1 B s1 e d):kC H0 H B s e d:=by
 have⟨s2,o2,r,q,f⟩:=h;refine⟨s2,o2,r,λ z a=>(q z a).elim (hs z) λ w=>.inr (xx g.au w),g.trans f λ z a=>hs z a⟩
def kC.em{H1 a:ar}{d:Bu}(h:kC H0 H B s d H1)(f:Fr Em H1 a):kC H0 H B s d a:=by
 have⟨s2,o2,r,q,g⟩:=h;exact⟨s2,o2,r.em f,q,g.trans f λ _ w=>w.elim⟩
theorem kC.pre{H1 a:ar}{d:Bu}(f:Fr Em H H1)(h:kC H0 H1 B s d a):kC H0 H B s d a:=kC.then (f.mono λ _ _ q=>q.elim) (λ _ q=>.inl q) h
def eL.Eu(h:eL H0 H B s b own){H1:ar}{e:AV}{j:List Mg}(hk:Sk ao xm 11 H1 e j)(f:Fr (aM s.fv) H H1)(p:∀z,aM e z->aM s.fv z\/H.au<=z):∃H',Op.store 1 [.ptr B 2,e] H1=B1 (.undef,H')/\kC H0 H B s {b with fl:=j} H':=by
 have t:aD e=true:=hk.one;have ne:∀{z k:Nat},own z=k->k≠3 -> ¬aM s.fv z:=λ e1 e2 q=>e2 (by rw[<-e1];exact h.oF _ q);have E:H1.get B=B1 (OR [.ptr s.D 0,s.nv,s.fv,.int .i64 (b.l.length:Int)] Kn):=by rw[f.ah _ h.lt (ne h.oB (by decide))];exact h.row
 have m:e.cells=[e]:=by cases e<;>first|rfl|cases t
 have st:=xK E (o:=2) (n:=1) (v:=e) (by rw[m];rfl) (by simp) (by rw[m,vd];simpa using t);rw[m]at st;have C:Fr (gJ B s) H H1:=f.mono λ z _ q=>.inr (.inr (.inr (.inl q)));have y:H0.au<=H.au:=by have:=h.lo B (.inl rfl);have:=h.lt;omega
 have u:∀z,gJ B {s with fv:=e} z->gJ B s z\/H.au<=z:=λ z a=>by
  rcases a with a|a|a|a|a
  .exact .inl (.inl a)
  .exact .inl (.inr (.inl a))
  .exact .inl (.inr (.inr (.inl a)))
  .rcases p z a with w|w
   .exact .inl (.inr (.inr (.inr (.inl w))))
   .exact .inr w
  .exact .inl (.inr (.inr (.inr (.inr a))))
 have ow:∀{z:Nat},z<H.au->aQ own H.au 3 z=own z:=λ q=>xg q;have g:Fr (On B) H1 (H1.set B (OR ([AV.ptr s.D 0,s.nv,s.fv,.int .i64 (b.l.length:Int)].take 2 ++ [e] ++ [AV.ptr s.D 0,s.nv,s.fv,.int .i64 (b.l.length:Int)].drop (2+1)) Kn)):=(Fr.refl H1).set (W:=On B) (.inl rfl) _;have x:∀{z k:Nat},own z=k->k≠0 -> ¬z=B:=λ e1 e2 q=>e2 (by rw[<-e1,q];exact h.oB);refine⟨_,st,{s with fv:=e},aQ own H.au 3,⟨xc ..,?_,?_,h.dx,?_,λ c n A hn i=>?_,h.al,?_,?_,λ z a=>?_,λ z a=>?_,λ z a=>?_,λ c A i z a=>?_,λ z a=>?_⟩,u,C.trans g λ z q=>.inl (.inl q)⟩
 .exact qn h.lt (xx f.au g.au)
 .exact (h.d.fr f λ z q w=>ne (h.oD z w) (by decide) q).fr g λ z q w=>x (h.oD z w) (by decide) q
 .exact Own.fr (Own.fr h.nv f λ z a q=>ne (h.oN z a) (by decide) q) g λ z a q=>x (h.oN z a) (by decide) q
 .refine ((h.no c n A hn i).off f λ z w=>⟨h.lo z (.inr (.inr (.inr (.inl w)))),λ w2=>?_⟩).off g λ z w=>?_
  .have:=h.oC c A i z w2;have:=h.oF z w;omega
  .have w:z=B:=w;refine⟨by rw[w];exact h.lo B (.inl rfl),λ w2=>?_⟩;have:=h.oC c A i z w2;rw[w,h.oB]at this;omega
 .refine hk.fr g λ z a q=>?_;have q:z=B:=q;rcases p z a with w|w
  .rw [q]at w;exact ne h.oB (by decide) w
  .have:=h.lt;omega
 .rw [ow h.lt];exact h.oB
 .rw [ow (h.low (.inr (.inl a)))];exact h.oD z a
 .rw [ow (h.low (.inr (.inr (.inl a))))];exact h.oN z a
 .unfold aQ;split
  .rcases p z a with w|w
   .exact h.oF z w
   .omega
  .rfl
 .rw [ow (h.low (.inr (.inr (.inr (.inr ⟨c,A,i,a⟩)))))];exact h.oC c A i z a
 .rcases u z a with w|w
  .exact h.lo z w
  .omega
def ah4(l:List Mg):aL (l.flatMap ao)=true:=by
 rw[vd,List.all_flatMap,Gn];intro x _;have:=rh x;rw[vd]at this;exact this
def VP(h:eL H0 H B s b own){a:AV}{ms:List Mg}(hm:bI ao 11 H a ms)(hl:b.fl.length+ms.length<=1000000):zb M UB [.ptr B 0,a] H λ _ H'=>kC H0 H B s {b with fl:=b.fl++ms} H':=by
 refine q60 ?_;have⟨v1,H1,s1,e,d,o1⟩:=h.fl.app zf (by decide) (ys:=ms) rfl rfl (Sl.eN hm) (Sl.first hm) (ah4 ms) (bytes:=88) (by omega) (by omega);have⟨g,s2,f⟩:=h.Eu e d o1;simp only[aa,bc,q61,qo,h.l2,s1,s2];exact f
def Gu(h:eL H0 H B s b own)(k:b.ns.length<=4)(c:Int):zb M X2 [.ptr B 0,.int .i64 c] H λ v H'=>H'=H/\((0<=c/\c<b.ns.length -> ∃A,s.ad[c.toNat]? = B1 A/\v=.tuple [.ptr A.r 0,.int .i64 0])/\(¬(0<=c/\c<b.ns.length)->v=.tuple [.nilp,.int .i64 2])):=by
 refine xbp ?_;obtain⟨w0,w2,f⟩:=xbq M ⟨B5,X2⟩;have a:=h.nv.sl.len;rw[xu,h.al]at a
 by_cases e:c<0
 .simp only[aa,bc,w0,w2,yp,qv e];exact⟨λ q=>by omega,λ _=>trivial⟩
 by_cases j:((b.ns.length:Nat):Int)<=c
 .simp only[aa,bc,w0,w2,yp,e,qo,h.l1,a,qv j];exact⟨λ q=>by omega,λ _=>trivial⟩
 have d:c.toNat<s.ad.length:=by rw[h.al];omega
 have g:s.ad[c.toNat]? = B1 (s.ad[c.toNat]):=xf d;have i:(s.ad.map Na.r)[c.toNat]? = B1 (s.ad[c.toNat]).r:=by rw[xq,g];rfl
 have ix:=h.nv.sl.idx i (z:=c) (by omega) .i64;have ld:=h.nv.sl.ig WK i (by decide);have ld:Op.ae [.ptr (aE s.nv) (cK 1 s.nv c.toNat)] H=B1 (.ptr (s.ad[c.toNat]).r 0):=ld;simp only[aa,bc,w0,w2,yp,e,qo,h.l1,a,j,f,ix,ld];exact⟨λ _=>⟨_,g,rfl⟩,λ q=>absurd ⟨by omega,by omega⟩ q⟩
end
end Go.Am
namespace Go.Am
open Go.Proofs Ca
open Lang (ints)
variable{M:ak}[MK M]
def No.jP(n:No)(a o:Int):Bool×Bool×Int:=if n.may a then if n.live then(B2,B2,41)else if n.owned (No.ln a)then(decide ((n.c.word a.toNat).2.getD 0=o),B4,0)else(B2,B2,0)else(B2,B2,2)
section
variable{H0 H:ar}{r b:Nat}{sv bv:AV}{n:No}{ks:List Nat}
def xej(h:di H0 H r b sv bv n ks):zb M XD [.ptr r 0] H λ v H'=>v=.int .i64 (if n.live=B4 then 41 else 0)/\di H0 H' r b sv bv n.begin ks/\Fr (iK r b sv bv) H H':=by
 refine qx1 ?_;obtain⟨w0,w2,a⟩:=qx2 M ⟨B5,XD⟩;have jG:=h.jG;unfold No.begin;cases hl:n.live with
 |true =>
  rw[hl]at jG;simp only[aa,bc,w0,w2,yp,qo,jG];exact⟨h,Fr.refl _⟩
 |false =>
  rw[hl]at jG;have⟨j,s2,f,d⟩:=h.tw B4;have⟨k,i,g,e⟩:=f.xS 0;simp only[aa,bc,w0,w2,yp,qo,jG,a,s2,i];exact⟨by first|rfl|trivial|(simp),by rw[qy (by decide)];exact g,jR (Mc d) (Mc e)⟩
def xal(h:di H0 H r b sv bv n ks):zb M WB [.ptr r 0] H λ v H'=>v=.int .i64 (if n.live=B4 then 0 else 40)/\di H0 H' r b sv bv n.bt ks/\Fr (iK r b sv bv) H H':=by
 refine qv7 ?_;obtain⟨w0,w2,d⟩:=qv8 M ⟨B5,WB⟩;have jG:=h.jG;unfold No.bt;cases hl:n.live with
 |false =>
  rw[hl]at jG;simp only[aa,bc,w0,w2,yp,qo,jG];exact⟨by first|rfl|trivial|(simp),by rw[qy (by decide)];exact h,Fr.refl _⟩
 |true =>
  rw[hl]at jG;simp only[aa,bc,w0,w2,yp,qo,jG,d,h.l2];refine C3.q (_e h.ca h.len) λ _ H1⟨g,e⟩=>?_;have a:=h.iF g e (by show(n.c.sl.map qV).length<=40;rw[xu];exact h.len);have⟨j,s2,i,f⟩:=a.tw B2;simp only[aa,bc,qo,s2];exact⟨i,jR (xL e) (Mc f)⟩
def As(H0 H:ar)(r b:Nat)(sv bv:AV)(n:No)(ks:List Nat)(a o y:Int)(v:AV)(H':ar):Prop:=(∃ov,v=.tuple [.bool (n.jP a o).1,.bool (n.jP a o).2.1,ov,.int .i64 (n.jP a o).2.2]/\mU H H' ov (n.mV a o y).2)/\di H0 H' r b sv bv (n.mV a o y).1 ks/\Fr (iK r b sv bv) H H'
def xkz(h:di H0 H r b sv bv n ks)(m:CI n.lines n.c)(hk:n.aS.length<=900000)(hu:n.c.us+2<=1000000)(a o y:Int):zb M Wh [.ptr r 0,.int .i64 a,.int .u64 o,.int .u64 y] H (As H0 H r b sv bv n ks a o y):=by
 refine q5o ?_;obtain⟨w0,w2,w,E,F,G,x,z⟩:=q5p M ⟨B5,Wh⟩;simp only[aa,bc,w0,w2];refine C3.q (Yv h a) λ v H1⟨u,P⟩=>?_;rw[u,P]
 by_cases hm:n.may a
 case neg =>
  have j:n.mV a o y=(n,[]):=by unfold No.mV;rw[qy hm]
  have ev:n.jP a o=(B2,B2,2):=by unfold No.jP;rw[qy hm]
  have T:¬(2:Int)=0:=by decide
  rw[qy hm];unfold As;rw[j,ev];simp only[aa,bc,T];exact⟨⟨.nils,rfl,mU.nil ..⟩,h,Fr.refl _⟩
 rw[xg hm];have hl:=h.li;have⟨K,S⟩:=hm;obtain⟨e,rfl⟩:=ji K;have l:e<1000000:=by omega
 have g:n.may (e:Int):=⟨K,S⟩
 have k:No.ln (e:Int)=((e / 8:Nat):Int):=rfl;have W:=qv (show(0:Int)=0 from rfl);have jG:=h.jG;cases f:n.live with
 |true =>
  have j:n.mV (e:Int) o y=(n,[]):=by unfold No.mV;rw[xg g,f];rfl
  have ev:n.jP (e:Int) o=(B2,B2,41):=by unfold No.jP;rw[xg g,f];rfl
  rw[f]at jG;unfold As;rw[j,ev];simp only[aa,bc,w,qo,jG];exact⟨⟨.nils,rfl,mU.nil ..⟩,h,Fr.refl _⟩
 |false =>
  rw[f]at jG;simp only[aa,bc,w,qo,jG,E,Ak l,F];refine C3.q (q8o (line:=((e / 8:Nat):Int)) h m) λ v H1⟨u,A⟩=>?_;rw[u];have hb:=h.em A;cases ho:n.owned ((e / 8:Nat):Int)with
  |false =>
   have j:n.mV (e:Int) o y=n.ask 2 ((e / 8:Nat):Int):=by
    unfold No.mV;rw[xg g,f,k,ho];rfl
   have ev:n.jP (e:Int) o=(B2,B2,0):=by unfold No.jP;rw[xg g,f,k,ho];rfl
   simp only[aa,bc];refine C3.q (YB hb hk 2 ((e / 8:Nat):Int)) λ v U⟨t,hn,C⟩=>?_;unfold As;rw[j,ev];simp only[aa,bc];exact⟨⟨v,rfl,t.1,λ q=>xx A.au (t.2 q)⟩,hn,jR (nD A) C⟩
  |true =>
   have⟨i,hp,Q⟩:=xmo ho;have hw:(n.c.word e).2=B1 ((n.c.en i).d.get (e % 8)):=by unfold Ca.word;rw[hp]
   have j:n.mV (e:Int) o y=({n with c:=if(n.c.en i).d.get (e % 8)=o then(n.c.word e).1.put e y else(n.c.word e).1},[]):=by
    unfold No.mV;rw[xg g,f,k,ho,qy (by decide),xg rfl];simp only[Ho,hw,vk]
   have ev:n.jP (e:Int) o=(decide ((n.c.en i).d.get (e % 8)=o),B4,0):=by
    unfold No.jP;rw[xg g,f,k,ho,qy (by decide),xg rfl];simp only[Ho,hw,vk]
   simp only[aa,bc,G,qo,hb.l2];refine C3.q (xd2 hb.ca m (by omega) l) λ v L⟨u,N,I⟩=>?_;rw[u];have hn:=hb.iF N I (by rw[(Ro ..).1];exact h.len);unfold zB;rw[hp];have p:Fr (iK r b sv bv) H L:=jR (nD A) (xL I)
   by_cases q:(n.c.en i).d.get (e % 8)=o
   .rw [xg q]at j;rw[ke q]at ev;simp only[aa,bc,xj,x,qv q,qo,hn.l2];refine C3.q (xhe hn.ca (m.word e) (by show(n.c.word e).1.us+1<=1000000;have:=(Ro n.c e).2;omega) l y) λ v V⟨R,O,J⟩=>?_;have D:=hn.iF O J (by rw[(SC ..).1,(Ro ..).1];exact h.len);unfold As;rw[j,ev];simp only[aa,bc,z,qv q];exact⟨⟨.nils,rfl,mU.nil ..⟩,D,jR p (xL J)⟩
   .rw [qy q]at j;rw[ju q]at ev;unfold As;rw[j,ev];simp only[aa,bc,xj,x,q,z];exact⟨⟨.nils,rfl,mU.nil ..⟩,hn,p⟩
end
end Go.Am
namespace Go.Am
open Go.Proofs Ca
open Lang (ints)
variable{M:ak}[MK M]
structure BB(b:Bu):Prop where
 N4:b.ns.length<=4
 fl:b.fl.length<=900000
 no:∀(c:Nat)n,b.ns[c]? = B1 n->n.NI/\n.aS.length<=900000/\n.c.us+2<=1000000
def W5(n:No)(k l:Int):(n.ask k l).2.length<=1:=by unfold No.ask;split<;>simp
def xg0(n:No)(a:Int):(n.load a).2.2.2.1.length<=1:=by
 unfold No.load;split
 .cases n.c.find (No.ln a)with
  |none=>exact W5 ..
  |some x=>simp
 .simp
def _X(n:No)(a y:Int):(n.store a y).2.2.1.length<=1:=by
 unfold No.store;split
 .split
  .simp
  .exact W5 ..
 .simp
def xky(n:No)(a o y:Int):(n.mV a o y).2.length<=1:=by
 unfold No.mV;split
 .split
  .simp
  .split
   .simp
   .exact W5 ..
 .simp
def ψ(n:No)(x:En):(n.gone x).2.length<=1:=by unfold No.gone;split<;>simp
def D1(n:No)(l:Int):(n.db l).2.length<=1:=by
 unfold No.db;split
 .simp
 .cases n.c.find l with
  |none=>simp
  |some x=>exact ψ ..
def DV(n:No)(m:Mg):(n.fill m).2.length<=1:=by
 have:∀(n:No)st,(n.d8 m st).2.length<=1:=λ n st=>by
  unfold No.d8;split
  .exact ψ ..
  .simp
 unfold No.fill No.mP;generalize(if m.k=15 then(2:Int)else 1)=st;split<;>exact this _ _
def xgy(n:No)(m:Mg):(n.bT m).2.length<=2:=by
 unfold No.bT;split;· simp
 split;· simp
 split
 .cases n.c.find m.line with
  |none=>simp
  |some x=>simp only;split<;>simp
 split;· simp
 cases n.c.find m.line with
 |some x=>simp
 |none =>
  have:=DV {n with out:=⟨0,0,0,.zero⟩} m;simp only[xe,zu,jq];omega
section
variable{H0 H:ar}{B:Nat}{s:Bs}{b:Bu}{own:Nat->Nat}{c:Int}{n:No}
def di.t{r b:Nat}{sv bv:AV}{n':No}{ks:List Nat}{H':ar}(h:di H0 H' r b sv bv n' ks)(f:Fr (iK r b sv bv) H H'):rZ H0 H r b sv bv n' H':=⟨bv,ks,h,f,λ _ q=>.inl q⟩
def eL.out(h:eL H0 H B s b own)(hb:BB b){c:Nat}{n n':No}{A:Na}{H1:ar}{a:AV}{ms:List Mg}(hn:b.ns[c]? = B1 n)(f:s.ad[c]? = B1 A)(j:rZ H0 H A.r A.b A.sv A.bv n' H1)(hm:mU H H1 a ms)(hl:ms.length<=2){Q:AV->ar->Prop}{r:AV}
 (g:∀{H'},kC H0 H B s (b.put c (n',ms)) H'->Q r H'):zb M UB [.ptr B 0,a] H1 λ _ H'=>Q r H':=by
 have⟨l,o',e,k,d⟩:=h.node hn f j;have i:=hb.fl;exact(VP e hm.1 (by show b.fl.length+ms.length<=1000000;omega)).mono λ v H' hp=>g (kC.then d k hp)
def Ai(hn:b.ns[c.toNat]? = B1 n)(a:0<=c):0<=c/\c<b.ns.length:=by have:=(qt.1 hn).1;omega
def xka(h:eL H0 H B s b own)(hb:BB b)(j:0<=c)(hn:b.ns[c.toNat]? = B1 n)(a:Int):zb M T1 [.ptr B 0,.int .i64 c,.int .i64 a] H λ v H'=>v=.tuple [.int .u64 (n.load a).2.1,.bool (n.load a).2.2.1,.int .i64 (n.load a).2.2.2.2]/\kC H0 H B s (b.put c.toNat ((n.load a).1,(n.load a).2.2.2.1)) H':=by
 refine q6w ?_;obtain⟨w0,w4,g⟩:=q6x M ⟨B5,T1⟩;simp only[aa,bc,w0];refine C3.q (Gu h hb.N4 c) λ v H1⟨m,k,_⟩=>?_;have⟨A,i,o⟩:=k (Ai hn j);rw[o,m];have y:=qv (show(0:Int)=0 from rfl);have⟨ni,bk,us⟩:=hb.no _ n hn;have p:=h.no _ n A hn i;simp only[aa,bc,xj,w4,g];refine C3.q (xl7 p ni.ci bk (by omega) a) λ v u⟨⟨x,f,d⟩,e,l⟩=>?_;rw[f];simp only[aa,bc,xj];refine C3.q (h.out hb hn i (e.t l) d (by have:=xg0 n a;omega) (Q:=λ _ H'=>kC H0 H B s (b.put c.toNat ((n.load a).1,(n.load a).2.2.2.1)) H') (r:=.nils) id) λ v w hp=>?_;simp only[aa,bc];exact hp
def xh3(h:eL H0 H B s b own)(hb:BB b)(j:0<=c)(hn:b.ns[c.toNat]? = B1 n)(a y:Int):zb M S0 [.ptr B 0,.int .i64 c,.int .i64 a,.int .u64 y] H λ v H'=>v=.tuple [.bool (n.store a y).2.1,.int .i64 (n.store a y).2.2.2]/\kC H0 H B s (b.put c.toNat ((n.store a y).1,(n.store a y).2.2.1)) H':=by
 refine q3x ?_;obtain⟨w0,w4,g⟩:=q3y M ⟨B5,S0⟩;simp only[aa,bc,w0];refine C3.q (Gu h hb.N4 c) λ v H1⟨m,k,_⟩=>?_;have⟨A,i,o⟩:=k (Ai hn j);rw[o,m];have z:=qv (show(0:Int)=0 from rfl);have⟨ni,bk,us⟩:=hb.no _ n hn;have p:=h.no _ n A hn i;simp only[aa,bc,xj,w4,g];refine C3.q (xjw p ni.ci bk (by omega) a y) λ v u⟨⟨x,f,d⟩,e,l⟩=>?_;rw[f];simp only[aa,bc,xj];refine C3.q (h.out hb hn i (e.t l) d (by have:=_X n a y;omega) (Q:=λ _ H'=>kC H0 H B s (b.put c.toNat ((n.store a y).1,(n.store a y).2.2.1)) H') (r:=.nils) id) λ v w hp=>?_;simp only[aa,bc];exact hp
def ae2(h:eL H0 H B s b own)(hb:BB b)(j:0<=c)(hn:b.ns[c.toNat]? = B1 n)(a o y:Int):zb M Uq [.ptr B 0,.int .i64 c,.int .i64 a,.int .u64 o,.int .u64 y] H λ v H'=>v=.tuple [.bool (n.jP a o).1,.bool (n.jP a o).2.1,.int .i64 (n.jP a o).2.2]/\kC H0 H B s (b.put c.toNat (n.mV a o y)) H':=by
 refine q9g ?_;obtain⟨w0,w4,g⟩:=q9h M ⟨B5,Uq⟩;simp only[aa,bc,w0];refine C3.q (Gu h hb.N4 c) λ v H1⟨m,k,_⟩=>?_;have⟨A,i,p⟩:=k (Ai hn j);rw[p,m];have C:=qv (show(0:Int)=0 from rfl);have⟨ni,bk,us⟩:=hb.no _ n hn;have u:=h.no _ n A hn i;simp only[aa,bc,xj,w4,g];refine C3.q (xkz u ni.ci bk us a o y) λ v w⟨⟨z,f,d⟩,e,l⟩=>?_;rw[f];simp only[aa,bc,xj];refine C3.q (h.out hb hn i (e.t l) d (by have:=xky n a o y;omega) (Q:=λ _ H'=>kC H0 H B s (b.put c.toNat (n.mV a o y)) H') (r:=.nils) id) λ v x hp=>?_;simp only[aa,bc];exact hp
def xbd(h:eL H0 H B s b own)(hb:BB b)(e:0<=c)(hn:b.ns[c.toNat]? = B1 n):zb M R3 [.ptr B 0,.int .i64 c] H λ v H'=>v=.bool n.live/\H'=H:=by
 refine q6u ?_;simp only[aa,bc,q6v];refine C3.q (Gu h hb.N4 c) λ v H1⟨i,f,_⟩=>?_;have⟨A,g,j⟩:=f (Ai hn e);rw[j,i];have k:=h.no _ n A hn g;simp only[aa,bc,xj];refine C3.q (xl5 k) λ v l⟨d,a⟩=>?_;rw[d,a];simp only[aa,bc]
end
end Go.Am
namespace Go.Am
open Go.Proofs Ca
open Lang (ints)
variable{M:ak}[MK M]
def Bu.wQ(b:Bu)(i:Nat):Bu:=match b.fl[i]? with
 |none=>b
 |some m=>if m.k<=7 then match b.l[m.line.toNat]?,b.m[m.line.toNat]? with
  |some x,B1 w=>{b with m:=b.m.set m.line.toNat (x.bT w m).2.1,l:=b.l.set m.line.toNat (x.bT w m).1,fl:=b.fl.eraseIdx i++(x.bT w m).2.2}
  |_,_=>b
  else match b.ns[m.core.toNat]? with
   |some n=>{b with ns:=b.ns.set m.core.toNat (n.bT m).1,fl:=b.fl.eraseIdx i++(n.bT m).2}
   |none=>b
section
variable{H0 H:ar}{B:Nat}{s:Bs}{b:Bu}{own:Nat->Nat}{c:Int}{n:No}
def eL.quiet(h:eL H0 H B s b own){c:Nat}{n n':No}{A:Na}{H1:ar}(hn:b.ns[c]? = B1 n)(e:s.ad[c]? = B1 A)(f:rZ H0 H A.r A.b A.sv A.bv n' H1):kC H0 H B s (b.put c (n',[])) H1:=by
 have⟨i,o',d,g,a⟩:=h.node hn e f;refine⟨i,o',?_,g,a⟩;have:b.put c (n',[]) = {b with ns:=b.ns.set c n'}:=by unfold Bu.put;simp
 rw[this];exact d
def Uc{H1:ar}{e:AV}{n':No}(h:eL H0 H B s b own)(hb:BB b)(k:0<=c)(hn:b.ns[c.toNat]? = B1 n){f:Nat}{cap:List AV}
 (m:∀{A:Na},s.ad[c.toNat]? = B1 A->zb M f ([AV.ptr A.r 0]++cap) H λ v H'=>v=e/\di H0 H' A.r A.b A.sv A.bv n' A.ks/\Fr (iK A.r A.b A.sv A.bv) H H'):zb M Qp [.ptr B 0,.int .i64 c,.fn (.func f) [] cap] H λ v H'=>v=e/\kC H0 H B s (b.put c.toNat (n',[])) H':=by
 refine W2 ?_;obtain⟨w0,w4,i⟩:=_q M ⟨B5,Qp⟩;simp only[aa,bc,w0];refine C3.q (Gu h hb.N4 c) λ v H1⟨o,l,_⟩=>?_;have⟨A,j,p⟩:=l (Ai hn k);rw[p,o];have w:=qv (show(0:Int)=0 from rfl);simp only[aa,bc,xj,w4,i];refine C3.q (m j) λ v u⟨g,d,a⟩=>?_;rw[g];simp only[aa,bc];exact h.quiet hn j (d.t a)
def G7(h:eL H0 H B s b own)(hb:BB b)(d:¬(0<=c/\c<b.ns.length))(fv:AV):zb M Qp [.ptr B 0,.int .i64 c,fv] H λ v H'=>v=.int .i64 2/\H'=H:=by
 refine W2 ?_;obtain⟨w0,w4,g⟩:=_q M ⟨B5,Qp⟩;simp only[aa,bc,w0];refine C3.q (Gu h hb.N4 c) λ v H1⟨e,_,a⟩=>?_;rw[a d,e];have f:¬(2:Int)=0:=by decide
 simp only[aa,bc,xj,w4,f]
def xhr(h:eL H0 H B s b own)(hb:BB b)(a:0<=c)(hn:b.ns[c.toNat]? = B1 n):zb M Tl [.ptr B 0,.int .i64 c] H λ v H'=>v=.int .i64 (if n.live=B4 then 41 else 0)/\kC H0 H B s (b.put c.toNat (n.begin,[])) H':=by
 refine q3v ?_;simp only[aa,bc,q3w];refine C3.q (Uc (H1:=H) h hb a hn (cap:=[]) λ{A}d=>xej (h.no _ n A hn d)) λ v f⟨e,hp⟩=>?_;rw[e];simp only[aa,bc];exact hp
def xd8(h:eL H0 H B s b own)(hb:BB b)(a:0<=c)(hn:b.ns[c.toNat]? = B1 n):zb M T6 [.ptr B 0,.int .i64 c] H λ v H'=>v=.int .i64 (if n.live=B4 then 0 else 40)/\kC H0 H B s (b.put c.toNat (n.bt,[])) H':=by
 refine qzs ?_;simp only[aa,bc,qzt];refine C3.q (Uc (H1:=H) h hb a hn (cap:=[]) λ{A}d=>xal (h.no _ n A hn d)) λ v f⟨e,hp⟩=>?_;rw[e];simp only[aa,bc];exact hp
def a_{A:Na}{t:Nat}{k:Int}(d:di H0 H A.r A.b A.sv A.bv n A.ks)(hl:Op.ae [.ptr t 0] H=B1 (.int .i64 k)):zb M Jv ([.ptr A.r 0] ++ [.ptr t 0]) H λ v H'=>v=.int .i64 (n.abort k).2/\di H0 H' A.r A.b A.sv A.bv (n.abort k).1 A.ks/\Fr (iK A.r A.b A.sv A.bv) H H':=by
 refine qw7 ?_;simp only[aa,bc,qw8,hl];refine C3.q (xhp d k) λ v e⟨a,hp⟩=>?_;rw[a];simp only[aa,bc];exact hp
def q8z(h:eL H0 H B s b own)(hb:BB b)(f:0<=c)(hn:b.ns[c.toNat]? = B1 n)(k:Int):zb M NL [.ptr B 0,.int .i64 c,.int .i64 k] H λ v H'=>kC H0 H B s (b.put c.toNat ((n.abort k).1,[])) H':=by
 refine Y7 ?_;obtain⟨H1,e1,a,-,g⟩:=bZ H (OR [.int .i64 k] cH);have ca:AV.cells (.int .i64 k)=[.int .i64 k]:=rfl;have l1:Op.ae [.ptr H.au 0] H1=B1 (.int .i64 k):=x9 (xb g) 0;have mk:Op.bK Jv 0 [.ptr H.au 0]=B1 (.fn (.func Jv) [] [.ptr H.au 0]):=rfl;simp only[aa,bc,X5,ca,<-e1];have d:=h.em a;refine C3.q (Uc (H1:=H1) (e:=.int .i64 (n.abort k).2) (n':=(n.abort k).1) d hb f hn (cap:=[.ptr H.au 0]) λ{A}i=>a_ (d.no _ n A hn i) l1) λ v j⟨l,hp⟩=>?_;simp only[aa,bc];exact kC.pre a hp
def EG{fv:AV}{fl:List Mg}(h:Sk ao xm 11 H fv fl){i:Nat}(e:i<fl.length)(hl:fl.length<=1000000):zb M Vp [fv,.int .i64 (i:Int),.int .i64 ((i+1:Nat):Int)] H λ v H'=>Sk ao xm 11 H' v (fl.eraseIdx i)/\Fr (aM fv) H H' /\ ∀z,aM v z->aM fv z:=by
 refine qos ?_;obtain⟨w0,w4,d⟩:=qot M ⟨B5,Vp⟩;rcases h with⟨-,rfl⟩|⟨b,j,alt,r,hk⟩
 .simp at e
 have⟨v0,v1,v2,w,H1,v4,u,a0,g,k,l,p,m,o,b5,t⟩:=hk.del zf rh (by decide) e (zero:=ao ⟨0,0,0,.zero⟩) (zf _) (rh _) 88;have a:=(hk.sl zf).len;have ne:¬(i:Int)=((i+1:Nat):Int):=by omega
 simp only[aa,bc,w0,a,a0,w4,ne,d,g,k,l,p,m,mZ,o];exact⟨.inr ⟨_,_,_,_,b5⟩,t.mono λ z f(q:z=b)=>by rw[q];exact hk.on,λ z f=>by rw[b5.RY f];exact hk.on⟩
def eL.dir(h:eL H0 H B s b own){i:Nat}{x j:De}{a g:AV}{w':L8}{H':ar}(v:s.xs[i]? = B1 (x,a))(he:dX H' s.D s.mp s.lv s.ev b.ns.length (b.m.set i w') s.xs i j g)(f:Fr s.dw H H')(r:∀z,aM g z->aM a z\/H.au<=z) :
 ∃C t,eL H0 H' B C {b with m:=b.m.set i w',l:=b.l.set i j} t/\(∀z,gJ B C z->gJ B s z\/H.au<=z)/\Fr (gJ B s) H H':=by
 have F:Fr (gJ B s) H H':=f.mono λ z _ q=>.inr (.inl q);have ne:∀{z k:Nat},own z=k->k≠1 -> ¬s.dw z:=λ e1 e2 q=>e2 (by rw[<-e1];exact h.oD _ q);have E:H0.au<=H.au:=by have:=h.lo B (.inl rfl);have:=h.lt;omega
 have G:=(qt.1 v).1;have p:∀z,Bs.dw {s with xs:=s.xs.set i (j,g)} z->s.dw z\/H.au<=z:=λ z q=>by
  rcases q with q|q|q|q|⟨k,y,c,hk,q⟩
  .exact .inl (.inl q)
  .exact .inl (.inr (.inl q))
  .exact .inl (.inr (.inr (.inl q)))
  .exact .inl (.inr (.inr (.inr (.inl q))))
  .have hk:(s.xs.set i (j,g))[k]? = B1 (y,c):=hk
   by_cases e:k=i
   .subst e;rw[zk G]at hk;injection hk with hk;injection hk with _ hk;subst hk
    exact(r z q).elim (λ q=>.inl (.inr (.inr (.inr (.inr ⟨k,x,a,v,q⟩))))) .inr
   .rw [zq (rT e)]at hk;exact .inl (.inr (.inr (.inr (.inr ⟨k,y,c,hk,q⟩))))
 have u:∀z,gJ B {s with xs:=s.xs.set i (j,g)} z->gJ B s z\/H.au<=z:=λ z q=>by
  rcases q with q|q|q|q|q
  .exact .inl (.inl q)
  .exact (p z q).elim (λ q=>.inl (.inr (.inl q))) .inr
  .exact .inl (.inr (.inr (.inl q)))
  .exact .inl (.inr (.inr (.inr (.inl q))))
  .exact .inl (.inr (.inr (.inr (.inr q))))
 have ow:∀{z:Nat},z<H.au->aQ own H.au 1 z=own z:=λ q=>xg q;refine⟨{s with xs:=s.xs.set i (j,g)},aQ own H.au 1,⟨?_,qn h.lt f.au,he.d,?_,?_,λ c n A hn o=>?_,h.al,?_,?_,λ z q=>?_,λ z q=>?_,λ z q=>?_,λ c A o z q=>?_,λ z q=>?_⟩,u,F⟩
 .simp only[ze];rw[f.ah _ h.lt (ne h.oB (by decide))];exact h.row
 .simp only[List.map_set,h.dx]
 .exact Own.fr h.nv f λ z r q=>ne (h.oN z r) (by decide) q
 .refine (h.no c n A hn o).off f λ z w=>⟨h.lo z (.inr (.inl w)),λ w2=>?_⟩
  have:=h.oC c A o z w2;have:=h.oD z w;omega
 .exact h.fl.fr f λ z r q=>ne (h.oF z r) (by decide) q
 .rw [ow h.lt];exact h.oB
 .unfold aQ;split
  .rcases p z q with w|w
   .exact h.oD z w
   .omega
  .rfl
 .rw [ow (h.low (.inr (.inr (.inl q))))];exact h.oN z q
 .rw [ow (h.low (.inr (.inr (.inr (.inl q)))))];exact h.oF z q
 .rw [ow (h.low (.inr (.inr (.inr (.inr ⟨c,A,o,q⟩)))))];exact h.oC c A o z q
 .rcases u z q with w|w
  .exact h.lo z w
  .omega
end
end Go.Am
namespace Go.Am
open Go.Proofs Ca
open Lang (ints)
variable{M:ak}[MK M]
def E1(x:De)(w:L8)(m:Mg):(x.bT w m).2.2.length<=4:=by
 have hb:∀(y:De)n,(y.begin n w).2.length<=4:=λ y n=>by
  unfold De.begin;split
  .simp
  .split
   .simp
   .rw [xu];unfold xP;exact List.length_filter_le ..
 have hr:∀(y:De)w'(q:Prop)[Decidable q](r:List Mg),r.length<=3->(y.vJ w' q r).2.2.length<=4:=λ y w' q _ r h=>by
  unfold De.vJ;split
  .simp only[xe,zu,jq];omega
  .simp only;omega
 unfold De.bT;split;· simp
 split
 .split
  .simp
  .exact hb _ _
 split;· exact hr _ _ _ _ (by simp)
 split;· exact hr _ _ _ _ (by simp)
 split;· exact hr _ _ _ _ (by simp)
 split;· exact hr _ _ _ _ (by simp)
 cases x.wt with
 |nil=>simp
 |cons n r=>exact hb _ _
section
variable{H0 H:ar}{B:Nat}{s:Bs}{b:Bu}{own:Nat->Nat}{V:Int->L8}
def xhs(h:eL H0 H B s b own)(hb:BB b){i:Int}(k:¬(0<=i/\i<b.fl.length)):zb M Q5 [.ptr B 0,.int .i64 i] H λ v H'=>v=.tuple [.agg (ao ⟨0,0,0,.zero⟩),.int .i64 50]/\Fr Em H H':=by
 refine _3 ?_;obtain⟨w0,w2,-,-,-,-⟩:=qnj M ⟨B5,Q5⟩;obtain⟨H1,e1,d,-,g⟩:=bZ H (OR (ao ⟨0,0,0,.zero⟩) xm);have st:=fK g (zf _) (zf ⟨0,0,0,.zero⟩) (rh _);have ln:=eJ (xc H1 H.au (OR (ao ⟨0,0,0,.zero⟩) xm)) (zf ⟨0,0,0,.zero⟩);have e:=h.em d;have a:=e.fl.len zf;have fin:Fr Em H (H1.set H.au (OR (ao ⟨0,0,0,.zero⟩) xm)):=d.set (.inr (qm _)) _
 by_cases f:i<0
 .simp only[aa,bc,w0,mZ,<-e1,w2,yp,qv f,Ig,st,ln];exact fin
 have j:((b.fl.length:Nat):Int)<=i:=by omega
 simp only[aa,bc,w0,mZ,<-e1,w2,yp,f,qo,e.l2,a,qv j,Ig,st,ln];exact fin
def xbe(h:eL H0 H B s b own)(hb:BB b)(hI:BuI b V)(hwl:∀x∈b.l,x.wt.length<=900000){i:Nat}{m:Mg}(hm:b.fl[i]? = B1 m):zb M Q5 [.ptr B 0,.int .i64 (i:Int)] H λ v H'=>v=.tuple [.agg (ao m),.int .i64 0]/\kC H0 H B s (b.wQ i) H':=by
 have hil:=(qt.1 hm).1;have hfl:=hb.fl;have N4:=hI.N4;obtain⟨mk,mc,ml⟩:=hI.mw m (zd hm);refine _3 ?_;obtain⟨w0,w2,w17,w21,w23,Y⟩:=qnj M ⟨B5,Q5⟩;have⟨H1,e1,f1,n1,g1⟩:=bZ H (OR (ao ⟨0,0,0,.zero⟩) xm);have h1:=h.em f1;have Q:=h1.fl.sl zf;have hln:=h1.fl.len zf;have q0:¬(i:Int)<0:=by omega
 have q1:¬((b.fl.length:Nat):Int)<=(i:Int):=by omega
 have ix:=Q.idx hm (z:=(i:Int)) rfl .i64;have ld:=Q.aq zf (by decide) hm;obtain⟨H2,e2,f12,-,g2⟩:=bZ H1 (OR (ao ⟨0,0,0,.zero⟩) xm);have U:=fK g2 (zf _) (zf m) (rh m);obtain⟨j,Z⟩:∃X,X=H2.set H1.au (OR (ao m) xm):=⟨_,rfl⟩
 rw[<-Z]at U;have F:Fr Em H1 j:=by rw[Z];exact f12.set (.inr (qm _)) _
 have n3:j.au=H.au+2:=by rw[Z,t9,e2,xy,n1]
 have g3:j.get H1.au=B1 (OR (ao m) xm):=by rw[Z,xc]
 have g3z:j.get H.au=B1 (OR (ao ⟨0,0,0,.zero⟩) xm):=by rw[F.ah _ (by omega) id];exact g1
 have h3:=h1.em F;have wi:aj .i64 ((i:Int)+1)=((i+1:Nat):Int):=by rw[jc (by omega) (by omega)];omega
 have F3:Fr Em H j:=f1.trans F λ _ q=>q.elim;simp only[aa,bc,w0,mZ,<-e1,w2,yp,q0,qo,h1.l2,hln,q1,w17,ix,ld,<-e2,U,h3.l2,wi];refine C3.q (EG h3.fl hil (by omega)) λ v4 H4⟨k4,f4,o4⟩=>?_;have⟨C,s5,g,aQ,u,o5,f5⟩:=h3.Eu k4 f4 (λ z o=>.inl (o4 z o));have L:∀z,gJ B s z->z<H.au:=λ z o=>h.low o;have t:∀z,gJ B g z->gJ B s z\/j.au<=z:=o5;have f:∀z,z<j.au->H.au<=z->C.get z=j.get z:=λ z q1 q2=>f5.ah z q1 λ w=>by have:=L z w;omega
 have lk5:Op.ae [.ptr H1.au 0] C=B1 (.int .i64 m.k):=x9 (xb (show C.get H1.au=B1 (OR (ao m) xm)from by rw[f _ (by omega) (by omega)];exact g3)) 0;have lc5:Op.ae [.ptr H1.au 1] C=B1 (.int .i64 m.core):=x9 (xb (show C.get H1.au=B1 (OR (ao m) xm)from by rw[f _ (by omega) (by omega)];exact g3)) 1;have S:Op.aq 11 [.ptr H1.au 0] C=B1 (.agg (ao m)):=eJ (by rw[f _ (by omega) (by omega)];exact g3) (zf m);have mk1:Op.bK Ft 1 [.ptr g.D 0]=B1 (.fn (.func Ft) [.ptr g.D 0] []):=rfl;have m5:=f5.au
 -- behind the hearing
 have fin:∀{y:ar}{b':Bu},kC H0 C B g b' y->(∃O,Op.aq 11 [.ptr H1.au 0] y=B1 (.agg (ao m))/\Op.store 11 [.ptr H.au 0,.agg (ao m)] y=B1 (.undef,O)/\Op.aq 11 [.ptr H.au 0] O=B1 (.agg (ao m))/\kC H0 H B s b' O):=λ{y b'}hp=>by
  have⟨N,o7,h7,q7,f7⟩:=hp;have p:∀z,z<j.au->H.au<=z->y.get z=j.get z:=λ z w1 w2=>by
   rw[f7.ah z (by omega) λ w=>(t z w).elim (λ w=>by have:=L z w;omega) λ w=>by omega];exact f z w1 w2
  have gz:y.get H.au=B1 (OR (ao ⟨0,0,0,.zero⟩) xm):=by rw[p _ (by omega) (by omega)];exact g3z
  have m7:=f7.au;have E:∀z,gJ B N z->gJ B s z\/j.au<=z:=λ z o=>(q7 z o).elim (t z) λ w=>.inr (by omega);refine⟨_,eJ (by rw[p _ (by omega) (by omega)];exact g3) (zf m),fK gz (zf _) (zf m) (rh m),eJ (xc ..) (zf m),N,o7,h7.fr ((Fr.refl y).set (W:=On H.au) (.inl rfl) _) λ z o=>?_,λ z o=>(E z o).elim .inl λ w=>.inr (by omega),?_⟩
  .have o:z=H.au:=o;subst o;refine⟨by have:=h.lo B (.inl rfl);have:=h.lt;omega,λ w=>(E _ w).elim (λ w=>by have:=L _ w;omega) λ w=>by omega⟩
  .refine ((((F3.mono λ _ _ q=>q.elim).trans f5 λ z q=>.inl q).trans f7 λ z q=>?_).set (.inr (qm _)) _);exact(t z q).elim .inl λ w=>.inr (by omega)
 have hel:(b.fl.eraseIdx i).length<=b.fl.length:=List.length_eraseIdx_le ..;simp only[aa,bc,qo,s5,w21,u.l0,w23,lk5];unfold Bu.wQ;rw[hm]
 by_cases k7:m.k<=7
 .have nk:¬7<m.k:=by omega
  simp only[xg k7];have⟨x,w,K,hw,he⟩:=hI.entry ml.1 ml.2;rw[K,hw];have hxx:∃a,g.xs[m.line.toNat]? = B1 (x,a):=by
   have hl:=(qt.1 K).1;have P:m.line.toNat<g.xs.length:=by
    have:=congrArg List.length u.dx;rw[xu]at this;have:g.xs.length=b.l.length:=this;omega
   refine⟨(g.xs[m.line.toNat]).2,?_⟩;rw[xf P];have e:=congrArg (λ l=>l[m.line.toNat]?) u.dx;simp only[xq,xf P,GA]at e;have e:B1 (g.xs[m.line.toNat]).1=B1 x:=e.trans K;injection e with e
   rw[<-e]
  have⟨a,R⟩:=hxx;simp only[aa,bc,nk,Y,S];refine C3.q (xht (M:=M) (m:=m) u.d R hw he ml.1 mc.1 mc.2 (hwl x (zd K))) λ v6 H6⟨⟨ov,e,J,G⟩,a',en6,f6,o6⟩=>?_;rw[J];have⟨s6,T,h6,q6,g6⟩:=u.dir R en6 f6 o6;have hlen:=E1 x w m;simp only[aa,bc,xj];refine C3.q (VP h6 G.1 (by show(b.fl.eraseIdx i).length+_<=_;omega)) λ v7 y hp=>?_;have⟨O,l7,N,l8,I⟩:=fin (kC.then g6 q6 hp);simp only[aa,bc,l7,N,l8];exact I
 .have nk:7<m.k:=by omega
  simp only[qy k7];have⟨n,hn,hnw⟩:=hI.core mc.1 mc.2;rw[hn];have⟨ni,bk,us⟩:=hb.no _ n hn;have⟨A,hA,nr⟩:=u.yO hn;have K:(g.ad.map Na.r)[m.core.toNat]? = B1 A.r:=by rw[xq,hA];rfl
  have ixn:=u.nv.sl.idx K (z:=m.core) (by omega) .i64;have ldn:Op.ae [.ptr (aE g.nv) (cK 1 g.nv m.core.toNat)] C=B1 (.ptr A.r 0):=u.nv.sl.ig WK K (by decide);have mk2:Op.bK yz 1 [.ptr A.r 0]=B1 (.fn (.func yz) [.ptr A.r 0] []):=rfl;simp only[aa,bc,qv nk,u.l1,qo,lc5,ixn,ldn,Y,S];refine C3.q (xj5 nr ni.ci bk (by omega) m) λ v6 H6⟨⟨ov,e,J,G⟩,ht⟩=>?_;rw[J];have⟨s6,T,h6,q6,g6⟩:=u.node hn hA ht;have hlen:=xgy n m;simp only[aa,bc,xj];refine C3.q (VP h6 G.1 (by show(b.fl.eraseIdx i).length+_<=_;omega)) λ v7 y hp=>?_;have⟨O,l7,N,l8,I⟩:=fin (kC.then g6 q6 hp);simp only[aa,bc,l7,N,l8];exact I
end
end Go.Am
namespace Go.Am
open Go.Proofs Ca
open Lang (ints)
variable{M:ak}[MK M]
def U6{α:Type}(enc:α->List AV)(x:α):∀n:Nat,(Ji n x).flatMap enc=fY n (enc x)
 |0=>rfl
 |n+1=>by rw[OC,j6,U6 enc x n,fY,pq]
def zL(l:Int):Prop:=2<=l/\l<=64
instance(l:Int):Decidable (zL l):=inferInstanceAs (Decidable (_/\_))
def G1(H:ar)(l:Int)(v:AV)(H':ar):Prop:=Fr Em H H'/\(¬zL l/\v=.tuple [.nilp,.int .i64 2]\/zL l /\ ∃mp lv,v=.tuple [.ptr mp 0,.int .i64 0]/\Ba H' mp lv (Ji l.toNat .zero)/\H.au<=mp/\H.au<=aE lv)
def xfj{H:ar}(l:Int):zb M ZS [.int .i64 l] H (G1 H l):=by
 refine xmf ?_;obtain⟨w0,w2,g⟩:=xmg M ⟨B5,ZS⟩
 by_cases e:l<2
 .simp only[aa,bc,w0,w2,e];exact⟨Fr.refl _,.inl ⟨λ q=>by have:=q.1;omega,rfl⟩⟩
 by_cases i:64<l
 .simp only[aa,bc,w0,w2,e,i];exact⟨Fr.refl _,.inl ⟨λ q=>by have:=q.2;omega,rfl⟩⟩
 obtain⟨a,rfl⟩:=ji (show 0<=l by omega);have mk:=UG z7 64 (cD .zero) a .i64 .i64 (by omega) (by omega);rw[<-U6]at mk;obtain⟨H1,e1,k,n1,-⟩:=bZ H (OR ((Ji a L8.zero).flatMap cD) z7);obtain⟨sv,d⟩:∃sv:AV,sv=.slice H.au 0 a a:=⟨_,rfl⟩
 have f:Op.sliceTo a a H.au=sv:=by rw[d];rfl
 have o:aE sv=H.au:=by rw[d];rfl
 have j:Op.build [.nils] [(0,1)] [sv]=B1 (.agg [sv]):=by rw[d];rfl
 obtain⟨p,e2,h,-,m⟩:=bZ H1 (OR [sv] _l);simp only[aa,bc,w0,w2,e,i,g,lZ,mk,f,<-e1,j,<-e2];refine⟨k.trans h λ _ q=>q.elim,.inr ⟨⟨by omega,by omega⟩,_,sv,rfl,⟨m,by rw[e2,xy];omega,⟨H.au,?_,?_,?_⟩,by omega,by rw[jg];omega⟩,by omega,by omega⟩⟩
 .rw [jg];exact d
 .rw [e2,xy];omega
 .rw [h.ah _ (by omega) id,e1,xp];rfl
def qI:De:=⟨0,0,⟨0,0,0,.zero⟩,0,0,[]⟩
def iL:De:={qI with ow:=-1}
def eXZ:[AV.int .i64 0,.int .u8 0,.int .i64 0,.int .i64 0,.int .i64 0,.int .u64 0,.int .u64 0,.int .u64 0,.int .u64 0,.int .u64 0,.int .u64 0,.int .u64 0,.int .u64 0,.int .i64 0,.int .u8 0,.nils]=hC (qI,.nils):=rfl
def tZ(n i:Nat):List (De×AV):=(MX n).map λ k=>(if k<i then iL else qI,.nils)
def DN(n:Nat):tZ n 0=Ji n (qI,.nils):=by
 unfold tZ;apply yj;intro j;rw[xq];rcases xz j n with q|q
 .rw [kj q,List.getElem?_replicate,xg q];simp
 .rw [jp (by rw[jj];exact q),jp (by rw[jg];exact q)];rfl
def Ii(n:Nat):tZ n n=Ji n (iL,.nils):=by
 unfold tZ;apply yj;intro j;rw[xq];rcases xz j n with q|q
 .rw [kj q,List.getElem?_replicate,xg q];simp[q]
 .rw [jp (by rw[jj];exact q),jp (by rw[jg];exact q)];rfl
def TT{n i j:Nat}(h:j<n):(tZ n i)[j]? = B1 (if j<i then iL else qI,.nils):=by
 unfold tZ;rw[xq,kj h];rfl
def ae7{n i:Nat}(h:i<n):(tZ n i).set i (iL,.nils)=tZ n (i+1):=by
 have hl:∀k,(tZ n k).length=n:=λ k=>by unfold tZ;rw[xu,jj]
 apply yj;intro j
 by_cases q:j=i
 .subst q;rw[zk (by rw[hl];exact h),TT h,xg (by omega)]
 .rw [zq (rT q)];rcases xz j n with w|w
  .rw [TT w,TT w]
   by_cases e:j<i
   .rw [xg e,xg (by omega)]
   .rw [qy e,qy (by omega)]
  .rw [jp (by rw[hl];exact w),jp (by rw[hl];exact w)]
def R4{n i k:Nat}{x:De}{a:AV}(h:(tZ n i)[k]? = B1 (x,a)):a=.nils/\x.wt=[]:=by
 unfold tZ at h;rw[xq,xr]at h;obtain⟨j,-,e⟩:=h;injection e with e1 e2
 refine⟨e2.symm,?_⟩;rw[<-e1];split<;>rfl
def zH(l c:Int):Prop:=zL l/\1<=c/\c<=4
instance(l c:Int):Decidable (zH l c):=inferInstanceAs (Decidable (_/\_))
def Gg(H:ar)(l c:Int)(v:AV)(H':ar):Prop:=Fr Em H H'/\(¬zH l c/\v=.tuple [.nilp,.int .i64 2]\/zH l c /\ ∃D mp lv ev,v=.tuple [.ptr D 0,.int .i64 0]/\mT H' D mp lv ev c (Ji l.toNat .zero) (Ji l.toNat (iL,.nils)) /\ ∀z,mO D mp lv ev (Ji l.toNat (iL,.nils)) z->H.au<=z)
def xet{H:ar}(l c:Int):zb M Zo [.int .i64 l,.int .i64 c] H (Gg H l c):=by
 refine xk8 ?_;obtain⟨w0,w4,N,O,R,A,P,Q⟩:=xk9 M ⟨B5,Zo⟩;simp only[aa,bc,w0];refine C3.q (xfj l) λ v H1⟨p,hv⟩=>?_;rcases hv with⟨hm,rfl⟩|⟨hm,mp,lv,rfl,me,Y,Z⟩
 .have t2:¬(2:Int)=0:=by decide
  simp only[aa,bc,xj,w4,t2];exact⟨p,.inl ⟨λ q=>hm q.1,rfl⟩⟩
 have t0:=qv (show(0:Int)=0 from rfl)
 by_cases F:c<1
 .simp only[aa,bc,xj,w4,F];exact⟨p,.inl ⟨λ q=>by have:=q.2.1;omega,rfl⟩⟩
 by_cases U:4<c
 .simp only[aa,bc,xj,w4,F,U];exact⟨p,.inl ⟨λ q=>by have:=q.2.2;omega,rfl⟩⟩
 have J:=hm;have⟨m1,m2⟩:=J;obtain⟨n,rfl⟩:=ji (show 0<=l by omega);have mk:=UG Rk 144 (hC (qI,.nils)) n .i64 .i64 (by omega) (by omega);rw[<-U6 hC]at mk;obtain⟨m,e2,f2,n2,-⟩:=bZ H1 (OR ((Ji n (qI,AV.nils)).flatMap hC) Rk);obtain⟨sv,e⟩:∃sv:AV,sv=.slice H1.au 0 n n:=⟨_,rfl⟩
 have K:Op.sliceTo n n H1.au=sv:=by rw[e];rfl
 have hsb:aE sv=H1.au:=by rw[e];rfl
 have bd:Op.build [.nilp,.int .i64 0,.nils] [(0,1),(1,1),(2,1)] [.ptr mp 0,.int .i64 c,sv]=B1 (.agg [.ptr mp 0,.int .i64 c,sv]):=by rw[e];rfl
 obtain⟨C,S,T,-,g3⟩:=bZ m (OR [.ptr mp 0,.int .i64 c,sv] t8);have n3:C.au=H1.au+2:=by rw[S,xy,n2]
 have r:Fr Em H1 C:=f2.trans T λ _ q=>q.elim;have ml:=me.lt;have mls:=me.ls.lt;have r3:gW hC Rk 16 C sv (tZ n 0):=by
  rw[DN];refine⟨H1.au,by rw[jg];exact e,by omega,?_⟩;rw[T.ah _ (by omega) id,e2,xp]
 have m1':=p.au;have d3:mT C m.au mp lv sv c (Ji n .zero) (tZ n 0) :=
  ⟨g3,by omega,me.fr r id id,r3,λ i x a f=>by rw[(R4 f).1,(R4 f).2];exact Sk.nil _,⟨by omega,by omega,by omega,by omega,by omega⟩,λ i x a f z g=>by rw[(R4 f).1]at g;exact absurd rfl g.1,λ i j x y a b f _ _ z g=>by rw[(R4 f).1]at g;exact absurd rfl g.1,by rw[jg];unfold tZ;rw[xu,jj]⟩
 have hn3:H.au<=H1.au:=p.au;have w:∀{o:ar}{i:Nat},mT o m.au mp lv sv c (Ji n .zero) (tZ n i)->Op.ae [.ptr m.au 2] o=B1 sv:=λ h=>x9 (xb h.row) 2;have I:Op.cG [sv]=B1 (.int .i64 ((n:Nat):Int)):=by rw[e];rfl
 simp only[aa,bc,xj,w4,F,U,N,eXZ,mk,K,<-e2,bd,<-S,O,qo,w d3,I];refine cu.intro (λ k E o=>∃(i:Nat),E=[(36,.int .i64 (i:Int)),(35,.int .i64 ((n:Nat):Int)),(8,.ptr m.au 0)]/\k=n-i/\i<=n/\mT o m.au mp lv sv c (Ji n .zero) (tZ n i)/\Fr Em H o) ?_ ?_
 .exact ⟨_,_,⟨0,rfl,rfl,xw _,d3,p.trans r λ _ q=>q.elim⟩,by simp only[aa,bc]⟩
 rintro k E o ⟨i,rfl,rfl,hi,t,W⟩;rcases xz i n with u|hge
 .have L:(i:Int)<((n:Nat):Int):=by omega
  have f:=TT (i:=i) u;rw[qy (Gp i)]at f;have en:=dX.of t f;have ix:Op.aR 16 [sv,.int .i64 (i:Int)]=B1 (.ptr (aE sv) (cK 16 sv i)):=(t.es.sl A8).idx f rfl .i64;have⟨X,s5,D,f5⟩:=en.s0 (-1);have wj:aj .i64 ((i:Int)+1)=((i+1:Nat):Int):=by rw[jc (by omega) (by omega)];omega
  have d5:mT X m.au mp lv sv c (Ji n .zero) (tZ n (i+1)):=by rw[<-ae7 u];exact D.d
  simp only[aa,bc,A,L,P,qo,w t,ix,s5,Q,wj];exact⟨_,_,⟨i+1,rfl,rfl,by omega,d5,W.trans f5 λ z(q:z=aE sv)=>.inr (by omega)⟩,by simp only[aa,bc],by omega⟩
 .have G:i=n:=by omega
  have L:¬(i:Int)<((n:Nat):Int):=by omega
  subst G;simp only[aa,bc,A,L,R];rw[Ii]at t;refine⟨W,.inr ⟨⟨hm,by omega,by omega⟩,_,mp,lv,sv,rfl,t,λ z g=>?_⟩⟩;rcases g with rfl|rfl|rfl|rfl|⟨k,x,a,hk,g⟩
  .omega
  .exact Y
  .exact Z
  .omega
  .rw [Ho,List.getElem?_replicate]at hk;split at hk
   .injection hk with hk;injection hk with _ hk;rw[<-hk]at g;exact absurd rfl g.1
   .cases hk
end Go.Am
