import Derived.Test.YtgjdmncoonceaaaGreatDoorAmNZf
import Derived.Test.YtgjdmncoonceaaaGreatDoorAmNZh
import Derived.Test.YtgjdmncoonceaaaGreatDoorAmNZe
import Derived.Test.YtgjdmncoonceaaaGreatDoorAmNZg
import Derived.Test.YtgjdmncoonceaaaGreatDoorAmNZd
set_option linter.defProp false
set_option linter.unusedVariables false
set_option linter.unusedSimpArgs false
set_option linter.unusedSectionVars false
set_option maxRecDepth 100000
open Bool renaming noConfusion→Po,false→B2,true→B4
open List renaming range→N8,replicate→Jm
open Option renaming none→B5,some→B1
open Nat renaming reduceEqDiff→bc
namespace Go.Am
open Go.Proofs Ca
variable{M:ak}[MK M]
structure A6(H:ar)(mp:Nat)(lv:AV)(ws:List L8):Prop where
 row:H.get mp=B1 (OR [lv] V2)
 lt:mp<H.au
 ls:gW cu ja 8 H lv ws
 ne:mp≠aF lv
 le:ws.length<=64
section
variable{H:ar}{mp:Nat}{lv:AV}{ws:List L8}
def A6.fr{H':ar}{W:Nat->Prop}(h:A6 H mp lv ws)(f:Fr W H H')(b:¬W mp)(c:¬W (aF lv)):A6 H' mp lv ws:=⟨by rw[f.ah _ h.lt b];exact h.row,qn h.lt f.au,h.ls.fr f c,h.ne,h.le⟩
def q5u(h:A6 H mp lv ws){n:Int}(f:0<=n)(g:n<ws.length):zd M hK [.ptr mp 0,.int .i64 n] H λ v H'=>v=.tuple [.ptr (aF lv) (cZ 8 lv n.toNat),.int .i64 0]/\H'=H:=by
 have hl:Op.ae [.ptr mp 0] H=B1 lv:=zb (xc h.row) 0;have hn:=(h.ls.sl yj).len;have d:¬n<0:=by omega
 have e:¬((ws.length:Nat):Int)<=n:=by omega
 have c:ws[n.toNat]? = B1 (ws[n.toNat]'(by omega)):=xf (by omega);have ix:Op.aQ 8 [lv,.int .i64 n]=B1 (.ptr (aF lv) (cZ 8 lv n.toNat)):=(h.ls.sl yj).idx c (by omega) .i64;refine xdh ?_;obtain⟨w0,w2,b⟩:=xdi M ⟨B5,hK⟩;simp only[aa,bc,w0,w2,yp,d,qt,hl,hn,e,b,ix]
def π(h:A6 H mp lv ws){n:Int}{w:L8}(e:0<=n)(hw:ws[n.toNat]? = B1 w):zd M U4 [.ptr mp 0,.int .i64 n] H λ v H'=>v=.tuple [.agg (cu w),.int .i64 0]/\Fr Em H H':=by
 have g:=(qo.1 hw).1;refine q72 ?_;obtain⟨w0,w4,c⟩:=q73 M ⟨B5,U4⟩;obtain⟨H1,e1,b,-,d⟩:=cq H (OR (cu .zero) ja);simp only[aa,bc,w0,lZ,<-e1];refine C3.q (q5u (h.fr b id id) e (by omega)) λ v k⟨j,f⟩=>?_;rw[j,f];have ld:Op.aq 8 [.ptr (aF lv) (cZ 8 lv n.toNat)] H1=B1 (.agg (cu w)):=((h.fr b id id).ls.sl yj).aq yj (by decide) hw;have st:=fF d (yj _) (yj w) (uj w);have hg:(H1.set H.au (OR (cu w) ja)).get H.au=B1 (OR (cu w) ja):=xe ..;have ln:=eF hg (yj w);simp only[aa,bc,xj,w4,c,qt,ld,st,ln];exact b.set (.inr (qm _)) _
def U6(h:A6 H mp lv ws){n:Int}(f:0<=n)(g:n<ws.length)(x:L8):zd M VT [.ptr mp 0,.int .i64 n,.agg (cu x)] H λ v H'=>v=.int .i64 0/\A6 H' mp lv (ws.set n.toNat x)/\Fr (On (aF lv)) H H':=by
 refine xax ?_;obtain⟨w0,w4,c⟩:=xay M ⟨B5,VT⟩;obtain⟨H1,e1,d,-,e⟩:=cq H (OR (cu x) ja);have hm:=h.fr d id id;simp only[aa,bc,w0,<-e1];refine C3.q (q5u hm f g) λ v o⟨k,j⟩=>?_;rw[k,j];have ln:=eF e (yj x);have l:ws[n.toNat]? = B1 (ws[n.toNat]'(by omega)):=xf (by omega);have⟨p,st,m,b⟩:=hm.ls.QE yj uj l x;simp only[aa,bc,xj,w4,ln,qt,st,c];exact⟨⟨by rw[b.ah _ hm.lt (λ q=>hm.ne q)];exact hm.row,qn hm.lt b.au,m,h.ne,by rw[xw];exact h.le⟩,(d.mono λ _ _ q=>q.elim).trans b λ _ q=>.inl q⟩
end
end Go.Am
namespace Go.Am
open Go.Proofs Ca
variable{M:ak}[MK M]
abbrev uB(s:Nat):AV:=.int .u8 (s:Int)
def N5{c:Int}(b:0<=c)(d:c<4):Op.bin .shl [.int .u8 1,.int .i64 c]=B1 (uB (2 ^ c.toNat)):=by
 rcases four b d with rfl|rfl|rfl|rfl<;>rfl
def K7{s:Nat}(h:s<16):s=0\/s=1\/s=2\/s=3\/s=4\/s=5\/s=6\/s=7\/s=8\/s=9\/s=10\/s=11\/s=12\/s=13\/s=14\/s=15:=by omega
def YD{s:Nat}(hs:s<16){c:Int}(b:0<=c)(d:c<4):Op.bin .andNot [uB s,uB (2 ^ c.toNat)]=B1 (uB (cR s c)):=by
 rcases four b d with rfl|rfl|rfl|rfl<;>rcases K7 hs with rfl|rfl|rfl|rfl|rfl|rfl|rfl|rfl|rfl|rfl|rfl|rfl|rfl|rfl|rfl|rfl<;>rfl
def ψ{s:Nat}(hs:s<16){c:Int}(b:0<=c)(d:c<4):Op.bin .or [uB s,uB (2 ^ c.toNat)]=B1 (uB (rS s c)):=by
 rcases four b d with rfl|rfl|rfl|rfl<;>rcases K7 hs with rfl|rfl|rfl|rfl|rfl|rfl|rfl|rfl|rfl|rfl|rfl|rfl|rfl|rfl|rfl|rfl<;>rfl
def xo{s:Nat}(hs:s<16){c:Int}(b:0<=c)(d:c<4):Op.bin .and [uB s,uB (2 ^ c.toNat)]=B1 (uB (hb s c*2 ^ c.toNat)):=by
 rcases four b d with rfl|rfl|rfl|rfl<;>rcases K7 hs with rfl|rfl|rfl|rfl|rfl|rfl|rfl|rfl|rfl|rfl|rfl|rfl|rfl|rfl|rfl|rfl<;>rfl
def gP(p:De×AV):List AV:=.int .i64 p.1.ow::uB p.1.sh::(ao p.1.un ++ [.int .i64 p.1.ph,uB p.1.ask,p.2])
def AK(p:De×AV):(gP p).length=16:=by simp[gP,zi]
def Hv(p:De×AV):(gP p)[0]? = B1 (.int .i64 p.1.ow)/\(gP p)[1]? = B1 (uB p.1.sh)/\(gP p)[2]? = B1 (.int .i64 p.1.un.k)/\(gP p)[3]? = B1 (.int .i64 p.1.un.core)/\(gP p)[4]? = B1 (.int .i64 p.1.un.line)/\(gP p)[13]? = B1 (.int .i64 p.1.ph)/\(gP p)[14]? = B1 (uB p.1.ask)/\(gP p)[15]? = B1 p.2/\((gP p).drop 2).take 11=ao p.1.un:=by
 have⟨⟨ow,sh,⟨k,co,li,⟨d,b⟩⟩,ph,ask,wt⟩,a⟩:=p
 match d,b with
 |[_,_,_,_,_,_,_,_],_=>exact⟨rfl,rfl,rfl,rfl,rfl,rfl,rfl,rfl,rfl⟩
structure mV(H:ar)(D mp:Nat)(lv ev:AV)(N:Int)(ws:List L8)(xs:List (De×AV)):Prop where
 row:H.get D=B1 (OR [.ptr mp 0,.int .i64 N,ev] xb6)
 lt:D<H.au
 me:A6 H mp lv ws
 es:gW gP RF 16 H ev xs
 wt:∀(i:Nat)(x:De)(a:AV),xs[i]? = B1 (x,a)->Sk ao xq 11 H a x.wt
 d1:D≠mp/\D≠aF lv/\D≠aF ev/\mp≠aF ev/\aF lv≠aF ev
 d2:∀(i:Nat)(x:De)(a:AV),xs[i]? = B1 (x,a) -> ∀z,aM a z->z≠D/\z≠mp/\z≠aF lv/\z≠aF ev
 d3:∀(i j:Nat)(x y:De)(a b:AV),xs[i]? = B1 (x,a)->xs[j]? = B1 (y,b)->i≠j -> ∀z,aM a z -> ¬aM b z
 len:xs.length=ws.length
def mS(D mp:Nat)(lv ev:AV)(xs:List (De×AV)):Nat->Prop:=λ z=>z=D\/z=mp\/z=aF lv\/z=aF ev \/ ∃(i:Nat)(x:De)(a:AV),xs[i]? = B1 (x,a)/\aM a z
section
variable{H:ar}{D mp:Nat}{lv ev:AV}{N:Int}{ws:List L8}{xs:List (De×AV)}
def mV.fr{H':ar}{W:Nat->Prop}(h:mV H D mp lv ev N ws xs)(f:Fr W H H')(hw:∀z,W z -> ¬mS D mp lv ev xs z):mV H' D mp lv ev N ws xs :=
 ⟨by rw[f.ah _ h.lt (λ q=>hw _ q (.inl rfl))];exact h.row,qn h.lt f.au,h.me.fr f (λ q=>hw _ q (.inr (.inl rfl))) (λ q=>hw _ q (.inr (.inr (.inl rfl)))),h.es.fr f (λ q=>hw _ q (.inr (.inr (.inr (.inl rfl))))),λ i x a b=>(h.wt i x a b).fr f λ z c q=>hw z q (.inr (.inr (.inr (.inr ⟨i,x,a,b,c⟩)))),h.d1,h.d2,h.d3,h.len⟩
def mV.em{H':ar}(h:mV H D mp lv ev N ws xs)(f:Fr Em H H'):mV H' D mp lv ev N ws xs:=h.fr f λ _ q=>q.elim
def mV.low(h:mV H D mp lv ev N ws xs){z:Nat}(b:mS D mp lv ev xs z):z<H.au:=by
 rcases b with rfl|rfl|rfl|rfl|⟨i,x,a,c,b⟩
 .exact h.lt
 .exact h.me.lt
 .exact h.me.ls.lt
 .exact h.es.lt
 .exact (h.wt i x a c).lt z b
abbrev xA(ev:AV)(i:Nat):AV:=.ptr (aF ev) (cZ 16 ev i)
def mV.ld(h:mV H D mp lv ev N ws xs){i:Nat}{p:De×AV}(b:xs[i]? = B1 p){k:Nat}(hk:k<16):Op.ae [.ptr (aF ev) (cZ 16 ev i+k)] H=(gP p)[k]?:=(h.es.sl AK).ae AK b hk
def mV.yE(h:mV H D mp lv ev N ws xs){i:Nat}{p:De×AV}(b:xs[i]? = B1 p):Op.ae [.ptr (aF ev) (cZ 16 ev i)] H=B1 (.int .i64 p.1.ow):=((h.es.sl AK).jO AK b (by decide)).trans (Hv p).1
def mV.ldU(h:mV H D mp lv ev N ws xs){i:Nat}{p:De×AV}(c:xs[i]? = B1 p):Op.aq 11 [.ptr (aF ev) (cZ 16 ev i+2)] H=B1 (.agg (ao p.1.un)):=by
 have k:=h.es.sl AK;have⟨b,e,l,d⟩:=h.es;have hl:cZ 16 ev i=i*16:=by rw[e];simp[cZ]
 have g:=(qo.1 c).1;have f:aF ev=b:=by rw[e];rfl
 rw[hl,f,rU (xc d) (by rw[G6 AK];omega)];have:((xs.flatMap gP).drop (i*16+2)).take 11=ao p.1.un:=by
  rw[<-(Hv p).2.2.2.2.2.2.2.2];apply ym;intro j;rw[Jl,Jl];split
  .rw [HW,HW,wv,Kf AK xs c (by omega)]
  .rfl
 rw[this]
theorem mV.put(h:mV H D mp lv ev N ws xs){i:Nat}{x y:De}{a:AV}(p:xs[i]? = B1 (x,a))(o:y.wt=x.wt){j n:Nat}{u:AV}(hu:u.cells.length=n)(ho:aN u.cells=B4)(F:j+n<=16)(I:gP (y,a)=(gP (x,a)).take j++u.cells++(gP (x,a)).drop (j+n)) :
 ∃H',Op.store n [.ptr (aF ev) (cZ 16 ev i+j),u] H=B1 (.undef,H')/\mV H' D mp lv ev N ws (xs.set i (y,a))/\Fr (On (aF ev)) H H':=by
 have⟨H',s,r,f⟩:=h.es.Ht AK p hu ho F I;have E:=(qo.1 p).1;have⟨e1,e2,t,v,A⟩:=h.d1;have d:∀(k:Nat)(z:De)(b:AV),(xs.set i (y,a))[k]? = B1 (z,b) -> ∃e,xs[k]? = B1 (e,b)/\e.wt=z.wt:=λ k z b hk=>by
  by_cases q:k=i
  .subst q;rw[za E]at hk;injection hk with hk;injection hk with B C
   subst B C;exact⟨x,p,o.symm⟩
  .rw [zf (nG q)]at hk;exact⟨z,hk,rfl⟩
 refine⟨H',s,⟨by rw[f.ah _ h.lt (λ q=>t q)];exact h.row,qn h.lt f.au,h.me.fr f (λ q=>v q) (λ q=>A q),r,λ k z b hk=>?_,h.d1,λ k z b hk=>?_,λ k l z w b c hk m=>?_,by rw[xw];exact h.len⟩,f⟩
 .have ⟨e,g,hw⟩:=d k z b hk;rw[<-hw];exact(h.wt k e b g).fr f λ q G w=>(h.d2 k e b g q G).2.2.2 w
 .obtain ⟨e,g,-⟩:=d k z b hk;exact h.d2 k e b g
 .obtain ⟨e,g,-⟩:=d k z b hk;obtain⟨w',hw,-⟩:=d l w c m;exact h.d3 k l e w' b c g hw
def mV.wait(h:mV H D mp lv ev N ws xs){i:Nat}{x:De}{a g:AV}{ys:List Mg}{H1:ar}(A:xs[i]? = B1 (x,a))(hs:Sk ao xq 11 H1 g ys)(f:Fr (aM a) H H1)(C:∀z,aM g z->aM a z\/H.au<=z)(K:aB g=B4) :
 ∃H',Op.store 1 [.ptr (aF ev) (cZ 16 ev i+15),g] H1=B1 (.undef,H')/\mV H' D mp lv ev N ws (xs.set i ({x with wt:=ys},g))/\Fr (mS D mp lv ev xs) H H'/\Fr (On (aF ev)) H1 H':=by
 have E:=(qo.1 A).1;have⟨e1,e2,L,O,P⟩:=h.d1;have B:=h.d2 i x a A;have G:gW gP RF 16 H1 ev xs:=h.es.fr f λ q=>(B _ q).2.2.2 rfl;have F:g.cells=[g]:=by cases g<;>first|rfl|cases K
 have⟨H',s,r,m⟩:=G.Ht (y:=({x with wt:=ys},g)) AK A (j:=15) (n:=1) (u:=g) (by rw[F];rfl) (by rw[F];rw[vg];simpa using K) (by decide) (by
  rw[F];have⟨ow,sh,⟨k,co,li,⟨d,Q⟩⟩,ph,ask,wt⟩:=x
  match d,Q with
  |[_,_,_,_,_,_,_,_],_=>rfl)
 have I:Fr (mS D mp lv ev xs) H H':=(f.mono λ z _ J=>(.inr (.inr (.inr (.inr ⟨i,x,a,A,J⟩))):mS D mp lv ev xs z)).trans m λ z(q:z=aF ev)=>.inl (.inr (.inr (.inr (.inl q))));have R:=h.es.lt;refine⟨H',s,⟨?_,?_,?_,r,λ k z b hk=>?_,h.d1,λ k z b hk q v=>?_,λ k l z w b c hk e t q v=>?_,by rw[xw];exact h.len⟩,I,m⟩
 .rw [m.ah _ (qn h.lt f.au) (λ q=>L q),f.ah _ h.lt (λ q=>(B _ q).1 rfl)];exact h.row
 .exact qn (qn h.lt f.au) m.au
 .exact (h.me.fr f (λ q=>(B _ q).2.1 rfl) (λ q=>(B _ q).2.2.1 rfl)).fr m (λ q=>O q) (λ q=>P q)
 .by_cases q:k=i
  .subst q;rw[za E]at hk;injection hk with hk;injection hk with o p
   subst o p;refine hs.fr m λ z J w=>?_;rcases C z J with q|q
   .exact (B z q).2.2.2 w
   .have w:z=aF ev:=w;omega
  .rw [zf (nG q)]at hk;refine((h.wt k z b hk).fr f λ u hu w=>h.d3 k i z x b a hk A q u hu w).fr m λ u hu w=>(h.d2 k z b hk u hu).2.2.2 w
 .by_cases w:k=i
  .subst w;rw[za E]at hk;injection hk with hk;injection hk with o p
   subst o p;rcases C q v with w|w
   .exact B q w
   .have T:=h.lt;have U:=h.me.lt;have V:=h.me.ls.lt;exact⟨by omega,by omega,by omega,by omega⟩
  .rw [zf (nG w)]at hk;exact h.d2 k z b hk q v
 .by_cases w1:k=i
  .subst w1;rw[za E]at hk;rw[zf t]at e;injection hk with hk;injection hk with o p
   subst o p;rcases C q v with w|w
   .exact h.d3 k l x _ a c A e t q w
   .intro w2;have:=(h.wt l _ c e).lt q w2;omega
  .rw [zf (nG w1)]at hk
   by_cases w2:l=i
   .subst w2;rw[za E]at e;injection e with e;injection e with o p
    subst o p;intro S;rcases C q S with w|w
    .exact h.d3 k l z x b a hk A w1 q v w
    .have:=(h.wt k z b hk).lt q v;omega
   .rw [zf (nG w2)]at e;exact h.d3 k l z _ b c hk e t q v
end
end Go.Am
namespace Go.Am
open Go.Proofs Ca
variable{M:ak}[MK M]
structure dU(H:ar)(D mp:Nat)(lv ev:AV)(N:Int)(ws:List L8)(xs:List (De×AV))(i:Nat)(x:De)(a:AV):Prop where
 il:i<xs.length
 d:mV H D mp lv ev N ws (xs.set i (x,a))
section
variable{H:ar}{D mp:Nat}{lv ev:AV}{N:Int}{ws:List L8}{xs:List (De×AV)}{i:Nat}{x:De}{a:AV}
def dU.of(h:mV H D mp lv ev N ws xs)(b:xs[i]? = B1 (x,a)):dU H D mp lv ev N ws xs i x a:=by
 refine⟨(qo.1 b).1,?_⟩;have:xs.set i (x,a)=xs:=by
  apply ym;intro j
  by_cases q:j=i
  .rw [q,za (qo.1 b).1,b]
  .rw [zf (nG q)]
 rw[this];exact h
def dU.here(h:dU H D mp lv ev N ws xs i x a):(xs.set i (x,a))[i]? = B1 (x,a):=za h.il
def dU.em{H':ar}(h:dU H D mp lv ev N ws xs i x a)(f:Fr Em H H'):dU H' D mp lv ev N ws xs i x a:=⟨h.il,h.d.em f⟩
def dU.l0(h:dU H D mp lv ev N ws xs i x a):Op.ae [.ptr (aF ev) (cZ 16 ev i)] H=B1 (.int .i64 x.ow):=h.d.yE h.here
def dU.l1(h:dU H D mp lv ev N ws xs i x a):Op.ae [.ptr (aF ev) (cZ 16 ev i+1)] H=B1 (uB x.sh):=(h.d.ld h.here (by decide)).trans (Hv (x,a)).2.1
def dU.l2(h:dU H D mp lv ev N ws xs i x a):Op.ae [.ptr (aF ev) (cZ 16 ev i+2)] H=B1 (.int .i64 x.un.k):=(h.d.ld h.here (by decide)).trans (Hv (x,a)).2.2.1
def dU.l3(h:dU H D mp lv ev N ws xs i x a):Op.ae [.ptr (aF ev) (cZ 16 ev i+2+1)] H=B1 (.int .i64 x.un.core):=(h.d.ld h.here (k:=3) (by decide)).trans (Hv (x,a)).2.2.2.1
def dU.l4(h:dU H D mp lv ev N ws xs i x a):Op.ae [.ptr (aF ev) (cZ 16 ev i+2+2)] H=B1 (.int .i64 x.un.line):=(h.d.ld h.here (k:=4) (by decide)).trans (Hv (x,a)).2.2.2.2.1
def dU.sk(h:dU H D mp lv ev N ws xs i x a):Op.ae [.ptr (aF ev) (cZ 16 ev i+13)] H=B1 (.int .i64 x.ph):=(h.d.ld h.here (by decide)).trans (Hv (x,a)).2.2.2.2.2.1
def dU.vW(h:dU H D mp lv ev N ws xs i x a):Op.ae [.ptr (aF ev) (cZ 16 ev i+14)] H=B1 (uB x.ask):=(h.d.ld h.here (by decide)).trans (Hv (x,a)).2.2.2.2.2.2.1
def dU.iI(h:dU H D mp lv ev N ws xs i x a):Op.ae [.ptr (aF ev) (cZ 16 ev i+15)] H=B1 a:=(h.d.ld h.here (by decide)).trans (Hv (x,a)).2.2.2.2.2.2.2.1
def dU.lU(h:dU H D mp lv ev N ws xs i x a):Op.aq 11 [.ptr (aF ev) (cZ 16 ev i+2)] H=B1 (.agg (ao x.un)):=h.d.ldU h.here
theorem dU.put(h:dU H D mp lv ev N ws xs i x a){y:De}(b:y.wt=x.wt){j n:Nat}{u:AV}(hu:u.cells.length=n)(ho:aN u.cells=B4)(c:j+n<=16)(e:gP (y,a)=(gP (x,a)).take j++u.cells++(gP (x,a)).drop (j+n)) :
 ∃H',Op.store n [.ptr (aF ev) (cZ 16 ev i+j),u] H=B1 (.undef,H')/\dU H' D mp lv ev N ws xs i y a/\Fr (On (aF ev)) H H':=by
 have⟨H',s,r,f⟩:=h.d.put h.here b hu ho c e;rw[List.set_set]at r;exact⟨H',s,⟨h.il,r⟩,f⟩
def dU.s0(h:dU H D mp lv ev N ws xs i x a)(k:Int):∃H',Op.store 1 [.ptr (aF ev) (cZ 16 ev i),.int .i64 k] H=B1 (.undef,H')/\dU H' D mp lv ev N ws xs i {x with ow:=k} a/\Fr (On (aF ev)) H H' :=
 h.put (y:={x with ow:=k}) (j:=0) (n:=1) (u:=.int .i64 k) rfl rfl rfl (by decide) rfl
def dU.s1(h:dU H D mp lv ev N ws xs i x a)(k:Nat):∃H',Op.store 1 [.ptr (aF ev) (cZ 16 ev i+1),uB k] H=B1 (.undef,H')/\dU H' D mp lv ev N ws xs i {x with sh:=k} a/\Fr (On (aF ev)) H H' :=
 h.put (y:={x with sh:=k}) (j:=1) (n:=1) (u:=uB k) rfl rfl rfl (by decide) rfl
def dU.sU(h:dU H D mp lv ev N ws xs i x a)(m:Mg):∃H',Op.store 11 [.ptr (aF ev) (cZ 16 ev i+2),.agg (ao m)] H=B1 (.undef,H')/\dU H' D mp lv ev N ws xs i {x with un:=m} a/\Fr (On (aF ev)) H H':=by
 refine h.put (y:={x with un:=m}) (j:=2) (n:=11) (u:=.agg (ao m)) rfl (by rw[zr];exact zi m) (by rw[zr];exact qW m) (by decide) ?_;rw[zr];have⟨ow,sh,⟨k,co,li,⟨d,b⟩⟩,ph,ask,wt⟩:=x
 match d,b with
 |[_,_,_,_,_,_,_,_],_=>rfl
def dU.R4(h:dU H D mp lv ev N ws xs i x a)(k:Int):∃H',Op.store 1 [.ptr (aF ev) (cZ 16 ev i+13),.int .i64 k] H=B1 (.undef,H')/\dU H' D mp lv ev N ws xs i {x with ph:=k} a/\Fr (On (aF ev)) H H':=by
 refine h.put (y:={x with ph:=k}) (j:=13) (n:=1) (u:=.int .i64 k) rfl rfl rfl (by decide) ?_;have⟨ow,sh,⟨k,co,li,⟨d,b⟩⟩,ph,ask,wt⟩:=x
 match d,b with
 |[_,_,_,_,_,_,_,_],_=>rfl
def dU.SW(h:dU H D mp lv ev N ws xs i x a)(k:Nat):∃H',Op.store 1 [.ptr (aF ev) (cZ 16 ev i+14),uB k] H=B1 (.undef,H')/\dU H' D mp lv ev N ws xs i {x with ask:=k} a/\Fr (On (aF ev)) H H':=by
 refine h.put (y:={x with ask:=k}) (j:=14) (n:=1) (u:=uB k) rfl rfl rfl (by decide) ?_;have⟨ow,sh,⟨k,co,li,⟨d,b⟩⟩,ph,ask,wt⟩:=x
 match d,b with
 |[_,_,_,_,_,_,_,_],_=>rfl
def bdG(co l:Int)(d:L8):Op.build (ao ⟨0,0,0,.zero⟩) [(0,1),(1,1),(2,1),(3,8)] [.int .i64 14,.int .i64 co,.int .i64 l,.agg (cu d)]=B1 (.agg (ao ⟨14,co,l,d⟩)):=by
 have⟨d,b⟩:=d
 match d,b with
 |[_,_,_,_,_,_,_,_],_=>rfl
def dU.UN(h:dU H D mp lv ev N ws xs i x a):∃H',Op.store 1 [.ptr (aF ev) (cZ 16 ev i+14),.int .u8 0] H=B1 (.undef,H')/\dU H' D mp lv ev N ws xs i {x with ask:=0} a/\Fr (On (aF ev)) H H':=h.SW 0
def dU.s1z(h:dU H D mp lv ev N ws xs i x a):∃H',Op.store 1 [.ptr (aF ev) (cZ 16 ev i+1),.int .u8 0] H=B1 (.undef,H')/\dU H' D mp lv ev N ws xs i {x with sh:=0} a/\Fr (On (aF ev)) H H':=h.s1 0
abbrev Lo(H:ar):Nat->Prop:=λ z=>H.au<=z
def dU.loc{j:De}{H1 e:ar}(h:dU H D mp lv ev N ws xs i x a)(c:dU H1 D mp lv ev N ws xs i j a)(f:Fr (Lo H) H1 e):dU e D mp lv ev N ws xs i j a:=by
 refine⟨c.il,c.d.fr f λ z g q=>?_⟩;have:mS D mp lv ev (xs.set i (x,a)) z:=by
  rcases q with q|q|q|q|⟨k,y,b,hk,q⟩
  .exact .inl q
  .exact .inr (.inl q)
  .exact .inr (.inr (.inl q))
  .exact .inr (.inr (.inr (.inl q)))
  .by_cases w:k=i
   .subst w;rw[c.here]at hk;injection hk with hk;injection hk with _ hk;subst hk
    exact .inr (.inr (.inr (.inr ⟨k,x,a,h.here,q⟩)))
   .rw [zf (nG w)]at hk;exact .inr (.inr (.inr (.inr ⟨k,y,b,by rw[zf (nG w)];exact hk,q⟩)))
 have:=h.d.low this;have g:H.au<=z:=g;omega
def q8q(h:dU H D mp lv ev N ws xs i x a){w:L8}(hw:ws[x.un.line.toNat]? = B1 w)(hl:0<=x.un.line)(hs:x.sh<16)(c0:0<=x.un.core)(c1:x.un.core<4) :
 zd M S7 [.ptr D 0,xA ev i] H λ v H'=>v=.agg (ao (x.dZ w).2)/\dU H' D mp lv ev N ws xs i (x.dZ w).1 a/\Fr (On (aF ev)) H H':=by
 refine q4k ?_;obtain⟨w0,w4,w8,w18⟩:=q4l M ⟨B5,S7⟩;have⟨H1,e1,f1,n1,g1⟩:=cq H (OR (ao ⟨0,0,0,.zero⟩) xq);have⟨H2,s2,h2,L⟩:=(h.em f1).R4 4;have⟨E,s3,A,O⟩:=h2.UN;have yE:Op.ae [.ptr D 0] E=B1 (.ptr mp 0):=zb (xc A.d.row) 0;have hev:=h.d.es.lt;have nb:¬H.au=aF ev:=by omega
 have m2:=L.au;have m3:=O.au;have g3:E.get H.au=B1 (OR (ao ⟨0,0,0,.zero⟩) xq):=by rw[O.ah _ (by omega) nb,L.ah _ (by omega) nb];exact g1
 simp only[aa,bc,w0,mZ,<-e1,qt,s2,s3,w4,yE,A.l4];refine C3.q (π A.d.me hl hw) λ v F⟨hv,f4⟩=>?_;rw[hv];obtain⟨H5,e5,P,-,g5⟩:=cq F (OR (cu .zero) ja);have B:=fF g5 (yj _) (yj w) (uj w);obtain⟨b,K⟩:∃X,X=H5.set F.au (OR (cu w) ja):=⟨_,rfl⟩
 rw[<-K]at B;have g6:b.get F.au=B1 (OR (cu w) ja):=by rw[K,xe]
 have Q:Fr Em F b:=by rw[K];exact P.set (.inr (qm _)) _
 have f:Fr Em E b:=f4.trans Q λ _ q=>q.elim;have h6:=A.em f;have l5:=eF g6 (yj w);obtain⟨H7,e7,R,-,g7⟩:=cq b (OR (ao ⟨0,0,0,.zero⟩) xq);have C:=fF g7 (zi _) (zi ⟨14,x.un.core,x.un.line,w⟩) (qW _);obtain⟨l,G⟩:∃X,X=H7.set b.au (OR (ao ⟨14,x.un.core,x.un.line,w⟩) xq):=⟨_,rfl⟩
 rw[<-G]at C;have g8:l.get b.au=B1 (OR (ao ⟨14,x.un.core,x.un.line,w⟩) xq):=by rw[G,xe]
 have u:Fr Em b l:=by rw[G];exact R.set (.inr (qm _)) _
 have g:Fr Em E l:=f.trans u λ _ q=>q.elim;have s:=A.em g;have m36:=f.au;have m68:=u.au;have z:l.get H.au=B1 (OR (ao ⟨0,0,0,.zero⟩) xq):=by rw[g.ah _ (by omega) id];exact g3
 have n8:b.au<l.au:=by rw[G,tI,e7,xx];omega
 have t:Fr (On (aF ev)) H l:=(((f1.mono λ _ _ q=>q.elim).trans L λ _ q=>.inl q).trans O λ _ q=>.inl q).trans g λ _ q=>q.elim;simp only[aa,bc,xj,lZ,<-e5,B,qt,h6.l3,h6.l4,l5,bdG,<-e7,C,w8,s.l2];have fin:∀{c:ar}{y:De}{m:Mg},dU c D mp lv ev N ws xs i y a->Fr (On (aF ev)) H c->c.get H.au=B1 (OR (ao ⟨0,0,0,.zero⟩) xq)->H.au<c.au -> ∃r,Op.store 11 [.ptr H.au 0,.agg (ao m)] c=B1 (.undef,r)/\Op.aq 11 [.ptr H.au 0] r=B1 (.agg (ao m))/\dU r D mp lv ev N ws xs i y a/\Fr (On (aF ev)) H r:=λ{c y m}a1 a2 a3 a4=>by
  have st:=fF a3 (zi _) (zi m) (qW m);refine⟨_,st,eF (xe ..) (zi m),h.loc a1 ((Fr.refl c).set (W:=Lo H) (.inl (qm _)) _),a2.set (.inr (qm _)) _⟩
 have j:¬b.au=aF ev:=by omega
 unfold De.dZ
 by_cases J:x.un.k=1
 .rw [xg J];have sh1:=N5 c0 c1;have sa:=ψ hs c0 c1;have⟨c,s9,U,e⟩:=s.s1 (rS x.sh x.un.core);have m9:=e.au;have l9:Op.aq 11 [.ptr b.au 0] c=B1 (.agg (ao ⟨14,x.un.core,x.un.line,w⟩)):=eF (by rw[e.ah _ n8 j];exact g8) (zi _);have⟨r,sx,Y,V,T⟩:=fin (m:=⟨14,x.un.core,x.un.line,w⟩) U (t.trans e λ _ q=>.inl q) (by rw[e.ah _ (by omega) nb];exact z) (by omega);simp only[aa,bc,xb J,s.l1,s.l3,qt,sh1,sa,s9,l9,sx,Y];exact⟨V,T⟩
 .rw [qy J];have⟨c,s9,U,e⟩:=s.s0 x.un.core;have⟨p,sa,ha,fa⟩:=U.s1z;have m9:=e.au;have ma:=fa.au;have ga:p.get b.au=B1 (OR (ao ⟨14,x.un.core,x.un.line,w⟩) xq):=by rw[fa.ah _ (by omega) j,e.ah _ n8 j];exact g8
  have sb:Op.store 1 [.ptr b.au 0,.int .i64 15] p=B1 (.undef,p.set b.au (OR (ao ⟨15,x.un.core,x.un.line,w⟩) xq)):=wO (v:=.int .i64 15) ga (o:=0) (n:=1) rfl (by rw[zi];decide) rfl;obtain⟨Hb,I⟩:∃X,X=p.set b.au (OR (ao ⟨15,x.un.core,x.un.line,w⟩) xq):=⟨_,rfl⟩
  rw[<-I]at sb;have S:Fr (Lo H) p Hb:=by rw[I];exact(Fr.refl p).set (W:=Lo H) (.inl (show H.au<=b.au by omega)) _
  have lb:Op.aq 11 [.ptr b.au 0] Hb=B1 (.agg (ao ⟨15,x.un.core,x.un.line,w⟩)):=eF (by rw[I,xe]) (zi _);have hb:=h.loc ha S;have Z:¬b.au=H.au:=by omega
  have gb:Hb.get H.au=B1 (OR (ao ⟨0,0,0,.zero⟩) xq):=by rw[I,kw Z,fa.ah _ (by omega) nb,e.ah _ (by omega) nb];exact z
  have⟨r,sx,Y,V,T⟩:=fin (m:=⟨15,x.un.core,x.un.line,w⟩) hb (((t.trans e λ _ q=>.inl q).trans fa λ _ q=>.inl q).trans S λ _ q=>.inr q) gb (by have:=S.au;omega);simp only[aa,bc,J,w18,s.l3,qt,s9,sa,sb,lb,sx,Y];exact⟨V,T⟩
end
end Go.Am
namespace Go.Am
open Go.Proofs Ca
variable{M:ak}[MK M]
section
variable{H:ar}{D mp:Nat}{lv ev:AV}{N:Int}{ws:List L8}{xs:List (De×AV)}{i:Nat}{x:De}{a:AV}
def Da(h:mV H D mp lv ev N ws xs){n:Int}(f:0<=n)(g:n<xs.length):zd M ZR [.ptr D 0,.int .i64 n] H λ v H'=>v=xA ev n.toNat/\H'=H:=by
 have hl:Op.ae [.ptr D 2] H=B1 ev:=zb (xc h.row) 2;have hn:=(h.es.sl AK).len;have d:¬n<0:=by omega
 have e:¬((xs.length:Nat):Int)<=n:=by omega
 have c:xs[n.toNat]? = B1 (xs[n.toNat]'(by omega)):=xf (by omega);have ix:Op.aQ 16 [ev,.int .i64 n]=B1 (.ptr (aF ev) (cZ 16 ev n.toNat)):=(h.es.sl AK).idx c (by omega) .i64;refine xcj ?_;obtain⟨w0,w2,b⟩:=xck M ⟨B5,ZR⟩;simp only[aa,bc,w0,w2,yp,d,qt,hl,hn,e,b,ix]
end
def lF(s:Nat):List Nat:=(N8 4).filter λ(k:Nat)=>hb s (k:Int) == 1
def MD(s:Nat):xO s=(lF s).map λ(k:Nat)=>(k:Int):=by
 unfold xO lF;have e:([0,1,2,3]:List Int)=(N8 4).map λ(k:Nat)=>(k:Int):=rfl;rw[e,List.filter_map];rfl
def xi2{H0:ar}{p s:Nat}(hp:H0.get p=B1 (OR [uB s] Xe))(hpl:p<H0.au)(hs:s<16) :
 rh M LF [] [.ptr p 0] (λ x=>x=p) (λ _=>False) H0 ((lF s).map λ(k:Nat)=>[AV.int .i64 (k:Int)]):=by
 intro Y R S m H1 Z U C F loc Q step;have⟨p1,p2,p3⟩:=U p (.inl rfl)
 suffices h:zd M LF [.fn (.yield Y) [] [],.ptr p 0] H1 (HS R S m (λ _=>False) H1 ((lF s).map λ(k:Nat)=>[AV.int .i64 (k:Int)]).length)by
  have⟨v,H',W,W',g,q2,q3⟩:=h.elim;exact⟨v,H',W',W,g,q2,q3⟩
 refine qv0 ?_;obtain⟨w0,w4,y,z⟩:=qv1 M ⟨B5,LF⟩;have lp:∀{l:ar},Fr m H1 l->Op.ae [.ptr p 0] l=B1 (uB s):=λ f=>by rw[zb (xc (by rw[f.ah _ (by omega) p3,p2];exact hp))];rfl
 simp only[aa,bc,w0];refine cK.intro (λ n E l=>∃(i:Nat)(V:Nat->Prop),E=[(4,.int .i64 (i:Int)),(0,.fn (.yield Y) [] []),(1,.ptr p 0)]/\n=4-i/\i<=4/\JK R m H1 l ((N8 i).filter λ(k:Nat)=>hb s (k:Int) == 1).length V) ?_ ?_
 .exact ⟨_,_,⟨0,m,rfl,rfl,xz _,⟨C,λ b hb=>⟨F b hb,.inl hb⟩,Fr.refl _⟩⟩,by simp only[aa,bc]⟩
 rintro n E l ⟨i,V,rfl,rfl,hi,d⟩;rcases x9 i 4 with J|X
 .have g:(i:Int)<4:=by omega
  have sh:=N5 (c:=(i:Int)) (by omega) g;have ha:=xo hs (c:=(i:Int)) (by omega) g;have T:aj .i64 ((i:Int)+1)=((i+1:Nat):Int):=by rw[jk (by omega) (by omega)];omega
  have P:=Sd (λ(k:Nat)=>hb s (k:Int) == 1) i;have hle:=Kk s (i:Int)
  by_cases B:hb s (i:Int)=1
  .have j:((N8 (i+1)).filter λ(k:Nat)=>hb s (k:Int) == 1).length=((N8 i).filter λ(k:Nat)=>hb s (k:Int) == 1).length+1:=by rw[P];simp[B]
   have hg:((lF s).map λ(k:Nat)=>[AV.int .i64 (k:Int)])[((N8 i).filter λ(k:Nat)=>hb s (k:Int) == 1).length]? = B1 [.int .i64 (i:Int)]:=by
    unfold lF;rw[xm,ZH _ J (by simp[B])];rfl
   have hp0:0<2 ^ (i:Int).toNat:=Nat.pos_of_ne_zero (by simp);have L:¬(((hb s (i:Int)*2 ^ (i:Int).toNat:Nat)):Int)=0:=by rw[B,Nat.one_mul];omega
   have⟨bb,O,A,hr,G,t,ht,K⟩:=step _ _ hg V l d.hR d.hV (d.fr.mono λ _ _ q=>.inl q);have o:Fr m H1 O:=d.fr.trans G λ b q=>(d.hV b q).2;have r:∀b,A b->b<O.au/\(m b\/H1.au<=b):=λ b q=>⟨(t b q).1,(t b q).2.elim (λ w=>(d.hV b w).2) λ w=>.inr (xy d.fr.au w)⟩
   simp only[aa,bc,w4,g,y,lp d.fr,sh,ha,L];refine C3.tH hr ?_;cases bb with
   |true =>
    simp only[aa,bc,z,T];exact⟨_,_,⟨i+1,A,rfl,rfl,by omega,⟨by rw[j];exact ht rfl,r,o⟩⟩,by simp only[aa,bc],by omega⟩
   |false =>
    simp only[aa,bc];exact⟨A,o.mono λ _ _ q=>.inl q,r,.inr (K rfl)⟩
  .have u:hb s (i:Int)=0:=by omega
   have j:((N8 (i+1)).filter λ(k:Nat)=>hb s (k:Int) == 1).length=((N8 i).filter λ(k:Nat)=>hb s (k:Int) == 1).length:=by rw[P];simp[u]
   have L:(((hb s (i:Int)*2 ^ (i:Int).toNat:Nat)):Int)=0:=by rw[u,As];rfl
   simp only[aa,bc,w4,g,y,lp d.fr,sh,ha,xb L,z,T];exact⟨_,_,⟨i+1,V,rfl,rfl,by omega,by rw[j];exact d⟩,by simp only[aa,bc],by omega⟩
 .have g:¬(i:Int)<4:=by omega
  have I:i=4:=by omega
  simp only[aa,bc,w4,g];refine⟨V,d.fr.mono λ _ _ q=>.inl q,d.hV,.inl ?_⟩;have e:((lF s).map λ(k:Nat)=>[AV.int .i64 (k:Int)]).length=((N8 i).filter λ(k:Nat)=>hb s (k:Int) == 1).length:=by unfold lF;rw[xr,I]
  rw[e];exact d.hR
def xl3{H:ar}(s:Nat):zd M m0 [uB s] H λ v H'=>v=.fn (.func LF) [] [.ptr H.au 0]/\H'=H.alloc (OR [uB s] Xe):=by
 refine q0i ?_;have ca:AV.cells (uB s)=[uB s]:=rfl;have mk:Op.bt LF 0 [.ptr H.au 0]=B1 (.fn (.func LF) [] [.ptr H.au 0]):=rfl;simp only[aa,bc,q0j,ca];rfl
end Go.Am
namespace Go.Am
open Go.Proofs Ca
variable{M:ak}[MK M]
abbrev Ee(t:Nat):AV:=.fn (.func TN) [] [.ptr t 0]
def Yk{H:ar}{t:Nat}{c:Int}(w:Mg)(hl:∀{d:ar},Fr Em H d->Op.ae [.ptr t 1] d=B1 (.int .i64 c)):zd M TN [.agg (ao w),.ptr t 0] H λ r H'=>r=.bool (decide (w.core=c))/\Fr Em H H':=by
 refine qxw ?_;obtain⟨H1,e1,b,-,e⟩:=cq H (OR (ao w) xq);have l1:Op.ae [.ptr H.au 1] H1=B1 (.int .i64 w.core):=zb (xc e) 1
 by_cases q:w.core=c
 .simp only[aa,bc,j',<-e1,l1,hl b,xb q];exact b
 .simp only[aa,bc,j',<-e1,l1,hl b,q];exact b
def xfl{H:ar}{v:AV}{ms:List Mg}{t:Nat}{c:Int}(h:bX ao 11 H v ms)(hk:ms.length<=1000000)(hl:∀{d:ar},Fr Em H d->Op.ae [.ptr t 1] d=B1 (.int .i64 c)) :
 zd M XA [v,Ee t] H λ r H'=>(∃z:Int,r=.int .i64 z/\(0<=z↔ ∃w∈ms,w.core=c))/\Fr Em H H':=by
 refine ql5 ?_;obtain⟨w0,w2,u,A,p,s⟩:=ql6 M ⟨B5,XA⟩;simp only[aa,bc,w0,w2,h.len];refine cK.intro (λ n E d=>∃i:Nat,E=[(8,.int .i64 (i:Int)),(7,.int .i64 ((ms.length:Nat):Int)),(0,v),(1,Ee t)]/\n=ms.length-i/\i<=ms.length/\Fr Em H d /\ ∀k w,k<i->ms[k]? = B1 w->w.core≠c) ?_ ?_
 .exact ⟨_,_,⟨0,rfl,rfl,xz _,Fr.refl _,λ k w hk=>by omega⟩,by simp only[aa,bc]⟩
 rintro n E d ⟨i,rfl,rfl,F,b,l⟩;rcases x9 i ms.length with j|B
 .have o:(i:Int)<((ms.length:Nat):Int):=by omega
  have m:=xf j;have ix:=(h.em b).idx m (z:=(i:Int)) rfl .i64;have ld:=(h.em b).aq zi (by decide) m;have C:aj .i64 ((i:Int)+1)=((i+1:Nat):Int):=by rw[jk (by omega) (by omega)];omega
  simp only[aa,bc,A,o,p,ix,ld];refine C3.q (Yk (ms[i]) (λ f=>hl (b.trans f λ _ q=>q.elim))) λ r H1⟨hr,y⟩=>?_;rw[hr]
  by_cases q:(ms[i]).core=c
  .simp only[aa,bc,xb q];exact⟨⟨_,rfl,λ _=>⟨_,List.getElem_mem j,q⟩,λ _=>by omega⟩,b.trans y λ _ q=>q.elim⟩
  .simp only[aa,bc,q,s,C];refine⟨_,_,⟨i+1,rfl,rfl,by omega,b.trans y λ _ q=>q.elim,λ k w hk hw=>?_⟩,by simp only[aa,bc],by omega⟩
   by_cases e:k=i
   .rw [e,m]at hw;injection hw with hw;rw[<-hw];exact q
   .exact l k w (by omega) hw
 .have o:¬(i:Int)<((ms.length:Nat):Int):=by omega
  simp only[aa,bc,A,o,u];refine⟨⟨_,rfl,λ q=>absurd q (by decide),λ⟨w,hw,hc⟩=>?_⟩,b⟩;have⟨k,g⟩:=LH hw;exact absurd hc (l k w (by have:=(qo.1 g).1;omega) g)
def qtn{H:ar}{v:AV}{ms:List Mg}{t:Nat}{c:Int}(h:bX ao 11 H v ms)(hk:ms.length<=1000000)(hl:∀{b:ar},Fr Em H b->Op.ae [.ptr t 1] b=B1 (.int .i64 c)) :
 zd M qeq [v,Ee t] H λ r H'=>r=.bool (decide (∃w∈ms,w.core=c))/\Fr Em H H':=by
 refine qj6 ?_;simp only[aa,bc,qj7];refine C3.q (xfl h hk hl) λ r H1⟨⟨z,hr,e⟩,d⟩=>?_;rw[hr];simp only[aa,bc]
 by_cases q:0<=z
 .simp only[q,e.1 q,decide_true,Ge];exact d
 .have f:¬ ∃w∈ms,w.core=c:=λ w=>q (e.2 w);simp only[q,f,J5,Ge];exact d
section
variable{H:ar}{D mp:Nat}{lv ev:AV}{N:Int}{ws:List L8}{xs:List (De×AV)}{i:Nat}{x:De}{a:AV}
def xly(h:dU H D mp lv ev N ws xs i x a)(m:Mg)(c0:0<=m.core)(c1:m.core<4)(ha:x.ask<16)(hw:x.wt.length<=1000000):zd M I9 [xA ev i,.agg (ao m)] H λ v H'=>v=.bool (decide (x.may m))/\Fr Em H H':=by
 refine q4m ?_;obtain⟨w0,w4,w51,F,G,w26,w38⟩:=q4n M ⟨B5,I9⟩;have⟨H1,e1,f1,n1,g1⟩:=cq H (OR (ao m) xq);have lm:∀{p:ar}(k:Nat),Fr Em H1 p->Op.ae [.ptr H.au k] p=(ao m)[k]?:=λ k f=>zb (xc (by rw[f.ah _ (by omega) id];exact g1)) k;have l0:Op.ae [.ptr H.au 0] H1=B1 (.int .i64 m.k):=lm 0 (Fr.refl _);have l1:∀{p:ar},Fr Em H1 p->Op.ae [.ptr H.au 1] p=B1 (.int .i64 m.core):=λ f=>lm 1 f;have l:=l1 (Fr.refl H1);have mk:Op.bt TN 0 [.ptr H.au 0]=B1 (Ee H.au):=rfl;have c:=h.em f1;have C:=N5 c0 c1;have X:=xo ha c0 c1;have hle:=Kk x.ask m.core;have hp0:0<2 ^ m.core.toNat:=Nat.pos_of_ne_zero (by simp);have fin:∀{b:Bool}{p:ar},(b=B4↔x.may m)->Fr Em H1 p->(AV.bool b=.bool (decide (x.may m))/\Fr Em H p):=λ{b p}e f=>by
  refine⟨?_,f1.trans f λ _ q=>q.elim⟩;congr 1;cases b with
  |true=>exact(yd (e.1 rfl)).symm
  |false=>exact(kr λ w=>by cases e.2 w).symm
 have n:=Fr.refl (W:=Em) H1;simp only[aa,bc,w0,<-e1,w4,l0]
 by_cases B:m.k=1\/m.k=2
 .have hm:x.may m↔ ¬(x.ph≠0/\x.ph≠4/\x.un.core=m.core)/\(x.ow≠m.core\/x.ph=2) /\ ¬ ∃w∈x.wt,w.core=m.core:=by unfold De.may De.own;rw[xg B]
  have key:∀{E:Env},lk E 10=B1 (.bool B4)->lk E 0=B1 (xA ev i)->lk E 3=B1 (.ptr H.au 0)->lk E 5=B1 (Ee H.au)->W M ⟨B5,I9⟩ (TF 14) B4 (eY 0 (fp (W M ⟨B5,I9⟩ (TF 51)) (eG M [.tmp 4] (uZ λ v H'=>v=.bool (decide (x.may m))/\Fr Em H H')))) E [] H1:=by
   intro E I O Z b5
   -- the rest,once it is known whether one is under way
   have rest:∀{p:ar}(u:Bool),Fr Em H1 p->(u=B4↔(x.ph≠0/\x.ph≠4/\x.un.core=m.core))->W M ⟨B5,I9⟩ (TF 17) B4 (eY 0 (fp (W M ⟨B5,I9⟩ (TF 51)) (eG M [.tmp 4] (uZ λ v H'=>v=.bool (decide (x.may m))/\Fr Em H H')))) ((6,.bool u)::E) [] p:=by
    intro p u t hu;have y:=c.em t;have T:=y.d.wt i x a y.here;cases u with
    |true =>
     simp only[aa,bc,G];exact fin ⟨λ q=>Po q,λ q=>absurd (hu.1 rfl) (hm.1 q).1⟩ t
    |false =>
     have P:¬(x.ph≠0/\x.ph≠4/\x.un.core=m.core):=λ q=>by cases hu.2 q
     by_cases S:x.ow=m.core
     .by_cases V:x.ph=2
      .simp only[aa,bc,G,O,Z,b5,qt,y.l0,l1 t,xb S,y.sk,xb V,y.iI];refine C3.q (qtn (T.sl zi) hw (λ f=>l1 (t.trans f λ _ q=>q.elim))) λ r Y⟨hr,J⟩=>?_;rw[hr];simp only[aa,bc];refine fin ?_ (t.trans J λ _ q=>q.elim);rw[hm];constructor
       .intro q;exact⟨P,.inr V,by simpa using q⟩
       .intro q;simpa using q.2.2
      .simp only[aa,bc,G,O,Z,b5,qt,y.l0,l1 t,xb S,y.sk,V];exact fin ⟨λ q=>Po q,λ q=>((hm.1 q).2.1.elim (λ w=>absurd S w) λ w=>absurd w V)⟩ t
     .simp only[aa,bc,G,O,Z,b5,qt,y.l0,l1 t,S,y.iI];refine C3.q (qtn (T.sl zi) hw (λ f=>l1 (t.trans f λ _ q=>q.elim))) λ r Y⟨hr,J⟩=>?_;rw[hr];simp only[aa,bc];refine fin ?_ (t.trans J λ _ q=>q.elim);rw[hm];constructor
      .intro q;exact⟨P,.inl S,by simpa using q⟩
      .intro q;simpa using q.2.2
   by_cases R:x.ph=0
   .simp only[aa,bc,F,I,O,qt,c.sk,xb R];exact rest B2 n ⟨λ q=>Po q,λ q=>absurd R q.1⟩
   by_cases U:x.ph=4
   .simp only[aa,bc,F,I,O,qt,c.sk,R,xb U];exact rest B2 n ⟨λ q=>Po q,λ q=>absurd U q.2.1⟩
   simp only[aa,bc,F,I,O,b5,qt,c.sk,R,U,c.lU];refine C3.q (Yk x.un l1) λ r Y⟨hr,J⟩=>?_;rw[hr];simp only[aa,bc];exact rest _ J ⟨λ q=>⟨R,U,by simpa using q⟩,λ q=>by simpa using q.2.2⟩
  rcases B with k|k
  .simp only[aa,bc,xb k];exact key rfl rfl rfl rfl
  .have k1:¬m.k=1:=by omega
   simp only[aa,bc,k1,xb k];exact key rfl rfl rfl rfl
 have k1:¬m.k=1:=λ q=>B (.inl q);have k2:¬m.k=2:=λ q=>B (.inr q);have o:(((hb x.ask m.core*2 ^ m.core.toNat:Nat)):Int)=0↔ ¬hb x.ask m.core=1:=by
  constructor
  .intro q w;rw[w,Nat.one_mul]at q;omega
  .intro q;rw[show hb x.ask m.core=0 by omega,As];rfl
 simp only[aa,bc,k1,k2,F]
 by_cases A:m.k=4
 .have hm:x.may m↔x.ph=1/\hb x.ask m.core=1:=by unfold De.may;rw[qy B,xg A]
  by_cases g:x.ph=1
  .by_cases j:hb x.ask m.core=1
   .have z:=λ w=>o.1 w j;simp only[aa,bc,xb A,qt,c.sk,xb g,c.vW,l,C,X];exact fin ⟨λ _=>hm.2 ⟨g,j⟩,λ _=>yd z⟩ n
   .have z:=o.2 j;simp only[aa,bc,xb A,qt,c.sk,xb g,c.vW,l,C,X,xb z];exact fin ⟨λ q=>Po q,λ q=>absurd (hm.1 q).2 j⟩ n
  .simp only[aa,bc,xb A,qt,c.sk,g];exact fin ⟨λ q=>Po q,λ q=>absurd (hm.1 q).1 g⟩ n
 simp only[aa,bc,A,w26]
 by_cases s:m.k=5
 .have hm:x.may m↔x.ph=2/\x.ow=m.core:=by unfold De.may;rw[qy B,qy A,xg s]
  by_cases g:x.ph=2
  .by_cases j:x.ow=m.core
   .simp only[aa,bc,xb s,qt,c.sk,xb g,c.l0,l,xb j];exact fin ⟨λ _=>hm.2 ⟨g,j⟩,λ _=>rfl⟩ n
   .simp only[aa,bc,xb s,qt,c.sk,xb g,c.l0,l,j];exact fin ⟨λ q=>Po q,λ q=>absurd (hm.1 q).2 j⟩ n
  .simp only[aa,bc,xb s,qt,c.sk,g];exact fin ⟨λ q=>Po q,λ q=>absurd (hm.1 q).1 g⟩ n
 by_cases L:m.k=6
 .have hm:x.may m↔x.ph=2/\hb x.ask m.core=1:=by unfold De.may;rw[qy B,qy A,qy s,xg L]
  by_cases g:x.ph=2
  .by_cases j:hb x.ask m.core=1
   .have z:=λ w=>o.1 w j;simp only[aa,bc,s,xb L,qt,c.sk,xb g,c.vW,l,C,X];exact fin ⟨λ _=>hm.2 ⟨g,j⟩,λ _=>yd z⟩ n
   .have z:=o.2 j;simp only[aa,bc,s,xb L,qt,c.sk,xb g,c.vW,l,C,X,xb z];exact fin ⟨λ q=>Po q,λ q=>absurd (hm.1 q).2 j⟩ n
  .simp only[aa,bc,s,xb L,qt,c.sk,g];exact fin ⟨λ q=>Po q,λ q=>absurd (hm.1 q).1 g⟩ n
 simp only[aa,bc,s,L,w38]
 by_cases K:m.k=3
 .have hm:x.may m↔x.ow=m.core:=by unfold De.may;rw[qy B,qy A,qy s,qy L,xg K]
  by_cases j:x.ow=m.core
  .simp only[aa,bc,xb K,qt,c.l0,l,xb j];exact fin ⟨λ _=>hm.2 j,λ _=>rfl⟩ n
  .simp only[aa,bc,xb K,qt,c.l0,l,j];exact fin ⟨λ q=>Po q,λ q=>absurd (hm.1 q) j⟩ n
 have hm:x.may m↔m.k=7/\x.ph=4/\x.un.core=m.core:=by unfold De.may;rw[qy B,qy A,qy s,qy L,qy K]
 by_cases Q:m.k=7
 .by_cases g:x.ph=4
  .simp only[aa,bc,K,xb Q,qt,c.sk,xb g,c.lU];refine C3.q (Yk x.un l1) λ r Y⟨hr,J⟩=>?_;rw[hr];simp only[aa,bc];exact fin ⟨λ q=>hm.2 ⟨Q,g,by simpa using q⟩,λ q=>by simpa using(hm.1 q).2.2⟩ J
  .simp only[aa,bc,K,xb Q,qt,c.sk,g];exact fin ⟨λ q=>Po q,λ q=>absurd (hm.1 q).2.1 g⟩ n
 .simp only[aa,bc,K,Q,w51];exact fin ⟨λ q=>Po q,λ q=>absurd (hm.1 q).1 Q⟩ n
end
end Go.Am
namespace Go.Am
open Go.Proofs Ca
variable{M:ak}[MK M]
structure UK(t:Nat)(ms:List Mg)(V:Nat->Prop)(Hx:ar):Prop where
 vt:V t
 lt:t<Hx.au
 ls:∃lv,Hx.get t=B1 (OR [lv] sH)/\aT ao xq 11 Hx lv ms /\ ∀z,aM lv z->V z/\t<z
def UK.loc{t:Nat}{ms:List Mg}{V:Nat->Prop}{c Hb:ar}(h:UK t ms V c)(hs:∀x,V x->Hb.get x=c.get x)(hn:c.au<=Hb.au):UK t ms V Hb:=by
 have⟨lv,l1,l2,l3⟩:=h.ls;exact⟨h.vt,qn h.lt hn,lv,by rw[hs _ h.vt];exact l1,Own.fr l2 (⟨hn,λ b _ hw=>hs b (wq.1 hw)⟩:Fr (λ b=>¬V b) c Hb) λ x d w=>w (l3 x d).1,l3⟩
abbrev sn(l:Int)(k:Nat):Mg:=⟨11,(k:Int),l,.zero⟩
def sq(s:Nat)(l:Int):(xO s).map (λ c=>(⟨11,c,l,.zero⟩:Mg))=(lF s).map (sn l):=by
 rw[MD,Ba];rfl
def DD(s:Nat):(lF s).length<=4:=by
 have:=List.length_filter_le (λ(k:Nat)=>hb s (k:Int) == 1) (N8 4);rw[zu]at this;exact this
section
variable{H:ar}{D mp:Nat}{lv ev:AV}{N:Int}{ws:List L8}{xs:List (De×AV)}{i:Nat}{x:De}{a:AV}
def py(h:dU H D mp lv ev N ws xs i x a)(m:Mg){w:L8}(hw:ws[m.line.toNat]? = B1 w)(hl:0<=m.line)(hs:x.sh<16)(c0:0<=m.core)(c1:m.core<4)(hk:m.k=1\/m.k=2)(ho:x.ow<4) :
 zd M NC [.ptr D 0,xA ev i,.agg (ao m)] H λ v H'=>mL H H' v (x.begin m w).2/\dU H' D mp lv ev N ws xs i (x.begin m w).1 a/\Fr (On (aF ev)) H H':=by
 refine q4j ?_;have⟨w0,wa,wb,w4,L,w10,O,w12,w32,w18,w36,w41⟩:=R2 M ⟨B5,NC⟩;have⟨H1,e1,f1,n1,g1⟩:=cq H (OR (ao m) xq);have hev:=h.d.es.lt;have nb:¬H.au=aF ev:=by omega
 have lU:=eF g1 (zi m);have⟨T,s2,C,f2⟩:=(h.em f1).sU m;have m2:=f2.au;have F2:Fr (On (aF ev)) H T:=(f1.mono λ _ _ q=>q.elim).trans f2 λ _ q=>.inl q;have lm:∀{Hx:ar}(k:Nat),Fr (On (aF ev)) T Hx->Op.ae [.ptr H.au k] Hx=(ao m)[k]?:=λ k f=>zb (xc (by rw[f.ah _ (by omega) nb,f2.ah _ (by omega) nb];exact g1)) k;simp only[aa,bc,w0,<-e1,lU,qt,s2,w4,C.l0];unfold De.begin
 by_cases q:0<=x.ow
 .rw [xg q];have s:=N5 q ho;have⟨U,S,Q,Y⟩:=C.R4 2;have⟨c,s4,J,Z⟩:=Q.SW (2 ^ x.ow.toNat);have l:Fr (On (aF ev)) T c:=Y.trans Z λ _ q=>.inl q;have G:=F2.trans l λ _ q=>.inl q;have l0:Op.ae [.ptr H.au 0] c=B1 (.int .i64 m.k):=lm 0 l;have l2:Op.ae [.ptr H.au 2] c=B1 (.int .i64 m.line):=lm 2 l;have m4:=G.au;have out:∀k:Int,mL H (c.alloc (OR (ao ⟨k,x.ow,m.line,.zero⟩) xq)) (Op.sliceTo 1 1 c.au) [⟨k,x.ow,m.line,.zero⟩]/\dU (c.alloc (OR (ao ⟨k,x.ow,m.line,.zero⟩) xq)) D mp lv ev N ws xs i {x with un:=m,ph:=2,ask:=2 ^ x.ow.toNat} a/\Fr (On (aF ev)) H (c.alloc (OR (ao ⟨k,x.ow,m.line,.zero⟩) xq)):=λ k =>
   ⟨MI _ m4,J.em ((Fr.refl c).alloc _),G.alloc _⟩
  by_cases k2:m.k=2
  .rw [xg k2];simp only[aa,bc,xb q,C.l0,qt,s,S,s4,w10,w12,l0,xb k2,w18,J.l0,l2,mZ,Tc,AJ];exact out 13
  .rw [qy k2];simp only[aa,bc,xb q,C.l0,qt,s,S,s4,w10,w12,l0,k2,w18,J.l0,l2,mZ,Tc,AJ];exact out 12
 .rw [qy q];have s:=N5 c0 c1;have sd:=YD hs c0 c1;have⟨U,S,Q,Y⟩:=C.SW (cR x.sh m.core);have F3:=F2.trans Y λ _ q=>.inl q;have l1:Op.ae [.ptr H.au 1] T=B1 (.int .i64 m.core):=lm 1 (Fr.refl _);have l0:Op.ae [.ptr H.au 0] U=B1 (.int .i64 m.k):=lm 0 Y;have dz:cR x.sh m.core=0↔((cR x.sh m.core:Nat):Int)=0:=by omega
  have tog:m.k=1\/cR x.sh m.core=0->zd M S7 [.ptr D 0,xA ev i] U λ v H'=>v=.agg (ao (De.dZ {x with un:=m,ask:=cR x.sh m.core} w).2)/\dU H' D mp lv ev N ws xs i (De.dZ {x with un:=m,ask:=cR x.sh m.core} w).1 a/\Fr (On (aF ev)) U H':=λ _=>q8q Q hw hl hs c0 c1;have F:∀{v:AV}{c:ar},(v=.agg (ao (De.dZ {x with un:=m,ask:=cR x.sh m.core} w).2)/\dU c D mp lv ev N ws xs i (De.dZ {x with un:=m,ask:=cR x.sh m.core} w).1 a/\Fr (On (aF ev)) U c) ->
   mL H (c.alloc (OR (ao (De.dZ {x with un:=m,ask:=cR x.sh m.core} w).2) xq)) (Op.sliceTo 1 1 c.au) [(De.dZ {x with un:=m,ask:=cR x.sh m.core} w).2]/\dU (c.alloc (OR (ao (De.dZ {x with un:=m,ask:=cR x.sh m.core} w).2) xq)) D mp lv ev N ws xs i (De.dZ {x with un:=m,ask:=cR x.sh m.core} w).1 a/\Fr (On (aF ev)) H (c.alloc (OR (ao (De.dZ {x with un:=m,ask:=cR x.sh m.core} w).2) xq)):=λ{v c}⟨_,J,Z⟩=>by
   have G:=F3.trans Z λ _ q=>.inl q;exact⟨MI _ G.au,J.em ((Fr.refl c).alloc _),G.alloc _⟩
  by_cases R:m.k=1
  .rw [xg (.inl R)];simp only[aa,bc,q,L,C.l1,qt,l1,s,sd,S,O,l0,xb R];refine C3.q (tog (.inl R)) λ v c E=>?_;rw[E.1];simp only[aa,bc,mZ,AJ];exact F E
  by_cases d0:cR x.sh m.core=0
  .rw [xg (.inr d0)];have d1:=dz.1 d0;simp only[aa,bc,q,L,C.l1,qt,l1,s,sd,S,O,l0,R,Q.vW,xb d1];refine C3.q (tog (.inr d0)) λ v c E=>?_;rw[E.1];simp only[aa,bc,mZ,AJ];exact F E
  rw[qy (λ w=>w.elim R d0)];have d1:¬((cR x.sh m.core:Nat):Int)=0:=λ q=>d0 (dz.2 q);have⟨c,s4,J,Z⟩:=Q.R4 1;have⟨H5,e5,I,n5,g5⟩:=cq c (OR [.nils] sH);have h5:=J.em I;have l:Fr (On (aF ev)) T c:=Y.trans Z λ _ q=>.inl q;have G:=F2.trans l λ _ q=>.inl q;have m24:=l.au;simp only[aa,bc,q,L,C.l1,qt,l1,s,sd,S,O,l0,R,Q.vW,d1,w32,s4,<-e5,w36,h5.vW];refine C3.q (xl3 (cR x.sh m.core)) λ v H7⟨hv,E⟩=>?_;obtain⟨H6,e6,A,-,g6⟩:=cq H5 (OR [uB (cR x.sh m.core)] Xe);rw[<-e6]at E;rw[hv,E];have n6:H6.au=c.au+2:=by rw[e6,xx,n5]
  have g6t:H6.get c.au=B1 (OR [.nils] sH):=by rw[A.ah _ (by omega) id];exact g5
  have h6:=h5.em A;have g6m:H6.get H.au=B1 (OR (ao m) xq):=by
   rw[A.ah _ (by omega) id,I.ah _ (by omega) id,l.ah _ (by omega) nb,f2.ah _ (by omega) nb];exact g1
  have hd16:cR x.sh m.core<16:=(Oz hs c0 c1 (d:=0) (by decide) (by decide)).1;refine iB.iter (fn:=Ts) (lp:=Pg) (pa:=YR 0) (pb:=Z0 0) q0h _U.1 _U.2 (by decide) qxu qxv
   (xi2 g6 (by omega) hd16) (λ j V Hx=>UK c.au (((lF (cR x.sh m.core)).take j).map (sn m.line)) V Hx) (λ _ _ _=>False) (λ z=>z=c.au) (qm _) ?_ ?_ ?_ ?_ ?_ ?_ ?_ ?_
  .rintro z (q|q)
   .exact ⟨by omega,rfl,by omega⟩
   .exact q.elim
  .exact λ z t=>by omega
  .exact ⟨rfl,by omega,.nils,g6t,Own.nil ..,λ z q=>(q.1 rfl).elim⟩
  .exact λ j V Ha Hb hp hs hn=>hp.loc hs hn
  .exact λ e V Ha Hb hp _ _=>hp
  .intro n j lr lb y hy hL2 V u B hV hfc K hLc hgL;rw[xm,xt]at hy;obtain⟨k,hk,rfl⟩:=hy;refine⟨_,rfl,?_⟩;obtain⟨-,wa,wb,-⟩:=R2 M ⟨B1 n,NC⟩;simp only[aa,bc,wa,AW];refine⟨hgL,?_⟩;have fx:Fr (On n) u (u.set n lb):=(Fr.refl u).set (W:=On n) (.inl rfl) _;have gL:(u.set n lb).get n=B1 lb:=xe ..;have nL:(u.set n lb).au=u.au:=rfl;have hP7:=B.loc (Hb:=u.set n lb) (λ y hy=>by rw[kw (λ q:n=y=>K (by rw[q];exact hy))]) (qm _);have gm:(u.set n lb).get H.au=B1 (OR (ao m) xq):=by
    rw[kw (by omega),hfc.ah H.au (by omega) (λ q=>q.elim (λ q=>by omega) id)];exact g6m
   generalize u.set n lb=o at *;have⟨g,l1,l2,l3⟩:=hP7.ls;have lq:Op.ae [.ptr c.au 0] o=B1 g:=zb (xc l1) 0;have ll:Op.ae [.ptr H.au 2] o=B1 (.int .i64 m.line):=zb (xc gm) 2;have ny:(((lF (cR x.sh m.core)).take j).map (sn m.line)).length<=4:=by
    rw[xr,jq];have:=DD (cR x.sh m.core);omega
   simp only[aa,bc,wb,lq,ll,mZ,Tc];refine nV (e:=xq) (size:=11) (bytes:=88) l2 (x:=.agg (ao (sn m.line k))) (zi _) (by rw[zr];exact zi _) (by rw[zr];exact qW _) (by decide) (by omega) (by omega) λ r P p hf hfr=>?_;rw[zr]at p;have q8:P.get c.au=B1 (OR [g] sH):=by rw[hf.ah _ hP7.lt λ q=>by have:=(l3 _ q).2;omega];exact l1
   have o1:aB r=true:=by have:=Sl.one (Own.sl p);exact this
   have st:=N0 q8 o1;obtain⟨H9,e9⟩:∃X,X=P.set c.au (OR [r] sH):=⟨_,rfl⟩
   rw[<-e9]at st;have f9:Fr (On c.au) P H9:=by rw[e9];exact(Fr.refl P).set (W:=On c.au) (.inl rfl) _
   simp only[aa,bc,st];have lo':∀y,aM r y->c.au<y:=λ y q=>(hfr y q).elim (λ q=>(l3 y q).2) λ q=>by have:=B.lt;omega
   have nf:=hf.au;have n9:H9.au=P.au:=by rw[e9];rfl
   refine⟨rfl,?_,λ y=>V y\/aM r y,?_,?_,.inl ⟨rfl,⟨.inl B.vt,?_,r,?_,?_,λ y q=>⟨.inr q,lo' y q⟩⟩⟩⟩
   .rw [f9.ah n (by omega) (λ(q:n=c.au)=>K (by rw[q];exact B.vt)),hf.ah n (by omega) λ q=>K (l3 _ q).1];exact gL
   .rintro y (q|q)
    .exact ⟨by have:=(hV y q).1;omega,.inl q⟩
    .refine ⟨by rw[n9];exact Own.lt p y q,?_⟩;rcases hfr y q with w|w
     .exact .inl (l3 y w).1
     .exact .inr (by omega)
   .have a1:Fr (λ b=>V b\/b=n) u o:=fx.mono λ x _ q=>.inr q;exact(a1.trans hf λ x hx=>.inl (.inl (l3 x hx).1)).trans f9 λ x hx=>.inl (.inl (by rw[show x=c.au from hx];exact B.vt))
   .have:=B.lt;omega
   .rw [e9,xe]
   .have hx2:((lF (cR x.sh m.core)).take (j+1)).map (sn m.line)=((lF (cR x.sh m.core)).take j).map (sn m.line) ++ [sn m.line k]:=by rw[ku,hk];simp
    rw[hx2];have ow:aT ao xq 11 P r (((lF (cR x.sh m.core)).take j).map (sn m.line) ++ [sn m.line k]):=by
     unfold aT;rw[qv,jr,jz,List.flatMap_nil,zm];exact p
    exact Own.fr ow f9 λ x hx(q:x=c.au)=>by have:=lo' x hx;omega
  .intro d V o hd1 hd2 hgd hfd hVd B;have⟨g,l1,l2,l3⟩:=B.ls;have el:((lF (cR x.sh m.core)).map λ(k:Nat)=>[AV.int .i64 (k:Int)]).length=(lF (cR x.sh m.core)).length:=xr _;rw[el,zh (qm _)]at l2;have lq:Op.ae [.ptr c.au 0] (o.set d (.deferred B5))=B1 g:=zb (xc (show(o.set d (.deferred B5)).get c.au=B1 (OR [g] sH)from by rw[kw (λ q:d=c.au=>by have:=(hVd _ B.vt).2.2;omega)];exact l1)) 0;have lq0:Op.ae [.ptr c.au 0] o=B1 g:=zb (xc l1) 0;have sl2:bX ao 11 (o.set d (.deferred B5)) g ((lF (cR x.sh m.core)).map (sn m.line)):=by
    have fs:Fr (On d) o (o.set d (.deferred B5)):=(Fr.refl o).set (W:=On d) (.inl rfl) _;exact(Own.fr l2 fs λ z t(q:z=d)=>(hVd z (l3 z t).1).2.2 q).sl
   have hx1:dU (o.set d (.deferred B5)) D mp lv ev N ws xs i {x with un:=m,ph:=1,ask:=cR x.sh m.core} a:=by
    refine h.loc h6 ((hfd.mono λ z _ t=>?_).set (.inl (show H.au<=d by omega)) _);rcases t with t|t
    .show H.au<=z;omega
    .exact t.elim
   have fr1:Fr (On (aF ev)) H (o.set d (.deferred B5)):=by
    refine(((G.trans I λ _ q=>q.elim).trans A λ _ q=>q.elim).trans hfd λ z t=>?_).set (.inr (by omega)) _;rcases t with t|t
    .exact .inr (by omega)
    .exact t.elim
   simp only[aa,bc,w41,lq0,J8];refine⟨hgd,⟨by rw[sq];exact sl2,λ hne=>?_⟩,hx1,fr1⟩;have hlo:g≠ .nils:=λ q=>by
    rw[sq]at hne;subst q;have:=l2.1;rw[A9 zi]at this;rcases l2.2 with⟨z,-⟩|⟨b,q,-⟩
    .exact hne (zy.1 z)
    .cases q
   have:=(l3 (aF g) ⟨hlo,rfl⟩).2;omega
  .exact λ e d V o _ _ _ _ _ _ hp=>hp.elim
end
end Go.Am
namespace Go.Am
open Go.Proofs Ca
variable{M:ak}[MK M]
section
variable{H:ar}{D mp:Nat}{lv ev:AV}{N:Int}{ws:List L8}{xs:List (De×AV)}{i:Nat}{x:De}{a:AV}
def dU.mem(h:dU H D mp lv ev N ws xs i x a){H':ar}{c:List L8}(hm:A6 H' mp lv c)(f:Fr (On (aF lv)) H H')(hl:c.length=ws.length):dU H' D mp lv ev N c xs i x a:=by
 have⟨e1,e2,j,l,e⟩:=h.d.d1;exact⟨h.il,by rw[f.ah _ h.d.lt (λ q=>e2 q)];exact h.d.row,qn h.d.lt f.au,hm,h.d.es.fr f (λ q=>e q.symm),λ k y b hk=>(h.d.wt k y b hk).fr f λ z g q=>(h.d.d2 k y b hk z g).2.2.1 q,h.d.d1,h.d.d2,h.d.d3,by rw[hl];exact h.d.len⟩
def Cx(H:ar)(D mp:Nat)(lv ev:AV)(N:Int)(ws:List L8)(xs:List (De×AV))(i:Nat)(a:AV)(r:De×L8×List Mg)(v:AV)(H':ar):Prop :=
 (∃ov e,v=.tuple [ov,e]/\mL H H' ov r.2.2) /\ ∃a',dU H' D mp lv ev N (ws.set i r.2.1) xs i r.1 a'/\Fr (mS D mp lv ev xs) H H' /\ ∀z,aM a' z->aM a z\/H.au<=z
def Rd{ws:List L8}{i:Nat}{w:L8}(h:ws[i]? = B1 w):ws.set i w=ws:=by
 apply ym;intro j
 by_cases q:j=i
 .rw [q,za (qo.1 h).1,h]
 .rw [zf (nG q)]
def CX{H1 b:ar}(f:Fr (On (aF ev)) H1 b):Fr (mS D mp lv ev xs) H1 b:=f.mono λ _ _ q=>.inr (.inr (.inr (.inl q)))
def frM{H1 b:ar}(f:Fr (On (aF lv)) H1 b):Fr (mS D mp lv ev xs) H1 b:=f.mono λ _ _ q=>.inr (.inr (.inl q))
def xK{H1 b c:ar}(f:Fr (mS D mp lv ev xs) H1 b)(g:Fr (mS D mp lv ev xs) b c):Fr (mS D mp lv ev xs) H1 c:=f.trans g λ _ q=>.inl q
def oY{E:Env}{r:ar}{y:De}{w':L8}{o:List Mg}{j:AV}{q:Prop}[Decidable q]{b8:Bool}(A:b8=decide q)(J:lk E 8=B1 (.bool b8))(R:lk E 7=B1 j)(U:lk E 0=B1 (.ptr D 0))(b4:lk E 6=B1 (xA ev i))
 (hx:xs[i]? = B1 (x,a)) (h:dU r D mp lv ev N (ws.set i w') xs i y a) (hq:q->(ws.set i w')[y.un.line.toNat]? = B1 w'/\0<=y.un.line/\y.sh<16/\0<=y.un.core/\y.un.core<4)
 (ho:aT ao xq 11 r j o) (hol:o.length<=3) (g:∀z,aM j z->H.au<=z) (f:Fr (mS D mp lv ev xs) H r) (l:∀z,mS D mp lv ev xs z->z<H.au) :
 W M ⟨B5,FA⟩ (Zl 113) B4 (eG M [.tmp 4,.tmp 5] (uZ (Cx H D mp lv ev N ws xs i a (y.vV w' q o)))) E [] r:=by
 obtain⟨-,-,-,-,-,-,-,n,-,p,-⟩:=qtp M ⟨B5,FA⟩;have B:∀{j:AV}{o:List Mg}{r:ar},aT ao xq 11 r j o->(∀z,aM j z->H.au<=z)->o≠[]->H.au<=aF j:=λ{j o r}S u Y=>by
  refine u _ ⟨λ e=>?_,rfl⟩;subst e;have:=S.1;rw[A9 zi]at this;rcases S.2 with⟨z,-⟩|⟨b,q,-⟩
  .exact Y (zy.1 z)
  .cases q
 unfold De.vV
 by_cases I:q
 .have ⟨hw,hl,hs,V,X⟩:=hq I;rw[xg I];rw[A,yd I]at J;simp only[aa,bc,n,J,R,U,b4];refine C3.q (q8q h hw hl hs V X) λ v K⟨hv,u,L⟩=>?_;rw[hv];have P:aT ao xq 11 K j o:=Own.fr ho L λ z c(q:z=aF ev)=>by have:=g z c;have:=l (aF ev) (.inr (.inr (.inr (.inl rfl))));omega
  simp only[aa,bc,mZ];refine nV (e:=xq) (size:=11) (bytes:=88) P (x:=.agg (ao (y.dZ w').2)) (zi _) (by rw[zr];exact zi _) (by rw[zr];exact qW _) (by decide) (by omega) (by omega) λ T Q G Z O=>?_;rw[zr]at G;simp only[aa,bc,p];have t:Fr (Lo H) K Q:=Z.mono λ z _ c=>g z c;have C:aT ao xq 11 Q T (o ++ [(y.dZ w').2]):=by
   unfold aT;rw[qv,jr,jz,List.flatMap_nil,zm];exact G
  have hn:H.au<=K.au:=xy f.au L.au;have F:∀z,aM T z->H.au<=z:=λ z c=>(O z c).elim (λ q=>g z q) λ q=>xy hn q;have s:∀z,mS D mp lv ev (xs.set i ((y.dZ w').1,a)) z->z<H.au:=λ z c=>by
   refine l z ?_;rcases c with c|c|c|c|⟨k,yy,b,hk,c⟩
   .exact .inl c
   .exact .inr (.inl c)
   .exact .inr (.inr (.inl c))
   .exact .inr (.inr (.inr (.inl c)))
   .by_cases e:k=i
    .subst e;rw[u.here]at hk;injection hk with hk;injection hk with _ hk;subst hk
     exact .inr (.inr (.inr (.inr ⟨k,x,a,hx,c⟩)))
    .rw [zf (nG e)]at hk;exact .inr (.inr (.inr (.inr ⟨k,yy,b,hk,c⟩)))
  refine⟨⟨_,_,rfl,C.sl,λ e=>B C F e⟩,a,⟨u.il,u.d.fr t λ z c q=>?_⟩,?_,λ z c=>.inl c⟩
  .have:=s z q;have c:H.au<=z:=c;omega
  .exact (xK f (CX L)).trans t λ z c=>.inr c
 .rw [qy I];rw[A,kr I]at J;simp only[aa,bc,n,J,R,p];exact⟨⟨_,_,rfl,ho.sl,λ e=>B ho g e⟩,a,h,f,λ z c=>.inl c⟩
end
end Go.Am
namespace Go.Am
open Go.Proofs Ca
variable{M:ak}[MK M]
def bdA(co l:Int):Op.build (ao ⟨0,0,0,.zero⟩) [(0,1),(1,1),(2,1)] [.int .i64 16,.int .i64 co,.int .i64 l]=B1 (.agg (ao ⟨16,co,l,.zero⟩)):=rfl
def bd8:Op.build (cu .zero) [] []=B1 (.agg (cu .zero)):=rfl
def HC:Op.build (ao ⟨0,0,0,.zero⟩) [] []=B1 (.agg (ao ⟨0,0,0,.zero⟩)):=rfl
def Gy(m:Mg):(ao m).take 3++(AV.agg (cu .zero)).cells++(ao m).drop (3+8)=ao {m with d:=.zero}:=UW m .zero
section
variable{H:ar}{D mp:Nat}{lv ev:AV}{N:Int}{ws:List L8}{xs:List (De×AV)}{x:De}{a:AV}{m:Mg}{w:L8}{ys:List Mg}
def dU.wait{i:Nat}(h:dU H D mp lv ev N ws xs i x a){b:AV}{ys:List Mg}{H1:ar}(hs:Sk ao xq 11 H1 b ys)(f:Fr (aM a) H H1)(j:∀z,aM b z->aM a z\/H.au<=z)(g:aB b=B4) :
 ∃H',Op.store 1 [.ptr (aF ev) (cZ 16 ev i+15),b] H1=B1 (.undef,H')/\dU H' D mp lv ev N ws xs i {x with wt:=ys} b/\Fr (mS D mp lv ev (xs.set i (x,a))) H H'/\Fr (On (aF ev)) H1 H':=by
 have⟨H',s,r,c,e⟩:=h.d.wait h.here hs f j g;rw[List.set_set]at r;exact⟨H',s,⟨h.il,r⟩,c,e⟩
def Sk.one(h:Sk ao xq 11 H a ys):aB a=true:=by
 rcases h with⟨rfl,-⟩|⟨b,i,alt,r,h⟩
 .rfl
 .rw [h.eq];rfl
def xkr{i:Nat}{y:De}(f:xs[i]? = B1 (x,a)){z:Nat}:mS D mp lv ev (xs.set i (y,a)) z↔mS D mp lv ev xs z:=by
 have g:=(qo.1 f).1;have key:(∃(k:Nat)(c:De)(b:AV),(xs.set i (y,a))[k]? = B1 (c,b)/\aM b z)↔ ∃(k:Nat)(c:De)(b:AV),xs[k]? = B1 (c,b)/\aM b z:=by
  constructor
  .rintro ⟨k,c,b,hk,d⟩
   by_cases e:k=i
   .subst e;rw[za g]at hk;injection hk with hk;injection hk with _ hk;subst hk
    exact⟨k,x,a,f,d⟩
   .rw [zf (nG e)]at hk;exact⟨k,c,b,hk,d⟩
  .rintro ⟨k,c,b,hk,d⟩
   by_cases e:k=i
   .subst e;rw[f]at hk;injection hk with hk;injection hk with _ hk;subst hk
    exact⟨k,y,a,za g,d⟩
   .exact ⟨k,c,b,by rw[zf (nG e)];exact hk,d⟩
 unfold mS;rw[key]
def xie(h:mV H D mp lv ev N ws xs)(Q:xs[m.line.toNat]? = B1 (x,a))(hw:ws[m.line.toNat]? = B1 w)(I:XI x N m.line)(h0:0<=m.line)(c0:0<=m.core)(c1:m.core<N)(hwl:x.wt.length<=900000) :
 zd M FA [.ptr D 0,.agg (ao m)] H (Cx H D mp lv ev N ws xs m.line.toNat a (x.bW w m)):=by
 have N4:=I.N4;have c4:m.core<4:=by omega
 have hil:=(qo.1 Q).1;have l:∀z,mS D mp lv ev xs z->z<H.au:=λ z u=>h.low u;refine q7h ?_;have⟨w0,w2,w10,w12,w20,w28,w32,w113,w42,w119,w45,w61,Y,w55,w71,w86,w73,w99,w79⟩:=qtp M ⟨B5,FA⟩;have⟨H1,e1,f1,n1,g1⟩:=cq H (OR (ao m) xq);have d1:=h.em f1;have l2:Op.ae [.ptr H.au 2] H1=B1 (.int .i64 m.line):=zb (xc g1) 2;have l1:Op.ae [.ptr H.au 1] H1=B1 (.int .i64 m.core):=zb (xc g1) 1;have lN:Op.ae [.ptr D 1] H1=B1 (.int .i64 N):=zb (xc d1.row) 1;have lU:=eF g1 (zi m);have q0:¬m.core<0:=by omega
 have q1:¬N<=m.core:=by omega
 simp only[aa,bc,w0,<-e1,w2,yp,w10,l2];refine C3.q (Da d1 h0 (by omega)) λ v A⟨hv,hh⟩=>?_;rw[hv,hh];simp only[aa,bc,w12,yp,l1,q0,qt,lN,q1,w20,lU];have en1:dU H1 D mp lv ev N ws xs m.line.toNat x a:=dU.of d1 Q;refine C3.q (xly en1 m c0 c4 I.ab (by omega)) λ v A⟨hv,f2⟩=>?_;rw[hv];have s:=en1.em f2;have F2:Fr Em H A:=f1.trans f2 λ _ q=>q.elim;have m2:=f2.au
 by_cases may:x.may m
 case neg =>
  simp only[aa,bc,may];unfold De.bW;rw[xg may];exact⟨⟨_,_,rfl,.nil ..⟩,a,by rw[Rd hw];exact s,F2.mono λ _ _ q=>q.elim,λ z u=>.inl u⟩
 -- what the box of the message stays under
 have lm:∀{t:ar}(k:Nat),Fr (mS D mp lv ev xs) A t->Op.ae [.ptr H.au k] t=(ao m)[k]?:=λ k f=>zb (xc (by rw[f.ah _ (by omega) (λ q=>by have:=l _ q;omega),f2.ah _ (by omega) id];exact g1)) k;have lD:∀{t:ar},Fr (mS D mp lv ev xs) A t->Op.aq 8 [.ptr H.au 3] t=B1 (.agg (cu m.d)):=λ{t}f=>by
  have g:t.get H.au=B1 (OR (ao m) xq):=by rw[f.ah _ (by omega) (λ q=>by have:=l _ q;omega),f2.ah _ (by omega) id];exact g1
  rw[rU (xc g) (by rw[zi];decide)];have⟨k,co,li,⟨d,hd⟩⟩:=m
  match d,hd with
  |[_,_,_,_,_,_,_,_],_=>rfl
 have r2:=Fr.refl (W:=mS D mp lv ev xs) A;have k0:Op.ae [.ptr H.au 0] A=B1 (.int .i64 m.k):=lm 0 r2;have k1r:∀{t:ar},Fr (mS D mp lv ev xs) A t->Op.ae [.ptr H.au 1] t=B1 (.int .i64 m.core):=λ f=>lm 1 f;have k2r:∀{t:ar},Fr (mS D mp lv ev xs) A t->Op.ae [.ptr H.au 2] t=B1 (.int .i64 m.line):=λ f=>lm 2 f;have hwt:=s.d.wt m.line.toNat x a s.here;have bx:=λ z(u:aM a z)=>(l z (.inr (.inr (.inr (.inr ⟨_,x,a,Q,u⟩)))))
 unfold De.bW;rw[qy (λ q=>q may)];have sh1:=N5 c0 c4;simp only[aa,bc,may,w28,w32,k0]
 by_cases kg:m.k=1\/m.k=2
 .rw [xg kg]
  -- the message in hand has no words
  have st:Op.store 8 [.ptr H.au 3,.agg (cu .zero)] A=B1 (.undef,A.set H.au (OR (ao {m with d:=.zero}) xq)):=by
   have g:A.get H.au=B1 (OR (ao m) xq):=by rw[f2.ah _ (by omega) id];exact g1
   have:=wO g (o:=3) (n:=8) (v:=.agg (cu .zero)) (by rw[zr];exact yj _) (by rw[zi];decide) (by rw[zr];exact uj _);rw[this,Gy]
  obtain⟨P,e3⟩:∃X,X=A.set H.au (OR (ao {m with d:=.zero}) xq):=⟨_,rfl⟩
  rw[<-e3]at st;have J:Fr (On H.au) A P:=by rw[e3];exact(Fr.refl A).set (W:=On H.au) (.inl rfl) _
  have g3:P.get H.au=B1 (OR (ao {m with d:=.zero}) xq):=by rw[e3,xe]
  have lU3:=eF g3 (zi {m with d:=.zero});have c:dU P D mp lv ev N ws xs m.line.toNat x a:=(dU.of h Q).loc s (J.mono λ z _(q:z=H.au)=>by show H.au<=z;omega);have R:Fr Em H P:=F2.trans (J.mono (W':=Lo H) λ z _(q:z=H.au)=>by show H.au<=z;omega) λ z q=>.inr q;have m3:=J.au;have key:∀{E:Env},lk E 38=B1 (.bool B4)->lk E 3=B1 (.ptr H.au 0)->lk E 6=B1 (xA ev m.line.toNat)->lk E 0=B1 (.ptr D 0)->lk E 4=B1 .nils ->
   W M ⟨B5,FA⟩ (Zl 42) B4 (eY 0 (fp (W M ⟨B5,FA⟩ (Zl 113)) (eG M [.tmp 4,.tmp 5] (uZ (Cx H D mp lv ev N ws xs m.line.toNat a (if x.ph≠0 then({x with wt:=x.wt ++ [{m with d:=.zero}]},w,[])else((x.begin {m with d:=.zero} w).1,w,(x.begin {m with d:=.zero} w).2))))))) E [] A:=by
   intro E b38 b3 b6 b0 b4
   by_cases p0:x.ph=0
   .rw [qy (λ q=>q p0)];simp only[aa,bc,w42,b38,lZ,bd8,b3,st,w45,b6,qt,c.sk,xb p0,w55,b0,lU3];refine C3.q (py c {m with d:=.zero} hw h0 I.sb c0 c4 kg (by have:=I.ow;omega)) λ v B⟨T,j,f4⟩=>?_;simp only[aa,bc];refine⟨⟨_,_,rfl,T.1,λ q=>xy R.au (T.2 q)⟩,a,by rw[Rd hw];exact j,(R.mono λ _ _ q=>q.elim).trans (CX f4) λ _ q=>.inl q,λ z u=>.inl u⟩
   .rw [xg p0];have hsk:=c.d.wt m.line.toNat x a c.here;obtain⟨B,e4,f34,n4,-⟩:=cq P (OR (ao {m with d:=.zero}) xq);have rw1:=Mn (H:=P) {m with d:=.zero};rw[<-e4]at rw1;have sl1:=rw1.sl zi;have⟨v5,H5,s5,Z,f5,o5⟩:=(hsk.em f34).app zi (by decide) (ys:=[{m with d:=.zero}]) (k:=1) (new:=ao {m with d:=.zero}) rfl (by simp) (Sl.eJ sl1) (by have:=Sl.first sl1;simpa using this) (qW _) (bytes:=88) (by omega) (by omega);have f35:Fr (aM a) P H5:=(f34.mono λ _ _ q=>q.elim).trans f5 λ _ q=>.inl q;have⟨H6,s6,en6,f6,f56⟩:=c.wait Z f35 (λ z u=>(o5 z u).elim .inl λ q=>.inr (by omega)) Z.one;simp only[aa,bc,w42,b38,lZ,bd8,b3,st];simp only[aa,bc,w45,b3,b6,qt,c.sk,p0,c.iI,lU3,mZ,AJ,<-e4,s5,s6];refine⟨⟨_,_,rfl,.nil ..⟩,v5,by rw[Rd hw];exact en6,?_,λ z u=>(o5 z u).elim .inl λ q=>.inr (by have:=R.au;omega)⟩;exact(R.mono λ _ _ q=>q.elim).trans f6 λ z q=>.inl ((xkr Q).1 q)
  rcases kg with k|k
  .simp only[aa,bc,xb k];exact key rfl rfl rfl rfl rfl
  .have nk:¬m.k=1:=by omega
   simp only[aa,bc,nk,xb k];exact key rfl rfl rfl rfl rfl
 rw[qy kg];have nk1:¬m.k=1:=λ q=>kg (.inl q);have nk2:¬m.k=2:=λ q=>kg (.inr q);have hm:=may;unfold De.may at hm;rw[qy kg]at hm;have hU:=I.un;have S:∀{y:De}{w':L8},x.ph≠0->y.un=x.un->y.sh<16->(ws.set m.line.toNat w')[y.un.line.toNat]? = B1 w'/\0<=y.un.line/\y.sh<16/\0<=y.un.core/\y.un.core<4:=λ{y w'}p e1 e2=>by
  obtain⟨-,u0,u1,ul⟩:=hU p;have hl:=(qo.1 hw).1;rw[e1];exact⟨by rw[ul,za hl],by rw[ul];exact h0,e2,u0,by omega⟩
 have K:∀{t:ar}{y:De},dU t D mp lv ev N ws xs m.line.toNat y a->dU t D mp lv ev N (ws.set m.line.toNat w) xs m.line.toNat y a:=λ e=>by rw[Rd hw];exact e
 have full:∀{t:ar},Fr (mS D mp lv ev xs) A t->Fr (mS D mp lv ev xs) H t:=λ f=>(F2.mono λ _ _ q=>q.elim).trans f λ _ q=>.inl q;have G:∀{t:ar},aT ao xq 11 t .nils ([]:List Mg):=Own.nil ..;have F:∀z,aM AV.nils z->H.au<=z:=λ z q=>absurd rfl q.1;simp only[aa,bc,nk1,nk2,w42]
 by_cases k4:m.k=4
 .rw [xg k4]at hm⊢;have sd:=YD I.sb c0 c4;have sda:=YD I.ab c0 c4;have⟨P,s3,c,J⟩:=s.s1 (cR x.sh m.core);have⟨B,s4,j,f4⟩:=c.SW (cR x.ask m.core);have R:=CX (D:=D) (mp:=mp) (lv:=lv) (xs:=xs) J;have L:=xK R (CX f4);have dl:cR x.sh m.core<16:=(Oz I.sb c0 c4 (d:=0) (by decide) (by decide)).1;have dd:decide (((cR x.ask m.core:Nat):Int)=0)=decide (cR x.ask m.core=0):=by
   by_cases e:cR x.ask m.core=0
   .rw [e];rfl
   .rw [kr e,kr (by omega)]
  simp only[aa,bc,xb k4,w61,qt,s.l1,k1r r2,sh1,sd,s3,c.vW,k1r R,sda,s4,j.vW];exact oY (q:=cR x.ask m.core=0) dd rfl rfl rfl rfl Q (K j) (λ _=>S (by omega) rfl dl) G (by decide) F (full L) l
 rw[qy k4]at hm⊢
 by_cases Z:m.k=5
 .rw [xg Z]at hm⊢;have yE:Op.ae [.ptr D 0] A=B1 (.ptr mp 0):=zb (xc s.d.row) 0;have hlen:m.line<ws.length:=by have:=(qo.1 hw).1;omega
  simp only[aa,bc,k4,Y,xb Z,qt,yE,k2r r2,lD r2];refine C3.q (U6 s.d.me h0 hlen m.d) λ v P⟨hv,hm3,J⟩=>?_;have c:=s.mem hm3 J (xw ..);have R:=frM (D:=D) (mp:=mp) (ev:=ev) (xs:=xs) J;have⟨B,s4,j,f4⟩:=c.s0 (-1);have L:=xK R (CX f4)
  by_cases u1:x.un.k=1
  .rw [xg u1];have sa:=ψ I.sb c0 c4;have⟨H5,s5,en5,f5⟩:=j.s1 (rS x.sh m.core);have F5:=xK L (CX f5);simp only[aa,bc,w71,qt,s4,w73,j.l2,xb u1,j.l1,k1r L,sh1,sa,s5,w79];exact oY (q:=True) rfl rfl rfl rfl rfl Q en5 (λ _=>S (by omega) rfl (R3 I.sb c0 c4 (d:=0) (by decide) (by decide)).1) G (by decide) F (full F5) l
  .rw [qy u1];simp only[aa,bc,w71,qt,s4,w73,j.l2,u1,w79];exact oY (q:=True) rfl rfl rfl rfl rfl Q j (λ _=>S (by omega) rfl I.sb) G (by decide) F (full L) l
 rw[qy Z]at hm⊢
 by_cases k6:m.k=6
 .rw [xg k6]at hm⊢;have⟨P,s3,c,J⟩:=s.R4 3;simp only[aa,bc,k4,Y,Z,xb k6,qt,s3,c.l0];exact oY (q:=x.ow<0) rfl rfl rfl rfl rfl Q (K c) (λ _=>S (by omega) rfl I.sb) G (by decide) F (full (CX J)) l
 rw[qy k6]at hm⊢
 by_cases k3:m.k=3
 .rw [xg k3]at hm⊢;have yE:Op.ae [.ptr D 0] A=B1 (.ptr mp 0):=zb (xc s.d.row) 0;have hlen:m.line<ws.length:=by have:=(qo.1 hw).1;omega
  simp only[aa,bc,k4,Y,Z,k6,w86,xb k3,qt,yE,k2r r2,lD r2];refine C3.q (U6 s.d.me h0 hlen m.d) λ v P⟨hv,hm3,J⟩=>?_;have c:=s.mem hm3 J (xw ..);have R:=frM (D:=D) (mp:=mp) (ev:=ev) (xs:=xs) J;have⟨B,s4,j,f4⟩:=c.s0 (-1);have L:=xK R (CX f4);simp only[aa,bc,qt,s4,k1r L,k2r L,mZ,bdA];refine nV (e:=xq) (size:=11) (bytes:=88) (Own.nil B xq 11) (x:=.agg (ao ⟨16,m.core,m.line,.zero⟩)) (zi _) (by rw[zr];exact zi _) (by rw[zr];exact qW _) (by decide) (by omega) (by omega) λ v5 H5 hv5 hf hfr=>?_;rw[zr]at hv5;have f45:Fr Em B H5:=hf.mono λ z _ u=>absurd rfl u.1;have en5:=j.em f45;have F5:=L.trans f45 λ _ q=>q.elim;have nn:H.au<=B.au:=(full L).au;simp only[aa,bc,qt,en5.sk];refine oY (q:=x.ph=3) rfl rfl rfl rfl rfl Q en5 (λ q=>S (by omega) rfl I.sb) (o:=[⟨16,m.core,m.line,.zero⟩]) ?_ (by simp) (λ z u=>(hfr z u).elim (λ q=>absurd rfl q.1) λ q=>by omega) (full F5) l;unfold aT
  simpa using hv5
 rw[qy k3]at hm⊢;have⟨k7,p4,pu⟩:=hm;have⟨P,s3,c,J⟩:=s.R4 0;have⟨B,s4,j,f4⟩:=c.sU ⟨0,0,0,.zero⟩;have L:=xK (CX (D:=D) (mp:=mp) (lv:=lv) (xs:=xs) J) (CX f4);have hsk:=j.d.wt m.line.toNat _ a j.here;have O:=hsk.len zi;cases C:x.wt with
 |nil =>
  have O:Op.ct [a]=B1 (.int .i64 0):=by rw[O];simp only[C];rfl
  have z00:¬(0:Int)<0:=by decide
  have en4n:dU B D mp lv ev N ws xs m.line.toNat {x with ph:=0,un:=⟨0,0,0,.zero⟩,wt:=[]} a:=by rw[<-C];exact j
  simp only[aa,bc,k4,Y,Z,k6,w86,k3,xb k7,w99,qt,mZ,HC,s3,s4,j.iI,O,z00];exact oY (q:=False) (b8:=B2) rfl rfl rfl rfl rfl Q (K en4n) (λ q=>q.elim) G (by decide) F (full L) l
 |cons n r =>
  have hn:=I.wt n (by rw[C];simp);have O:Op.ct [a]=B1 (.int .i64 ((r.length+1:Nat):Int)):=by rw[O];simp only[C];rfl
  have z01:(0:Int)<((r.length+1:Nat):Int):=by omega
  have V:Sk ao xq 11 B a (n::r):=by
   have:({x with ph:=0,un:=⟨0,0,0,.zero⟩}:De).wt=n::r:=C;rw[<-this];exact hsk
  have ix:=(V.sl zi).idx (i:=0) (x:=n) rfl (z:=0) rfl .i64;have ld:=(V.sl zi).aq zi (by decide) (i:=0) (x:=n) rfl;obtain⟨H5,e5,f45,-,g5⟩:=cq B (OR (ao ⟨0,0,0,.zero⟩) xq);have st5:=fF g5 (zi _) (zi n) (qW n);obtain⟨H6,e6⟩:∃X,X=H5.set B.au (OR (ao n) xq):=⟨_,rfl⟩
  rw[<-e6]at st5;have g6:H6.get B.au=B1 (OR (ao n) xq):=by rw[e6,xe]
  have f46:Fr Em B H6:=by rw[e6];exact f45.set (.inr (qm _)) _
  have n6:B.au<H6.au:=by rw[e6,tI,e5,xx];omega
  have en6:=j.em f46;have hsk6:=V.em f46;rcases hsk6 with⟨-,q⟩|⟨b,i,alt,rr,hsb⟩
  .cases q
  obtain⟨v7,alt',s7,U,-⟩:=hsb.off zi (k:=1) (by simp) .i64;have s7:Op.aA 11 [B1 0,B5,B5] [a,.int .i64 1]=B1 v7:=s7;have hon7:∀z,aM v7 z->aM a z:=λ z u=>by rw[U.Tx u];exact hsb.on
  have⟨H8,s8,en8,f8,f68⟩:=en6.wait (ys:=r) (.inr ⟨_,_,_,_,U⟩) (Fr.refl H6) (λ z u=>.inl (hon7 z u)) (by rw[U.eq];rfl);have F6:=L.trans f46 λ _ q=>q.elim;have F8:=F6.trans f8 λ z q=>.inl ((xkr Q).1 q);have nev:¬B.au=aF ev:=by have:=l (aF ev) (.inr (.inr (.inr (.inl rfl))));have:=(full L).au;omega
  have l8:Op.aq 11 [.ptr B.au 0] H8=B1 (.agg (ao n)):=eF (by rw[f68.ah _ n6 nev];exact g6) (zi n);simp only[aa,bc,k4,Y,Z,k6,w86,k3,xb k7,w99,qt,mZ,HC,s3,s4,j.iI,O,xb z01,ix,ld,<-e5,st5,en6.iI,s7,s8,l8];have⟨nk,n0,n1',nl⟩:=hn;refine C3.q (py en8 n (w:=w) (by rw[nl];exact hw) (by rw[nl];exact h0) I.sb n0 (by omega) nk (by have:=I.ow;show x.ow<4;omega)) λ v H9⟨T,en9,f9⟩=>?_;simp only[aa,bc];refine⟨⟨_,_,rfl,T.1,λ q=>xy (full F8).au (T.2 q)⟩,v7,by rw[Rd hw];exact en9,full (xK F8 (CX f9)),λ z u=>.inl (hon7 z u)⟩
end
end Go.Am
namespace Go.Am
open Go.Proofs Ca
open Lang (ints)
variable{M:ak}[MK M]
structure Na where
 r:Nat
 b:Nat
 sv:AV
 bv:AV
 ks:List Nat
structure Bs where
 D:Nat
 mp:Nat
 lv:AV
 ev:AV
 xs:List (De×AV)
 nv:AV
 fv:AV
 ad:List Na
def pP(r:Nat):List AV:=[.ptr r 0]
def Yh(r:Nat):(pP r).length=1:=rfl
def Na.w(A:Na):Nat->Prop:=iJ A.r A.b A.sv A.bv
def Bs.dw(s:Bs):Nat->Prop:=mS s.D s.mp s.lv s.ev s.xs
def gD(B:Nat)(s:Bs)(z:Nat):Prop:=z=B\/s.dw z\/aM s.nv z\/aM s.fv z \/ ∃(c:Nat)(A:Na),s.ad[c]? = B1 A/\A.w z
structure eM(H0 H:ar)(B:Nat)(s:Bs)(b:Bu)(own:Nat->Nat):Prop where
 row:H.get B=B1 (OR [.ptr s.D 0,s.nv,s.fv,.int .i64 (b.l.length:Int)] Mb)
 lt:B<H.au
 d:mV H s.D s.mp s.lv s.ev b.ns.length b.m s.xs
 dx:s.xs.map Prod.fst=b.l
 nv:aT pP Kr 1 H s.nv (s.ad.map Na.r)
 no:∀(c:Nat)(n:No)(A:Na),b.ns[c]? = B1 n->s.ad[c]? = B1 A->de H0 H A.r A.b A.sv A.bv n A.ks
 al:s.ad.length=b.ns.length
 fl:Sk ao xq 11 H s.fv b.fl
 oB:own B=0
 oD:∀z,s.dw z->own z=1
 oN:∀z,aM s.nv z->own z=2
 oF:∀z,aM s.fv z->own z=3
 oC:∀(c:Nat)(A:Na),s.ad[c]? = B1 A -> ∀z,A.w z->own z=4+c
 lo:∀z,gD B s z->H0.au<=z
def de.low{H0 H:ar}{r b:Nat}{sv bv:AV}{n:No}{ks:List Nat}(h:de H0 H r b sv bv n ks){z:Nat}(a:iJ r b sv bv z):z<H.au:=by
 rcases a with rfl|(rfl|rfl)|a
 .exact h.lt
 .exact h.ca.lt
 .exact h.ca.sl.lt
 .exact (h.bk.fresh z a).2
section
variable{H0 H:ar}{B:Nat}{s:Bs}{b:Bu}{own:Nat->Nat}
def eM.zM(h:eM H0 H B s b own){c:Nat}{n:No}(hn:b.ns[c]? = B1 n):∃A,s.ad[c]? = B1 A/\de H0 H A.r A.b A.sv A.bv n A.ks:=by
 have hl:=(qo.1 hn).1;have ha:s.ad[c]? = B1 (s.ad[c]'(by rw[h.al];exact hl)):=xf _;exact⟨_,ha,h.no c n _ hn ha⟩
def eM.low(h:eM H0 H B s b own){z:Nat}(a:gD B s z):z<H.au:=by
 rcases a with rfl|a|a|a|⟨c,A,e,a⟩
 .exact h.lt
 .exact h.d.low a
 .exact Own.lt h.nv z a
 .exact h.fl.lt z a
 .have hl:=(qo.1 e).1;have hn:b.ns[c]? = B1 (b.ns[c]'(by rw[<-h.al];exact hl)):=xf _;exact(h.no c _ A hn e).low a
def eM.fr{H':ar}{W:Nat->Prop}(h:eM H0 H B s b own)(f:Fr W H H')(hw:∀z,W z->H0.au<=z /\ ¬gD B s z):eM H0 H' B s b own :=
 ⟨by rw[f.ah _ h.lt (λ q=>(hw _ q).2 (.inl rfl))];exact h.row,qn h.lt f.au,h.d.fr f (λ z q w=>(hw z q).2 (.inr (.inl w))),h.dx,Own.fr h.nv f (λ z a q=>(hw z q).2 (.inr (.inr (.inl a)))),
  λ c n A hn e=>(h.no c n A hn e).off f λ z q=>⟨(hw z q).1,λ w=>(hw z q).2 (.inr (.inr (.inr (.inr ⟨c,A,e,w⟩))))⟩,h.al,h.fl.fr f (λ z a q=>(hw z q).2 (.inr (.inr (.inr (.inl a))))),h.oB,h.oD,h.oN,h.oF,h.oC,h.lo⟩
def eM.em{H':ar}(h:eM H0 H B s b own)(f:Fr Em H H'):eM H0 H' B s b own:=h.fr f λ z q=>q.elim
def eM.l1(h:eM H0 H B s b own):Op.ae [.ptr B 1] H=B1 s.nv:=zb (xc h.row) 1
def eM.l0(h:eM H0 H B s b own):Op.ae [.ptr B 0] H=B1 (.ptr s.D 0):=zb (xc h.row) 0
def eM.l2(h:eM H0 H B s b own):Op.ae [.ptr B 2] H=B1 s.fv:=zb (xc h.row) 2
def eM.l3(h:eM H0 H B s b own):Op.ae [.ptr B 3] H=B1 (.int .i64 (b.l.length:Int)):=zb (xc h.row) 3
def aP(own:Nat->Nat)(n k z:Nat):Nat:=if z<n then own z else k
def eM.node(h:eM H0 H B s b own){c:Nat}{n n':No}{A:Na}{H':ar}(hn:b.ns[c]? = B1 n)(o:s.ad[c]? = B1 A)(E:sr H0 H A.r A.b A.sv A.bv n' H') :
 ∃y t,eM H0 H' B y {b with ns:=b.ns.set c n'} t/\(∀z,gD B y z->gD B s z\/H.au<=z)/\Fr (gD B s) H H':=by
 have⟨l,m,hr,f,hb⟩:=E;have v:=(qo.1 hn).1;have p:=(qo.1 o).1;have D:Fr (gD B s) H H':=f.mono λ z _ q=>.inr (.inr (.inr (.inr ⟨c,A,o,q⟩)));have nw:∀z,iJ A.r A.b A.sv A.bv z->own z=4+c:=h.oC c A o;have has:∀(d:Nat)(g:Na),(s.ad.set c {A with bv:=l,ks:=m})[d]? = B1 g->(d=c/\g = {A with bv:=l,ks:=m})\/d≠c/\s.ad[d]? = B1 g:=λ d g e=>by
  by_cases q:d=c
  .subst q;rw[za p]at e;injection e with e;exact .inl ⟨rfl,e.symm⟩
  .rw [zf (nG q)]at e;exact .inr ⟨q,e⟩
 have x:∀z,gD B {s with ad:=s.ad.set c {A with bv:=l,ks:=m}} z->gD B s z\/H.au<=z:=λ z a=>by
  rcases a with a|a|a|a|⟨d,g,e,a⟩
  .exact .inl (.inl a)
  .exact .inl (.inr (.inl a))
  .exact .inl (.inr (.inr (.inl a)))
  .exact .inl (.inr (.inr (.inr (.inl a))))
  .rcases has d g e with⟨rfl,rfl⟩|⟨q,e⟩
   .rcases a with a|a|a
    .exact .inl (.inr (.inr (.inr (.inr ⟨d,A,o,.inl a⟩))))
    .exact .inl (.inr (.inr (.inr (.inr ⟨d,A,o,.inr (.inl a)⟩))))
    .rcases hb z a with w|w
     .exact .inl (.inr (.inr (.inr (.inr ⟨d,A,o,.inr (.inr w)⟩))))
     .exact .inr w
   .exact .inl (.inr (.inr (.inr (.inr ⟨d,g,e,a⟩))))
 have C:H0.au<=H.au:=by have:=h.lo B (.inl rfl);have:=h.lt;omega
 have ne:∀{z k:Nat},own z=k->k≠4+c -> ¬iJ A.r A.b A.sv A.bv z:=λ e1 e2 q=>e2 (by rw[<-e1];exact nw _ q);have ow:∀{z:Nat},z<H.au->aP own H.au (4+c) z=own z:=λ q=>xg q;refine⟨{s with ad:=s.ad.set c {A with bv:=l,ks:=m}},aP own H.au (4+c),⟨?_,qn h.lt f.au,?_,h.dx,?_,λ d n2 g i u=>?_,?_,?_,?_,λ z a=>?_,λ z a=>?_,λ z a=>?_,λ d g e z a=>?_,λ z a=>?_⟩,x,D⟩
 .rw [f.ah _ h.lt (ne h.oB (by omega))];exact h.row
 .simp only[xw];exact h.d.fr f λ z q w=>ne (h.oD z w) (by omega) q
 .have:(s.ad.set c {A with bv:=l,ks:=m}).map Na.r=s.ad.map Na.r:=by
   rw[List.map_set];apply ym;intro j
   by_cases q:j=c
   .rw [q,za (by rw[xr];exact p),xm,o];rfl
   .rw [zf (nG q)]
  simp only[this];exact Own.fr h.nv f λ z a q=>ne (h.oN z a) (by omega) q
 .have i:(b.ns.set c n')[d]? = B1 n2:=i;rcases has d g u with⟨rfl,rfl⟩|⟨q,e⟩
  .rw [za v]at i;cases i;exact hr
  .rw [zf (nG q)]at i;refine(h.no d n2 g i e).off f λ z w=>⟨h.lo z (.inr (.inr (.inr (.inr ⟨c,A,o,w⟩)))),λ w2=>?_⟩
   have e1:=h.oC d g e z w2;have e2:=nw z w;omega
 .simp only[xw];exact h.al
 .exact h.fl.fr f λ z a q=>ne (h.oF z a) (by omega) q
 .rw [ow h.lt];exact h.oB
 .rw [ow (h.low (.inr (.inl a)))];exact h.oD z a
 .rw [ow (h.low (.inr (.inr (.inl a))))];exact h.oN z a
 .rw [ow (h.low (.inr (.inr (.inr (.inl a)))))];exact h.oF z a
 .rcases has d g e with⟨rfl,rfl⟩|⟨q,e⟩
  .unfold aP;split
   .rename_i q;rcases a with a|a|a
    .exact nw z (.inl a)
    .exact nw z (.inr (.inl a))
    .rcases hb z a with w|w
     .exact nw z (.inr (.inr w))
     .omega
   .rfl
  .rw [ow (h.low (.inr (.inr (.inr (.inr ⟨d,g,e,a⟩)))))];exact h.oC d g e z a
 .rcases x z a with w|w
  .exact h.lo z w
  .omega
end
end Go.Am
namespace Go.Am
open Go.Proofs Ca
open Lang (ints)
variable{M:ak}[MK M]
def kR(H0 H:ar)(B:Nat)(s:Bs)(b':Bu)(H':ar):Prop:=∃s' aP,eM H0 H' B s' b' aP/\(∀z,gD B s' z->gD B s z\/H.au<=z)/\Fr (gD B s) H H'
section
variable{H0 H:ar}{B:Nat}{s:Bs}{b:Bu}{own:Nat->Nat}
def kR.then{H1 d:ar}{s1:Bs}{e:Bu}(g:Fr (gD B s) H H1)(hs:∀z,gD B s1 z->gD B s z\/H.au<=z)(h:kR H0 H1 B s1 e d):kR H0 H B s e d:=by
 have⟨s2,o2,r,q,f⟩:=h;refine⟨s2,o2,r,λ z a=>(q z a).elim (hs z) λ w=>.inr (xy g.au w),g.trans f λ z a=>hs z a⟩
def kR.em{H1 a:ar}{d:Bu}(h:kR H0 H B s d H1)(f:Fr Em H1 a):kR H0 H B s d a:=by
 have⟨s2,o2,r,q,g⟩:=h;exact⟨s2,o2,r.em f,q,g.trans f λ _ w=>w.elim⟩
theorem kR.pre{H1 a:ar}{d:Bu}(f:Fr Em H H1)(h:kR H0 H1 B s d a):kR H0 H B s d a:=kR.then (f.mono λ _ _ q=>q.elim) (λ _ q=>.inl q) h
def eM.Db(h:eM H0 H B s b own){H1:ar}{e:AV}{j:List Mg}(hk:Sk ao xq 11 H1 e j)(f:Fr (aM s.fv) H H1)(p:∀z,aM e z->aM s.fv z\/H.au<=z):∃H',Op.store 1 [.ptr B 2,e] H1=B1 (.undef,H')/\kR H0 H B s {b with fl:=j} H':=by
 have t:aB e=true:=hk.one;have ne:∀{z k:Nat},own z=k->k≠3 -> ¬aM s.fv z:=λ e1 e2 q=>e2 (by rw[<-e1];exact h.oF _ q);have E:H1.get B=B1 (OR [.ptr s.D 0,s.nv,s.fv,.int .i64 (b.l.length:Int)] Mb):=by rw[f.ah _ h.lt (ne h.oB (by decide))];exact h.row
 have m:e.cells=[e]:=by cases e<;>first|rfl|cases t
 have st:=wO E (o:=2) (n:=1) (v:=e) (by rw[m];rfl) (by simp) (by rw[m,vg];simpa using t);rw[m]at st;have C:Fr (gD B s) H H1:=f.mono λ z _ q=>.inr (.inr (.inr (.inl q)));have y:H0.au<=H.au:=by have:=h.lo B (.inl rfl);have:=h.lt;omega
 have u:∀z,gD B {s with fv:=e} z->gD B s z\/H.au<=z:=λ z a=>by
  rcases a with a|a|a|a|a
  .exact .inl (.inl a)
  .exact .inl (.inr (.inl a))
  .exact .inl (.inr (.inr (.inl a)))
  .rcases p z a with w|w
   .exact .inl (.inr (.inr (.inr (.inl w))))
   .exact .inr w
  .exact .inl (.inr (.inr (.inr (.inr a))))
 have ow:∀{z:Nat},z<H.au->aP own H.au 3 z=own z:=λ q=>xg q;have g:Fr (On B) H1 (H1.set B (OR ([AV.ptr s.D 0,s.nv,s.fv,.int .i64 (b.l.length:Int)].take 2 ++ [e] ++ [AV.ptr s.D 0,s.nv,s.fv,.int .i64 (b.l.length:Int)].drop (2+1)) Mb)):=(Fr.refl H1).set (W:=On B) (.inl rfl) _;have x:∀{z k:Nat},own z=k->k≠0 -> ¬z=B:=λ e1 e2 q=>e2 (by rw[<-e1,q];exact h.oB);refine⟨_,st,{s with fv:=e},aP own H.au 3,⟨xe ..,?_,?_,h.dx,?_,λ c n A hn i=>?_,h.al,?_,?_,λ z a=>?_,λ z a=>?_,λ z a=>?_,λ c A i z a=>?_,λ z a=>?_⟩,u,C.trans g λ z q=>.inl (.inl q)⟩
 .exact qn h.lt (xy f.au g.au)
 .exact (h.d.fr f λ z q w=>ne (h.oD z w) (by decide) q).fr g λ z q w=>x (h.oD z w) (by decide) q
 .exact Own.fr (Own.fr h.nv f λ z a q=>ne (h.oN z a) (by decide) q) g λ z a q=>x (h.oN z a) (by decide) q
 .refine ((h.no c n A hn i).off f λ z w=>⟨h.lo z (.inr (.inr (.inr (.inl w)))),λ w2=>?_⟩).off g λ z w=>?_
  .have:=h.oC c A i z w2;have:=h.oF z w;omega
  .have w:z=B:=w;refine⟨by rw[w];exact h.lo B (.inl rfl),λ w2=>?_⟩;have:=h.oC c A i z w2;rw[w,h.oB]at this;omega
 .refine hk.fr g λ z a q=>?_;have q:z=B:=q;rcases p z a with w|w
  .rw [q]at w;exact ne h.oB (by decide) w
  .have:=h.lt;omega
 .rw [ow h.lt];exact h.oB
 .rw [ow (h.low (.inr (.inl a)))];exact h.oD z a
 .rw [ow (h.low (.inr (.inr (.inl a))))];exact h.oN z a
 .unfold aP;split
  .rcases p z a with w|w
   .exact h.oF z w
   .omega
  .rfl
 .rw [ow (h.low (.inr (.inr (.inr (.inr ⟨c,A,i,a⟩)))))];exact h.oC c A i z a
 .rcases u z a with w|w
  .exact h.lo z w
  .omega
def ac8(l:List Mg):aN (l.flatMap ao)=true:=by
 rw[vg,List.all_flatMap,FV];intro x _;have:=qW x;rw[vg]at this;exact this
def hT(h:eM H0 H B s b own){a:AV}{ms:List Mg}(hm:bX ao 11 H a ms)(hl:b.fl.length+ms.length<=1000000):zd M Wy [.ptr B 0,a] H λ _ H'=>kR H0 H B s {b with fl:=b.fl++ms} H':=by
 refine q7e ?_;have⟨v1,H1,s1,e,d,o1⟩:=h.fl.app zi (by decide) (ys:=ms) rfl rfl (Sl.eJ hm) (Sl.first hm) (ac8 ms) (bytes:=88) (by omega) (by omega);have⟨g,s2,f⟩:=h.Db e d o1;simp only[aa,bc,q7f,qt,h.l2,s1,s2];exact f
def GV(h:eM H0 H B s b own)(k:b.ns.length<=4)(c:Int):zd M XR [.ptr B 0,.int .i64 c] H λ v H'=>H'=H/\((0<=c/\c<b.ns.length -> ∃A,s.ad[c.toNat]? = B1 A/\v=.tuple [.ptr A.r 0,.int .i64 0])/\(¬(0<=c/\c<b.ns.length)->v=.tuple [.nilp,.int .i64 2])):=by
 refine xcb ?_;obtain⟨w0,w2,f⟩:=xcc M ⟨B5,XR⟩;have a:=h.nv.sl.len;rw[xr,h.al]at a
 by_cases e:c<0
 .simp only[aa,bc,w0,w2,yp,xb e];exact⟨λ q=>by omega,λ _=>trivial⟩
 by_cases j:((b.ns.length:Nat):Int)<=c
 .simp only[aa,bc,w0,w2,yp,e,qt,h.l1,a,xb j];exact⟨λ q=>by omega,λ _=>trivial⟩
 have d:c.toNat<s.ad.length:=by rw[h.al];omega
 have g:s.ad[c.toNat]? = B1 (s.ad[c.toNat]):=xf d;have i:(s.ad.map Na.r)[c.toNat]? = B1 (s.ad[c.toNat]).r:=by rw[xm,g];rfl
 have ix:=h.nv.sl.idx i (z:=c) (by omega) .i64;have ld:=h.nv.sl.jO Yh i (by decide);have ld:Op.ae [.ptr (aF s.nv) (cZ 1 s.nv c.toNat)] H=B1 (.ptr (s.ad[c.toNat]).r 0):=ld;simp only[aa,bc,w0,w2,yp,e,qt,h.l1,a,j,f,ix,ld];exact⟨λ _=>⟨_,g,rfl⟩,λ q=>absurd ⟨by omega,by omega⟩ q⟩
end
end Go.Am
namespace Go.Am
open Go.Proofs Ca
open Lang (ints)
variable{M:ak}[MK M]
def No.jW(n:No)(a o:Int):Bool×Bool×Int:=if n.may a then if n.live then(B2,B2,41)else if n.owned (No.ln a)then(decide ((n.c.word a.toNat).2.getD 0=o),B4,0)else(B2,B2,0)else(B2,B2,2)
section
variable{H0 H:ar}{r b:Nat}{sv bv:AV}{n:No}{ks:List Nat}
def xez(h:de H0 H r b sv bv n ks):zd M W8 [.ptr r 0] H λ v H'=>v=.int .i64 (if n.live=B4 then 41 else 0)/\de H0 H' r b sv bv n.begin ks/\Fr (iJ r b sv bv) H H':=by
 refine qx9 ?_;obtain⟨w0,w2,a⟩:=qya M ⟨B5,W8⟩;have iI:=h.iI;unfold No.begin;cases hl:n.live with
 |true =>
  rw[hl]at iI;simp only[aa,bc,w0,w2,yp,qt,iI];exact⟨h,Fr.refl _⟩
 |false =>
  rw[hl]at iI;have⟨j,s2,f,d⟩:=h.tR B4;have⟨k,i,g,e⟩:=f.yB 0;simp only[aa,bc,w0,w2,yp,qt,iI,a,s2,i];exact⟨by first|rfl|trivial|(simp),by rw[qy (by decide)];exact g,jV (L7 d) (L7 e)⟩
def xa3(h:de H0 H r b sv bv n ks):zd M Va [.ptr r 0] H λ v H'=>v=.int .i64 (if n.live=B4 then 0 else 40)/\de H0 H' r b sv bv n.bE ks/\Fr (iJ r b sv bv) H H':=by
 refine qwf ?_;obtain⟨w0,w2,d⟩:=qwg M ⟨B5,Va⟩;have iI:=h.iI;unfold No.bE;cases hl:n.live with
 |false =>
  rw[hl]at iI;simp only[aa,bc,w0,w2,yp,qt,iI];exact⟨by first|rfl|trivial|(simp),by rw[qy (by decide)];exact h,Fr.refl _⟩
 |true =>
  rw[hl]at iI;simp only[aa,bc,w0,w2,yp,qt,iI,d,h.l2];refine C3.q (_8 h.ca h.len) λ _ H1⟨g,e⟩=>?_;have a:=h.iH g e (by show(n.c.sl.map rM).length<=40;rw[xr];exact h.len);have⟨j,s2,i,f⟩:=a.tR B2;simp only[aa,bc,qt,s2];exact⟨i,jV (wJ e) (L7 f)⟩
def zW(H0 H:ar)(r b:Nat)(sv bv:AV)(n:No)(ks:List Nat)(a o y:Int)(v:AV)(H':ar):Prop:=(∃ov,v=.tuple [.bool (n.jW a o).1,.bool (n.jW a o).2.1,ov,.int .i64 (n.jW a o).2.2]/\mL H H' ov (n.nH a o y).2)/\de H0 H' r b sv bv (n.nH a o y).1 ks/\Fr (iJ r b sv bv) H H'
def xln(h:de H0 H r b sv bv n ks)(m:CI n.lines n.c)(hk:n.aL.length<=900000)(hu:n.c.us+2<=1000000)(a o y:Int):zd M X1 [.ptr r 0,.int .i64 a,.int .u64 o,.int .u64 y] H (zW H0 H r b sv bv n ks a o y):=by
 refine q5z ?_;obtain⟨w0,w2,w,E,F,G,x,z⟩:=q50 M ⟨B5,X1⟩;simp only[aa,bc,w0,w2];refine C3.q (Z4 h a) λ v H1⟨u,P⟩=>?_;rw[u,P]
 by_cases hm:n.may a
 case neg =>
  have j:n.nH a o y=(n,[]):=by unfold No.nH;rw[qy hm]
  have ev:n.jW a o=(B2,B2,2):=by unfold No.jW;rw[qy hm]
  have T:¬(2:Int)=0:=by decide
  rw[qy hm];unfold zW;rw[j,ev];simp only[aa,bc,T];exact⟨⟨.nils,rfl,mL.nil ..⟩,h,Fr.refl _⟩
 rw[xg hm];have hl:=h.li;have⟨K,S⟩:=hm;obtain⟨e,rfl⟩:=jm K;have l:e<1000000:=by omega
 have g:n.may (e:Int):=⟨K,S⟩
 have k:No.ln (e:Int)=((e / 8:Nat):Int):=rfl;have W:=xb (show(0:Int)=0 from rfl);have iI:=h.iI;cases f:n.live with
 |true =>
  have j:n.nH (e:Int) o y=(n,[]):=by unfold No.nH;rw[xg g,f];rfl
  have ev:n.jW (e:Int) o=(B2,B2,41):=by unfold No.jW;rw[xg g,f];rfl
  rw[f]at iI;unfold zW;rw[j,ev];simp only[aa,bc,w,qt,iI];exact⟨⟨.nils,rfl,mL.nil ..⟩,h,Fr.refl _⟩
 |false =>
  rw[f]at iI;simp only[aa,bc,w,qt,iI,E,Aa l,F];refine C3.q (i_ (line:=((e / 8:Nat):Int)) h m) λ v H1⟨u,A⟩=>?_;rw[u];have hb:=h.em A;cases ho:n.owned ((e / 8:Nat):Int)with
  |false =>
   have j:n.nH (e:Int) o y=n.ask 2 ((e / 8:Nat):Int):=by
    unfold No.nH;rw[xg g,f,k,ho];rfl
   have ev:n.jW (e:Int) o=(B2,B2,0):=by unfold No.jW;rw[xg g,f,k,ho];rfl
   simp only[aa,bc];refine C3.q (Zb hb hk 2 ((e / 8:Nat):Int)) λ v U⟨t,hn,C⟩=>?_;unfold zW;rw[j,ev];simp only[aa,bc];exact⟨⟨v,rfl,t.1,λ q=>xy A.au (t.2 q)⟩,hn,jV (nD A) C⟩
  |true =>
   have⟨i,hp,Q⟩:=xnb ho;have hw:(n.c.word e).2=B1 ((n.c.en i).d.get (e % 8)):=by unfold Ca.word;rw[hp]
   have j:n.nH (e:Int) o y=({n with c:=if(n.c.en i).d.get (e % 8)=o then(n.c.word e).1.put e y else(n.c.word e).1},[]):=by
    unfold No.nH;rw[xg g,f,k,ho,qy (by decide),xg rfl];simp only[Hi,hw,vm]
   have ev:n.jW (e:Int) o=(decide ((n.c.en i).d.get (e % 8)=o),B4,0):=by
    unfold No.jW;rw[xg g,f,k,ho,qy (by decide),xg rfl];simp only[Hi,hw,vm]
   simp only[aa,bc,G,qt,hb.l2];refine C3.q (N_ hb.ca m (by omega) l) λ v L⟨u,N,I⟩=>?_;rw[u];have hn:=hb.iH N I (by rw[(RZ ..).1];exact h.len);unfold yU;rw[hp];have p:Fr (iJ r b sv bv) H L:=jV (nD A) (wJ I)
   by_cases q:(n.c.en i).d.get (e % 8)=o
   .rw [xg q]at j;rw[yd q]at ev;simp only[aa,bc,xj,x,xb q,qt,hn.l2];refine C3.q (xhy hn.ca (m.word e) (by show(n.c.word e).1.us+1<=1000000;have:=(RZ n.c e).2;omega) l y) λ v V⟨R,O,J⟩=>?_;have D:=hn.iH O J (by rw[(Sq ..).1,(RZ ..).1];exact h.len);unfold zW;rw[j,ev];simp only[aa,bc,z,xb q];exact⟨⟨.nils,rfl,mL.nil ..⟩,D,jV p (wJ J)⟩
   .rw [qy q]at j;rw[kr q]at ev;unfold zW;rw[j,ev];simp only[aa,bc,xj,x,q,z];exact⟨⟨.nils,rfl,mL.nil ..⟩,hn,p⟩
end
end Go.Am
namespace Go.Am
open Go.Proofs Ca
open Lang (ints)
variable{M:ak}[MK M]
structure BB(b:Bu):Prop where
 N4:b.ns.length<=4
 fl:b.fl.length<=900000
 no:∀(c:Nat)n,b.ns[c]? = B1 n->n.NI/\n.aL.length<=900000/\n.c.us+2<=1000000
def XD(n:No)(k l:Int):(n.ask k l).2.length<=1:=by unfold No.ask;split<;>simp
def xhk(n:No)(a:Int):(n.load a).2.2.2.1.length<=1:=by
 unfold No.load;split
 .cases n.c.find (No.ln a)with
  |none=>exact XD ..
  |some x=>simp
 .simp
def xec(n:No)(a y:Int):(n.store a y).2.2.1.length<=1:=by
 unfold No.store;split
 .split
  .simp
  .exact XD ..
 .simp
def φ(n:No)(a o y:Int):(n.nH a o y).2.length<=1:=by
 unfold No.nH;split
 .split
  .simp
  .split
   .simp
   .exact XD ..
 .simp
def b_(n:No)(x:En):(n.gone x).2.length<=1:=by unfold No.gone;split<;>simp
def i'(n:No)(l:Int):(n.di l).2.length<=1:=by
 unfold No.di;split
 .simp
 .cases n.c.find l with
  |none=>simp
  |some x=>exact b_ ..
def Dn(n:No)(m:Mg):(n.fill m).2.length<=1:=by
 have:∀(n:No)st,(n.dY m st).2.length<=1:=λ n st=>by
  unfold No.dY;split
  .exact b_ ..
  .simp
 unfold No.fill No.mU;generalize(if m.k=15 then(2:Int)else 1)=st;split<;>exact this _ _
def xhi(n:No)(m:Mg):(n.bW m).2.length<=2:=by
 unfold No.bW;split;· simp
 split;· simp
 split
 .cases n.c.find m.line with
  |none=>simp
  |some x=>simp only;split<;>simp
 split;· simp
 cases n.c.find m.line with
 |some x=>simp
 |none =>
  have:=Dn {n with out:=⟨0,0,0,.zero⟩} m;simp only[qv,zz,j6];omega
section
variable{H0 H:ar}{B:Nat}{s:Bs}{b:Bu}{own:Nat->Nat}{c:Int}{n:No}
def de.t{r b:Nat}{sv bv:AV}{n':No}{ks:List Nat}{H':ar}(h:de H0 H' r b sv bv n' ks)(f:Fr (iJ r b sv bv) H H'):sr H0 H r b sv bv n' H':=⟨bv,ks,h,f,λ _ q=>.inl q⟩
def eM.out(h:eM H0 H B s b own)(hb:BB b){c:Nat}{n n':No}{A:Na}{H1:ar}{a:AV}{ms:List Mg}(hn:b.ns[c]? = B1 n)(f:s.ad[c]? = B1 A)(j:sr H0 H A.r A.b A.sv A.bv n' H1)(hm:mL H H1 a ms)(hl:ms.length<=2){Q:AV->ar->Prop}{r:AV}
 (g:∀{H'},kR H0 H B s (b.put c (n',ms)) H'->Q r H'):zd M Wy [.ptr B 0,a] H1 λ _ H'=>Q r H':=by
 have⟨l,o',e,k,d⟩:=h.node hn f j;have i:=hb.fl;exact(hT e hm.1 (by show b.fl.length+ms.length<=1000000;omega)).mono λ v H' hp=>g (kR.then d k hp)
def Ah(hn:b.ns[c.toNat]? = B1 n)(a:0<=c):0<=c/\c<b.ns.length:=by have:=(qo.1 hn).1;omega
def xkx(h:eM H0 H B s b own)(hb:BB b)(j:0<=c)(hn:b.ns[c.toNat]? = B1 n)(a:Int):zd M T8 [.ptr B 0,.int .i64 c,.int .i64 a] H λ v H'=>v=.tuple [.int .u64 (n.load a).2.1,.bool (n.load a).2.2.1,.int .i64 (n.load a).2.2.2.2]/\kR H0 H B s (b.put c.toNat ((n.load a).1,(n.load a).2.2.2.1)) H':=by
 refine q7a ?_;obtain⟨w0,w4,g⟩:=q7b M ⟨B5,T8⟩;simp only[aa,bc,w0];refine C3.q (GV h hb.N4 c) λ v H1⟨m,k,_⟩=>?_;have⟨A,i,o⟩:=k (Ah hn j);rw[o,m];have y:=xb (show(0:Int)=0 from rfl);have⟨ni,bk,us⟩:=hb.no _ n hn;have p:=h.no _ n A hn i;simp only[aa,bc,xj,w4,g];refine C3.q (xmu p ni.ci bk (by omega) a) λ v u⟨⟨x,f,d⟩,e,l⟩=>?_;rw[f];simp only[aa,bc,xj];refine C3.q (h.out hb hn i (e.t l) d (by have:=xhk n a;omega) (Q:=λ _ H'=>kR H0 H B s (b.put c.toNat ((n.load a).1,(n.load a).2.2.2.1)) H') (r:=.nils) id) λ v w hp=>?_;simp only[aa,bc];exact hp
def xiq(h:eM H0 H B s b own)(hb:BB b)(j:0<=c)(hn:b.ns[c.toNat]? = B1 n)(a y:Int):zd M Ti [.ptr B 0,.int .i64 c,.int .i64 a,.int .u64 y] H λ v H'=>v=.tuple [.bool (n.store a y).2.1,.int .i64 (n.store a y).2.2.2]/\kR H0 H B s (b.put c.toNat ((n.store a y).1,(n.store a y).2.2.1)) H':=by
 refine q36 ?_;obtain⟨w0,w4,g⟩:=q37 M ⟨B5,Ti⟩;simp only[aa,bc,w0];refine C3.q (GV h hb.N4 c) λ v H1⟨m,k,_⟩=>?_;have⟨A,i,o⟩:=k (Ah hn j);rw[o,m];have z:=xb (show(0:Int)=0 from rfl);have⟨ni,bk,us⟩:=hb.no _ n hn;have p:=h.no _ n A hn i;simp only[aa,bc,xj,w4,g];refine C3.q (xkj p ni.ci bk (by omega) a y) λ v u⟨⟨x,f,d⟩,e,l⟩=>?_;rw[f];simp only[aa,bc,xj];refine C3.q (h.out hb hn i (e.t l) d (by have:=xec n a y;omega) (Q:=λ _ H'=>kR H0 H B s (b.put c.toNat ((n.store a y).1,(n.store a y).2.2.1)) H') (r:=.nils) id) λ v w hp=>?_;simp only[aa,bc];exact hp
def DC(h:eM H0 H B s b own)(hb:BB b)(j:0<=c)(hn:b.ns[c.toNat]? = B1 n)(a o y:Int):zd M TI [.ptr B 0,.int .i64 c,.int .i64 a,.int .u64 o,.int .u64 y] H λ v H'=>v=.tuple [.bool (n.jW a o).1,.bool (n.jW a o).2.1,.int .i64 (n.jW a o).2.2]/\kR H0 H B s (b.put c.toNat (n.nH a o y)) H':=by
 refine q9z ?_;obtain⟨w0,w4,g⟩:=q90 M ⟨B5,TI⟩;simp only[aa,bc,w0];refine C3.q (GV h hb.N4 c) λ v H1⟨m,k,_⟩=>?_;have⟨A,i,p⟩:=k (Ah hn j);rw[p,m];have C:=xb (show(0:Int)=0 from rfl);have⟨ni,bk,us⟩:=hb.no _ n hn;have u:=h.no _ n A hn i;simp only[aa,bc,xj,w4,g];refine C3.q (xln u ni.ci bk us a o y) λ v w⟨⟨z,f,d⟩,e,l⟩=>?_;rw[f];simp only[aa,bc,xj];refine C3.q (h.out hb hn i (e.t l) d (by have:=φ n a o y;omega) (Q:=λ _ H'=>kR H0 H B s (b.put c.toNat (n.nH a o y)) H') (r:=.nils) id) λ v x hp=>?_;simp only[aa,bc];exact hp
def xb0(h:eM H0 H B s b own)(hb:BB b)(e:0<=c)(hn:b.ns[c.toNat]? = B1 n):zd M TL [.ptr B 0,.int .i64 c] H λ v H'=>v=.bool n.live/\H'=H:=by
 refine q68 ?_;simp only[aa,bc,q69];refine C3.q (GV h hb.N4 c) λ v H1⟨i,f,_⟩=>?_;have⟨A,g,j⟩:=f (Ah hn e);rw[j,i];have k:=h.no _ n A hn g;simp only[aa,bc,xj];refine C3.q (xms k) λ v l⟨d,a⟩=>?_;rw[d,a];simp only[aa,bc]
end
end Go.Am
namespace Go.Am
open Go.Proofs Ca
open Lang (ints)
variable{M:ak}[MK M]
def Bu.wH(b:Bu)(i:Nat):Bu:=match b.fl[i]? with
 |none=>b
 |some m=>if m.k<=7 then match b.l[m.line.toNat]?,b.m[m.line.toNat]? with
  |some x,B1 w=>{b with m:=b.m.set m.line.toNat (x.bW w m).2.1,l:=b.l.set m.line.toNat (x.bW w m).1,fl:=b.fl.eraseIdx i++(x.bW w m).2.2}
  |_,_=>b
  else match b.ns[m.core.toNat]? with
   |some n=>{b with ns:=b.ns.set m.core.toNat (n.bW m).1,fl:=b.fl.eraseIdx i++(n.bW m).2}
   |none=>b
section
variable{H0 H:ar}{B:Nat}{s:Bs}{b:Bu}{own:Nat->Nat}{c:Int}{n:No}
def eM.quiet(h:eM H0 H B s b own){c:Nat}{n n':No}{A:Na}{H1:ar}(hn:b.ns[c]? = B1 n)(e:s.ad[c]? = B1 A)(f:sr H0 H A.r A.b A.sv A.bv n' H1):kR H0 H B s (b.put c (n',[])) H1:=by
 have⟨i,o',d,g,a⟩:=h.node hn e f;refine⟨i,o',?_,g,a⟩;have:b.put c (n',[]) = {b with ns:=b.ns.set c n'}:=by unfold Bu.put;simp
 rw[this];exact d
def TP{H1:ar}{e:AV}{n':No}(h:eM H0 H B s b own)(hb:BB b)(k:0<=c)(hn:b.ns[c.toNat]? = B1 n){f:Nat}{cap:List AV}
 (m:∀{A:Na},s.ad[c.toNat]? = B1 A->zd M f ([AV.ptr A.r 0]++cap) H λ v H'=>v=e/\de H0 H' A.r A.b A.sv A.bv n' A.ks/\Fr (iJ A.r A.b A.sv A.bv) H H'):zd M RO [.ptr B 0,.int .i64 c,.fn (.func f) [] cap] H λ v H'=>v=e/\kR H0 H B s (b.put c.toNat (n',[])) H':=by
 refine qtk ?_;obtain⟨w0,w4,i⟩:=qtl M ⟨B5,RO⟩;simp only[aa,bc,w0];refine C3.q (GV h hb.N4 c) λ v H1⟨o,l,_⟩=>?_;have⟨A,j,p⟩:=l (Ah hn k);rw[p,o];have w:=xb (show(0:Int)=0 from rfl);simp only[aa,bc,xj,w4,i];refine C3.q (m j) λ v u⟨g,d,a⟩=>?_;rw[g];simp only[aa,bc];exact h.quiet hn j (d.t a)
def Io(h:eM H0 H B s b own)(hb:BB b)(d:¬(0<=c/\c<b.ns.length))(fv:AV):zd M RO [.ptr B 0,.int .i64 c,fv] H λ v H'=>v=.int .i64 2/\H'=H:=by
 refine qtk ?_;obtain⟨w0,w4,g⟩:=qtl M ⟨B5,RO⟩;simp only[aa,bc,w0];refine C3.q (GV h hb.N4 c) λ v H1⟨e,_,a⟩=>?_;rw[a d,e];have f:¬(2:Int)=0:=by decide
 simp only[aa,bc,xj,w4,f]
def xic(h:eM H0 H B s b own)(hb:BB b)(a:0<=c)(hn:b.ns[c.toNat]? = B1 n):zd M Tj [.ptr B 0,.int .i64 c] H λ v H'=>v=.int .i64 (if n.live=B4 then 41 else 0)/\kR H0 H B s (b.put c.toNat (n.begin,[])) H':=by
 refine q34 ?_;simp only[aa,bc,q35];refine C3.q (TP (H1:=H) h hb a hn (cap:=[]) λ{A}d=>xez (h.no _ n A hn d)) λ v f⟨e,hp⟩=>?_;rw[e];simp only[aa,bc];exact hp
def xeo(h:eM H0 H B s b own)(hb:BB b)(a:0<=c)(hn:b.ns[c.toNat]? = B1 n):zd M Tz [.ptr B 0,.int .i64 c] H λ v H'=>v=.int .i64 (if n.live=B4 then 0 else 40)/\kR H0 H B s (b.put c.toNat (n.bE,[])) H':=by
 refine qzz ?_;simp only[aa,bc,qz0];refine C3.q (TP (H1:=H) h hb a hn (cap:=[]) λ{A}d=>xa3 (h.no _ n A hn d)) λ v f⟨e,hp⟩=>?_;rw[e];simp only[aa,bc];exact hp
def nz{A:Na}{t:Nat}{k:Int}(d:de H0 H A.r A.b A.sv A.bv n A.ks)(hl:Op.ae [.ptr t 0] H=B1 (.int .i64 k)):zd M Jp ([.ptr A.r 0] ++ [.ptr t 0]) H λ v H'=>v=.int .i64 (n.abort k).2/\de H0 H' A.r A.b A.sv A.bv (n.abort k).1 A.ks/\Fr (iJ A.r A.b A.sv A.bv) H H':=by
 refine qxf ?_;simp only[aa,bc,qxg,hl];refine C3.q (xia d k) λ v e⟨a,hp⟩=>?_;rw[a];simp only[aa,bc];exact hp
def q9h(h:eM H0 H B s b own)(hb:BB b)(f:0<=c)(hn:b.ns[c.toNat]? = B1 n)(k:Int):zd M Ot [.ptr B 0,.int .i64 c,.int .i64 k] H λ v H'=>kR H0 H B s (b.put c.toNat ((n.abort k).1,[])) H':=by
 refine Yr ?_;obtain⟨H1,e1,a,-,g⟩:=cq H (OR [.int .i64 k] cE);have ca:AV.cells (.int .i64 k)=[.int .i64 k]:=rfl;have l1:Op.ae [.ptr H.au 0] H1=B1 (.int .i64 k):=zb (xc g) 0;have mk:Op.bt Jp 0 [.ptr H.au 0]=B1 (.fn (.func Jp) [] [.ptr H.au 0]):=rfl;simp only[aa,bc,UO,ca,<-e1];have d:=h.em a;refine C3.q (TP (H1:=H1) (e:=.int .i64 (n.abort k).2) (n':=(n.abort k).1) d hb f hn (cap:=[.ptr H.au 0]) λ{A}i=>nz (d.no _ n A hn i) l1) λ v j⟨l,hp⟩=>?_;simp only[aa,bc];exact kR.pre a hp
def ac9{fv:AV}{fl:List Mg}(h:Sk ao xq 11 H fv fl){i:Nat}(e:i<fl.length)(hl:fl.length<=1000000):zd M Y1 [fv,.int .i64 (i:Int),.int .i64 ((i+1:Nat):Int)] H λ v H'=>Sk ao xq 11 H' v (fl.eraseIdx i)/\Fr (aM fv) H H' /\ ∀z,aM v z->aM fv z:=by
 refine qo3 ?_;obtain⟨w0,w4,d⟩:=qo4 M ⟨B5,Y1⟩;rcases h with⟨-,rfl⟩|⟨b,j,alt,r,hk⟩
 .simp at e
 have⟨v0,v1,v2,w,H1,v4,u,a0,g,k,l,p,m,o,b5,t⟩:=hk.del zi qW (by decide) e (zero:=ao ⟨0,0,0,.zero⟩) (zi _) (qW _) 88;have a:=(hk.sl zi).len;have ne:¬(i:Int)=((i+1:Nat):Int):=by omega
 simp only[aa,bc,w0,a,a0,w4,ne,d,g,k,l,p,m,mZ,o];exact⟨.inr ⟨_,_,_,_,b5⟩,t.mono λ z f(q:z=b)=>by rw[q];exact hk.on,λ z f=>by rw[b5.Tx f];exact hk.on⟩
def eM.dir(h:eM H0 H B s b own){i:Nat}{x j:De}{a g:AV}{w':L8}{H':ar}(v:s.xs[i]? = B1 (x,a))(he:dU H' s.D s.mp s.lv s.ev b.ns.length (b.m.set i w') s.xs i j g)(f:Fr s.dw H H')(r:∀z,aM g z->aM a z\/H.au<=z) :
 ∃C t,eM H0 H' B C {b with m:=b.m.set i w',l:=b.l.set i j} t/\(∀z,gD B C z->gD B s z\/H.au<=z)/\Fr (gD B s) H H':=by
 have F:Fr (gD B s) H H':=f.mono λ z _ q=>.inr (.inl q);have ne:∀{z k:Nat},own z=k->k≠1 -> ¬s.dw z:=λ e1 e2 q=>e2 (by rw[<-e1];exact h.oD _ q);have E:H0.au<=H.au:=by have:=h.lo B (.inl rfl);have:=h.lt;omega
 have G:=(qo.1 v).1;have p:∀z,Bs.dw {s with xs:=s.xs.set i (j,g)} z->s.dw z\/H.au<=z:=λ z q=>by
  rcases q with q|q|q|q|⟨k,y,c,hk,q⟩
  .exact .inl (.inl q)
  .exact .inl (.inr (.inl q))
  .exact .inl (.inr (.inr (.inl q)))
  .exact .inl (.inr (.inr (.inr (.inl q))))
  .have hk:(s.xs.set i (j,g))[k]? = B1 (y,c):=hk
   by_cases e:k=i
   .subst e;rw[za G]at hk;injection hk with hk;injection hk with _ hk;subst hk
    exact(r z q).elim (λ q=>.inl (.inr (.inr (.inr (.inr ⟨k,x,a,v,q⟩))))) .inr
   .rw [zf (nG e)]at hk;exact .inl (.inr (.inr (.inr (.inr ⟨k,y,c,hk,q⟩))))
 have u:∀z,gD B {s with xs:=s.xs.set i (j,g)} z->gD B s z\/H.au<=z:=λ z q=>by
  rcases q with q|q|q|q|q
  .exact .inl (.inl q)
  .exact (p z q).elim (λ q=>.inl (.inr (.inl q))) .inr
  .exact .inl (.inr (.inr (.inl q)))
  .exact .inl (.inr (.inr (.inr (.inl q))))
  .exact .inl (.inr (.inr (.inr (.inr q))))
 have ow:∀{z:Nat},z<H.au->aP own H.au 1 z=own z:=λ q=>xg q;refine⟨{s with xs:=s.xs.set i (j,g)},aP own H.au 1,⟨?_,qn h.lt f.au,he.d,?_,?_,λ c n A hn o=>?_,h.al,?_,?_,λ z q=>?_,λ z q=>?_,λ z q=>?_,λ c A o z q=>?_,λ z q=>?_⟩,u,F⟩
 .simp only[xw];rw[f.ah _ h.lt (ne h.oB (by decide))];exact h.row
 .simp only[List.map_set,h.dx]
 .exact Own.fr h.nv f λ z r q=>ne (h.oN z r) (by decide) q
 .refine (h.no c n A hn o).off f λ z w=>⟨h.lo z (.inr (.inl w)),λ w2=>?_⟩
  have:=h.oC c A o z w2;have:=h.oD z w;omega
 .exact h.fl.fr f λ z r q=>ne (h.oF z r) (by decide) q
 .rw [ow h.lt];exact h.oB
 .unfold aP;split
  .rcases p z q with w|w
   .exact h.oD z w
   .omega
  .rfl
 .rw [ow (h.low (.inr (.inr (.inl q))))];exact h.oN z q
 .rw [ow (h.low (.inr (.inr (.inr (.inl q)))))];exact h.oF z q
 .rw [ow (h.low (.inr (.inr (.inr (.inr ⟨c,A,o,q⟩)))))];exact h.oC c A o z q
 .rcases u z q with w|w
  .exact h.lo z w
  .omega
end
end Go.Am
namespace Go.Am
open Go.Proofs Ca
open Lang (ints)
variable{M:ak}[MK M]
def _C(x:De)(w:L8)(m:Mg):(x.bW w m).2.2.length<=4:=by
 have hb:∀(y:De)n,(y.begin n w).2.length<=4:=λ y n=>by
  unfold De.begin;split
  .simp
  .split
   .simp
   .rw [xr];unfold xO;exact List.length_filter_le ..
 have hr:∀(y:De)w'(q:Prop)[Decidable q](r:List Mg),r.length<=3->(y.vV w' q r).2.2.length<=4:=λ y w' q _ r h=>by
  unfold De.vV;split
  .simp only[qv,zz,j6];omega
  .simp only;omega
 unfold De.bW;split;· simp
 split
 .split
  .simp
  .exact hb _ _
 split;· exact hr _ _ _ _ (by simp)
 split;· exact hr _ _ _ _ (by simp)
 split;· exact hr _ _ _ _ (by simp)
 split;· exact hr _ _ _ _ (by simp)
 cases x.wt with
 |nil=>simp
 |cons n r=>exact hb _ _
section
variable{H0 H:ar}{B:Nat}{s:Bs}{b:Bu}{own:Nat->Nat}{V:Int->L8}
def xid(h:eM H0 H B s b own)(hb:BB b){i:Int}(k:¬(0<=i/\i<b.fl.length)):zd M Py [.ptr B 0,.int .i64 i] H λ v H'=>v=.tuple [.agg (ao ⟨0,0,0,.zero⟩),.int .i64 50]/\Fr Em H H':=by
 refine qnu ?_;obtain⟨w0,w2,-,-,-,-⟩:=x_ M ⟨B5,Py⟩;obtain⟨H1,e1,d,-,g⟩:=cq H (OR (ao ⟨0,0,0,.zero⟩) xq);have st:=fF g (zi _) (zi ⟨0,0,0,.zero⟩) (qW _);have ln:=eF (xe H1 H.au (OR (ao ⟨0,0,0,.zero⟩) xq)) (zi ⟨0,0,0,.zero⟩);have e:=h.em d;have a:=e.fl.len zi;have fin:Fr Em H (H1.set H.au (OR (ao ⟨0,0,0,.zero⟩) xq)):=d.set (.inr (qm _)) _
 by_cases f:i<0
 .simp only[aa,bc,w0,mZ,<-e1,w2,yp,xb f,HC,st,ln];exact fin
 have j:((b.fl.length:Nat):Int)<=i:=by omega
 simp only[aa,bc,w0,mZ,<-e1,w2,yp,f,qt,e.l2,a,xb j,HC,st,ln];exact fin
def xb1(h:eM H0 H B s b own)(hb:BB b)(hI:BuI b V)(hwl:∀x∈b.l,x.wt.length<=900000){i:Nat}{m:Mg}(hm:b.fl[i]? = B1 m):zd M Py [.ptr B 0,.int .i64 (i:Int)] H λ v H'=>v=.tuple [.agg (ao m),.int .i64 0]/\kR H0 H B s (b.wH i) H':=by
 have hil:=(qo.1 hm).1;have hfl:=hb.fl;have N4:=hI.N4;obtain⟨mk,mc,ml⟩:=hI.mw m (zg hm);refine qnu ?_;obtain⟨w0,w2,w17,w21,w23,Y⟩:=x_ M ⟨B5,Py⟩;have⟨H1,e1,f1,n1,g1⟩:=cq H (OR (ao ⟨0,0,0,.zero⟩) xq);have h1:=h.em f1;have Q:=h1.fl.sl zi;have hln:=h1.fl.len zi;have q0:¬(i:Int)<0:=by omega
 have q1:¬((b.fl.length:Nat):Int)<=(i:Int):=by omega
 have ix:=Q.idx hm (z:=(i:Int)) rfl .i64;have ld:=Q.aq zi (by decide) hm;obtain⟨H2,e2,f12,-,g2⟩:=cq H1 (OR (ao ⟨0,0,0,.zero⟩) xq);have U:=fF g2 (zi _) (zi m) (qW m);obtain⟨j,Z⟩:∃X,X=H2.set H1.au (OR (ao m) xq):=⟨_,rfl⟩
 rw[<-Z]at U;have F:Fr Em H1 j:=by rw[Z];exact f12.set (.inr (qm _)) _
 have n3:j.au=H.au+2:=by rw[Z,tI,e2,xx,n1]
 have g3:j.get H1.au=B1 (OR (ao m) xq):=by rw[Z,xe]
 have g3z:j.get H.au=B1 (OR (ao ⟨0,0,0,.zero⟩) xq):=by rw[F.ah _ (by omega) id];exact g1
 have h3:=h1.em F;have wi:aj .i64 ((i:Int)+1)=((i+1:Nat):Int):=by rw[jk (by omega) (by omega)];omega
 have F3:Fr Em H j:=f1.trans F λ _ q=>q.elim;simp only[aa,bc,w0,mZ,<-e1,w2,yp,q0,qt,h1.l2,hln,q1,w17,ix,ld,<-e2,U,h3.l2,wi];refine C3.q (ac9 h3.fl hil (by omega)) λ v4 H4⟨k4,f4,o4⟩=>?_;have⟨C,s5,g,aP,u,o5,f5⟩:=h3.Db k4 f4 (λ z o=>.inl (o4 z o));have L:∀z,gD B s z->z<H.au:=λ z o=>h.low o;have t:∀z,gD B g z->gD B s z\/j.au<=z:=o5;have f:∀z,z<j.au->H.au<=z->C.get z=j.get z:=λ z q1 q2=>f5.ah z q1 λ w=>by have:=L z w;omega
 have lk5:Op.ae [.ptr H1.au 0] C=B1 (.int .i64 m.k):=zb (xc (show C.get H1.au=B1 (OR (ao m) xq)from by rw[f _ (by omega) (by omega)];exact g3)) 0;have lc5:Op.ae [.ptr H1.au 1] C=B1 (.int .i64 m.core):=zb (xc (show C.get H1.au=B1 (OR (ao m) xq)from by rw[f _ (by omega) (by omega)];exact g3)) 1;have S:Op.aq 11 [.ptr H1.au 0] C=B1 (.agg (ao m)):=eF (by rw[f _ (by omega) (by omega)];exact g3) (zi m);have mk1:Op.bt FA 1 [.ptr g.D 0]=B1 (.fn (.func FA) [.ptr g.D 0] []):=rfl;have m5:=f5.au
 -- behind the hearing
 have fin:∀{y:ar}{b':Bu},kR H0 C B g b' y->(∃O,Op.aq 11 [.ptr H1.au 0] y=B1 (.agg (ao m))/\Op.store 11 [.ptr H.au 0,.agg (ao m)] y=B1 (.undef,O)/\Op.aq 11 [.ptr H.au 0] O=B1 (.agg (ao m))/\kR H0 H B s b' O):=λ{y b'}hp=>by
  have⟨N,o7,h7,q7,f7⟩:=hp;have p:∀z,z<j.au->H.au<=z->y.get z=j.get z:=λ z w1 w2=>by
   rw[f7.ah z (by omega) λ w=>(t z w).elim (λ w=>by have:=L z w;omega) λ w=>by omega];exact f z w1 w2
  have gz:y.get H.au=B1 (OR (ao ⟨0,0,0,.zero⟩) xq):=by rw[p _ (by omega) (by omega)];exact g3z
  have m7:=f7.au;have E:∀z,gD B N z->gD B s z\/j.au<=z:=λ z o=>(q7 z o).elim (t z) λ w=>.inr (by omega);refine⟨_,eF (by rw[p _ (by omega) (by omega)];exact g3) (zi m),fF gz (zi _) (zi m) (qW m),eF (xe ..) (zi m),N,o7,h7.fr ((Fr.refl y).set (W:=On H.au) (.inl rfl) _) λ z o=>?_,λ z o=>(E z o).elim .inl λ w=>.inr (by omega),?_⟩
  .have o:z=H.au:=o;subst o;refine⟨by have:=h.lo B (.inl rfl);have:=h.lt;omega,λ w=>(E _ w).elim (λ w=>by have:=L _ w;omega) λ w=>by omega⟩
  .refine ((((F3.mono λ _ _ q=>q.elim).trans f5 λ z q=>.inl q).trans f7 λ z q=>?_).set (.inr (qm _)) _);exact(t z q).elim .inl λ w=>.inr (by omega)
 have hel:(b.fl.eraseIdx i).length<=b.fl.length:=List.length_eraseIdx_le ..;simp only[aa,bc,qt,s5,w21,u.l0,w23,lk5];unfold Bu.wH;rw[hm]
 by_cases k7:m.k<=7
 .have nk:¬7<m.k:=by omega
  simp only[xg k7];have⟨x,w,K,hw,he⟩:=hI.entry ml.1 ml.2;rw[K,hw];have hxx:∃a,g.xs[m.line.toNat]? = B1 (x,a):=by
   have hl:=(qo.1 K).1;have P:m.line.toNat<g.xs.length:=by
    have:=congrArg List.length u.dx;rw[xr]at this;have:g.xs.length=b.l.length:=this;omega
   refine⟨(g.xs[m.line.toNat]).2,?_⟩;rw[xf P];have e:=congrArg (λ l=>l[m.line.toNat]?) u.dx;simp only[xm,xf P,FI]at e;have e:B1 (g.xs[m.line.toNat]).1=B1 x:=e.trans K;injection e with e
   rw[<-e]
  have⟨a,R⟩:=hxx;simp only[aa,bc,nk,Y,S];refine C3.q (xie (M:=M) (m:=m) u.d R hw he ml.1 mc.1 mc.2 (hwl x (zg K))) λ v6 H6⟨⟨ov,e,J,G⟩,a',en6,f6,o6⟩=>?_;rw[J];have⟨s6,T,h6,q6,g6⟩:=u.dir R en6 f6 o6;have hlen:=_C x w m;simp only[aa,bc,xj];refine C3.q (hT h6 G.1 (by show(b.fl.eraseIdx i).length+_<=_;omega)) λ v7 y hp=>?_;have⟨O,l7,N,l8,I⟩:=fin (kR.then g6 q6 hp);simp only[aa,bc,l7,N,l8];exact I
 .have nk:7<m.k:=by omega
  simp only[qy k7];have⟨n,hn,hnw⟩:=hI.core mc.1 mc.2;rw[hn];have⟨ni,bk,us⟩:=hb.no _ n hn;have⟨A,hA,nr⟩:=u.zM hn;have K:(g.ad.map Na.r)[m.core.toNat]? = B1 A.r:=by rw[xm,hA];rfl
  have ixn:=u.nv.sl.idx K (z:=m.core) (by omega) .i64;have ldn:Op.ae [.ptr (aF g.nv) (cZ 1 g.nv m.core.toNat)] C=B1 (.ptr A.r 0):=u.nv.sl.jO Yh K (by decide);have mk2:Op.bt vc 1 [.ptr A.r 0]=B1 (.fn (.func vc) [.ptr A.r 0] []):=rfl;simp only[aa,bc,xb nk,u.l1,qt,lc5,ixn,ldn,Y,S];refine C3.q (xks nr ni.ci bk (by omega) m) λ v6 H6⟨⟨ov,e,J,G⟩,ht⟩=>?_;rw[J];have⟨s6,T,h6,q6,g6⟩:=u.node hn hA ht;have hlen:=xhi n m;simp only[aa,bc,xj];refine C3.q (hT h6 G.1 (by show(b.fl.eraseIdx i).length+_<=_;omega)) λ v7 y hp=>?_;have⟨O,l7,N,l8,I⟩:=fin (kR.then g6 q6 hp);simp only[aa,bc,l7,N,l8];exact I
end
end Go.Am
namespace Go.Am
open Go.Proofs Ca
open Lang (ints)
variable{M:ak}[MK M]
def fS{α:Type}(enc:α->List AV)(x:α):∀n:Nat,(Jm n x).flatMap enc=fK n (enc x)
 |0=>rfl
 |n+1=>by rw[Qw,jz,fS enc x n,fK,pD]
def yA(l:Int):Prop:=2<=l/\l<=64
instance(l:Int):Decidable (yA l):=inferInstanceAs (Decidable (_/\_))
def HA(H:ar)(l:Int)(v:AV)(H':ar):Prop:=Fr Em H H'/\(¬yA l/\v=.tuple [.nilp,.int .i64 2]\/yA l /\ ∃mp lv,v=.tuple [.ptr mp 0,.int .i64 0]/\A6 H' mp lv (Jm l.toNat .zero)/\H.au<=mp/\H.au<=aF lv)
def xfz{H:ar}(l:Int):zd M YF [.int .i64 l] H (HA H l):=by
 refine xm2 ?_;obtain⟨w0,w2,g⟩:=xm3 M ⟨B5,YF⟩
 by_cases e:l<2
 .simp only[aa,bc,w0,w2,e];exact⟨Fr.refl _,.inl ⟨λ q=>by have:=q.1;omega,rfl⟩⟩
 by_cases i:64<l
 .simp only[aa,bc,w0,w2,e,i];exact⟨Fr.refl _,.inl ⟨λ q=>by have:=q.2;omega,rfl⟩⟩
 obtain⟨a,rfl⟩:=jm (show 0<=l by omega);have mk:=WI ja 64 (cu .zero) a .i64 .i64 (by omega) (by omega);rw[<-fS]at mk;obtain⟨H1,e1,k,n1,-⟩:=cq H (OR ((Jm a L8.zero).flatMap cu) ja);obtain⟨sv,d⟩:∃sv:AV,sv=.slice H.au 0 a a:=⟨_,rfl⟩
 have f:Op.sliceTo a a H.au=sv:=by rw[d];rfl
 have o:aF sv=H.au:=by rw[d];rfl
 have j:Op.build [.nils] [(0,1)] [sv]=B1 (.agg [sv]):=by rw[d];rfl
 obtain⟨p,e2,h,-,m⟩:=cq H1 (OR [sv] V2);simp only[aa,bc,w0,w2,e,i,g,lZ,mk,f,<-e1,j,<-e2];refine⟨k.trans h λ _ q=>q.elim,.inr ⟨⟨by omega,by omega⟩,_,sv,rfl,⟨m,by rw[e2,xx];omega,⟨H.au,?_,?_,?_⟩,by omega,by rw[zx];omega⟩,by omega,by omega⟩⟩
 .rw [zx];exact d
 .rw [e2,xx];omega
 .rw [h.ah _ (by omega) id,e1,xp];rfl
def qO:De:=⟨0,0,⟨0,0,0,.zero⟩,0,0,[]⟩
def iM:De:={qO with ow:=-1}
def eXZ:[AV.int .i64 0,.int .u8 0,.int .i64 0,.int .i64 0,.int .i64 0,.int .u64 0,.int .u64 0,.int .u64 0,.int .u64 0,.int .u64 0,.int .u64 0,.int .u64 0,.int .u64 0,.int .i64 0,.int .u8 0,.nils]=gP (qO,.nils):=rfl
def ur(n i:Nat):List (De×AV):=(N8 n).map λ k=>(if k<i then iM else qO,.nils)
def ah0(n:Nat):ur n 0=Jm n (qO,.nils):=by
 unfold ur;apply ym;intro j;rw[xm];rcases x9 j n with q|q
 .rw [jw q,SO,xg q];simp
 .rw [js (by rw[zu];exact q),js (by rw[zx];exact q)];rfl
def GF(n:Nat):ur n n=Jm n (iM,.nils):=by
 unfold ur;apply ym;intro j;rw[xm];rcases x9 j n with q|q
 .rw [jw q,SO,xg q];simp[q]
 .rw [js (by rw[zu];exact q),js (by rw[zx];exact q)];rfl
def Us{n i j:Nat}(h:j<n):(ur n i)[j]? = B1 (if j<i then iM else qO,.nils):=by
 unfold ur;rw[xm,jw h];rfl
def Eb{n i:Nat}(h:i<n):(ur n i).set i (iM,.nils)=ur n (i+1):=by
 have hl:∀k,(ur n k).length=n:=λ k=>by unfold ur;rw[xr,zu]
 apply ym;intro j
 by_cases q:j=i
 .subst q;rw[za (by rw[hl];exact h),Us h,xg (by omega)]
 .rw [zf (nG q)];rcases x9 j n with w|w
  .rw [Us w,Us w]
   by_cases e:j<i
   .rw [xg e,xg (by omega)]
   .rw [qy e,qy (by omega)]
  .rw [js (by rw[hl];exact w),js (by rw[hl];exact w)]
def TZ{n i k:Nat}{x:De}{a:AV}(h:(ur n i)[k]? = B1 (x,a)):a=.nils/\x.wt=[]:=by
 unfold ur at h;rw[xm,xt]at h;obtain⟨j,-,e⟩:=h;injection e with e1 e2
 refine⟨e2.symm,?_⟩;rw[<-e1];split<;>rfl
def yL(l c:Int):Prop:=yA l/\1<=c/\c<=4
instance(l c:Int):Decidable (yL l c):=inferInstanceAs (Decidable (_/\_))
def Ii(H:ar)(l c:Int)(v:AV)(H':ar):Prop:=Fr Em H H'/\(¬yL l c/\v=.tuple [.nilp,.int .i64 2]\/yL l c /\ ∃D mp lv ev,v=.tuple [.ptr D 0,.int .i64 0]/\mV H' D mp lv ev c (Jm l.toNat .zero) (Jm l.toNat (iM,.nils)) /\ ∀z,mS D mp lv ev (Jm l.toNat (iM,.nils)) z->H.au<=z)
def xe8{H:ar}(l c:Int):zd M Vo [.int .i64 l,.int .i64 c] H (Ii H l c):=by
 refine xlw ?_;obtain⟨w0,w4,N,O,R,A,P,Q⟩:=xlx M ⟨B5,Vo⟩;simp only[aa,bc,w0];refine C3.q (xfz l) λ v H1⟨p,hv⟩=>?_;rcases hv with⟨hm,rfl⟩|⟨hm,mp,lv,rfl,me,Y,Z⟩
 .have t2:¬(2:Int)=0:=by decide
  simp only[aa,bc,xj,w4,t2];exact⟨p,.inl ⟨λ q=>hm q.1,rfl⟩⟩
 have t0:=xb (show(0:Int)=0 from rfl)
 by_cases F:c<1
 .simp only[aa,bc,xj,w4,F];exact⟨p,.inl ⟨λ q=>by have:=q.2.1;omega,rfl⟩⟩
 by_cases U:4<c
 .simp only[aa,bc,xj,w4,F,U];exact⟨p,.inl ⟨λ q=>by have:=q.2.2;omega,rfl⟩⟩
 have J:=hm;have⟨m1,m2⟩:=J;obtain⟨n,rfl⟩:=jm (show 0<=l by omega);have mk:=WI RF 144 (gP (qO,.nils)) n .i64 .i64 (by omega) (by omega);rw[<-fS gP]at mk;obtain⟨m,e2,f2,n2,-⟩:=cq H1 (OR ((Jm n (qO,AV.nils)).flatMap gP) RF);obtain⟨sv,e⟩:∃sv:AV,sv=.slice H1.au 0 n n:=⟨_,rfl⟩
 have K:Op.sliceTo n n H1.au=sv:=by rw[e];rfl
 have hsb:aF sv=H1.au:=by rw[e];rfl
 have bd:Op.build [.nilp,.int .i64 0,.nils] [(0,1),(1,1),(2,1)] [.ptr mp 0,.int .i64 c,sv]=B1 (.agg [.ptr mp 0,.int .i64 c,sv]):=by rw[e];rfl
 obtain⟨C,S,T,-,g3⟩:=cq m (OR [.ptr mp 0,.int .i64 c,sv] xb6);have n3:C.au=H1.au+2:=by rw[S,xx,n2]
 have r:Fr Em H1 C:=f2.trans T λ _ q=>q.elim;have ml:=me.lt;have mls:=me.ls.lt;have r3:gW gP RF 16 C sv (ur n 0):=by
  rw[ah0];refine⟨H1.au,by rw[zx];exact e,by omega,?_⟩;rw[T.ah _ (by omega) id,e2,xp]
 have m1':=p.au;have d3:mV C m.au mp lv sv c (Jm n .zero) (ur n 0) :=
  ⟨g3,by omega,me.fr r id id,r3,λ i x a f=>by rw[(TZ f).1,(TZ f).2];exact Sk.nil _,⟨by omega,by omega,by omega,by omega,by omega⟩,λ i x a f z g=>by rw[(TZ f).1]at g;exact absurd rfl g.1,λ i j x y a b f _ _ z g=>by rw[(TZ f).1]at g;exact absurd rfl g.1,by rw[zx];unfold ur;rw[xr,zu]⟩
 have hn3:H.au<=H1.au:=p.au;have w:∀{o:ar}{i:Nat},mV o m.au mp lv sv c (Jm n .zero) (ur n i)->Op.ae [.ptr m.au 2] o=B1 sv:=λ h=>zb (xc h.row) 2;have I:Op.ct [sv]=B1 (.int .i64 ((n:Nat):Int)):=by rw[e];rfl
 simp only[aa,bc,xj,w4,F,U,N,eXZ,mk,K,<-e2,bd,<-S,O,qt,w d3,I];refine cK.intro (λ k E o=>∃(i:Nat),E=[(36,.int .i64 (i:Int)),(35,.int .i64 ((n:Nat):Int)),(8,.ptr m.au 0)]/\k=n-i/\i<=n/\mV o m.au mp lv sv c (Jm n .zero) (ur n i)/\Fr Em H o) ?_ ?_
 .exact ⟨_,_,⟨0,rfl,rfl,xz _,d3,p.trans r λ _ q=>q.elim⟩,by simp only[aa,bc]⟩
 rintro k E o ⟨i,rfl,rfl,hi,t,W⟩;rcases x9 i n with u|hge
 .have L:(i:Int)<((n:Nat):Int):=by omega
  have f:=Us (i:=i) u;rw[qy (IJ i)]at f;have en:=dU.of t f;have ix:Op.aQ 16 [sv,.int .i64 (i:Int)]=B1 (.ptr (aF sv) (cZ 16 sv i)):=(t.es.sl AK).idx f rfl .i64;have⟨X,s5,D,f5⟩:=en.s0 (-1);have wj:aj .i64 ((i:Int)+1)=((i+1:Nat):Int):=by rw[jk (by omega) (by omega)];omega
  have d5:mV X m.au mp lv sv c (Jm n .zero) (ur n (i+1)):=by rw[<-Eb u];exact D.d
  simp only[aa,bc,A,L,P,qt,w t,ix,s5,Q,wj];exact⟨_,_,⟨i+1,rfl,rfl,by omega,d5,W.trans f5 λ z(q:z=aF sv)=>.inr (by omega)⟩,by simp only[aa,bc],by omega⟩
 .have G:i=n:=by omega
  have L:¬(i:Int)<((n:Nat):Int):=by omega
  subst G;simp only[aa,bc,A,L,R];rw[GF]at t;refine⟨W,.inr ⟨⟨hm,by omega,by omega⟩,_,mp,lv,sv,rfl,t,λ z g=>?_⟩⟩;rcases g with rfl|rfl|rfl|rfl|⟨k,x,a,hk,g⟩
  .omega
  .exact Y
  .exact Z
  .omega
  .rw [Hi,SO]at hk;split at hk
   .injection hk with hk;injection hk with _ hk;rw[<-hk]at g;exact absurd rfl g.1
   .cases hk
end Go.Am
