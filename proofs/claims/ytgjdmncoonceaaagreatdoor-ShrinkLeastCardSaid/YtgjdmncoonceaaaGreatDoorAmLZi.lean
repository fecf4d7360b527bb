import Derived.Test.YtgjdmncoonceaaaGreatDoorAmLZf
import Derived.Test.YtgjdmncoonceaaaGreatDoorAmLZh
import Derived.Test.YtgjdmncoonceaaaGreatDoorAmLZe
import Derived.Test.YtgjdmncoonceaaaGreatDoorAmLZg
import Derived.Test.YtgjdmncoonceaaaGreatDoorAmLZd
set_option linter.defProp false
set_option linter.unusedVariables false
set_option linter.unusedSimpArgs false
set_option linter.unusedSectionVars false
set_option maxRecDepth 100000
open Bool renaming noConfusion→Py,false→B2,true→B4
open List renaming range→N5,replicate→Jr
open Option renaming none→B5,some→B1
open Nat renaming reduceEqDiff→bc
namespace Go.Am
open Go.Proofs Ca
variable{M:ak}[MK M]
structure AK(H:ar)(mp:Nat)(lv:AV)(ws:List L8):Prop where
 row:H.get mp=B1 (OR [lv] _I)
 lt:mp<H.au
 ls:gW cu ja 8 H lv ws
 ne:mp≠aF lv
 le:ws.length<=64
section
variable{H:ar}{mp:Nat}{lv:AV}{ws:List L8}
def AK.fr{H':ar}{W:Nat->Prop}(h:AK H mp lv ws)(f:Fr W H H')(b:¬W mp)(c:¬W (aF lv)):AK H' mp lv ws:=⟨by rw[f.ah _ h.lt b];exact h.row,qn h.lt f.au,h.ls.fr f c,h.ne,h.le⟩
def q5z(h:AK H mp lv ws){n:Int}(f:0<=n)(g:n<ws.length):ze M Yw [.ptr mp 0,.int .i64 n] H λ v H'=>v=.tuple [.ptr (aF lv) (cZ 8 lv n.toNat),.int .i64 0]/\H'=H:=by
 have hl:Op.ae [.ptr mp 0] H=B1 lv:=zd (xe h.row) 0;have hn:=(h.ls.sl yk).len;have d:¬n<0:=by omega
 have e:¬((ws.length:Nat):Int)<=n:=by omega
 have c:ws[n.toNat]? = B1 (ws[n.toNat]'(by omega)):=xc (by omega);have ix:Op.aQ 8 [lv,.int .i64 n]=B1 (.ptr (aF lv) (cZ 8 lv n.toNat)):=(h.ls.sl yk).idx c (by omega) .i64;refine xdl ?_;obtain⟨w0,w2,b⟩:=xdm M ⟨B5,Yw⟩;simp only[aa,bc,w0,w2,yq,d,qt,hl,hn,e,b,ix]
def qwf(h:AK H mp lv ws){n:Int}{w:L8}(e:0<=n)(hw:ws[n.toNat]? = B1 w):ze M Wq [.ptr mp 0,.int .i64 n] H λ v H'=>v=.tuple [.agg (cu w),.int .i64 0]/\Fr Em H H':=by
 have g:=(qo.1 hw).1;refine q78 ?_;obtain⟨w0,w4,c⟩:=q79 M ⟨B5,Wq⟩;obtain⟨H1,e1,b,-,d⟩:=cq H (OR (cu .zero) ja);simp only[aa,bc,w0,lZ,<-e1];refine C3.q (q5z (h.fr b id id) e (by omega)) λ v k⟨j,f⟩=>?_;rw[j,f];have ld:Op.aq 8 [.ptr (aF lv) (cZ 8 lv n.toNat)] H1=B1 (.agg (cu w)):=((h.fr b id id).ls.sl yk).aq yk (by decide) hw;have st:=fG d (yk _) (yk w) (uk w);have hg:(H1.set H.au (OR (cu w) ja)).get H.au=B1 (OR (cu w) ja):=xf ..;have ln:=eH hg (yk w);simp only[aa,bc,xj,w4,c,qt,ld,st,ln];exact b.set (.inr (qm _)) _
def X2(h:AK H mp lv ws){n:Int}(f:0<=n)(g:n<ws.length)(x:L8):ze M Wv [.ptr mp 0,.int .i64 n,.agg (cu x)] H λ v H'=>v=.int .i64 0/\AK H' mp lv (ws.set n.toNat x)/\Fr (On (aF lv)) H H':=by
 refine xa1 ?_;obtain⟨w0,w4,c⟩:=xa2 M ⟨B5,Wv⟩;obtain⟨H1,e1,d,-,e⟩:=cq H (OR (cu x) ja);have hm:=h.fr d id id;simp only[aa,bc,w0,<-e1];refine C3.q (q5z hm f g) λ v o⟨k,j⟩=>?_;rw[k,j];have ln:=eH e (yk x);have l:ws[n.toNat]? = B1 (ws[n.toNat]'(by omega)):=xc (by omega);have⟨p,st,m,b⟩:=hm.ls.Pd yk uk l x;simp only[aa,bc,xj,w4,ln,qt,st,c];exact⟨⟨by rw[b.ah _ hm.lt (λ q=>hm.ne q)];exact hm.row,qn hm.lt b.au,m,h.ne,by rw[xw];exact h.le⟩,(d.mono λ _ _ q=>q.elim).trans b λ _ q=>.inl q⟩
end
end Go.Am
namespace Go.Am
open Go.Proofs Ca
variable{M:ak}[MK M]
abbrev uB(s:Nat):AV:=.int .u8 (s:Int)
def Og{c:Int}(b:0<=c)(d:c<4):Op.bin .shl [.int .u8 1,.int .i64 c]=B1 (uB (2 ^ c.toNat)):=by
 rcases four b d with rfl|rfl|rfl|rfl<;>rfl
def KB{s:Nat}(h:s<16):s=0\/s=1\/s=2\/s=3\/s=4\/s=5\/s=6\/s=7\/s=8\/s=9\/s=10\/s=11\/s=12\/s=13\/s=14\/s=15:=by omega
def Vv{s:Nat}(hs:s<16){c:Int}(b:0<=c)(d:c<4):Op.bin .andNot [uB s,uB (2 ^ c.toNat)]=B1 (uB (cR s c)):=by
 rcases four b d with rfl|rfl|rfl|rfl<;>rcases KB hs with rfl|rfl|rfl|rfl|rfl|rfl|rfl|rfl|rfl|rfl|rfl|rfl|rfl|rfl|rfl|rfl<;>rfl
def _W{s:Nat}(hs:s<16){c:Int}(b:0<=c)(d:c<4):Op.bin .or [uB s,uB (2 ^ c.toNat)]=B1 (uB (rJ s c)):=by
 rcases four b d with rfl|rfl|rfl|rfl<;>rcases KB hs with rfl|rfl|rfl|rfl|rfl|rfl|rfl|rfl|rfl|rfl|rfl|rfl|rfl|rfl|rfl|rfl<;>rfl
def S5{s:Nat}(hs:s<16){c:Int}(b:0<=c)(d:c<4):Op.bin .and [uB s,uB (2 ^ c.toNat)]=B1 (uB (hb s c*2 ^ c.toNat)):=by
 rcases four b d with rfl|rfl|rfl|rfl<;>rcases KB hs with rfl|rfl|rfl|rfl|rfl|rfl|rfl|rfl|rfl|rfl|rfl|rfl|rfl|rfl|rfl|rfl<;>rfl
def gT(p:De×AV):List AV:=.int .i64 p.1.ow::uB p.1.sh::(ao p.1.un ++ [.int .i64 p.1.ph,uB p.1.ask,p.2])
def AM(p:De×AV):(gT p).length=16:=by simp[gT,zj]
def GQ(p:De×AV):(gT p)[0]? = B1 (.int .i64 p.1.ow)/\(gT p)[1]? = B1 (uB p.1.sh)/\(gT p)[2]? = B1 (.int .i64 p.1.un.k)/\(gT p)[3]? = B1 (.int .i64 p.1.un.core)/\(gT p)[4]? = B1 (.int .i64 p.1.un.line)/\(gT p)[13]? = B1 (.int .i64 p.1.ph)/\(gT p)[14]? = B1 (uB p.1.ask)/\(gT p)[15]? = B1 p.2/\((gT p).drop 2).take 11=ao p.1.un:=by
 have⟨⟨ow,sh,⟨k,co,li,⟨d,b⟩⟩,ph,ask,wt⟩,a⟩:=p
 match d,b with
 |[_,_,_,_,_,_,_,_],_=>exact⟨rfl,rfl,rfl,rfl,rfl,rfl,rfl,rfl,rfl⟩
structure mK(H:ar)(D mp:Nat)(lv ev:AV)(N:Int)(ws:List L8)(xs:List (De×AV)):Prop where
 row:H.get D=B1 (OR [.ptr mp 0,.int .i64 N,ev] O_)
 lt:D<H.au
 me:AK H mp lv ws
 es:gW gT QJ 16 H ev xs
 wt:∀(i:Nat)(x:De)(a:AV),xs[i]? = B1 (x,a)->Sk ao xp 11 H a x.wt
 d1:D≠mp/\D≠aF lv/\D≠aF ev/\mp≠aF ev/\aF lv≠aF ev
 d2:∀(i:Nat)(x:De)(a:AV),xs[i]? = B1 (x,a) -> ∀z,aM a z->z≠D/\z≠mp/\z≠aF lv/\z≠aF ev
 d3:∀(i j:Nat)(x y:De)(a b:AV),xs[i]? = B1 (x,a)->xs[j]? = B1 (y,b)->i≠j -> ∀z,aM a z -> ¬aM b z
 len:xs.length=ws.length
def mP(D mp:Nat)(lv ev:AV)(xs:List (De×AV)):Nat->Prop:=λ z=>z=D\/z=mp\/z=aF lv\/z=aF ev \/ ∃(i:Nat)(x:De)(a:AV),xs[i]? = B1 (x,a)/\aM a z
section
variable{H:ar}{D mp:Nat}{lv ev:AV}{N:Int}{ws:List L8}{xs:List (De×AV)}
def mK.fr{H':ar}{W:Nat->Prop}(h:mK H D mp lv ev N ws xs)(f:Fr W H H')(hw:∀z,W z -> ¬mP D mp lv ev xs z):mK H' D mp lv ev N ws xs :=
 ⟨by rw[f.ah _ h.lt (λ q=>hw _ q (.inl rfl))];exact h.row,qn h.lt f.au,h.me.fr f (λ q=>hw _ q (.inr (.inl rfl))) (λ q=>hw _ q (.inr (.inr (.inl rfl)))),h.es.fr f (λ q=>hw _ q (.inr (.inr (.inr (.inl rfl))))),λ i x a b=>(h.wt i x a b).fr f λ z c q=>hw z q (.inr (.inr (.inr (.inr ⟨i,x,a,b,c⟩)))),h.d1,h.d2,h.d3,h.len⟩
def mK.em{H':ar}(h:mK H D mp lv ev N ws xs)(f:Fr Em H H'):mK H' D mp lv ev N ws xs:=h.fr f λ _ q=>q.elim
def mK.low(h:mK H D mp lv ev N ws xs){z:Nat}(b:mP D mp lv ev xs z):z<H.au:=by
 rcases b with rfl|rfl|rfl|rfl|⟨i,x,a,c,b⟩
 .exact h.lt
 .exact h.me.lt
 .exact h.me.ls.lt
 .exact h.es.lt
 .exact (h.wt i x a c).lt z b
abbrev xA(ev:AV)(i:Nat):AV:=.ptr (aF ev) (cZ 16 ev i)
def mK.ld(h:mK H D mp lv ev N ws xs){i:Nat}{p:De×AV}(b:xs[i]? = B1 p){k:Nat}(hk:k<16):Op.ae [.ptr (aF ev) (cZ 16 ev i+k)] H=(gT p)[k]?:=(h.es.sl AM).ae AM b hk
def mK.zJ(h:mK H D mp lv ev N ws xs){i:Nat}{p:De×AV}(b:xs[i]? = B1 p):Op.ae [.ptr (aF ev) (cZ 16 ev i)] H=B1 (.int .i64 p.1.ow):=((h.es.sl AM).jQ AM b (by decide)).trans (GQ p).1
def mK.ldU(h:mK H D mp lv ev N ws xs){i:Nat}{p:De×AV}(c:xs[i]? = B1 p):Op.aq 11 [.ptr (aF ev) (cZ 16 ev i+2)] H=B1 (.agg (ao p.1.un)):=by
 have k:=h.es.sl AM;have⟨b,e,l,d⟩:=h.es;have hl:cZ 16 ev i=i*16:=by rw[e];simp[cZ]
 have g:=(qo.1 c).1;have f:aF ev=b:=by rw[e];rfl
 rw[hl,f,se (xe d) (by rw[It AM];omega)];have:((xs.flatMap gT).drop (i*16+2)).take 11=ao p.1.un:=by
  rw[<-(GQ p).2.2.2.2.2.2.2.2];apply yo;intro j;rw[JQ,JQ];split
  .rw [wx,wx,wq,Jl AM xs c (by omega)]
  .rfl
 rw[this]
theorem mK.put(h:mK H D mp lv ev N ws xs){i:Nat}{x y:De}{a:AV}(p:xs[i]? = B1 (x,a))(o:y.wt=x.wt){j n:Nat}{u:AV}(hu:u.cells.length=n)(ho:aN u.cells=B4)(F:j+n<=16)(I:gT (y,a)=(gT (x,a)).take j++u.cells++(gT (x,a)).drop (j+n)) :
 ∃H',Op.store n [.ptr (aF ev) (cZ 16 ev i+j),u] H=B1 (.undef,H')/\mK H' D mp lv ev N ws (xs.set i (y,a))/\Fr (On (aF ev)) H H':=by
 have⟨H',s,r,f⟩:=h.es.Ij AM p hu ho F I;have E:=(qo.1 p).1;have⟨e1,e2,t,v,A⟩:=h.d1;have d:∀(k:Nat)(z:De)(b:AV),(xs.set i (y,a))[k]? = B1 (z,b) -> ∃e,xs[k]? = B1 (e,b)/\e.wt=z.wt:=λ k z b hk=>by
  by_cases q:k=i
  .subst q;rw[zb E]at hk;injection hk with hk;injection hk with B C
   subst B C;exact⟨x,p,o.symm⟩
  .rw [zg (nE q)]at hk;exact⟨z,hk,rfl⟩
 refine⟨H',s,⟨by rw[f.ah _ h.lt (λ q=>t q)];exact h.row,qn h.lt f.au,h.me.fr f (λ q=>v q) (λ q=>A q),r,λ k z b hk=>?_,h.d1,λ k z b hk=>?_,λ k l z w b c hk m=>?_,by rw[xw];exact h.len⟩,f⟩
 .have ⟨e,g,hw⟩:=d k z b hk;rw[<-hw];exact(h.wt k e b g).fr f λ q G w=>(h.d2 k e b g q G).2.2.2 w
 .obtain ⟨e,g,-⟩:=d k z b hk;exact h.d2 k e b g
 .obtain ⟨e,g,-⟩:=d k z b hk;obtain⟨w',hw,-⟩:=d l w c m;exact h.d3 k l e w' b c g hw
def mK.wait(h:mK H D mp lv ev N ws xs){i:Nat}{x:De}{a g:AV}{ys:List Mg}{H1:ar}(A:xs[i]? = B1 (x,a))(hs:Sk ao xp 11 H1 g ys)(f:Fr (aM a) H H1)(C:∀z,aM g z->aM a z\/H.au<=z)(K:aB g=B4) :
 ∃H',Op.store 1 [.ptr (aF ev) (cZ 16 ev i+15),g] H1=B1 (.undef,H')/\mK H' D mp lv ev N ws (xs.set i ({x with wt:=ys},g))/\Fr (mP D mp lv ev xs) H H'/\Fr (On (aF ev)) H1 H':=by
 have E:=(qo.1 A).1;have⟨e1,e2,L,O,P⟩:=h.d1;have B:=h.d2 i x a A;have G:gW gT QJ 16 H1 ev xs:=h.es.fr f λ q=>(B _ q).2.2.2 rfl;have F:g.cells=[g]:=by cases g<;>first|rfl|cases K
 have⟨H',s,r,m⟩:=G.Ij (y:=({x with wt:=ys},g)) AM A (j:=15) (n:=1) (u:=g) (by rw[F];rfl) (by rw[F];rw[vh];simpa using K) (by decide) (by
  rw[F];have⟨ow,sh,⟨k,co,li,⟨d,Q⟩⟩,ph,ask,wt⟩:=x
  match d,Q with
  |[_,_,_,_,_,_,_,_],_=>rfl)
 have I:Fr (mP D mp lv ev xs) H H':=(f.mono λ z _ J=>(.inr (.inr (.inr (.inr ⟨i,x,a,A,J⟩))):mP D mp lv ev xs z)).trans m λ z(q:z=aF ev)=>.inl (.inr (.inr (.inr (.inl q))));have R:=h.es.lt;refine⟨H',s,⟨?_,?_,?_,r,λ k z b hk=>?_,h.d1,λ k z b hk q v=>?_,λ k l z w b c hk e t q v=>?_,by rw[xw];exact h.len⟩,I,m⟩
 .rw [m.ah _ (qn h.lt f.au) (λ q=>L q),f.ah _ h.lt (λ q=>(B _ q).1 rfl)];exact h.row
 .exact qn (qn h.lt f.au) m.au
 .exact (h.me.fr f (λ q=>(B _ q).2.1 rfl) (λ q=>(B _ q).2.2.1 rfl)).fr m (λ q=>O q) (λ q=>P q)
 .by_cases q:k=i
  .subst q;rw[zb E]at hk;injection hk with hk;injection hk with o p
   subst o p;refine hs.fr m λ z J w=>?_;rcases C z J with q|q
   .exact (B z q).2.2.2 w
   .have w:z=aF ev:=w;omega
  .rw [zg (nE q)]at hk;refine((h.wt k z b hk).fr f λ u hu w=>h.d3 k i z x b a hk A q u hu w).fr m λ u hu w=>(h.d2 k z b hk u hu).2.2.2 w
 .by_cases w:k=i
  .subst w;rw[zb E]at hk;injection hk with hk;injection hk with o p
   subst o p;rcases C q v with w|w
   .exact B q w
   .have T:=h.lt;have U:=h.me.lt;have V:=h.me.ls.lt;exact⟨by omega,by omega,by omega,by omega⟩
  .rw [zg (nE w)]at hk;exact h.d2 k z b hk q v
 .by_cases w1:k=i
  .subst w1;rw[zb E]at hk;rw[zg t]at e;injection hk with hk;injection hk with o p
   subst o p;rcases C q v with w|w
   .exact h.d3 k l x _ a c A e t q w
   .intro w2;have:=(h.wt l _ c e).lt q w2;omega
  .rw [zg (nE w1)]at hk
   by_cases w2:l=i
   .subst w2;rw[zb E]at e;injection e with e;injection e with o p
    subst o p;intro S;rcases C q S with w|w
    .exact h.d3 k l z x b a hk A w1 q v w
    .have:=(h.wt k z b hk).lt q v;omega
   .rw [zg (nE w2)]at e;exact h.d3 k l z _ b c hk e t q v
end
end Go.Am
namespace Go.Am
open Go.Proofs Ca
variable{M:ak}[MK M]
structure dV(H:ar)(D mp:Nat)(lv ev:AV)(N:Int)(ws:List L8)(xs:List (De×AV))(i:Nat)(x:De)(a:AV):Prop where
 il:i<xs.length
 d:mK H D mp lv ev N ws (xs.set i (x,a))
section
variable{H:ar}{D mp:Nat}{lv ev:AV}{N:Int}{ws:List L8}{xs:List (De×AV)}{i:Nat}{x:De}{a:AV}
def dV.of(h:mK H D mp lv ev N ws xs)(b:xs[i]? = B1 (x,a)):dV H D mp lv ev N ws xs i x a:=by
 refine⟨(qo.1 b).1,?_⟩;have:xs.set i (x,a)=xs:=by
  apply yo;intro j
  by_cases q:j=i
  .rw [q,zb (qo.1 b).1,b]
  .rw [zg (nE q)]
 rw[this];exact h
def dV.here(h:dV H D mp lv ev N ws xs i x a):(xs.set i (x,a))[i]? = B1 (x,a):=zb h.il
def dV.em{H':ar}(h:dV H D mp lv ev N ws xs i x a)(f:Fr Em H H'):dV H' D mp lv ev N ws xs i x a:=⟨h.il,h.d.em f⟩
def dV.l0(h:dV H D mp lv ev N ws xs i x a):Op.ae [.ptr (aF ev) (cZ 16 ev i)] H=B1 (.int .i64 x.ow):=h.d.zJ h.here
def dV.l1(h:dV H D mp lv ev N ws xs i x a):Op.ae [.ptr (aF ev) (cZ 16 ev i+1)] H=B1 (uB x.sh):=(h.d.ld h.here (by decide)).trans (GQ (x,a)).2.1
def dV.l2(h:dV H D mp lv ev N ws xs i x a):Op.ae [.ptr (aF ev) (cZ 16 ev i+2)] H=B1 (.int .i64 x.un.k):=(h.d.ld h.here (by decide)).trans (GQ (x,a)).2.2.1
def dV.l3(h:dV H D mp lv ev N ws xs i x a):Op.ae [.ptr (aF ev) (cZ 16 ev i+2+1)] H=B1 (.int .i64 x.un.core):=(h.d.ld h.here (k:=3) (by decide)).trans (GQ (x,a)).2.2.2.1
def dV.l4(h:dV H D mp lv ev N ws xs i x a):Op.ae [.ptr (aF ev) (cZ 16 ev i+2+2)] H=B1 (.int .i64 x.un.line):=(h.d.ld h.here (k:=4) (by decide)).trans (GQ (x,a)).2.2.2.2.1
def dV.sC(h:dV H D mp lv ev N ws xs i x a):Op.ae [.ptr (aF ev) (cZ 16 ev i+13)] H=B1 (.int .i64 x.ph):=(h.d.ld h.here (by decide)).trans (GQ (x,a)).2.2.2.2.2.1
def dV.vX(h:dV H D mp lv ev N ws xs i x a):Op.ae [.ptr (aF ev) (cZ 16 ev i+14)] H=B1 (uB x.ask):=(h.d.ld h.here (by decide)).trans (GQ (x,a)).2.2.2.2.2.2.1
def dV.iJ(h:dV H D mp lv ev N ws xs i x a):Op.ae [.ptr (aF ev) (cZ 16 ev i+15)] H=B1 a:=(h.d.ld h.here (by decide)).trans (GQ (x,a)).2.2.2.2.2.2.2.1
def dV.lU(h:dV H D mp lv ev N ws xs i x a):Op.aq 11 [.ptr (aF ev) (cZ 16 ev i+2)] H=B1 (.agg (ao x.un)):=h.d.ldU h.here
theorem dV.put(h:dV H D mp lv ev N ws xs i x a){y:De}(b:y.wt=x.wt){j n:Nat}{u:AV}(hu:u.cells.length=n)(ho:aN u.cells=B4)(c:j+n<=16)(e:gT (y,a)=(gT (x,a)).take j++u.cells++(gT (x,a)).drop (j+n)) :
 ∃H',Op.store n [.ptr (aF ev) (cZ 16 ev i+j),u] H=B1 (.undef,H')/\dV H' D mp lv ev N ws xs i y a/\Fr (On (aF ev)) H H':=by
 have⟨H',s,r,f⟩:=h.d.put h.here b hu ho c e;rw[List.set_set]at r;exact⟨H',s,⟨h.il,r⟩,f⟩
def dV.s0(h:dV H D mp lv ev N ws xs i x a)(k:Int):∃H',Op.store 1 [.ptr (aF ev) (cZ 16 ev i),.int .i64 k] H=B1 (.undef,H')/\dV H' D mp lv ev N ws xs i {x with ow:=k} a/\Fr (On (aF ev)) H H' :=
 h.put (y:={x with ow:=k}) (j:=0) (n:=1) (u:=.int .i64 k) rfl rfl rfl (by decide) rfl
def dV.s1(h:dV H D mp lv ev N ws xs i x a)(k:Nat):∃H',Op.store 1 [.ptr (aF ev) (cZ 16 ev i+1),uB k] H=B1 (.undef,H')/\dV H' D mp lv ev N ws xs i {x with sh:=k} a/\Fr (On (aF ev)) H H' :=
 h.put (y:={x with sh:=k}) (j:=1) (n:=1) (u:=uB k) rfl rfl rfl (by decide) rfl
def dV.sU(h:dV H D mp lv ev N ws xs i x a)(m:Mg):∃H',Op.store 11 [.ptr (aF ev) (cZ 16 ev i+2),.agg (ao m)] H=B1 (.undef,H')/\dV H' D mp lv ev N ws xs i {x with un:=m} a/\Fr (On (aF ev)) H H':=by
 refine h.put (y:={x with un:=m}) (j:=2) (n:=11) (u:=.agg (ao m)) rfl (by rw[zt];exact zj m) (by rw[zt];exact ry m) (by decide) ?_;rw[zt];have⟨ow,sh,⟨k,co,li,⟨d,b⟩⟩,ph,ask,wt⟩:=x
 match d,b with
 |[_,_,_,_,_,_,_,_],_=>rfl
def dV.Pp(h:dV H D mp lv ev N ws xs i x a)(k:Int):∃H',Op.store 1 [.ptr (aF ev) (cZ 16 ev i+13),.int .i64 k] H=B1 (.undef,H')/\dV H' D mp lv ev N ws xs i {x with ph:=k} a/\Fr (On (aF ev)) H H':=by
 refine h.put (y:={x with ph:=k}) (j:=13) (n:=1) (u:=.int .i64 k) rfl rfl rfl (by decide) ?_;have⟨ow,sh,⟨k,co,li,⟨d,b⟩⟩,ph,ask,wt⟩:=x
 match d,b with
 |[_,_,_,_,_,_,_,_],_=>rfl
def dV.S9(h:dV H D mp lv ev N ws xs i x a)(k:Nat):∃H',Op.store 1 [.ptr (aF ev) (cZ 16 ev i+14),uB k] H=B1 (.undef,H')/\dV H' D mp lv ev N ws xs i {x with ask:=k} a/\Fr (On (aF ev)) H H':=by
 refine h.put (y:={x with ask:=k}) (j:=14) (n:=1) (u:=uB k) rfl rfl rfl (by decide) ?_;have⟨ow,sh,⟨k,co,li,⟨d,b⟩⟩,ph,ask,wt⟩:=x
 match d,b with
 |[_,_,_,_,_,_,_,_],_=>rfl
def bdG(co l:Int)(d:L8):Op.build (ao ⟨0,0,0,.zero⟩) [(0,1),(1,1),(2,1),(3,8)] [.int .i64 14,.int .i64 co,.int .i64 l,.agg (cu d)]=B1 (.agg (ao ⟨14,co,l,d⟩)):=by
 have⟨d,b⟩:=d
 match d,b with
 |[_,_,_,_,_,_,_,_],_=>rfl
def dV.Xx(h:dV H D mp lv ev N ws xs i x a):∃H',Op.store 1 [.ptr (aF ev) (cZ 16 ev i+14),.int .u8 0] H=B1 (.undef,H')/\dV H' D mp lv ev N ws xs i {x with ask:=0} a/\Fr (On (aF ev)) H H':=h.S9 0
def dV.s1z(h:dV H D mp lv ev N ws xs i x a):∃H',Op.store 1 [.ptr (aF ev) (cZ 16 ev i+1),.int .u8 0] H=B1 (.undef,H')/\dV H' D mp lv ev N ws xs i {x with sh:=0} a/\Fr (On (aF ev)) H H':=h.s1 0
abbrev Lo(H:ar):Nat->Prop:=λ z=>H.au<=z
def dV.loc{j:De}{H1 e:ar}(h:dV H D mp lv ev N ws xs i x a)(c:dV H1 D mp lv ev N ws xs i j a)(f:Fr (Lo H) H1 e):dV e D mp lv ev N ws xs i j a:=by
 refine⟨c.il,c.d.fr f λ z g q=>?_⟩;have:mP D mp lv ev (xs.set i (x,a)) z:=by
  rcases q with q|q|q|q|⟨k,y,b,hk,q⟩
  .exact .inl q
  .exact .inr (.inl q)
  .exact .inr (.inr (.inl q))
  .exact .inr (.inr (.inr (.inl q)))
  .by_cases w:k=i
   .subst w;rw[c.here]at hk;injection hk with hk;injection hk with _ hk;subst hk
    exact .inr (.inr (.inr (.inr ⟨k,x,a,h.here,q⟩)))
   .rw [zg (nE w)]at hk;exact .inr (.inr (.inr (.inr ⟨k,y,b,by rw[zg (nE w)];exact hk,q⟩)))
 have:=h.d.low this;have g:H.au<=z:=g;omega
def E1(h:dV H D mp lv ev N ws xs i x a){w:L8}(hw:ws[x.un.line.toNat]? = B1 w)(hl:0<=x.un.line)(hs:x.sh<16)(c0:0<=x.un.core)(c1:x.un.core<4) :
 ze M SW [.ptr D 0,xA ev i] H λ v H'=>v=.agg (ao (x.dZ w).2)/\dV H' D mp lv ev N ws xs i (x.dZ w).1 a/\Fr (On (aF ev)) H H':=by
 refine q4p ?_;obtain⟨w0,w4,w8,w18⟩:=q4q M ⟨B5,SW⟩;have⟨H1,e1,f1,n1,g1⟩:=cq H (OR (ao ⟨0,0,0,.zero⟩) xp);have⟨H2,s2,h2,L⟩:=(h.em f1).Pp 4;have⟨E,s3,A,O⟩:=h2.Xx;have zJ:Op.ae [.ptr D 0] E=B1 (.ptr mp 0):=zd (xe A.d.row) 0;have hev:=h.d.es.lt;have nb:¬H.au=aF ev:=by omega
 have m2:=L.au;have m3:=O.au;have g3:E.get H.au=B1 (OR (ao ⟨0,0,0,.zero⟩) xp):=by rw[O.ah _ (by omega) nb,L.ah _ (by omega) nb];exact g1
 simp only[aa,bc,w0,mZ,<-e1,qt,s2,s3,w4,zJ,A.l4];refine C3.q (qwf A.d.me hl hw) λ v F⟨hv,f4⟩=>?_;rw[hv];obtain⟨H5,e5,P,-,g5⟩:=cq F (OR (cu .zero) ja);have B:=fG g5 (yk _) (yk w) (uk w);obtain⟨b,K⟩:∃X,X=H5.set F.au (OR (cu w) ja):=⟨_,rfl⟩
 rw[<-K]at B;have g6:b.get F.au=B1 (OR (cu w) ja):=by rw[K,xf]
 have Q:Fr Em F b:=by rw[K];exact P.set (.inr (qm _)) _
 have f:Fr Em E b:=f4.trans Q λ _ q=>q.elim;have h6:=A.em f;have l5:=eH g6 (yk w);obtain⟨H7,e7,R,-,g7⟩:=cq b (OR (ao ⟨0,0,0,.zero⟩) xp);have C:=fG g7 (zj _) (zj ⟨14,x.un.core,x.un.line,w⟩) (ry _);obtain⟨l,G⟩:∃X,X=H7.set b.au (OR (ao ⟨14,x.un.core,x.un.line,w⟩) xp):=⟨_,rfl⟩
 rw[<-G]at C;have g8:l.get b.au=B1 (OR (ao ⟨14,x.un.core,x.un.line,w⟩) xp):=by rw[G,xf]
 have u:Fr Em b l:=by rw[G];exact R.set (.inr (qm _)) _
 have g:Fr Em E l:=f.trans u λ _ q=>q.elim;have s:=A.em g;have m36:=f.au;have m68:=u.au;have z:l.get H.au=B1 (OR (ao ⟨0,0,0,.zero⟩) xp):=by rw[g.ah _ (by omega) id];exact g3
 have n8:b.au<l.au:=by rw[G,tO,e7,xz];omega
 have t:Fr (On (aF ev)) H l:=(((f1.mono λ _ _ q=>q.elim).trans L λ _ q=>.inl q).trans O λ _ q=>.inl q).trans g λ _ q=>q.elim;simp only[aa,bc,xj,lZ,<-e5,B,qt,h6.l3,h6.l4,l5,bdG,<-e7,C,w8,s.l2];have fin:∀{c:ar}{y:De}{m:Mg},dV c D mp lv ev N ws xs i y a->Fr (On (aF ev)) H c->c.get H.au=B1 (OR (ao ⟨0,0,0,.zero⟩) xp)->H.au<c.au -> ∃r,Op.store 11 [.ptr H.au 0,.agg (ao m)] c=B1 (.undef,r)/\Op.aq 11 [.ptr H.au 0] r=B1 (.agg (ao m))/\dV r D mp lv ev N ws xs i y a/\Fr (On (aF ev)) H r:=λ{c y m}a1 a2 a3 a4=>by
  have st:=fG a3 (zj _) (zj m) (ry m);refine⟨_,st,eH (xf ..) (zj m),h.loc a1 ((Fr.refl c).set (W:=Lo H) (.inl (qm _)) _),a2.set (.inr (qm _)) _⟩
 have j:¬b.au=aF ev:=by omega
 unfold De.dZ
 by_cases J:x.un.k=1
 .rw [xg J];have sh1:=Og c0 c1;have sa:=_W hs c0 c1;have⟨c,s9,U,e⟩:=s.s1 (rJ x.sh x.un.core);have m9:=e.au;have l9:Op.aq 11 [.ptr b.au 0] c=B1 (.agg (ao ⟨14,x.un.core,x.un.line,w⟩)):=eH (by rw[e.ah _ n8 j];exact g8) (zj _);have⟨r,sx,Y,V,T⟩:=fin (m:=⟨14,x.un.core,x.un.line,w⟩) U (t.trans e λ _ q=>.inl q) (by rw[e.ah _ (by omega) nb];exact z) (by omega);simp only[aa,bc,xb J,s.l1,s.l3,qt,sh1,sa,s9,l9,sx,Y];exact⟨V,T⟩
 .rw [qy J];have⟨c,s9,U,e⟩:=s.s0 x.un.core;have⟨p,sa,ha,fa⟩:=U.s1z;have m9:=e.au;have ma:=fa.au;have ga:p.get b.au=B1 (OR (ao ⟨14,x.un.core,x.un.line,w⟩) xp):=by rw[fa.ah _ (by omega) j,e.ah _ n8 j];exact g8
  have sb:Op.store 1 [.ptr b.au 0,.int .i64 15] p=B1 (.undef,p.set b.au (OR (ao ⟨15,x.un.core,x.un.line,w⟩) xp)):=wK (v:=.int .i64 15) ga (o:=0) (n:=1) rfl (by rw[zj];decide) rfl;obtain⟨Hb,I⟩:∃X,X=p.set b.au (OR (ao ⟨15,x.un.core,x.un.line,w⟩) xp):=⟨_,rfl⟩
  rw[<-I]at sb;have S:Fr (Lo H) p Hb:=by rw[I];exact(Fr.refl p).set (W:=Lo H) (.inl (show H.au<=b.au by omega)) _
  have lb:Op.aq 11 [.ptr b.au 0] Hb=B1 (.agg (ao ⟨15,x.un.core,x.un.line,w⟩)):=eH (by rw[I,xf]) (zj _);have hb:=h.loc ha S;have Z:¬b.au=H.au:=by omega
  have gb:Hb.get H.au=B1 (OR (ao ⟨0,0,0,.zero⟩) xp):=by rw[I,kz Z,fa.ah _ (by omega) nb,e.ah _ (by omega) nb];exact z
  have⟨r,sx,Y,V,T⟩:=fin (m:=⟨15,x.un.core,x.un.line,w⟩) hb (((t.trans e λ _ q=>.inl q).trans fa λ _ q=>.inl q).trans S λ _ q=>.inr q) gb (by have:=S.au;omega);simp only[aa,bc,J,w18,s.l3,qt,s9,sa,sb,lb,sx,Y];exact⟨V,T⟩
end
end Go.Am
namespace Go.Am
open Go.Proofs Ca
variable{M:ak}[MK M]
section
variable{H:ar}{D mp:Nat}{lv ev:AV}{N:Int}{ws:List L8}{xs:List (De×AV)}{i:Nat}{x:De}{a:AV}
def ah2(h:mK H D mp lv ev N ws xs){n:Int}(f:0<=n)(g:n<xs.length):ze M Wc [.ptr D 0,.int .i64 n] H λ v H'=>v=xA ev n.toNat/\H'=H:=by
 have hl:Op.ae [.ptr D 2] H=B1 ev:=zd (xe h.row) 2;have hn:=(h.es.sl AM).len;have d:¬n<0:=by omega
 have e:¬((xs.length:Nat):Int)<=n:=by omega
 have c:xs[n.toNat]? = B1 (xs[n.toNat]'(by omega)):=xc (by omega);have ix:Op.aQ 16 [ev,.int .i64 n]=B1 (.ptr (aF ev) (cZ 16 ev n.toNat)):=(h.es.sl AM).idx c (by omega) .i64;refine xco ?_;obtain⟨w0,w2,b⟩:=xcp M ⟨B5,Wc⟩;simp only[aa,bc,w0,w2,yq,d,qt,hl,hn,e,b,ix]
end
def lH(s:Nat):List Nat:=(N5 4).filter λ(k:Nat)=>hb s (k:Int) == 1
def M6(s:Nat):wU s=(lH s).map λ(k:Nat)=>(k:Int):=by
 unfold wU lH;have e:([0,1,2,3]:List Int)=(N5 4).map λ(k:Nat)=>(k:Int):=rfl;rw[e,List.filter_map];rfl
def xi4{H0:ar}{p s:Nat}(hp:H0.get p=B1 (OR [uB s] YJ))(hpl:p<H0.au)(hs:s<16) :
 qX M MZ [] [.ptr p 0] (λ x=>x=p) (λ _=>False) H0 ((lH s).map λ(k:Nat)=>[AV.int .i64 (k:Int)]):=by
 intro Y R S m H1 Z U C F loc Q step;have⟨p1,p2,p3⟩:=U p (.inl rfl)
 suffices h:ze M MZ [.fn (.yield Y) [] [],.ptr p 0] H1 (Hq R S m (λ _=>False) H1 ((lH s).map λ(k:Nat)=>[AV.int .i64 (k:Int)]).length)by
  have⟨v,H',W,W',g,q2,q3⟩:=h.elim;exact⟨v,H',W',W,g,q2,q3⟩
 refine qv2 ?_;obtain⟨w0,w4,y,z⟩:=qv3 M ⟨B5,MZ⟩;have lp:∀{l:ar},Fr m H1 l->Op.ae [.ptr p 0] l=B1 (uB s):=λ f=>by rw[zd (xe (by rw[f.ah _ (by omega) p3,p2];exact hp))];rfl
 simp only[aa,bc,w0];refine cz.intro (λ n E l=>∃(i:Nat)(V:Nat->Prop),E=[(4,.int .i64 (i:Int)),(0,.fn (.yield Y) [] []),(1,.ptr p 0)]/\n=4-i/\i<=4/\JE R m H1 l ((N5 i).filter λ(k:Nat)=>hb s (k:Int) == 1).length V) ?_ ?_
 .exact ⟨_,_,⟨0,m,rfl,rfl,xx _,⟨C,λ b hb=>⟨F b hb,.inl hb⟩,Fr.refl _⟩⟩,by simp only[aa,bc]⟩
 rintro n E l ⟨i,V,rfl,rfl,hi,d⟩;rcases za i 4 with J|X
 .have g:(i:Int)<4:=by omega
  have sh:=Og (c:=(i:Int)) (by omega) g;have ha:=S5 hs (c:=(i:Int)) (by omega) g;have T:aj .i64 ((i:Int)+1)=((i+1:Nat):Int):=by rw[jj (by omega) (by omega)];omega
  have P:=Qh (λ(k:Nat)=>hb s (k:Int) == 1) i;have hle:=Jm s (i:Int)
  by_cases B:hb s (i:Int)=1
  .have j:((N5 (i+1)).filter λ(k:Nat)=>hb s (k:Int) == 1).length=((N5 i).filter λ(k:Nat)=>hb s (k:Int) == 1).length+1:=by rw[P];simp[B]
   have hg:((lH s).map λ(k:Nat)=>[AV.int .i64 (k:Int)])[((N5 i).filter λ(k:Nat)=>hb s (k:Int) == 1).length]? = B1 [.int .i64 (i:Int)]:=by
    unfold lH;rw[xm,Xb _ J (by simp[B])];rfl
   have hp0:0<2 ^ (i:Int).toNat:=Nat.pos_of_ne_zero (by simp);have L:¬(((hb s (i:Int)*2 ^ (i:Int).toNat:Nat)):Int)=0:=by rw[B,Nat.one_mul];omega
   have⟨bb,O,A,hr,G,t,ht,K⟩:=step _ _ hg V l d.hR d.hV (d.fr.mono λ _ _ q=>.inl q);have o:Fr m H1 O:=d.fr.trans G λ b q=>(d.hV b q).2;have r:∀b,A b->b<O.au/\(m b\/H1.au<=b):=λ b q=>⟨(t b q).1,(t b q).2.elim (λ w=>(d.hV b w).2) λ w=>.inr (x9 d.fr.au w)⟩
   simp only[aa,bc,w4,g,y,lp d.fr,sh,ha,L];refine C3.tu hr ?_;cases bb with
   |true =>
    simp only[aa,bc,z,T];exact⟨_,_,⟨i+1,A,rfl,rfl,by omega,⟨by rw[j];exact ht rfl,r,o⟩⟩,by simp only[aa,bc],by omega⟩
   |false =>
    simp only[aa,bc];exact⟨A,o.mono λ _ _ q=>.inl q,r,.inr (K rfl)⟩
  .have u:hb s (i:Int)=0:=by omega
   have j:((N5 (i+1)).filter λ(k:Nat)=>hb s (k:Int) == 1).length=((N5 i).filter λ(k:Nat)=>hb s (k:Int) == 1).length:=by rw[P];simp[u]
   have L:(((hb s (i:Int)*2 ^ (i:Int).toNat:Nat)):Int)=0:=by rw[u,Ax];rfl
   simp only[aa,bc,w4,g,y,lp d.fr,sh,ha,xb L,z,T];exact⟨_,_,⟨i+1,V,rfl,rfl,by omega,by rw[j];exact d⟩,by simp only[aa,bc],by omega⟩
 .have g:¬(i:Int)<4:=by omega
  have I:i=4:=by omega
  simp only[aa,bc,w4,g];refine⟨V,d.fr.mono λ _ _ q=>.inl q,d.hV,.inl ?_⟩;have e:((lH s).map λ(k:Nat)=>[AV.int .i64 (k:Int)]).length=((N5 i).filter λ(k:Nat)=>hb s (k:Int) == 1).length:=by unfold lH;rw[xr,I]
  rw[e];exact d.hR
def xl6{H:ar}(s:Nat):ze M m8 [uB s] H λ v H'=>v=.fn (.func MZ) [] [.ptr H.au 0]/\H'=H.alloc (OR [uB s] YJ):=by
 refine q0n ?_;have ca:AV.cells (uB s)=[uB s]:=rfl;have mk:Op.bt MZ 0 [.ptr H.au 0]=B1 (.fn (.func MZ) [] [.ptr H.au 0]):=rfl;simp only[aa,bc,q0o,ca];rfl
end Go.Am
namespace Go.Am
open Go.Proofs Ca
variable{M:ak}[MK M]
abbrev Ed(t:Nat):AV:=.fn (.func Tu) [] [.ptr t 0]
def Vs{H:ar}{t:Nat}{c:Int}(w:Mg)(hl:∀{d:ar},Fr Em H d->Op.ae [.ptr t 1] d=B1 (.int .i64 c)):ze M Tu [.agg (ao w),.ptr t 0] H λ r H'=>r=.bool (decide (w.core=c))/\Fr Em H H':=by
 refine qxy ?_;obtain⟨H1,e1,b,-,e⟩:=cq H (OR (ao w) xp);have l1:Op.ae [.ptr H.au 1] H1=B1 (.int .i64 w.core):=zd (xe e) 1
 by_cases q:w.core=c
 .simp only[aa,bc,oW,<-e1,l1,hl b,xb q];exact b
 .simp only[aa,bc,oW,<-e1,l1,hl b,q];exact b
def xfq{H:ar}{v:AV}{ms:List Mg}{t:Nat}{c:Int}(h:bR ao 11 H v ms)(hk:ms.length<=1000000)(hl:∀{d:ar},Fr Em H d->Op.ae [.ptr t 1] d=B1 (.int .i64 c)) :
 ze M YA [v,Ed t] H λ r H'=>(∃z:Int,r=.int .i64 z/\(0<=z↔ ∃w∈ms,w.core=c))/\Fr Em H H':=by
 refine ql5 ?_;obtain⟨w0,w2,u,A,p,s⟩:=ql6 M ⟨B5,YA⟩;simp only[aa,bc,w0,w2,h.len];refine cz.intro (λ n E d=>∃i:Nat,E=[(8,.int .i64 (i:Int)),(7,.int .i64 ((ms.length:Nat):Int)),(0,v),(1,Ed t)]/\n=ms.length-i/\i<=ms.length/\Fr Em H d /\ ∀k w,k<i->ms[k]? = B1 w->w.core≠c) ?_ ?_
 .exact ⟨_,_,⟨0,rfl,rfl,xx _,Fr.refl _,λ k w hk=>by omega⟩,by simp only[aa,bc]⟩
 rintro n E d ⟨i,rfl,rfl,F,b,l⟩;rcases za i ms.length with j|B
 .have o:(i:Int)<((ms.length:Nat):Int):=by omega
  have m:=xc j;have ix:=(h.em b).idx m (z:=(i:Int)) rfl .i64;have ld:=(h.em b).aq zj (by decide) m;have C:aj .i64 ((i:Int)+1)=((i+1:Nat):Int):=by rw[jj (by omega) (by omega)];omega
  simp only[aa,bc,A,o,p,ix,ld];refine C3.q (Vs (ms[i]) (λ f=>hl (b.trans f λ _ q=>q.elim))) λ r H1⟨hr,y⟩=>?_;rw[hr]
  by_cases q:(ms[i]).core=c
  .simp only[aa,bc,xb q];exact⟨⟨_,rfl,λ _=>⟨_,List.getElem_mem j,q⟩,λ _=>by omega⟩,b.trans y λ _ q=>q.elim⟩
  .simp only[aa,bc,q,s,C];refine⟨_,_,⟨i+1,rfl,rfl,by omega,b.trans y λ _ q=>q.elim,λ k w hk hw=>?_⟩,by simp only[aa,bc],by omega⟩
   by_cases e:k=i
   .rw [e,m]at hw;injection hw with hw;rw[<-hw];exact q
   .exact l k w (by omega) hw
 .have o:¬(i:Int)<((ms.length:Nat):Int):=by omega
  simp only[aa,bc,A,o,u];refine⟨⟨_,rfl,λ q=>absurd q (by decide),λ⟨w,hw,hc⟩=>?_⟩,b⟩;have⟨k,g⟩:=L7 hw;exact absurd hc (l k w (by have:=(qo.1 g).1;omega) g)
def qtn{H:ar}{v:AV}{ms:List Mg}{t:Nat}{c:Int}(h:bR ao 11 H v ms)(hk:ms.length<=1000000)(hl:∀{b:ar},Fr Em H b->Op.ae [.ptr t 1] b=B1 (.int .i64 c)) :
 ze M sS [v,Ed t] H λ r H'=>r=.bool (decide (∃w∈ms,w.core=c))/\Fr Em H H':=by
 refine qj4 ?_;simp only[aa,bc,qj5];refine C3.q (xfq h hk hl) λ r H1⟨⟨z,hr,e⟩,d⟩=>?_;rw[hr];simp only[aa,bc]
 by_cases q:0<=z
 .simp only[q,e.1 q,decide_true,Gn];exact d
 .have f:¬ ∃w∈ms,w.core=c:=λ w=>q (e.2 w);simp only[q,f,J5,Gn];exact d
section
variable{H:ar}{D mp:Nat}{lv ev:AV}{N:Int}{ws:List L8}{xs:List (De×AV)}{i:Nat}{x:De}{a:AV}
def xl1(h:dV H D mp lv ev N ws xs i x a)(m:Mg)(c0:0<=m.core)(c1:m.core<4)(ha:x.ask<16)(hw:x.wt.length<=1000000):ze M JY [xA ev i,.agg (ao m)] H λ v H'=>v=.bool (decide (x.may m))/\Fr Em H H':=by
 refine q4r ?_;obtain⟨w0,w4,w51,F,G,w26,w38⟩:=q4s M ⟨B5,JY⟩;have⟨H1,e1,f1,n1,g1⟩:=cq H (OR (ao m) xp);have lm:∀{p:ar}(k:Nat),Fr Em H1 p->Op.ae [.ptr H.au k] p=(ao m)[k]?:=λ k f=>zd (xe (by rw[f.ah _ (by omega) id];exact g1)) k;have l0:Op.ae [.ptr H.au 0] H1=B1 (.int .i64 m.k):=lm 0 (Fr.refl _);have l1:∀{p:ar},Fr Em H1 p->Op.ae [.ptr H.au 1] p=B1 (.int .i64 m.core):=λ f=>lm 1 f;have l:=l1 (Fr.refl H1);have mk:Op.bt Tu 0 [.ptr H.au 0]=B1 (Ed H.au):=rfl;have c:=h.em f1;have C:=Og c0 c1;have X:=S5 ha c0 c1;have hle:=Jm x.ask m.core;have hp0:0<2 ^ m.core.toNat:=Nat.pos_of_ne_zero (by simp);have fin:∀{b:Bool}{p:ar},(b=B4↔x.may m)->Fr Em H1 p->(AV.bool b=.bool (decide (x.may m))/\Fr Em H p):=λ{b p}e f=>by
  refine⟨?_,f1.trans f λ _ q=>q.elim⟩;congr 1;cases b with
  |true=>exact(yj (e.1 rfl)).symm
  |false=>exact(ku λ w=>by cases e.2 w).symm
 have n:=Fr.refl (W:=Em) H1;simp only[aa,bc,w0,<-e1,w4,l0]
 by_cases B:m.k=1\/m.k=2
 .have hm:x.may m↔ ¬(x.ph≠0/\x.ph≠4/\x.un.core=m.core)/\(x.ow≠m.core\/x.ph=2) /\ ¬ ∃w∈x.wt,w.core=m.core:=by unfold De.may De.own;rw[xg B]
  have key:∀{E:Env},lk E 10=B1 (.bool B4)->lk E 0=B1 (xA ev i)->lk E 3=B1 (.ptr H.au 0)->lk E 5=B1 (Ed H.au)->W M ⟨B5,JY⟩ (TQ 14) B4 (eY 0 (fm (W M ⟨B5,JY⟩ (TQ 51)) (eG M [.tmp 4] (uZ λ v H'=>v=.bool (decide (x.may m))/\Fr Em H H')))) E [] H1:=by
   intro E I O Z b5
   -- the rest,once it is known whether one is under way
   have rest:∀{p:ar}(u:Bool),Fr Em H1 p->(u=B4↔(x.ph≠0/\x.ph≠4/\x.un.core=m.core))->W M ⟨B5,JY⟩ (TQ 17) B4 (eY 0 (fm (W M ⟨B5,JY⟩ (TQ 51)) (eG M [.tmp 4] (uZ λ v H'=>v=.bool (decide (x.may m))/\Fr Em H H')))) ((6,.bool u)::E) [] p:=by
    intro p u t hu;have y:=c.em t;have T:=y.d.wt i x a y.here;cases u with
    |true =>
     simp only[aa,bc,G];exact fin ⟨λ q=>Py q,λ q=>absurd (hu.1 rfl) (hm.1 q).1⟩ t
    |false =>
     have P:¬(x.ph≠0/\x.ph≠4/\x.un.core=m.core):=λ q=>by cases hu.2 q
     by_cases S:x.ow=m.core
     .by_cases V:x.ph=2
      .simp only[aa,bc,G,O,Z,b5,qt,y.l0,l1 t,xb S,y.sC,xb V,y.iJ];refine C3.q (qtn (T.sl zj) hw (λ f=>l1 (t.trans f λ _ q=>q.elim))) λ r Y⟨hr,J⟩=>?_;rw[hr];simp only[aa,bc];refine fin ?_ (t.trans J λ _ q=>q.elim);rw[hm];constructor
       .intro q;exact⟨P,.inr V,by simpa using q⟩
       .intro q;simpa using q.2.2
      .simp only[aa,bc,G,O,Z,b5,qt,y.l0,l1 t,xb S,y.sC,V];exact fin ⟨λ q=>Py q,λ q=>((hm.1 q).2.1.elim (λ w=>absurd S w) λ w=>absurd w V)⟩ t
     .simp only[aa,bc,G,O,Z,b5,qt,y.l0,l1 t,S,y.iJ];refine C3.q (qtn (T.sl zj) hw (λ f=>l1 (t.trans f λ _ q=>q.elim))) λ r Y⟨hr,J⟩=>?_;rw[hr];simp only[aa,bc];refine fin ?_ (t.trans J λ _ q=>q.elim);rw[hm];constructor
      .intro q;exact⟨P,.inl S,by simpa using q⟩
      .intro q;simpa using q.2.2
   by_cases R:x.ph=0
   .simp only[aa,bc,F,I,O,qt,c.sC,xb R];exact rest B2 n ⟨λ q=>Py q,λ q=>absurd R q.1⟩
   by_cases U:x.ph=4
   .simp only[aa,bc,F,I,O,qt,c.sC,R,xb U];exact rest B2 n ⟨λ q=>Py q,λ q=>absurd U q.2.1⟩
   simp only[aa,bc,F,I,O,b5,qt,c.sC,R,U,c.lU];refine C3.q (Vs x.un l1) λ r Y⟨hr,J⟩=>?_;rw[hr];simp only[aa,bc];exact rest _ J ⟨λ q=>⟨R,U,by simpa using q⟩,λ q=>by simpa using q.2.2⟩
  rcases B with k|k
  .simp only[aa,bc,xb k];exact key rfl rfl rfl rfl
  .have k1:¬m.k=1:=by omega
   simp only[aa,bc,k1,xb k];exact key rfl rfl rfl rfl
 have k1:¬m.k=1:=λ q=>B (.inl q);have k2:¬m.k=2:=λ q=>B (.inr q);have o:(((hb x.ask m.core*2 ^ m.core.toNat:Nat)):Int)=0↔ ¬hb x.ask m.core=1:=by
  constructor
  .intro q w;rw[w,Nat.one_mul]at q;omega
  .intro q;rw[show hb x.ask m.core=0 by omega,Ax];rfl
 simp only[aa,bc,k1,k2,F]
 by_cases A:m.k=4
 .have hm:x.may m↔x.ph=1/\hb x.ask m.core=1:=by unfold De.may;rw[qy B,xg A]
  by_cases g:x.ph=1
  .by_cases j:hb x.ask m.core=1
   .have z:=λ w=>o.1 w j;simp only[aa,bc,xb A,qt,c.sC,xb g,c.vX,l,C,X];exact fin ⟨λ _=>hm.2 ⟨g,j⟩,λ _=>yj z⟩ n
   .have z:=o.2 j;simp only[aa,bc,xb A,qt,c.sC,xb g,c.vX,l,C,X,xb z];exact fin ⟨λ q=>Py q,λ q=>absurd (hm.1 q).2 j⟩ n
  .simp only[aa,bc,xb A,qt,c.sC,g];exact fin ⟨λ q=>Py q,λ q=>absurd (hm.1 q).1 g⟩ n
 simp only[aa,bc,A,w26]
 by_cases s:m.k=5
 .have hm:x.may m↔x.ph=2/\x.ow=m.core:=by unfold De.may;rw[qy B,qy A,xg s]
  by_cases g:x.ph=2
  .by_cases j:x.ow=m.core
   .simp only[aa,bc,xb s,qt,c.sC,xb g,c.l0,l,xb j];exact fin ⟨λ _=>hm.2 ⟨g,j⟩,λ _=>rfl⟩ n
   .simp only[aa,bc,xb s,qt,c.sC,xb g,c.l0,l,j];exact fin ⟨λ q=>Py q,λ q=>absurd (hm.1 q).2 j⟩ n
  .simp only[aa,bc,xb s,qt,c.sC,g];exact fin ⟨λ q=>Py q,λ q=>absurd (hm.1 q).1 g⟩ n
 by_cases L:m.k=6
 .have hm:x.may m↔x.ph=2/\hb x.ask m.core=1:=by unfold De.may;rw[qy B,qy A,qy s,xg L]
  by_cases g:x.ph=2
  .by_cases j:hb x.ask m.core=1
   .have z:=λ w=>o.1 w j;simp only[aa,bc,s,xb L,qt,c.sC,xb g,c.vX,l,C,X];exact fin ⟨λ _=>hm.2 ⟨g,j⟩,λ _=>yj z⟩ n
   .have z:=o.2 j;simp only[aa,bc,s,xb L,qt,c.sC,xb g,c.vX,l,C,X,xb z];exact fin ⟨λ q=>Py q,λ q=>absurd (hm.1 q).2 j⟩ n
  .simp only[aa,bc,s,xb L,qt,c.sC,g];exact fin ⟨λ q=>Py q,λ q=>absurd (hm.1 q).1 g⟩ n
 simp only[aa,bc,s,L,w38]
 by_cases K:m.k=3
 .have hm:x.may m↔x.ow=m.core:=by unfold De.may;rw[qy B,qy A,qy s,qy L,xg K]
  by_cases j:x.ow=m.core
  .simp only[aa,bc,xb K,qt,c.l0,l,xb j];exact fin ⟨λ _=>hm.2 j,λ _=>rfl⟩ n
  .simp only[aa,bc,xb K,qt,c.l0,l,j];exact fin ⟨λ q=>Py q,λ q=>absurd (hm.1 q) j⟩ n
 have hm:x.may m↔m.k=7/\x.ph=4/\x.un.core=m.core:=by unfold De.may;rw[qy B,qy A,qy s,qy L,qy K]
 by_cases Q:m.k=7
 .by_cases g:x.ph=4
  .simp only[aa,bc,K,xb Q,qt,c.sC,xb g,c.lU];refine C3.q (Vs x.un l1) λ r Y⟨hr,J⟩=>?_;rw[hr];simp only[aa,bc];exact fin ⟨λ q=>hm.2 ⟨Q,g,by simpa using q⟩,λ q=>by simpa using(hm.1 q).2.2⟩ J
  .simp only[aa,bc,K,xb Q,qt,c.sC,g];exact fin ⟨λ q=>Py q,λ q=>absurd (hm.1 q).2.1 g⟩ n
 .simp only[aa,bc,K,Q,w51];exact fin ⟨λ q=>Py q,λ q=>absurd (hm.1 q).1 Q⟩ n
end
end Go.Am
namespace Go.Am
open Go.Proofs Ca
variable{M:ak}[MK M]
structure TE(t:Nat)(ms:List Mg)(V:Nat->Prop)(Hx:ar):Prop where
 vt:V t
 lt:t<Hx.au
 ls:∃lv,Hx.get t=B1 (OR [lv] tc)/\aT ao xp 11 Hx lv ms /\ ∀z,aM lv z->V z/\t<z
def TE.loc{t:Nat}{ms:List Mg}{V:Nat->Prop}{c Hb:ar}(h:TE t ms V c)(hs:∀x,V x->Hb.get x=c.get x)(hn:c.au<=Hb.au):TE t ms V Hb:=by
 have⟨lv,l1,l2,l3⟩:=h.ls;exact⟨h.vt,qn h.lt hn,lv,by rw[hs _ h.vt];exact l1,Own.fr l2 (⟨hn,λ b _ hw=>hs b (wn.1 hw)⟩:Fr (λ b=>¬V b) c Hb) λ x d w=>w (l3 x d).1,l3⟩
abbrev sy(l:Int)(k:Nat):Mg:=⟨11,(k:Int),l,.zero⟩
def xmn(s:Nat)(l:Int):(wU s).map (λ c=>(⟨11,c,l,.zero⟩:Mg))=(lH s).map (sy l):=by
 rw[M6,AJ];rfl
def Db(s:Nat):(lH s).length<=4:=by
 have:=List.length_filter_le (λ(k:Nat)=>hb s (k:Int) == 1) (N5 4);rw[zw]at this;exact this
section
variable{H:ar}{D mp:Nat}{lv ev:AV}{N:Int}{ws:List L8}{xs:List (De×AV)}{i:Nat}{x:De}{a:AV}
def pC(h:dV H D mp lv ev N ws xs i x a)(m:Mg){w:L8}(hw:ws[m.line.toNat]? = B1 w)(hl:0<=m.line)(hs:x.sh<16)(c0:0<=m.core)(c1:m.core<4)(hk:m.k=1\/m.k=2)(ho:x.ow<4) :
 ze M Oe [.ptr D 0,xA ev i,.agg (ao m)] H λ v H'=>mL H H' v (x.begin m w).2/\dV H' D mp lv ev N ws xs i (x.begin m w).1 a/\Fr (On (aF ev)) H H':=by
 refine q4o ?_;have⟨w0,wa,wb,w4,L,w10,O,w12,w32,w18,w36,w41⟩:=_K M ⟨B5,Oe⟩;have⟨H1,e1,f1,n1,g1⟩:=cq H (OR (ao m) xp);have hev:=h.d.es.lt;have nb:¬H.au=aF ev:=by omega
 have lU:=eH g1 (zj m);have⟨T,s2,C,f2⟩:=(h.em f1).sU m;have m2:=f2.au;have F2:Fr (On (aF ev)) H T:=(f1.mono λ _ _ q=>q.elim).trans f2 λ _ q=>.inl q;have lm:∀{Hx:ar}(k:Nat),Fr (On (aF ev)) T Hx->Op.ae [.ptr H.au k] Hx=(ao m)[k]?:=λ k f=>zd (xe (by rw[f.ah _ (by omega) nb,f2.ah _ (by omega) nb];exact g1)) k;simp only[aa,bc,w0,<-e1,lU,qt,s2,w4,C.l0];unfold De.begin
 by_cases q:0<=x.ow
 .rw [xg q];have s:=Og q ho;have⟨U,S,Q,Y⟩:=C.Pp 2;have⟨c,s4,J,Z⟩:=Q.S9 (2 ^ x.ow.toNat);have l:Fr (On (aF ev)) T c:=Y.trans Z λ _ q=>.inl q;have G:=F2.trans l λ _ q=>.inl q;have l0:Op.ae [.ptr H.au 0] c=B1 (.int .i64 m.k):=lm 0 l;have l2:Op.ae [.ptr H.au 2] c=B1 (.int .i64 m.line):=lm 2 l;have m4:=G.au;have out:∀k:Int,mL H (c.alloc (OR (ao ⟨k,x.ow,m.line,.zero⟩) xp)) (Op.sliceTo 1 1 c.au) [⟨k,x.ow,m.line,.zero⟩]/\dV (c.alloc (OR (ao ⟨k,x.ow,m.line,.zero⟩) xp)) D mp lv ev N ws xs i {x with un:=m,ph:=2,ask:=2 ^ x.ow.toNat} a/\Fr (On (aF ev)) H (c.alloc (OR (ao ⟨k,x.ow,m.line,.zero⟩) xp)):=λ k =>
   ⟨K9 _ m4,J.em ((Fr.refl c).alloc _),G.alloc _⟩
  by_cases k2:m.k=2
  .rw [xg k2];simp only[aa,bc,xb q,C.l0,qt,s,S,s4,w10,w12,l0,xb k2,w18,J.l0,l2,mZ,T4,Ba];exact out 13
  .rw [qy k2];simp only[aa,bc,xb q,C.l0,qt,s,S,s4,w10,w12,l0,k2,w18,J.l0,l2,mZ,T4,Ba];exact out 12
 .rw [qy q];have s:=Og c0 c1;have sd:=Vv hs c0 c1;have⟨U,S,Q,Y⟩:=C.S9 (cR x.sh m.core);have F3:=F2.trans Y λ _ q=>.inl q;have l1:Op.ae [.ptr H.au 1] T=B1 (.int .i64 m.core):=lm 1 (Fr.refl _);have l0:Op.ae [.ptr H.au 0] U=B1 (.int .i64 m.k):=lm 0 Y;have dz:cR x.sh m.core=0↔((cR x.sh m.core:Nat):Int)=0:=by omega
  have tog:m.k=1\/cR x.sh m.core=0->ze M SW [.ptr D 0,xA ev i] U λ v H'=>v=.agg (ao (De.dZ {x with un:=m,ask:=cR x.sh m.core} w).2)/\dV H' D mp lv ev N ws xs i (De.dZ {x with un:=m,ask:=cR x.sh m.core} w).1 a/\Fr (On (aF ev)) U H':=λ _=>E1 Q hw hl hs c0 c1;have F:∀{v:AV}{c:ar},(v=.agg (ao (De.dZ {x with un:=m,ask:=cR x.sh m.core} w).2)/\dV c D mp lv ev N ws xs i (De.dZ {x with un:=m,ask:=cR x.sh m.core} w).1 a/\Fr (On (aF ev)) U c) ->
   mL H (c.alloc (OR (ao (De.dZ {x with un:=m,ask:=cR x.sh m.core} w).2) xp)) (Op.sliceTo 1 1 c.au) [(De.dZ {x with un:=m,ask:=cR x.sh m.core} w).2]/\dV (c.alloc (OR (ao (De.dZ {x with un:=m,ask:=cR x.sh m.core} w).2) xp)) D mp lv ev N ws xs i (De.dZ {x with un:=m,ask:=cR x.sh m.core} w).1 a/\Fr (On (aF ev)) H (c.alloc (OR (ao (De.dZ {x with un:=m,ask:=cR x.sh m.core} w).2) xp)):=λ{v c}⟨_,J,Z⟩=>by
   have G:=F3.trans Z λ _ q=>.inl q;exact⟨K9 _ G.au,J.em ((Fr.refl c).alloc _),G.alloc _⟩
  by_cases R:m.k=1
  .rw [xg (.inl R)];simp only[aa,bc,q,L,C.l1,qt,l1,s,sd,S,O,l0,xb R];refine C3.q (tog (.inl R)) λ v c E=>?_;rw[E.1];simp only[aa,bc,mZ,Ba];exact F E
  by_cases d0:cR x.sh m.core=0
  .rw [xg (.inr d0)];have d1:=dz.1 d0;simp only[aa,bc,q,L,C.l1,qt,l1,s,sd,S,O,l0,R,Q.vX,xb d1];refine C3.q (tog (.inr d0)) λ v c E=>?_;rw[E.1];simp only[aa,bc,mZ,Ba];exact F E
  rw[qy (λ w=>w.elim R d0)];have d1:¬((cR x.sh m.core:Nat):Int)=0:=λ q=>d0 (dz.2 q);have⟨c,s4,J,Z⟩:=Q.Pp 1;have⟨H5,e5,I,n5,g5⟩:=cq c (OR [.nils] tc);have h5:=J.em I;have l:Fr (On (aF ev)) T c:=Y.trans Z λ _ q=>.inl q;have G:=F2.trans l λ _ q=>.inl q;have m24:=l.au;simp only[aa,bc,q,L,C.l1,qt,l1,s,sd,S,O,l0,R,Q.vX,d1,w32,s4,<-e5,w36,h5.vX];refine C3.q (xl6 (cR x.sh m.core)) λ v H7⟨hv,E⟩=>?_;obtain⟨H6,e6,A,-,g6⟩:=cq H5 (OR [uB (cR x.sh m.core)] YJ);rw[<-e6]at E;rw[hv,E];have n6:H6.au=c.au+2:=by rw[e6,xz,n5]
  have g6t:H6.get c.au=B1 (OR [.nils] tc):=by rw[A.ah _ (by omega) id];exact g5
  have h6:=h5.em A;have g6m:H6.get H.au=B1 (OR (ao m) xp):=by
   rw[A.ah _ (by omega) id,I.ah _ (by omega) id,l.ah _ (by omega) nb,f2.ah _ (by omega) nb];exact g1
  have hd16:cR x.sh m.core<16:=(N7 hs c0 c1 (d:=0) (by decide) (by decide)).1;refine iH.iter (fn:=Uq) (lp:=P8) (pa:=Xd 0) (pb:=Wj 0) q0m _u.1 _u.2 (by decide) qxw qxx
   (xi4 g6 (by omega) hd16) (λ j V Hx=>TE c.au (((lH (cR x.sh m.core)).take j).map (sy m.line)) V Hx) (λ _ _ _=>False) (λ z=>z=c.au) (qm _) ?_ ?_ ?_ ?_ ?_ ?_ ?_ ?_
  .rintro z (q|q)
   .exact ⟨by omega,rfl,by omega⟩
   .exact q.elim
  .exact λ z t=>by omega
  .exact ⟨rfl,by omega,.nils,g6t,Own.nil ..,λ z q=>(q.1 rfl).elim⟩
  .exact λ j V Ha Hb hp hs hn=>hp.loc hs hn
  .exact λ e V Ha Hb hp _ _=>hp
  .intro n j lr lb y hy hL2 V u B hV hfc K hLc hgL;rw[xm,xt]at hy;obtain⟨k,hk,rfl⟩:=hy;refine⟨_,rfl,?_⟩;obtain⟨-,wa,wb,-⟩:=_K M ⟨B1 n,Oe⟩;simp only[aa,bc,wa,A6];refine⟨hgL,?_⟩;have fx:Fr (On n) u (u.set n lb):=(Fr.refl u).set (W:=On n) (.inl rfl) _;have gL:(u.set n lb).get n=B1 lb:=xf ..;have nL:(u.set n lb).au=u.au:=rfl;have hP7:=B.loc (Hb:=u.set n lb) (λ y hy=>by rw[kz (λ q:n=y=>K (by rw[q];exact hy))]) (qm _);have gm:(u.set n lb).get H.au=B1 (OR (ao m) xp):=by
    rw[kz (by omega),hfc.ah H.au (by omega) (λ q=>q.elim (λ q=>by omega) id)];exact g6m
   generalize u.set n lb=o at *;have⟨g,l1,l2,l3⟩:=hP7.ls;have lq:Op.ae [.ptr c.au 0] o=B1 g:=zd (xe l1) 0;have ll:Op.ae [.ptr H.au 2] o=B1 (.int .i64 m.line):=zd (xe gm) 2;have mY:(((lH (cR x.sh m.core)).take j).map (sy m.line)).length<=4:=by
    rw[xr,jr];have:=Db (cR x.sh m.core);omega
   simp only[aa,bc,wb,lq,ll,mZ,T4];refine nK (e:=xp) (size:=11) (bytes:=88) l2 (x:=.agg (ao (sy m.line k))) (zj _) (by rw[zt];exact zj _) (by rw[zt];exact ry _) (by decide) (by omega) (by omega) λ r P p hf hfr=>?_;rw[zt]at p;have q8:P.get c.au=B1 (OR [g] tc):=by rw[hf.ah _ hP7.lt λ q=>by have:=(l3 _ q).2;omega];exact l1
   have o1:aB r=true:=by have:=Sl.one (Own.sl p);exact this
   have st:=Ot q8 o1;obtain⟨H9,e9⟩:∃X,X=P.set c.au (OR [r] tc):=⟨_,rfl⟩
   rw[<-e9]at st;have f9:Fr (On c.au) P H9:=by rw[e9];exact(Fr.refl P).set (W:=On c.au) (.inl rfl) _
   simp only[aa,bc,st];have lo':∀y,aM r y->c.au<y:=λ y q=>(hfr y q).elim (λ q=>(l3 y q).2) λ q=>by have:=B.lt;omega
   have nf:=hf.au;have n9:H9.au=P.au:=by rw[e9];rfl
   refine⟨rfl,?_,λ y=>V y\/aM r y,?_,?_,.inl ⟨rfl,⟨.inl B.vt,?_,r,?_,?_,λ y q=>⟨.inr q,lo' y q⟩⟩⟩⟩
   .rw [f9.ah n (by omega) (λ(q:n=c.au)=>K (by rw[q];exact B.vt)),hf.ah n (by omega) λ q=>K (l3 _ q).1];exact gL
   .rintro y (q|q)
    .exact ⟨by have:=(hV y q).1;omega,.inl q⟩
    .refine ⟨by rw[n9];exact Own.lt p y q,?_⟩;rcases hfr y q with w|w
     .exact .inl (l3 y w).1
     .exact .inr (by omega)
   .have a1:Fr (λ b=>V b\/b=n) u o:=fx.mono λ x _ q=>.inr q;exact(a1.trans hf λ x hx=>.inl (.inl (l3 x hx).1)).trans f9 λ x hx=>.inl (.inl (by rw[show x=c.au from hx];exact B.vt))
   .have:=B.lt;omega
   .rw [e9,xf]
   .have hx2:((lH (cR x.sh m.core)).take (j+1)).map (sy m.line)=((lH (cR x.sh m.core)).take j).map (sy m.line) ++ [sy m.line k]:=by rw[kw,hk];simp
    rw[hx2];have ow:aT ao xp 11 P r (((lH (cR x.sh m.core)).take j).map (sy m.line) ++ [sy m.line k]):=by
     unfold aT;rw[qv,js,j6,List.flatMap_nil,zn];exact p
    exact Own.fr ow f9 λ x hx(q:x=c.au)=>by have:=lo' x hx;omega
  .intro d V o hd1 hd2 hgd hfd hVd B;have⟨g,l1,l2,l3⟩:=B.ls;have el:((lH (cR x.sh m.core)).map λ(k:Nat)=>[AV.int .i64 (k:Int)]).length=(lH (cR x.sh m.core)).length:=xr _;rw[el,zi (qm _)]at l2;have lq:Op.ae [.ptr c.au 0] (o.set d (.deferred B5))=B1 g:=zd (xe (show(o.set d (.deferred B5)).get c.au=B1 (OR [g] tc)from by rw[kz (λ q:d=c.au=>by have:=(hVd _ B.vt).2.2;omega)];exact l1)) 0;have lq0:Op.ae [.ptr c.au 0] o=B1 g:=zd (xe l1) 0;have sl2:bR ao 11 (o.set d (.deferred B5)) g ((lH (cR x.sh m.core)).map (sy m.line)):=by
    have fs:Fr (On d) o (o.set d (.deferred B5)):=(Fr.refl o).set (W:=On d) (.inl rfl) _;exact(Own.fr l2 fs λ z t(q:z=d)=>(hVd z (l3 z t).1).2.2 q).sl
   have hx1:dV (o.set d (.deferred B5)) D mp lv ev N ws xs i {x with un:=m,ph:=1,ask:=cR x.sh m.core} a:=by
    refine h.loc h6 ((hfd.mono λ z _ t=>?_).set (.inl (show H.au<=d by omega)) _);rcases t with t|t
    .show H.au<=z;omega
    .exact t.elim
   have fr1:Fr (On (aF ev)) H (o.set d (.deferred B5)):=by
    refine(((G.trans I λ _ q=>q.elim).trans A λ _ q=>q.elim).trans hfd λ z t=>?_).set (.inr (by omega)) _;rcases t with t|t
    .exact .inr (by omega)
    .exact t.elim
   simp only[aa,bc,w41,lq0,Jh];refine⟨hgd,⟨by rw[xmn];exact sl2,λ hne=>?_⟩,hx1,fr1⟩;have hlo:g≠ .nils:=λ q=>by
    rw[xmn]at hne;subst q;have:=l2.1;rw[AW zj]at this;rcases l2.2 with⟨z,-⟩|⟨b,q,-⟩
    .exact hne (jc.1 z)
    .cases q
   have:=(l3 (aF g) ⟨hlo,rfl⟩).2;omega
  .exact λ e d V o _ _ _ _ _ _ hp=>hp.elim
end
end Go.Am
namespace Go.Am
open Go.Proofs Ca
variable{M:ak}[MK M]
section
variable{H:ar}{D mp:Nat}{lv ev:AV}{N:Int}{ws:List L8}{xs:List (De×AV)}{i:Nat}{x:De}{a:AV}
def dV.mem(h:dV H D mp lv ev N ws xs i x a){H':ar}{c:List L8}(hm:AK H' mp lv c)(f:Fr (On (aF lv)) H H')(hl:c.length=ws.length):dV H' D mp lv ev N c xs i x a:=by
 have⟨e1,e2,j,l,e⟩:=h.d.d1;exact⟨h.il,by rw[f.ah _ h.d.lt (λ q=>e2 q)];exact h.d.row,qn h.d.lt f.au,hm,h.d.es.fr f (λ q=>e q.symm),λ k y b hk=>(h.d.wt k y b hk).fr f λ z g q=>(h.d.d2 k y b hk z g).2.2.1 q,h.d.d1,h.d.d2,h.d.d3,by rw[hl];exact h.d.len⟩
def C9(H:ar)(D mp:Nat)(lv ev:AV)(N:Int)(ws:List L8)(xs:List (De×AV))(i:Nat)(a:AV)(r:De×L8×List Mg)(v:AV)(H':ar):Prop :=
 (∃ov e,v=.tuple [ov,e]/\mL H H' ov r.2.2) /\ ∃a',dV H' D mp lv ev N (ws.set i r.2.1) xs i r.1 a'/\Fr (mP D mp lv ev xs) H H' /\ ∀z,aM a' z->aM a z\/H.au<=z
def Rf{ws:List L8}{i:Nat}{w:L8}(h:ws[i]? = B1 w):ws.set i w=ws:=by
 apply yo;intro j
 by_cases q:j=i
 .rw [q,zb (qo.1 h).1,h]
 .rw [zg (nE q)]
def Dt{H1 b:ar}(f:Fr (On (aF ev)) H1 b):Fr (mP D mp lv ev xs) H1 b:=f.mono λ _ _ q=>.inr (.inr (.inr (.inl q)))
def nu{H1 b:ar}(f:Fr (On (aF lv)) H1 b):Fr (mP D mp lv ev xs) H1 b:=f.mono λ _ _ q=>.inr (.inr (.inl q))
def xK{H1 b c:ar}(f:Fr (mP D mp lv ev xs) H1 b)(g:Fr (mP D mp lv ev xs) b c):Fr (mP D mp lv ev xs) H1 c:=f.trans g λ _ q=>.inl q
def pj{E:Env}{r:ar}{y:De}{w':L8}{o:List Mg}{j:AV}{q:Prop}[Decidable q]{b8:Bool}(A:b8=decide q)(J:lk E 8=B1 (.bool b8))(R:lk E 7=B1 j)(U:lk E 0=B1 (.ptr D 0))(b4:lk E 6=B1 (xA ev i))
 (hx:xs[i]? = B1 (x,a)) (h:dV r D mp lv ev N (ws.set i w') xs i y a) (hq:q->(ws.set i w')[y.un.line.toNat]? = B1 w'/\0<=y.un.line/\y.sh<16/\0<=y.un.core/\y.un.core<4)
 (ho:aT ao xp 11 r j o) (hol:o.length<=3) (g:∀z,aM j z->H.au<=z) (f:Fr (mP D mp lv ev xs) H r) (l:∀z,mP D mp lv ev xs z->z<H.au) :
 W M ⟨B5,Gh⟩ (XU 113) B4 (eG M [.tmp 4,.tmp 5] (uZ (C9 H D mp lv ev N ws xs i a (y.vP w' q o)))) E [] r:=by
 obtain⟨-,-,-,-,-,-,-,n,-,p,-⟩:=qtp M ⟨B5,Gh⟩;have B:∀{j:AV}{o:List Mg}{r:ar},aT ao xp 11 r j o->(∀z,aM j z->H.au<=z)->o≠[]->H.au<=aF j:=λ{j o r}S u Y=>by
  refine u _ ⟨λ e=>?_,rfl⟩;subst e;have:=S.1;rw[AW zj]at this;rcases S.2 with⟨z,-⟩|⟨b,q,-⟩
  .exact Y (jc.1 z)
  .cases q
 unfold De.vP
 by_cases I:q
 .have ⟨hw,hl,hs,V,X⟩:=hq I;rw[xg I];rw[A,yj I]at J;simp only[aa,bc,n,J,R,U,b4];refine C3.q (E1 h hw hl hs V X) λ v K⟨hv,u,L⟩=>?_;rw[hv];have P:aT ao xp 11 K j o:=Own.fr ho L λ z c(q:z=aF ev)=>by have:=g z c;have:=l (aF ev) (.inr (.inr (.inr (.inl rfl))));omega
  simp only[aa,bc,mZ];refine nK (e:=xp) (size:=11) (bytes:=88) P (x:=.agg (ao (y.dZ w').2)) (zj _) (by rw[zt];exact zj _) (by rw[zt];exact ry _) (by decide) (by omega) (by omega) λ T Q G Z O=>?_;rw[zt]at G;simp only[aa,bc,p];have t:Fr (Lo H) K Q:=Z.mono λ z _ c=>g z c;have C:aT ao xp 11 Q T (o ++ [(y.dZ w').2]):=by
   unfold aT;rw[qv,js,j6,List.flatMap_nil,zn];exact G
  have hn:H.au<=K.au:=x9 f.au L.au;have F:∀z,aM T z->H.au<=z:=λ z c=>(O z c).elim (λ q=>g z q) λ q=>x9 hn q;have s:∀z,mP D mp lv ev (xs.set i ((y.dZ w').1,a)) z->z<H.au:=λ z c=>by
   refine l z ?_;rcases c with c|c|c|c|⟨k,yy,b,hk,c⟩
   .exact .inl c
   .exact .inr (.inl c)
   .exact .inr (.inr (.inl c))
   .exact .inr (.inr (.inr (.inl c)))
   .by_cases e:k=i
    .subst e;rw[u.here]at hk;injection hk with hk;injection hk with _ hk;subst hk
     exact .inr (.inr (.inr (.inr ⟨k,x,a,hx,c⟩)))
    .rw [zg (nE e)]at hk;exact .inr (.inr (.inr (.inr ⟨k,yy,b,hk,c⟩)))
  refine⟨⟨_,_,rfl,C.sl,λ e=>B C F e⟩,a,⟨u.il,u.d.fr t λ z c q=>?_⟩,?_,λ z c=>.inl c⟩
  .have:=s z q;have c:H.au<=z:=c;omega
  .exact (xK f (Dt L)).trans t λ z c=>.inr c
 .rw [qy I];rw[A,ku I]at J;simp only[aa,bc,n,J,R,p];exact⟨⟨_,_,rfl,ho.sl,λ e=>B ho g e⟩,a,h,f,λ z c=>.inl c⟩
end
end Go.Am
namespace Go.Am
open Go.Proofs Ca
variable{M:ak}[MK M]
def bdA(co l:Int):Op.build (ao ⟨0,0,0,.zero⟩) [(0,1),(1,1),(2,1)] [.int .i64 16,.int .i64 co,.int .i64 l]=B1 (.agg (ao ⟨16,co,l,.zero⟩)):=rfl
def bd8:Op.build (cu .zero) [] []=B1 (.agg (cu .zero)):=rfl
def Ht:Op.build (ao ⟨0,0,0,.zero⟩) [] []=B1 (.agg (ao ⟨0,0,0,.zero⟩)):=rfl
def Gz(m:Mg):(ao m).take 3++(AV.agg (cu .zero)).cells++(ao m).drop (3+8)=ao {m with d:=.zero}:=XE m .zero
section
variable{H:ar}{D mp:Nat}{lv ev:AV}{N:Int}{ws:List L8}{xs:List (De×AV)}{x:De}{a:AV}{m:Mg}{w:L8}{ys:List Mg}
def dV.wait{i:Nat}(h:dV H D mp lv ev N ws xs i x a){b:AV}{ys:List Mg}{H1:ar}(hs:Sk ao xp 11 H1 b ys)(f:Fr (aM a) H H1)(j:∀z,aM b z->aM a z\/H.au<=z)(g:aB b=B4) :
 ∃H',Op.store 1 [.ptr (aF ev) (cZ 16 ev i+15),b] H1=B1 (.undef,H')/\dV H' D mp lv ev N ws xs i {x with wt:=ys} b/\Fr (mP D mp lv ev (xs.set i (x,a))) H H'/\Fr (On (aF ev)) H1 H':=by
 have⟨H',s,r,c,e⟩:=h.d.wait h.here hs f j g;rw[List.set_set]at r;exact⟨H',s,⟨h.il,r⟩,c,e⟩
def Sk.one(h:Sk ao xp 11 H a ys):aB a=true:=by
 rcases h with⟨rfl,-⟩|⟨b,i,alt,r,h⟩
 .rfl
 .rw [h.eq];rfl
def xh{i:Nat}{y:De}(f:xs[i]? = B1 (x,a)){z:Nat}:mP D mp lv ev (xs.set i (y,a)) z↔mP D mp lv ev xs z:=by
 have g:=(qo.1 f).1;have key:(∃(k:Nat)(c:De)(b:AV),(xs.set i (y,a))[k]? = B1 (c,b)/\aM b z)↔ ∃(k:Nat)(c:De)(b:AV),xs[k]? = B1 (c,b)/\aM b z:=by
  constructor
  .rintro ⟨k,c,b,hk,d⟩
   by_cases e:k=i
   .subst e;rw[zb g]at hk;injection hk with hk;injection hk with _ hk;subst hk
    exact⟨k,x,a,f,d⟩
   .rw [zg (nE e)]at hk;exact⟨k,c,b,hk,d⟩
  .rintro ⟨k,c,b,hk,d⟩
   by_cases e:k=i
   .subst e;rw[f]at hk;injection hk with hk;injection hk with _ hk;subst hk
    exact⟨k,y,a,zb g,d⟩
   .exact ⟨k,c,b,by rw[zg (nE e)];exact hk,d⟩
 unfold mP;rw[key]
def xig(h:mK H D mp lv ev N ws xs)(Q:xs[m.line.toNat]? = B1 (x,a))(hw:ws[m.line.toNat]? = B1 w)(I:XI x N m.line)(h0:0<=m.line)(c0:0<=m.core)(c1:m.core<N)(hwl:x.wt.length<=900000) :
 ze M Gh [.ptr D 0,.agg (ao m)] H (C9 H D mp lv ev N ws xs m.line.toNat a (x.bX w m)):=by
 have N4:=I.N4;have c4:m.core<4:=by omega
 have hil:=(qo.1 Q).1;have l:∀z,mP D mp lv ev xs z->z<H.au:=λ z u=>h.low u;refine q7n ?_;have⟨w0,w2,w10,w12,w20,w28,w32,w113,w42,w119,w45,w61,Y,w55,w71,w86,w73,w99,w79⟩:=qtp M ⟨B5,Gh⟩;have⟨H1,e1,f1,n1,g1⟩:=cq H (OR (ao m) xp);have d1:=h.em f1;have l2:Op.ae [.ptr H.au 2] H1=B1 (.int .i64 m.line):=zd (xe g1) 2;have l1:Op.ae [.ptr H.au 1] H1=B1 (.int .i64 m.core):=zd (xe g1) 1;have lN:Op.ae [.ptr D 1] H1=B1 (.int .i64 N):=zd (xe d1.row) 1;have lU:=eH g1 (zj m);have q0:¬m.core<0:=by omega
 have q1:¬N<=m.core:=by omega
 simp only[aa,bc,w0,<-e1,w2,yq,w10,l2];refine C3.q (ah2 d1 h0 (by omega)) λ v A⟨hv,hh⟩=>?_;rw[hv,hh];simp only[aa,bc,w12,yq,l1,q0,qt,lN,q1,w20,lU];have en1:dV H1 D mp lv ev N ws xs m.line.toNat x a:=dV.of d1 Q;refine C3.q (xl1 en1 m c0 c4 I.ab (by omega)) λ v A⟨hv,f2⟩=>?_;rw[hv];have s:=en1.em f2;have F2:Fr Em H A:=f1.trans f2 λ _ q=>q.elim;have m2:=f2.au
 by_cases may:x.may m
 case neg =>
  simp only[aa,bc,may];unfold De.bX;rw[xg may];exact⟨⟨_,_,rfl,.nil ..⟩,a,by rw[Rf hw];exact s,F2.mono λ _ _ q=>q.elim,λ z u=>.inl u⟩
 -- what the box of the message stays under
 have lm:∀{t:ar}(k:Nat),Fr (mP D mp lv ev xs) A t->Op.ae [.ptr H.au k] t=(ao m)[k]?:=λ k f=>zd (xe (by rw[f.ah _ (by omega) (λ q=>by have:=l _ q;omega),f2.ah _ (by omega) id];exact g1)) k;have lD:∀{t:ar},Fr (mP D mp lv ev xs) A t->Op.aq 8 [.ptr H.au 3] t=B1 (.agg (cu m.d)):=λ{t}f=>by
  have g:t.get H.au=B1 (OR (ao m) xp):=by rw[f.ah _ (by omega) (λ q=>by have:=l _ q;omega),f2.ah _ (by omega) id];exact g1
  rw[se (xe g) (by rw[zj];decide)];have⟨k,co,li,⟨d,hd⟩⟩:=m
  match d,hd with
  |[_,_,_,_,_,_,_,_],_=>rfl
 have r2:=Fr.refl (W:=mP D mp lv ev xs) A;have k0:Op.ae [.ptr H.au 0] A=B1 (.int .i64 m.k):=lm 0 r2;have k1r:∀{t:ar},Fr (mP D mp lv ev xs) A t->Op.ae [.ptr H.au 1] t=B1 (.int .i64 m.core):=λ f=>lm 1 f;have k2r:∀{t:ar},Fr (mP D mp lv ev xs) A t->Op.ae [.ptr H.au 2] t=B1 (.int .i64 m.line):=λ f=>lm 2 f;have hwt:=s.d.wt m.line.toNat x a s.here;have bx:=λ z(u:aM a z)=>(l z (.inr (.inr (.inr (.inr ⟨_,x,a,Q,u⟩)))))
 unfold De.bX;rw[qy (λ q=>q may)];have sh1:=Og c0 c4;simp only[aa,bc,may,w28,w32,k0]
 by_cases kg:m.k=1\/m.k=2
 .rw [xg kg]
  -- the message in hand has no words
  have st:Op.store 8 [.ptr H.au 3,.agg (cu .zero)] A=B1 (.undef,A.set H.au (OR (ao {m with d:=.zero}) xp)):=by
   have g:A.get H.au=B1 (OR (ao m) xp):=by rw[f2.ah _ (by omega) id];exact g1
   have:=wK g (o:=3) (n:=8) (v:=.agg (cu .zero)) (by rw[zt];exact yk _) (by rw[zj];decide) (by rw[zt];exact uk _);rw[this,Gz]
  obtain⟨P,e3⟩:∃X,X=A.set H.au (OR (ao {m with d:=.zero}) xp):=⟨_,rfl⟩
  rw[<-e3]at st;have J:Fr (On H.au) A P:=by rw[e3];exact(Fr.refl A).set (W:=On H.au) (.inl rfl) _
  have g3:P.get H.au=B1 (OR (ao {m with d:=.zero}) xp):=by rw[e3,xf]
  have lU3:=eH g3 (zj {m with d:=.zero});have c:dV P D mp lv ev N ws xs m.line.toNat x a:=(dV.of h Q).loc s (J.mono λ z _(q:z=H.au)=>by show H.au<=z;omega);have R:Fr Em H P:=F2.trans (J.mono (W':=Lo H) λ z _(q:z=H.au)=>by show H.au<=z;omega) λ z q=>.inr q;have m3:=J.au;have key:∀{E:Env},lk E 38=B1 (.bool B4)->lk E 3=B1 (.ptr H.au 0)->lk E 6=B1 (xA ev m.line.toNat)->lk E 0=B1 (.ptr D 0)->lk E 4=B1 .nils ->
   W M ⟨B5,Gh⟩ (XU 42) B4 (eY 0 (fm (W M ⟨B5,Gh⟩ (XU 113)) (eG M [.tmp 4,.tmp 5] (uZ (C9 H D mp lv ev N ws xs m.line.toNat a (if x.ph≠0 then({x with wt:=x.wt ++ [{m with d:=.zero}]},w,[])else((x.begin {m with d:=.zero} w).1,w,(x.begin {m with d:=.zero} w).2))))))) E [] A:=by
   intro E b38 b3 b6 b0 b4
   by_cases p0:x.ph=0
   .rw [qy (λ q=>q p0)];simp only[aa,bc,w42,b38,lZ,bd8,b3,st,w45,b6,qt,c.sC,xb p0,w55,b0,lU3];refine C3.q (pC c {m with d:=.zero} hw h0 I.sb c0 c4 kg (by have:=I.ow;omega)) λ v B⟨T,j,f4⟩=>?_;simp only[aa,bc];refine⟨⟨_,_,rfl,T.1,λ q=>x9 R.au (T.2 q)⟩,a,by rw[Rf hw];exact j,(R.mono λ _ _ q=>q.elim).trans (Dt f4) λ _ q=>.inl q,λ z u=>.inl u⟩
   .rw [xg p0];have hsk:=c.d.wt m.line.toNat x a c.here;obtain⟨B,e4,f34,n4,-⟩:=cq P (OR (ao {m with d:=.zero}) xp);have rw1:=Ky (H:=P) {m with d:=.zero};rw[<-e4]at rw1;have sl1:=rw1.sl zj;have⟨v5,H5,s5,Z,f5,o5⟩:=(hsk.em f34).app zj (by decide) (ys:=[{m with d:=.zero}]) (k:=1) (new:=ao {m with d:=.zero}) rfl (by simp) (Sl.eJ sl1) (by have:=Sl.first sl1;simpa using this) (ry _) (bytes:=88) (by omega) (by omega);have f35:Fr (aM a) P H5:=(f34.mono λ _ _ q=>q.elim).trans f5 λ _ q=>.inl q;have⟨H6,s6,en6,f6,f56⟩:=c.wait Z f35 (λ z u=>(o5 z u).elim .inl λ q=>.inr (by omega)) Z.one;simp only[aa,bc,w42,b38,lZ,bd8,b3,st];simp only[aa,bc,w45,b3,b6,qt,c.sC,p0,c.iJ,lU3,mZ,Ba,<-e4,s5,s6];refine⟨⟨_,_,rfl,.nil ..⟩,v5,by rw[Rf hw];exact en6,?_,λ z u=>(o5 z u).elim .inl λ q=>.inr (by have:=R.au;omega)⟩;exact(R.mono λ _ _ q=>q.elim).trans f6 λ z q=>.inl ((xh Q).1 q)
  rcases kg with k|k
  .simp only[aa,bc,xb k];exact key rfl rfl rfl rfl rfl
  .have nk:¬m.k=1:=by omega
   simp only[aa,bc,nk,xb k];exact key rfl rfl rfl rfl rfl
 rw[qy kg];have nk1:¬m.k=1:=λ q=>kg (.inl q);have nk2:¬m.k=2:=λ q=>kg (.inr q);have hm:=may;unfold De.may at hm;rw[qy kg]at hm;have hU:=I.un;have S:∀{y:De}{w':L8},x.ph≠0->y.un=x.un->y.sh<16->(ws.set m.line.toNat w')[y.un.line.toNat]? = B1 w'/\0<=y.un.line/\y.sh<16/\0<=y.un.core/\y.un.core<4:=λ{y w'}p e1 e2=>by
  obtain⟨-,u0,u1,ul⟩:=hU p;have hl:=(qo.1 hw).1;rw[e1];exact⟨by rw[ul,zb hl],by rw[ul];exact h0,e2,u0,by omega⟩
 have K:∀{t:ar}{y:De},dV t D mp lv ev N ws xs m.line.toNat y a->dV t D mp lv ev N (ws.set m.line.toNat w) xs m.line.toNat y a:=λ e=>by rw[Rf hw];exact e
 have full:∀{t:ar},Fr (mP D mp lv ev xs) A t->Fr (mP D mp lv ev xs) H t:=λ f=>(F2.mono λ _ _ q=>q.elim).trans f λ _ q=>.inl q;have G:∀{t:ar},aT ao xp 11 t .nils ([]:List Mg):=Own.nil ..;have F:∀z,aM AV.nils z->H.au<=z:=λ z q=>absurd rfl q.1;simp only[aa,bc,nk1,nk2,w42]
 by_cases k4:m.k=4
 .rw [xg k4]at hm⊢;have sd:=Vv I.sb c0 c4;have sda:=Vv I.ab c0 c4;have⟨P,s3,c,J⟩:=s.s1 (cR x.sh m.core);have⟨B,s4,j,f4⟩:=c.S9 (cR x.ask m.core);have R:=Dt (D:=D) (mp:=mp) (lv:=lv) (xs:=xs) J;have L:=xK R (Dt f4);have dl:cR x.sh m.core<16:=(N7 I.sb c0 c4 (d:=0) (by decide) (by decide)).1;have dd:decide (((cR x.ask m.core:Nat):Int)=0)=decide (cR x.ask m.core=0):=by
   by_cases e:cR x.ask m.core=0
   .rw [e];rfl
   .rw [ku e,ku (by omega)]
  simp only[aa,bc,xb k4,w61,qt,s.l1,k1r r2,sh1,sd,s3,c.vX,k1r R,sda,s4,j.vX];exact pj (q:=cR x.ask m.core=0) dd rfl rfl rfl rfl Q (K j) (λ _=>S (by omega) rfl dl) G (by decide) F (full L) l
 rw[qy k4]at hm⊢
 by_cases Z:m.k=5
 .rw [xg Z]at hm⊢;have zJ:Op.ae [.ptr D 0] A=B1 (.ptr mp 0):=zd (xe s.d.row) 0;have hlen:m.line<ws.length:=by have:=(qo.1 hw).1;omega
  simp only[aa,bc,k4,Y,xb Z,qt,zJ,k2r r2,lD r2];refine C3.q (X2 s.d.me h0 hlen m.d) λ v P⟨hv,hm3,J⟩=>?_;have c:=s.mem hm3 J (xw ..);have R:=nu (D:=D) (mp:=mp) (ev:=ev) (xs:=xs) J;have⟨B,s4,j,f4⟩:=c.s0 (-1);have L:=xK R (Dt f4)
  by_cases u1:x.un.k=1
  .rw [xg u1];have sa:=_W I.sb c0 c4;have⟨H5,s5,en5,f5⟩:=j.s1 (rJ x.sh m.core);have F5:=xK L (Dt f5);simp only[aa,bc,w71,qt,s4,w73,j.l2,xb u1,j.l1,k1r L,sh1,sa,s5,w79];exact pj (q:=True) rfl rfl rfl rfl rfl Q en5 (λ _=>S (by omega) rfl (QK I.sb c0 c4 (d:=0) (by decide) (by decide)).1) G (by decide) F (full F5) l
  .rw [qy u1];simp only[aa,bc,w71,qt,s4,w73,j.l2,u1,w79];exact pj (q:=True) rfl rfl rfl rfl rfl Q j (λ _=>S (by omega) rfl I.sb) G (by decide) F (full L) l
 rw[qy Z]at hm⊢
 by_cases k6:m.k=6
 .rw [xg k6]at hm⊢;have⟨P,s3,c,J⟩:=s.Pp 3;simp only[aa,bc,k4,Y,Z,xb k6,qt,s3,c.l0];exact pj (q:=x.ow<0) rfl rfl rfl rfl rfl Q (K c) (λ _=>S (by omega) rfl I.sb) G (by decide) F (full (Dt J)) l
 rw[qy k6]at hm⊢
 by_cases k3:m.k=3
 .rw [xg k3]at hm⊢;have zJ:Op.ae [.ptr D 0] A=B1 (.ptr mp 0):=zd (xe s.d.row) 0;have hlen:m.line<ws.length:=by have:=(qo.1 hw).1;omega
  simp only[aa,bc,k4,Y,Z,k6,w86,xb k3,qt,zJ,k2r r2,lD r2];refine C3.q (X2 s.d.me h0 hlen m.d) λ v P⟨hv,hm3,J⟩=>?_;have c:=s.mem hm3 J (xw ..);have R:=nu (D:=D) (mp:=mp) (ev:=ev) (xs:=xs) J;have⟨B,s4,j,f4⟩:=c.s0 (-1);have L:=xK R (Dt f4);simp only[aa,bc,qt,s4,k1r L,k2r L,mZ,bdA];refine nK (e:=xp) (size:=11) (bytes:=88) (Own.nil B xp 11) (x:=.agg (ao ⟨16,m.core,m.line,.zero⟩)) (zj _) (by rw[zt];exact zj _) (by rw[zt];exact ry _) (by decide) (by omega) (by omega) λ v5 H5 hv5 hf hfr=>?_;rw[zt]at hv5;have f45:Fr Em B H5:=hf.mono λ z _ u=>absurd rfl u.1;have en5:=j.em f45;have F5:=L.trans f45 λ _ q=>q.elim;have nn:H.au<=B.au:=(full L).au;simp only[aa,bc,qt,en5.sC];refine pj (q:=x.ph=3) rfl rfl rfl rfl rfl Q en5 (λ q=>S (by omega) rfl I.sb) (o:=[⟨16,m.core,m.line,.zero⟩]) ?_ (by simp) (λ z u=>(hfr z u).elim (λ q=>absurd rfl q.1) λ q=>by omega) (full F5) l;unfold aT
  simpa using hv5
 rw[qy k3]at hm⊢;have⟨k7,p4,pu⟩:=hm;have⟨P,s3,c,J⟩:=s.Pp 0;have⟨B,s4,j,f4⟩:=c.sU ⟨0,0,0,.zero⟩;have L:=xK (Dt (D:=D) (mp:=mp) (lv:=lv) (xs:=xs) J) (Dt f4);have hsk:=j.d.wt m.line.toNat _ a j.here;have O:=hsk.len zj;cases C:x.wt with
 |nil =>
  have O:Op.cD [a]=B1 (.int .i64 0):=by rw[O];simp only[C];rfl
  have z00:¬(0:Int)<0:=by decide
  have en4n:dV B D mp lv ev N ws xs m.line.toNat {x with ph:=0,un:=⟨0,0,0,.zero⟩,wt:=[]} a:=by rw[<-C];exact j
  simp only[aa,bc,k4,Y,Z,k6,w86,k3,xb k7,w99,qt,mZ,Ht,s3,s4,j.iJ,O,z00];exact pj (q:=False) (b8:=B2) rfl rfl rfl rfl rfl Q (K en4n) (λ q=>q.elim) G (by decide) F (full L) l
 |cons n r =>
  have hn:=I.wt n (by rw[C];simp);have O:Op.cD [a]=B1 (.int .i64 ((r.length+1:Nat):Int)):=by rw[O];simp only[C];rfl
  have z01:(0:Int)<((r.length+1:Nat):Int):=by omega
  have V:Sk ao xp 11 B a (n::r):=by
   have:({x with ph:=0,un:=⟨0,0,0,.zero⟩}:De).wt=n::r:=C;rw[<-this];exact hsk
  have ix:=(V.sl zj).idx (i:=0) (x:=n) rfl (z:=0) rfl .i64;have ld:=(V.sl zj).aq zj (by decide) (i:=0) (x:=n) rfl;obtain⟨H5,e5,f45,-,g5⟩:=cq B (OR (ao ⟨0,0,0,.zero⟩) xp);have st5:=fG g5 (zj _) (zj n) (ry n);obtain⟨H6,e6⟩:∃X,X=H5.set B.au (OR (ao n) xp):=⟨_,rfl⟩
  rw[<-e6]at st5;have g6:H6.get B.au=B1 (OR (ao n) xp):=by rw[e6,xf]
  have f46:Fr Em B H6:=by rw[e6];exact f45.set (.inr (qm _)) _
  have n6:B.au<H6.au:=by rw[e6,tO,e5,xz];omega
  have en6:=j.em f46;have hsk6:=V.em f46;rcases hsk6 with⟨-,q⟩|⟨b,i,alt,rr,hsb⟩
  .cases q
  obtain⟨v7,alt',s7,U,-⟩:=hsb.off zj (k:=1) (by simp) .i64;have s7:Op.aA 11 [B1 0,B5,B5] [a,.int .i64 1]=B1 v7:=s7;have hon7:∀z,aM v7 z->aM a z:=λ z u=>by rw[U.Ty u];exact hsb.on
  have⟨H8,s8,en8,f8,f68⟩:=en6.wait (ys:=r) (.inr ⟨_,_,_,_,U⟩) (Fr.refl H6) (λ z u=>.inl (hon7 z u)) (by rw[U.eq];rfl);have F6:=L.trans f46 λ _ q=>q.elim;have F8:=F6.trans f8 λ z q=>.inl ((xh Q).1 q);have nev:¬B.au=aF ev:=by have:=l (aF ev) (.inr (.inr (.inr (.inl rfl))));have:=(full L).au;omega
  have l8:Op.aq 11 [.ptr B.au 0] H8=B1 (.agg (ao n)):=eH (by rw[f68.ah _ n6 nev];exact g6) (zj n);simp only[aa,bc,k4,Y,Z,k6,w86,k3,xb k7,w99,qt,mZ,Ht,s3,s4,j.iJ,O,xb z01,ix,ld,<-e5,st5,en6.iJ,s7,s8,l8];have⟨nk,n0,n1',nl⟩:=hn;refine C3.q (pC en8 n (w:=w) (by rw[nl];exact hw) (by rw[nl];exact h0) I.sb n0 (by omega) nk (by have:=I.ow;show x.ow<4;omega)) λ v H9⟨T,en9,f9⟩=>?_;simp only[aa,bc];refine⟨⟨_,_,rfl,T.1,λ q=>x9 (full F8).au (T.2 q)⟩,v7,by rw[Rf hw];exact en9,full (xK F8 (Dt f9)),λ z u=>.inl (hon7 z u)⟩
end
end Go.Am
namespace Go.Am
open Go.Proofs Ca
open Lang (ints)
variable{M:ak}[MK M]
structure Na where
 r:Nat
 b:Nat
 sv:AV
 bv:AV
 ks:List Nat
structure Bs where
 D:Nat
 mp:Nat
 lv:AV
 ev:AV
 xs:List (De×AV)
 nv:AV
 fv:AV
 ad:List Na
def pH(r:Nat):List AV:=[.ptr r 0]
def XW(r:Nat):(pH r).length=1:=rfl
def Na.w(A:Na):Nat->Prop:=iK A.r A.b A.sv A.bv
def Bs.dw(s:Bs):Nat->Prop:=mP s.D s.mp s.lv s.ev s.xs
def gM(B:Nat)(s:Bs)(z:Nat):Prop:=z=B\/s.dw z\/aM s.nv z\/aM s.fv z \/ ∃(c:Nat)(A:Na),s.ad[c]? = B1 A/\A.w z
structure eS(H0 H:ar)(B:Nat)(s:Bs)(b:Bu)(own:Nat->Nat):Prop where
 row:H.get B=B1 (OR [.ptr s.D 0,s.nv,s.fv,.int .i64 (b.l.length:Int)] Mc)
 lt:B<H.au
 d:mK H s.D s.mp s.lv s.ev b.ns.length b.m s.xs
 dx:s.xs.map Prod.fst=b.l
 nv:aT pH Mq 1 H s.nv (s.ad.map Na.r)
 no:∀(c:Nat)(n:No)(A:Na),b.ns[c]? = B1 n->s.ad[c]? = B1 A->de H0 H A.r A.b A.sv A.bv n A.ks
 al:s.ad.length=b.ns.length
 fl:Sk ao xp 11 H s.fv b.fl
 oB:own B=0
 oD:∀z,s.dw z->own z=1
 oN:∀z,aM s.nv z->own z=2
 oF:∀z,aM s.fv z->own z=3
 oC:∀(c:Nat)(A:Na),s.ad[c]? = B1 A -> ∀z,A.w z->own z=4+c
 lo:∀z,gM B s z->H0.au<=z
def de.low{H0 H:ar}{r b:Nat}{sv bv:AV}{n:No}{ks:List Nat}(h:de H0 H r b sv bv n ks){z:Nat}(a:iK r b sv bv z):z<H.au:=by
 rcases a with rfl|(rfl|rfl)|a
 .exact h.lt
 .exact h.ca.lt
 .exact h.ca.sl.lt
 .exact (h.bk.fresh z a).2
section
variable{H0 H:ar}{B:Nat}{s:Bs}{b:Bu}{own:Nat->Nat}
def eS.yT(h:eS H0 H B s b own){c:Nat}{n:No}(hn:b.ns[c]? = B1 n):∃A,s.ad[c]? = B1 A/\de H0 H A.r A.b A.sv A.bv n A.ks:=by
 have hl:=(qo.1 hn).1;have ha:s.ad[c]? = B1 (s.ad[c]'(by rw[h.al];exact hl)):=xc _;exact⟨_,ha,h.no c n _ hn ha⟩
def eS.low(h:eS H0 H B s b own){z:Nat}(a:gM B s z):z<H.au:=by
 rcases a with rfl|a|a|a|⟨c,A,e,a⟩
 .exact h.lt
 .exact h.d.low a
 .exact Own.lt h.nv z a
 .exact h.fl.lt z a
 .have hl:=(qo.1 e).1;have hn:b.ns[c]? = B1 (b.ns[c]'(by rw[<-h.al];exact hl)):=xc _;exact(h.no c _ A hn e).low a
def eS.fr{H':ar}{W:Nat->Prop}(h:eS H0 H B s b own)(f:Fr W H H')(hw:∀z,W z->H0.au<=z /\ ¬gM B s z):eS H0 H' B s b own :=
 ⟨by rw[f.ah _ h.lt (λ q=>(hw _ q).2 (.inl rfl))];exact h.row,qn h.lt f.au,h.d.fr f (λ z q w=>(hw z q).2 (.inr (.inl w))),h.dx,Own.fr h.nv f (λ z a q=>(hw z q).2 (.inr (.inr (.inl a)))),
  λ c n A hn e=>(h.no c n A hn e).off f λ z q=>⟨(hw z q).1,λ w=>(hw z q).2 (.inr (.inr (.inr (.inr ⟨c,A,e,w⟩))))⟩,h.al,h.fl.fr f (λ z a q=>(hw z q).2 (.inr (.inr (.inr (.inl a))))),h.oB,h.oD,h.oN,h.oF,h.oC,h.lo⟩
def eS.em{H':ar}(h:eS H0 H B s b own)(f:Fr Em H H'):eS H0 H' B s b own:=h.fr f λ z q=>q.elim
def eS.l1(h:eS H0 H B s b own):Op.ae [.ptr B 1] H=B1 s.nv:=zd (xe h.row) 1
def eS.l0(h:eS H0 H B s b own):Op.ae [.ptr B 0] H=B1 (.ptr s.D 0):=zd (xe h.row) 0
def eS.l2(h:eS H0 H B s b own):Op.ae [.ptr B 2] H=B1 s.fv:=zd (xe h.row) 2
def eS.l3(h:eS H0 H B s b own):Op.ae [.ptr B 3] H=B1 (.int .i64 (b.l.length:Int)):=zd (xe h.row) 3
def aO(own:Nat->Nat)(n k z:Nat):Nat:=if z<n then own z else k
def eS.node(h:eS H0 H B s b own){c:Nat}{n n':No}{A:Na}{H':ar}(hn:b.ns[c]? = B1 n)(o:s.ad[c]? = B1 A)(E:sF H0 H A.r A.b A.sv A.bv n' H') :
 ∃y t,eS H0 H' B y {b with ns:=b.ns.set c n'} t/\(∀z,gM B y z->gM B s z\/H.au<=z)/\Fr (gM B s) H H':=by
 have⟨l,m,hr,f,hb⟩:=E;have v:=(qo.1 hn).1;have p:=(qo.1 o).1;have D:Fr (gM B s) H H':=f.mono λ z _ q=>.inr (.inr (.inr (.inr ⟨c,A,o,q⟩)));have nw:∀z,iK A.r A.b A.sv A.bv z->own z=4+c:=h.oC c A o;have has:∀(d:Nat)(g:Na),(s.ad.set c {A with bv:=l,ks:=m})[d]? = B1 g->(d=c/\g = {A with bv:=l,ks:=m})\/d≠c/\s.ad[d]? = B1 g:=λ d g e=>by
  by_cases q:d=c
  .subst q;rw[zb p]at e;injection e with e;exact .inl ⟨rfl,e.symm⟩
  .rw [zg (nE q)]at e;exact .inr ⟨q,e⟩
 have x:∀z,gM B {s with ad:=s.ad.set c {A with bv:=l,ks:=m}} z->gM B s z\/H.au<=z:=λ z a=>by
  rcases a with a|a|a|a|⟨d,g,e,a⟩
  .exact .inl (.inl a)
  .exact .inl (.inr (.inl a))
  .exact .inl (.inr (.inr (.inl a)))
  .exact .inl (.inr (.inr (.inr (.inl a))))
  .rcases has d g e with⟨rfl,rfl⟩|⟨q,e⟩
   .rcases a with a|a|a
    .exact .inl (.inr (.inr (.inr (.inr ⟨d,A,o,.inl a⟩))))
    .exact .inl (.inr (.inr (.inr (.inr ⟨d,A,o,.inr (.inl a)⟩))))
    .rcases hb z a with w|w
     .exact .inl (.inr (.inr (.inr (.inr ⟨d,A,o,.inr (.inr w)⟩))))
     .exact .inr w
   .exact .inl (.inr (.inr (.inr (.inr ⟨d,g,e,a⟩))))
 have C:H0.au<=H.au:=by have:=h.lo B (.inl rfl);have:=h.lt;omega
 have ne:∀{z k:Nat},own z=k->k≠4+c -> ¬iK A.r A.b A.sv A.bv z:=λ e1 e2 q=>e2 (by rw[<-e1];exact nw _ q);have ow:∀{z:Nat},z<H.au->aO own H.au (4+c) z=own z:=λ q=>xg q;refine⟨{s with ad:=s.ad.set c {A with bv:=l,ks:=m}},aO own H.au (4+c),⟨?_,qn h.lt f.au,?_,h.dx,?_,λ d n2 g i u=>?_,?_,?_,?_,λ z a=>?_,λ z a=>?_,λ z a=>?_,λ d g e z a=>?_,λ z a=>?_⟩,x,D⟩
 .rw [f.ah _ h.lt (ne h.oB (by omega))];exact h.row
 .simp only[xw];exact h.d.fr f λ z q w=>ne (h.oD z w) (by omega) q
 .have:(s.ad.set c {A with bv:=l,ks:=m}).map Na.r=s.ad.map Na.r:=by
   rw[List.map_set];apply yo;intro j
   by_cases q:j=c
   .rw [q,zb (by rw[xr];exact p),xm,o];rfl
   .rw [zg (nE q)]
  simp only[this];exact Own.fr h.nv f λ z a q=>ne (h.oN z a) (by omega) q
 .have i:(b.ns.set c n')[d]? = B1 n2:=i;rcases has d g u with⟨rfl,rfl⟩|⟨q,e⟩
  .rw [zb v]at i;cases i;exact hr
  .rw [zg (nE q)]at i;refine(h.no d n2 g i e).off f λ z w=>⟨h.lo z (.inr (.inr (.inr (.inr ⟨c,A,o,w⟩)))),λ w2=>?_⟩
   have e1:=h.oC d g e z w2;have e2:=nw z w;omega
 .simp only[xw];exact h.al
 .exact h.fl.fr f λ z a q=>ne (h.oF z a) (by omega) q
 .rw [ow h.lt];exact h.oB
 .rw [ow (h.low (.inr (.inl a)))];exact h.oD z a
 .rw [ow (h.low (.inr (.inr (.inl a))))];exact h.oN z a
 .rw [ow (h.low (.inr (.inr (.inr (.inl a)))))];exact h.oF z a
 .rcases has d g e with⟨rfl,rfl⟩|⟨q,e⟩
  .unfold aO;split
   .rename_i q;rcases a with a|a|a
    .exact nw z (.inl a)
    .exact nw z (.inr (.inl a))
    .rcases hb z a with w|w
     .exact nw z (.inr (.inr w))
     .omega
   .rfl
  .rw [ow (h.low (.inr (.inr (.inr (.inr ⟨d,g,e,a⟩)))))];exact h.oC d g e z a
 .rcases x z a with w|w
  .exact h.lo z w
  .omega
end
end Go.Am
namespace Go.Am
open Go.Proofs Ca
open Lang (ints)
variable{M:ak}[MK M]
def kV(H0 H:ar)(B:Nat)(s:Bs)(b':Bu)(H':ar):Prop:=∃s' aO,eS H0 H' B s' b' aO/\(∀z,gM B s' z->gM B s z\/H.au<=z)/\Fr (gM B s) H H'
section
variable{H0 H:ar}{B:Nat}{s:Bs}{b:Bu}{own:Nat->Nat}
def kV.then{H1 d:ar}{s1:Bs}{e:Bu}(g:Fr (gM B s) H H1)(hs:∀z,gM B s1 z->gM B s z\/H.au<=z)(h:kV H0 H1 B s1 e d):kV H0 H B s e d:=by
 have⟨s2,o2,r,q,f⟩:=h;refine⟨s2,o2,r,λ z a=>(q z a).elim (hs z) λ w=>.inr (x9 g.au w),g.trans f λ z a=>hs z a⟩
def kV.em{H1 a:ar}{d:Bu}(h:kV H0 H B s d H1)(f:Fr Em H1 a):kV H0 H B s d a:=by
 have⟨s2,o2,r,q,g⟩:=h;exact⟨s2,o2,r.em f,q,g.trans f λ _ w=>w.elim⟩
theorem kV.pre{H1 a:ar}{d:Bu}(f:Fr Em H H1)(h:kV H0 H1 B s d a):kV H0 H B s d a:=kV.then (f.mono λ _ _ q=>q.elim) (λ _ q=>.inl q) h
def eS.EN(h:eS H0 H B s b own){H1:ar}{e:AV}{j:List Mg}(hk:Sk ao xp 11 H1 e j)(f:Fr (aM s.fv) H H1)(p:∀z,aM e z->aM s.fv z\/H.au<=z):∃H',Op.store 1 [.ptr B 2,e] H1=B1 (.undef,H')/\kV H0 H B s {b with fl:=j} H':=by
 have t:aB e=true:=hk.one;have ne:∀{z k:Nat},own z=k->k≠3 -> ¬aM s.fv z:=λ e1 e2 q=>e2 (by rw[<-e1];exact h.oF _ q);have E:H1.get B=B1 (OR [.ptr s.D 0,s.nv,s.fv,.int .i64 (b.l.length:Int)] Mc):=by rw[f.ah _ h.lt (ne h.oB (by decide))];exact h.row
 have m:e.cells=[e]:=by cases e<;>first|rfl|cases t
 have st:=wK E (o:=2) (n:=1) (v:=e) (by rw[m];rfl) (by simp) (by rw[m,vh];simpa using t);rw[m]at st;have C:Fr (gM B s) H H1:=f.mono λ z _ q=>.inr (.inr (.inr (.inl q)));have y:H0.au<=H.au:=by have:=h.lo B (.inl rfl);have:=h.lt;omega
 have u:∀z,gM B {s with fv:=e} z->gM B s z\/H.au<=z:=λ z a=>by
  rcases a with a|a|a|a|a
  .exact .inl (.inl a)
  .exact .inl (.inr (.inl a))
  .exact .inl (.inr (.inr (.inl a)))
  .rcases p z a with w|w
   .exact .inl (.inr (.inr (.inr (.inl w))))
   .exact .inr w
  .exact .inl (.inr (.inr (.inr (.inr a))))
 have ow:∀{z:Nat},z<H.au->aO own H.au 3 z=own z:=λ q=>xg q;have g:Fr (On B) H1 (H1.set B (OR ([AV.ptr s.D 0,s.nv,s.fv,.int .i64 (b.l.length:Int)].take 2 ++ [e] ++ [AV.ptr s.D 0,s.nv,s.fv,.int .i64 (b.l.length:Int)].drop (2+1)) Mc)):=(Fr.refl H1).set (W:=On B) (.inl rfl) _;have x:∀{z k:Nat},own z=k->k≠0 -> ¬z=B:=λ e1 e2 q=>e2 (by rw[<-e1,q];exact h.oB);refine⟨_,st,{s with fv:=e},aO own H.au 3,⟨xf ..,?_,?_,h.dx,?_,λ c n A hn i=>?_,h.al,?_,?_,λ z a=>?_,λ z a=>?_,λ z a=>?_,λ c A i z a=>?_,λ z a=>?_⟩,u,C.trans g λ z q=>.inl (.inl q)⟩
 .exact qn h.lt (x9 f.au g.au)
 .exact (h.d.fr f λ z q w=>ne (h.oD z w) (by decide) q).fr g λ z q w=>x (h.oD z w) (by decide) q
 .exact Own.fr (Own.fr h.nv f λ z a q=>ne (h.oN z a) (by decide) q) g λ z a q=>x (h.oN z a) (by decide) q
 .refine ((h.no c n A hn i).off f λ z w=>⟨h.lo z (.inr (.inr (.inr (.inl w)))),λ w2=>?_⟩).off g λ z w=>?_
  .have:=h.oC c A i z w2;have:=h.oF z w;omega
  .have w:z=B:=w;refine⟨by rw[w];exact h.lo B (.inl rfl),λ w2=>?_⟩;have:=h.oC c A i z w2;rw[w,h.oB]at this;omega
 .refine hk.fr g λ z a q=>?_;have q:z=B:=q;rcases p z a with w|w
  .rw [q]at w;exact ne h.oB (by decide) w
  .have:=h.lt;omega
 .rw [ow h.lt];exact h.oB
 .rw [ow (h.low (.inr (.inl a)))];exact h.oD z a
 .rw [ow (h.low (.inr (.inr (.inl a))))];exact h.oN z a
 .unfold aO;split
  .rcases p z a with w|w
   .exact h.oF z w
   .omega
  .rfl
 .rw [ow (h.low (.inr (.inr (.inr (.inr ⟨c,A,i,a⟩)))))];exact h.oC c A i z a
 .rcases u z a with w|w
  .exact h.lo z w
  .omega
def DG(l:List Mg):aN (l.flatMap ao)=true:=by
 rw[vh,List.all_flatMap,Gm];intro x _;have:=ry x;rw[vh]at this;exact this
def WD(h:eS H0 H B s b own){a:AV}{ms:List Mg}(hm:bR ao 11 H a ms)(hl:b.fl.length+ms.length<=1000000):ze M Y3 [.ptr B 0,a] H λ _ H'=>kV H0 H B s {b with fl:=b.fl++ms} H':=by
 refine q7k ?_;have⟨v1,H1,s1,e,d,o1⟩:=h.fl.app zj (by decide) (ys:=ms) rfl rfl (Sl.eJ hm) (Sl.first hm) (DG ms) (bytes:=88) (by omega) (by omega);have⟨g,s2,f⟩:=h.EN e d o1;simp only[aa,bc,q7l,qt,h.l2,s1,s2];exact f
def Gw(h:eS H0 H B s b own)(k:b.ns.length<=4)(c:Int):ze M VH [.ptr B 0,.int .i64 c] H λ v H'=>H'=H/\((0<=c/\c<b.ns.length -> ∃A,s.ad[c.toNat]? = B1 A/\v=.tuple [.ptr A.r 0,.int .i64 0])/\(¬(0<=c/\c<b.ns.length)->v=.tuple [.nilp,.int .i64 2])):=by
 refine xcg ?_;obtain⟨w0,w2,f⟩:=xch M ⟨B5,VH⟩;have a:=h.nv.sl.len;rw[xr,h.al]at a
 by_cases e:c<0
 .simp only[aa,bc,w0,w2,yq,xb e];exact⟨λ q=>by omega,λ _=>trivial⟩
 by_cases j:((b.ns.length:Nat):Int)<=c
 .simp only[aa,bc,w0,w2,yq,e,qt,h.l1,a,xb j];exact⟨λ q=>by omega,λ _=>trivial⟩
 have d:c.toNat<s.ad.length:=by rw[h.al];omega
 have g:s.ad[c.toNat]? = B1 (s.ad[c.toNat]):=xc d;have i:(s.ad.map Na.r)[c.toNat]? = B1 (s.ad[c.toNat]).r:=by rw[xm,g];rfl
 have ix:=h.nv.sl.idx i (z:=c) (by omega) .i64;have ld:=h.nv.sl.jQ XW i (by decide);have ld:Op.ae [.ptr (aF s.nv) (cZ 1 s.nv c.toNat)] H=B1 (.ptr (s.ad[c.toNat]).r 0):=ld;simp only[aa,bc,w0,w2,yq,e,qt,h.l1,a,j,f,ix,ld];exact⟨λ _=>⟨_,g,rfl⟩,λ q=>absurd ⟨by omega,by omega⟩ q⟩
end
end Go.Am
namespace Go.Am
open Go.Proofs Ca
open Lang (ints)
variable{M:ak}[MK M]
def No.jM(n:No)(a o:Int):Bool×Bool×Int:=if n.may a then if n.live then(B2,B2,41)else if n.owned (No.ln a)then(decide ((n.c.word a.toNat).2.getD 0=o),B4,0)else(B2,B2,0)else(B2,B2,2)
section
variable{H0 H:ar}{r b:Nat}{sv bv:AV}{n:No}{ks:List Nat}
def xe5(h:de H0 H r b sv bv n ks):ze M U0 [.ptr r 0] H λ v H'=>v=.int .i64 (if n.live=B4 then 41 else 0)/\de H0 H' r b sv bv n.begin ks/\Fr (iK r b sv bv) H H':=by
 refine qyb ?_;obtain⟨w0,w2,a⟩:=qyc M ⟨B5,U0⟩;have iJ:=h.iJ;unfold No.begin;cases hl:n.live with
 |true =>
  rw[hl]at iJ;simp only[aa,bc,w0,w2,yq,qt,iJ];exact⟨h,Fr.refl _⟩
 |false =>
  rw[hl]at iJ;have⟨j,s2,f,d⟩:=h.ub B4;have⟨k,i,g,e⟩:=f.zH 0;simp only[aa,bc,w0,w2,yq,qt,iJ,a,s2,i];exact⟨by first|rfl|trivial|(simp),by rw[qy (by decide)];exact g,jW (Nb d) (Nb e)⟩
def xa7(h:de H0 H r b sv bv n ks):ze M YC [.ptr r 0] H λ v H'=>v=.int .i64 (if n.live=B4 then 0 else 40)/\de H0 H' r b sv bv n.bF ks/\Fr (iK r b sv bv) H H':=by
 refine qwh ?_;obtain⟨w0,w2,d⟩:=qwi M ⟨B5,YC⟩;have iJ:=h.iJ;unfold No.bF;cases hl:n.live with
 |false =>
  rw[hl]at iJ;simp only[aa,bc,w0,w2,yq,qt,iJ];exact⟨by first|rfl|trivial|(simp),by rw[qy (by decide)];exact h,Fr.refl _⟩
 |true =>
  rw[hl]at iJ;simp only[aa,bc,w0,w2,yq,qt,iJ,d,h.l2];refine C3.q (_Y h.ca h.len) λ _ H1⟨g,e⟩=>?_;have a:=h.iD g e (by show(n.c.sl.map qY).length<=40;rw[xr];exact h.len);have⟨j,s2,i,f⟩:=a.ub B2;simp only[aa,bc,qt,s2];exact⟨i,jW (xL e) (Nb f)⟩
def Af(H0 H:ar)(r b:Nat)(sv bv:AV)(n:No)(ks:List Nat)(a o y:Int)(v:AV)(H':ar):Prop:=(∃ov,v=.tuple [.bool (n.jM a o).1,.bool (n.jM a o).2.1,ov,.int .i64 (n.jM a o).2.2]/\mL H H' ov (n.oI a o y).2)/\de H0 H' r b sv bv (n.oI a o y).1 ks/\Fr (iK r b sv bv) H H'
def xlq(h:de H0 H r b sv bv n ks)(m:CI n.lines n.c)(hk:n.aL.length<=900000)(hu:n.c.us+2<=1000000)(a o y:Int):ze M Zn [.ptr r 0,.int .i64 a,.int .u64 o,.int .u64 y] H (Af H0 H r b sv bv n ks a o y):=by
 refine q54 ?_;obtain⟨w0,w2,w,E,F,G,x,z⟩:=q55 M ⟨B5,Zn⟩;simp only[aa,bc,w0,w2];refine C3.q (V9 h a) λ v H1⟨u,P⟩=>?_;rw[u,P]
 by_cases hm:n.may a
 case neg =>
  have j:n.oI a o y=(n,[]):=by unfold No.oI;rw[qy hm]
  have ev:n.jM a o=(B2,B2,2):=by unfold No.jM;rw[qy hm]
  have T:¬(2:Int)=0:=by decide
  rw[qy hm];unfold Af;rw[j,ev];simp only[aa,bc,T];exact⟨⟨.nils,rfl,mL.nil ..⟩,h,Fr.refl _⟩
 rw[xg hm];have hl:=h.li;have⟨K,S⟩:=hm;obtain⟨e,rfl⟩:=jk K;have l:e<1000000:=by omega
 have g:n.may (e:Int):=⟨K,S⟩
 have k:No.ln (e:Int)=((e / 8:Nat):Int):=rfl;have W:=xb (show(0:Int)=0 from rfl);have iJ:=h.iJ;cases f:n.live with
 |true =>
  have j:n.oI (e:Int) o y=(n,[]):=by unfold No.oI;rw[xg g,f];rfl
  have ev:n.jM (e:Int) o=(B2,B2,41):=by unfold No.jM;rw[xg g,f];rfl
  rw[f]at iJ;unfold Af;rw[j,ev];simp only[aa,bc,w,qt,iJ];exact⟨⟨.nils,rfl,mL.nil ..⟩,h,Fr.refl _⟩
 |false =>
  rw[f]at iJ;simp only[aa,bc,w,qt,iJ,E,AB l,F];refine C3.q (q87 (line:=((e / 8:Nat):Int)) h m) λ v H1⟨u,A⟩=>?_;rw[u];have hb:=h.em A;cases ho:n.owned ((e / 8:Nat):Int)with
  |false =>
   have j:n.oI (e:Int) o y=n.ask 2 ((e / 8:Nat):Int):=by
    unfold No.oI;rw[xg g,f,k,ho];rfl
   have ev:n.jM (e:Int) o=(B2,B2,0):=by unfold No.jM;rw[xg g,f,k,ho];rfl
   simp only[aa,bc];refine C3.q (U6 hb hk 2 ((e / 8:Nat):Int)) λ v U⟨t,hn,C⟩=>?_;unfold Af;rw[j,ev];simp only[aa,bc];exact⟨⟨v,rfl,t.1,λ q=>x9 A.au (t.2 q)⟩,hn,jW (nI A) C⟩
  |true =>
   have⟨i,hp,Q⟩:=xnd ho;have hw:(n.c.word e).2=B1 ((n.c.en i).d.get (e % 8)):=by unfold Ca.word;rw[hp]
   have j:n.oI (e:Int) o y=({n with c:=if(n.c.en i).d.get (e % 8)=o then(n.c.word e).1.put e y else(n.c.word e).1},[]):=by
    unfold No.oI;rw[xg g,f,k,ho,qy (by decide),xg rfl];simp only[HC,hw,vp]
   have ev:n.jM (e:Int) o=(decide ((n.c.en i).d.get (e % 8)=o),B4,0):=by
    unfold No.jM;rw[xg g,f,k,ho,qy (by decide),xg rfl];simp only[HC,hw,vp]
   simp only[aa,bc,G,qt,hb.l2];refine C3.q (xen hb.ca m (by omega) l) λ v L⟨u,N,I⟩=>?_;rw[u];have hn:=hb.iD N I (by rw[(R4 ..).1];exact h.len);unfold zO;rw[hp];have p:Fr (iK r b sv bv) H L:=jW (nI A) (xL I)
   by_cases q:(n.c.en i).d.get (e % 8)=o
   .rw [xg q]at j;rw[yj q]at ev;simp only[aa,bc,xj,x,xb q,qt,hn.l2];refine C3.q (xh0 hn.ca (m.word e) (by show(n.c.word e).1.us+1<=1000000;have:=(R4 n.c e).2;omega) l y) λ v V⟨R,O,J⟩=>?_;have D:=hn.iD O J (by rw[(S6 ..).1,(R4 ..).1];exact h.len);unfold Af;rw[j,ev];simp only[aa,bc,z,xb q];exact⟨⟨.nils,rfl,mL.nil ..⟩,D,jW p (xL J)⟩
   .rw [qy q]at j;rw[ku q]at ev;unfold Af;rw[j,ev];simp only[aa,bc,xj,x,q,z];exact⟨⟨.nils,rfl,mL.nil ..⟩,hn,p⟩
end
end Go.Am
namespace Go.Am
open Go.Proofs Ca
open Lang (ints)
variable{M:ak}[MK M]
structure BB(b:Bu):Prop where
 N4:b.ns.length<=4
 fl:b.fl.length<=900000
 no:∀(c:Nat)n,b.ns[c]? = B1 n->n.NI/\n.aL.length<=900000/\n.c.us+2<=1000000
def XT(n:No)(k l:Int):(n.ask k l).2.length<=1:=by unfold No.ask;split<;>simp
def xhm(n:No)(a:Int):(n.load a).2.2.2.1.length<=1:=by
 unfold No.load;split
 .cases n.c.find (No.ln a)with
  |none=>exact XT ..
  |some x=>simp
 .simp
def xei(n:No)(a y:Int):(n.store a y).2.2.1.length<=1:=by
 unfold No.store;split
 .split
  .simp
  .exact XT ..
 .simp
def xlp(n:No)(a o y:Int):(n.oI a o y).2.length<=1:=by
 unfold No.oI;split
 .split
  .simp
  .split
   .simp
   .exact XT ..
 .simp
def xhg(n:No)(x:En):(n.gone x).2.length<=1:=by unfold No.gone;split<;>simp
def _4(n:No)(l:Int):(n.di l).2.length<=1:=by
 unfold No.di;split
 .simp
 .cases n.c.find l with
  |none=>simp
  |some x=>exact xhg ..
def Ei(n:No)(m:Mg):(n.fill m).2.length<=1:=by
 have:∀(n:No)st,(n.d8 m st).2.length<=1:=λ n st=>by
  unfold No.d8;split
  .exact xhg ..
  .simp
 unfold No.fill No.mW;generalize(if m.k=15 then(2:Int)else 1)=st;split<;>exact this _ _
def o_(n:No)(m:Mg):(n.bX m).2.length<=2:=by
 unfold No.bX;split;· simp
 split;· simp
 split
 .cases n.c.find m.line with
  |none=>simp
  |some x=>simp only;split<;>simp
 split;· simp
 cases n.c.find m.line with
 |some x=>simp
 |none =>
  have:=Ei {n with out:=⟨0,0,0,.zero⟩} m;simp only[qv,zz,j7];omega
section
variable{H0 H:ar}{B:Nat}{s:Bs}{b:Bu}{own:Nat->Nat}{c:Int}{n:No}
def de.t{r b:Nat}{sv bv:AV}{n':No}{ks:List Nat}{H':ar}(h:de H0 H' r b sv bv n' ks)(f:Fr (iK r b sv bv) H H'):sF H0 H r b sv bv n' H':=⟨bv,ks,h,f,λ _ q=>.inl q⟩
def eS.out(h:eS H0 H B s b own)(hb:BB b){c:Nat}{n n':No}{A:Na}{H1:ar}{a:AV}{ms:List Mg}(hn:b.ns[c]? = B1 n)(f:s.ad[c]? = B1 A)(j:sF H0 H A.r A.b A.sv A.bv n' H1)(hm:mL H H1 a ms)(hl:ms.length<=2){Q:AV->ar->Prop}{r:AV}
 (g:∀{H'},kV H0 H B s (b.put c (n',ms)) H'->Q r H'):ze M Y3 [.ptr B 0,a] H1 λ _ H'=>Q r H':=by
 have⟨l,o',e,k,d⟩:=h.node hn f j;have i:=hb.fl;exact(WD e hm.1 (by show b.fl.length+ms.length<=1000000;omega)).mono λ v H' hp=>g (kV.then d k hp)
def Aw(hn:b.ns[c.toNat]? = B1 n)(a:0<=c):0<=c/\c<b.ns.length:=by have:=(qo.1 hn).1;omega
def xkz(h:eS H0 H B s b own)(hb:BB b)(j:0<=c)(hn:b.ns[c.toNat]? = B1 n)(a:Int):ze M SE [.ptr B 0,.int .i64 c,.int .i64 a] H λ v H'=>v=.tuple [.int .u64 (n.load a).2.1,.bool (n.load a).2.2.1,.int .i64 (n.load a).2.2.2.2]/\kV H0 H B s (b.put c.toNat ((n.load a).1,(n.load a).2.2.2.1)) H':=by
 refine q7g ?_;obtain⟨w0,w4,g⟩:=q7h M ⟨B5,SE⟩;simp only[aa,bc,w0];refine C3.q (Gw h hb.N4 c) λ v H1⟨m,k,_⟩=>?_;have⟨A,i,o⟩:=k (Aw hn j);rw[o,m];have y:=xb (show(0:Int)=0 from rfl);have⟨ni,bk,us⟩:=hb.no _ n hn;have p:=h.no _ n A hn i;simp only[aa,bc,xj,w4,g];refine C3.q (xmv p ni.ci bk (by omega) a) λ v u⟨⟨x,f,d⟩,e,l⟩=>?_;rw[f];simp only[aa,bc,xj];refine C3.q (h.out hb hn i (e.t l) d (by have:=xhm n a;omega) (Q:=λ _ H'=>kV H0 H B s (b.put c.toNat ((n.load a).1,(n.load a).2.2.2.1)) H') (r:=.nils) id) λ v w hp=>?_;simp only[aa,bc];exact hp
def xis(h:eS H0 H B s b own)(hb:BB b)(j:0<=c)(hn:b.ns[c.toNat]? = B1 n)(a y:Int):ze M UI [.ptr B 0,.int .i64 c,.int .i64 a,.int .u64 y] H λ v H'=>v=.tuple [.bool (n.store a y).2.1,.int .i64 (n.store a y).2.2.2]/\kV H0 H B s (b.put c.toNat ((n.store a y).1,(n.store a y).2.2.1)) H':=by
 refine q4b ?_;obtain⟨w0,w4,g⟩:=q4c M ⟨B5,UI⟩;simp only[aa,bc,w0];refine C3.q (Gw h hb.N4 c) λ v H1⟨m,k,_⟩=>?_;have⟨A,i,o⟩:=k (Aw hn j);rw[o,m];have z:=xb (show(0:Int)=0 from rfl);have⟨ni,bk,us⟩:=hb.no _ n hn;have p:=h.no _ n A hn i;simp only[aa,bc,xj,w4,g];refine C3.q (xkl p ni.ci bk (by omega) a y) λ v u⟨⟨x,f,d⟩,e,l⟩=>?_;rw[f];simp only[aa,bc,xj];refine C3.q (h.out hb hn i (e.t l) d (by have:=xei n a y;omega) (Q:=λ _ H'=>kV H0 H B s (b.put c.toNat ((n.store a y).1,(n.store a y).2.2.1)) H') (r:=.nils) id) λ v w hp=>?_;simp only[aa,bc];exact hp
def DZ(h:eS H0 H B s b own)(hb:BB b)(j:0<=c)(hn:b.ns[c.toNat]? = B1 n)(a o y:Int):ze M UQ [.ptr B 0,.int .i64 c,.int .i64 a,.int .u64 o,.int .u64 y] H λ v H'=>v=.tuple [.bool (n.jM a o).1,.bool (n.jM a o).2.1,.int .i64 (n.jM a o).2.2]/\kV H0 H B s (b.put c.toNat (n.oI a o y)) H':=by
 refine q92 ?_;obtain⟨w0,w4,g⟩:=q93 M ⟨B5,UQ⟩;simp only[aa,bc,w0];refine C3.q (Gw h hb.N4 c) λ v H1⟨m,k,_⟩=>?_;have⟨A,i,p⟩:=k (Aw hn j);rw[p,m];have C:=xb (show(0:Int)=0 from rfl);have⟨ni,bk,us⟩:=hb.no _ n hn;have u:=h.no _ n A hn i;simp only[aa,bc,xj,w4,g];refine C3.q (xlq u ni.ci bk us a o y) λ v w⟨⟨z,f,d⟩,e,l⟩=>?_;rw[f];simp only[aa,bc,xj];refine C3.q (h.out hb hn i (e.t l) d (by have:=xlp n a o y;omega) (Q:=λ _ H'=>kV H0 H B s (b.put c.toNat (n.oI a o y)) H') (r:=.nils) id) λ v x hp=>?_;simp only[aa,bc];exact hp
def xb5(h:eS H0 H B s b own)(hb:BB b)(e:0<=c)(hn:b.ns[c.toNat]? = B1 n):ze M T0 [.ptr B 0,.int .i64 c] H λ v H'=>v=.bool n.live/\H'=H:=by
 refine q7e ?_;simp only[aa,bc,q7f];refine C3.q (Gw h hb.N4 c) λ v H1⟨i,f,_⟩=>?_;have⟨A,g,j⟩:=f (Aw hn e);rw[j,i];have k:=h.no _ n A hn g;simp only[aa,bc,xj];refine C3.q (xmt k) λ v l⟨d,a⟩=>?_;rw[d,a];simp only[aa,bc]
end
end Go.Am
namespace Go.Am
open Go.Proofs Ca
open Lang (ints)
variable{M:ak}[MK M]
def Bu.wN(b:Bu)(i:Nat):Bu:=match b.fl[i]? with
 |none=>b
 |some m=>if m.k<=7 then match b.l[m.line.toNat]?,b.m[m.line.toNat]? with
  |some x,B1 w=>{b with m:=b.m.set m.line.toNat (x.bX w m).2.1,l:=b.l.set m.line.toNat (x.bX w m).1,fl:=b.fl.eraseIdx i++(x.bX w m).2.2}
  |_,_=>b
  else match b.ns[m.core.toNat]? with
   |some n=>{b with ns:=b.ns.set m.core.toNat (n.bX m).1,fl:=b.fl.eraseIdx i++(n.bX m).2}
   |none=>b
section
variable{H0 H:ar}{B:Nat}{s:Bs}{b:Bu}{own:Nat->Nat}{c:Int}{n:No}
def eS.quiet(h:eS H0 H B s b own){c:Nat}{n n':No}{A:Na}{H1:ar}(hn:b.ns[c]? = B1 n)(e:s.ad[c]? = B1 A)(f:sF H0 H A.r A.b A.sv A.bv n' H1):kV H0 H B s (b.put c (n',[])) H1:=by
 have⟨i,o',d,g,a⟩:=h.node hn e f;refine⟨i,o',?_,g,a⟩;have:b.put c (n',[]) = {b with ns:=b.ns.set c n'}:=by unfold Bu.put;simp
 rw[this];exact d
def Tk{H1:ar}{e:AV}{n':No}(h:eS H0 H B s b own)(hb:BB b)(k:0<=c)(hn:b.ns[c.toNat]? = B1 n){f:Nat}{cap:List AV}
 (m:∀{A:Na},s.ad[c.toNat]? = B1 A->ze M f ([AV.ptr A.r 0]++cap) H λ v H'=>v=e/\de H0 H' A.r A.b A.sv A.bv n' A.ks/\Fr (iK A.r A.b A.sv A.bv) H H'):ze M R9 [.ptr B 0,.int .i64 c,.fn (.func f) [] cap] H λ v H'=>v=e/\kV H0 H B s (b.put c.toNat (n',[])) H':=by
 refine _h ?_;obtain⟨w0,w4,i⟩:=qtl M ⟨B5,R9⟩;simp only[aa,bc,w0];refine C3.q (Gw h hb.N4 c) λ v H1⟨o,l,_⟩=>?_;have⟨A,j,p⟩:=l (Aw hn k);rw[p,o];have w:=xb (show(0:Int)=0 from rfl);simp only[aa,bc,xj,w4,i];refine C3.q (m j) λ v u⟨g,d,a⟩=>?_;rw[g];simp only[aa,bc];exact h.quiet hn j (d.t a)
def HZ(h:eS H0 H B s b own)(hb:BB b)(d:¬(0<=c/\c<b.ns.length))(fv:AV):ze M R9 [.ptr B 0,.int .i64 c,fv] H λ v H'=>v=.int .i64 2/\H'=H:=by
 refine _h ?_;obtain⟨w0,w4,g⟩:=qtl M ⟨B5,R9⟩;simp only[aa,bc,w0];refine C3.q (Gw h hb.N4 c) λ v H1⟨e,_,a⟩=>?_;rw[a d,e];have f:¬(2:Int)=0:=by decide
 simp only[aa,bc,xj,w4,f]
def xie(h:eS H0 H B s b own)(hb:BB b)(a:0<=c)(hn:b.ns[c.toNat]? = B1 n):ze M Tc [.ptr B 0,.int .i64 c] H λ v H'=>v=.int .i64 (if n.live=B4 then 41 else 0)/\kV H0 H B s (b.put c.toNat (n.begin,[])) H':=by
 refine q39 ?_;simp only[aa,bc,q4a];refine C3.q (Tk (H1:=H) h hb a hn (cap:=[]) λ{A}d=>xe5 (h.no _ n A hn d)) λ v f⟨e,hp⟩=>?_;rw[e];simp only[aa,bc];exact hp
def xet(h:eS H0 H B s b own)(hb:BB b)(a:0<=c)(hn:b.ns[c.toNat]? = B1 n):ze M Uf [.ptr B 0,.int .i64 c] H λ v H'=>v=.int .i64 (if n.live=B4 then 0 else 40)/\kV H0 H B s (b.put c.toNat (n.bF,[])) H':=by
 refine qz4 ?_;simp only[aa,bc,qz5];refine C3.q (Tk (H1:=H) h hb a hn (cap:=[]) λ{A}d=>xa7 (h.no _ n A hn d)) λ v f⟨e,hp⟩=>?_;rw[e];simp only[aa,bc];exact hp
def q3z{A:Na}{t:Nat}{k:Int}(d:de H0 H A.r A.b A.sv A.bv n A.ks)(hl:Op.ae [.ptr t 0] H=B1 (.int .i64 k)):ze M Jf ([.ptr A.r 0] ++ [.ptr t 0]) H λ v H'=>v=.int .i64 (n.abort k).2/\de H0 H' A.r A.b A.sv A.bv (n.abort k).1 A.ks/\Fr (iK A.r A.b A.sv A.bv) H H':=by
 refine qxh ?_;simp only[aa,bc,qxi,hl];refine C3.q (xic d k) λ v e⟨a,hp⟩=>?_;rw[a];simp only[aa,bc];exact hp
def q9k(h:eS H0 H B s b own)(hb:BB b)(f:0<=c)(hn:b.ns[c.toNat]? = B1 n)(k:Int):ze M Oq [.ptr B 0,.int .i64 c,.int .i64 k] H λ v H'=>kV H0 H B s (b.put c.toNat ((n.abort k).1,[])) H':=by
 refine Xv ?_;obtain⟨H1,e1,a,-,g⟩:=cq H (OR [.int .i64 k] cE);have ca:AV.cells (.int .i64 k)=[.int .i64 k]:=rfl;have l1:Op.ae [.ptr H.au 0] H1=B1 (.int .i64 k):=zd (xe g) 0;have mk:Op.bt Jf 0 [.ptr H.au 0]=B1 (.fn (.func Jf) [] [.ptr H.au 0]):=rfl;simp only[aa,bc,Vw,ca,<-e1];have d:=h.em a;refine C3.q (Tk (H1:=H1) (e:=.int .i64 (n.abort k).2) (n':=(n.abort k).1) d hb f hn (cap:=[.ptr H.au 0]) λ{A}i=>q3z (d.no _ n A hn i) l1) λ v j⟨l,hp⟩=>?_;simp only[aa,bc];exact kV.pre a hp
def Ds{fv:AV}{fl:List Mg}(h:Sk ao xp 11 H fv fl){i:Nat}(e:i<fl.length)(hl:fl.length<=1000000):ze M Vh [fv,.int .i64 (i:Int),.int .i64 ((i+1:Nat):Int)] H λ v H'=>Sk ao xp 11 H' v (fl.eraseIdx i)/\Fr (aM fv) H H' /\ ∀z,aM v z->aM fv z:=by
 refine qo4 ?_;obtain⟨w0,w4,d⟩:=qo5 M ⟨B5,Vh⟩;rcases h with⟨-,rfl⟩|⟨b,j,alt,r,hk⟩
 .simp at e
 have⟨v0,v1,v2,w,H1,v4,u,a0,g,k,l,p,m,o,b5,t⟩:=hk.del zj ry (by decide) e (zero:=ao ⟨0,0,0,.zero⟩) (zj _) (ry _) 88;have a:=(hk.sl zj).len;have ne:¬(i:Int)=((i+1:Nat):Int):=by omega
 simp only[aa,bc,w0,a,a0,w4,ne,d,g,k,l,p,m,mZ,o];exact⟨.inr ⟨_,_,_,_,b5⟩,t.mono λ z f(q:z=b)=>by rw[q];exact hk.on,λ z f=>by rw[b5.Ty f];exact hk.on⟩
def eS.dir(h:eS H0 H B s b own){i:Nat}{x j:De}{a g:AV}{w':L8}{H':ar}(v:s.xs[i]? = B1 (x,a))(he:dV H' s.D s.mp s.lv s.ev b.ns.length (b.m.set i w') s.xs i j g)(f:Fr s.dw H H')(r:∀z,aM g z->aM a z\/H.au<=z) :
 ∃C t,eS H0 H' B C {b with m:=b.m.set i w',l:=b.l.set i j} t/\(∀z,gM B C z->gM B s z\/H.au<=z)/\Fr (gM B s) H H':=by
 have F:Fr (gM B s) H H':=f.mono λ z _ q=>.inr (.inl q);have ne:∀{z k:Nat},own z=k->k≠1 -> ¬s.dw z:=λ e1 e2 q=>e2 (by rw[<-e1];exact h.oD _ q);have E:H0.au<=H.au:=by have:=h.lo B (.inl rfl);have:=h.lt;omega
 have G:=(qo.1 v).1;have p:∀z,Bs.dw {s with xs:=s.xs.set i (j,g)} z->s.dw z\/H.au<=z:=λ z q=>by
  rcases q with q|q|q|q|⟨k,y,c,hk,q⟩
  .exact .inl (.inl q)
  .exact .inl (.inr (.inl q))
  .exact .inl (.inr (.inr (.inl q)))
  .exact .inl (.inr (.inr (.inr (.inl q))))
  .have hk:(s.xs.set i (j,g))[k]? = B1 (y,c):=hk
   by_cases e:k=i
   .subst e;rw[zb G]at hk;injection hk with hk;injection hk with _ hk;subst hk
    exact(r z q).elim (λ q=>.inl (.inr (.inr (.inr (.inr ⟨k,x,a,v,q⟩))))) .inr
   .rw [zg (nE e)]at hk;exact .inl (.inr (.inr (.inr (.inr ⟨k,y,c,hk,q⟩))))
 have u:∀z,gM B {s with xs:=s.xs.set i (j,g)} z->gM B s z\/H.au<=z:=λ z q=>by
  rcases q with q|q|q|q|q
  .exact .inl (.inl q)
  .exact (p z q).elim (λ q=>.inl (.inr (.inl q))) .inr
  .exact .inl (.inr (.inr (.inl q)))
  .exact .inl (.inr (.inr (.inr (.inl q))))
  .exact .inl (.inr (.inr (.inr (.inr q))))
 have ow:∀{z:Nat},z<H.au->aO own H.au 1 z=own z:=λ q=>xg q;refine⟨{s with xs:=s.xs.set i (j,g)},aO own H.au 1,⟨?_,qn h.lt f.au,he.d,?_,?_,λ c n A hn o=>?_,h.al,?_,?_,λ z q=>?_,λ z q=>?_,λ z q=>?_,λ c A o z q=>?_,λ z q=>?_⟩,u,F⟩
 .simp only[xw];rw[f.ah _ h.lt (ne h.oB (by decide))];exact h.row
 .simp only[List.map_set,h.dx]
 .exact Own.fr h.nv f λ z r q=>ne (h.oN z r) (by decide) q
 .refine (h.no c n A hn o).off f λ z w=>⟨h.lo z (.inr (.inl w)),λ w2=>?_⟩
  have:=h.oC c A o z w2;have:=h.oD z w;omega
 .exact h.fl.fr f λ z r q=>ne (h.oF z r) (by decide) q
 .rw [ow h.lt];exact h.oB
 .unfold aO;split
  .rcases p z q with w|w
   .exact h.oD z w
   .omega
  .rfl
 .rw [ow (h.low (.inr (.inr (.inl q))))];exact h.oN z q
 .rw [ow (h.low (.inr (.inr (.inr (.inl q)))))];exact h.oF z q
 .rw [ow (h.low (.inr (.inr (.inr (.inr ⟨c,A,o,q⟩)))))];exact h.oC c A o z q
 .rcases u z q with w|w
  .exact h.lo z w
  .omega
end
end Go.Am
namespace Go.Am
open Go.Proofs Ca
open Lang (ints)
variable{M:ak}[MK M]
def xc4(x:De)(w:L8)(m:Mg):(x.bX w m).2.2.length<=4:=by
 have hb:∀(y:De)n,(y.begin n w).2.length<=4:=λ y n=>by
  unfold De.begin;split
  .simp
  .split
   .simp
   .rw [xr];unfold wU;exact List.length_filter_le ..
 have hr:∀(y:De)w'(q:Prop)[Decidable q](r:List Mg),r.length<=3->(y.vP w' q r).2.2.length<=4:=λ y w' q _ r h=>by
  unfold De.vP;split
  .simp only[qv,zz,j7];omega
  .simp only;omega
 unfold De.bX;split;· simp
 split
 .split
  .simp
  .exact hb _ _
 split;· exact hr _ _ _ _ (by simp)
 split;· exact hr _ _ _ _ (by simp)
 split;· exact hr _ _ _ _ (by simp)
 split;· exact hr _ _ _ _ (by simp)
 cases x.wt with
 |nil=>simp
 |cons n r=>exact hb _ _
section
variable{H0 H:ar}{B:Nat}{s:Bs}{b:Bu}{own:Nat->Nat}{V:Int->L8}
def xif(h:eS H0 H B s b own)(hb:BB b){i:Int}(k:¬(0<=i/\i<b.fl.length)):ze M Qb [.ptr B 0,.int .i64 i] H λ v H'=>v=.tuple [.agg (ao ⟨0,0,0,.zero⟩),.int .i64 50]/\Fr Em H H':=by
 refine R2 ?_;obtain⟨w0,w2,-,-,-,-⟩:=Y' M ⟨B5,Qb⟩;obtain⟨H1,e1,d,-,g⟩:=cq H (OR (ao ⟨0,0,0,.zero⟩) xp);have st:=fG g (zj _) (zj ⟨0,0,0,.zero⟩) (ry _);have ln:=eH (xf H1 H.au (OR (ao ⟨0,0,0,.zero⟩) xp)) (zj ⟨0,0,0,.zero⟩);have e:=h.em d;have a:=e.fl.len zj;have fin:Fr Em H (H1.set H.au (OR (ao ⟨0,0,0,.zero⟩) xp)):=d.set (.inr (qm _)) _
 by_cases f:i<0
 .simp only[aa,bc,w0,mZ,<-e1,w2,yq,xb f,Ht,st,ln];exact fin
 have j:((b.fl.length:Nat):Int)<=i:=by omega
 simp only[aa,bc,w0,mZ,<-e1,w2,yq,f,qt,e.l2,a,xb j,Ht,st,ln];exact fin
def xb6(h:eS H0 H B s b own)(hb:BB b)(hI:BuI b V)(hwl:∀x∈b.l,x.wt.length<=900000){i:Nat}{m:Mg}(hm:b.fl[i]? = B1 m):ze M Qb [.ptr B 0,.int .i64 (i:Int)] H λ v H'=>v=.tuple [.agg (ao m),.int .i64 0]/\kV H0 H B s (b.wN i) H':=by
 have hil:=(qo.1 hm).1;have hfl:=hb.fl;have N4:=hI.N4;obtain⟨mk,mc,ml⟩:=hI.mw m (zh hm);refine R2 ?_;obtain⟨w0,w2,w17,w21,w23,Y⟩:=Y' M ⟨B5,Qb⟩;have⟨H1,e1,f1,n1,g1⟩:=cq H (OR (ao ⟨0,0,0,.zero⟩) xp);have h1:=h.em f1;have Q:=h1.fl.sl zj;have hln:=h1.fl.len zj;have q0:¬(i:Int)<0:=by omega
 have q1:¬((b.fl.length:Nat):Int)<=(i:Int):=by omega
 have ix:=Q.idx hm (z:=(i:Int)) rfl .i64;have ld:=Q.aq zj (by decide) hm;obtain⟨H2,e2,f12,-,g2⟩:=cq H1 (OR (ao ⟨0,0,0,.zero⟩) xp);have U:=fG g2 (zj _) (zj m) (ry m);obtain⟨j,Z⟩:∃X,X=H2.set H1.au (OR (ao m) xp):=⟨_,rfl⟩
 rw[<-Z]at U;have F:Fr Em H1 j:=by rw[Z];exact f12.set (.inr (qm _)) _
 have n3:j.au=H.au+2:=by rw[Z,tO,e2,xz,n1]
 have g3:j.get H1.au=B1 (OR (ao m) xp):=by rw[Z,xf]
 have g3z:j.get H.au=B1 (OR (ao ⟨0,0,0,.zero⟩) xp):=by rw[F.ah _ (by omega) id];exact g1
 have h3:=h1.em F;have wi:aj .i64 ((i:Int)+1)=((i+1:Nat):Int):=by rw[jj (by omega) (by omega)];omega
 have F3:Fr Em H j:=f1.trans F λ _ q=>q.elim;simp only[aa,bc,w0,mZ,<-e1,w2,yq,q0,qt,h1.l2,hln,q1,w17,ix,ld,<-e2,U,h3.l2,wi];refine C3.q (Ds h3.fl hil (by omega)) λ v4 H4⟨k4,f4,o4⟩=>?_;have⟨C,s5,g,aO,u,o5,f5⟩:=h3.EN k4 f4 (λ z o=>.inl (o4 z o));have L:∀z,gM B s z->z<H.au:=λ z o=>h.low o;have t:∀z,gM B g z->gM B s z\/j.au<=z:=o5;have f:∀z,z<j.au->H.au<=z->C.get z=j.get z:=λ z q1 q2=>f5.ah z q1 λ w=>by have:=L z w;omega
 have lk5:Op.ae [.ptr H1.au 0] C=B1 (.int .i64 m.k):=zd (xe (show C.get H1.au=B1 (OR (ao m) xp)from by rw[f _ (by omega) (by omega)];exact g3)) 0;have lc5:Op.ae [.ptr H1.au 1] C=B1 (.int .i64 m.core):=zd (xe (show C.get H1.au=B1 (OR (ao m) xp)from by rw[f _ (by omega) (by omega)];exact g3)) 1;have S:Op.aq 11 [.ptr H1.au 0] C=B1 (.agg (ao m)):=eH (by rw[f _ (by omega) (by omega)];exact g3) (zj m);have mk1:Op.bt Gh 1 [.ptr g.D 0]=B1 (.fn (.func Gh) [.ptr g.D 0] []):=rfl;have m5:=f5.au
 -- behind the hearing
 have fin:∀{y:ar}{b':Bu},kV H0 C B g b' y->(∃O,Op.aq 11 [.ptr H1.au 0] y=B1 (.agg (ao m))/\Op.store 11 [.ptr H.au 0,.agg (ao m)] y=B1 (.undef,O)/\Op.aq 11 [.ptr H.au 0] O=B1 (.agg (ao m))/\kV H0 H B s b' O):=λ{y b'}hp=>by
  have⟨N,o7,h7,q7,f7⟩:=hp;have p:∀z,z<j.au->H.au<=z->y.get z=j.get z:=λ z w1 w2=>by
   rw[f7.ah z (by omega) λ w=>(t z w).elim (λ w=>by have:=L z w;omega) λ w=>by omega];exact f z w1 w2
  have gz:y.get H.au=B1 (OR (ao ⟨0,0,0,.zero⟩) xp):=by rw[p _ (by omega) (by omega)];exact g3z
  have m7:=f7.au;have E:∀z,gM B N z->gM B s z\/j.au<=z:=λ z o=>(q7 z o).elim (t z) λ w=>.inr (by omega);refine⟨_,eH (by rw[p _ (by omega) (by omega)];exact g3) (zj m),fG gz (zj _) (zj m) (ry m),eH (xf ..) (zj m),N,o7,h7.fr ((Fr.refl y).set (W:=On H.au) (.inl rfl) _) λ z o=>?_,λ z o=>(E z o).elim .inl λ w=>.inr (by omega),?_⟩
  .have o:z=H.au:=o;subst o;refine⟨by have:=h.lo B (.inl rfl);have:=h.lt;omega,λ w=>(E _ w).elim (λ w=>by have:=L _ w;omega) λ w=>by omega⟩
  .refine ((((F3.mono λ _ _ q=>q.elim).trans f5 λ z q=>.inl q).trans f7 λ z q=>?_).set (.inr (qm _)) _);exact(t z q).elim .inl λ w=>.inr (by omega)
 have hel:(b.fl.eraseIdx i).length<=b.fl.length:=List.length_eraseIdx_le ..;simp only[aa,bc,qt,s5,w21,u.l0,w23,lk5];unfold Bu.wN;rw[hm]
 by_cases k7:m.k<=7
 .have nk:¬7<m.k:=by omega
  simp only[xg k7];have⟨x,w,K,hw,he⟩:=hI.entry ml.1 ml.2;rw[K,hw];have hxx:∃a,g.xs[m.line.toNat]? = B1 (x,a):=by
   have hl:=(qo.1 K).1;have P:m.line.toNat<g.xs.length:=by
    have:=congrArg List.length u.dx;rw[xr]at this;have:g.xs.length=b.l.length:=this;omega
   refine⟨(g.xs[m.line.toNat]).2,?_⟩;rw[xc P];have e:=congrArg (λ l=>l[m.line.toNat]?) u.dx;simp only[xm,xc P,Gl]at e;have e:B1 (g.xs[m.line.toNat]).1=B1 x:=e.trans K;injection e with e
   rw[<-e]
  have⟨a,R⟩:=hxx;simp only[aa,bc,nk,Y,S];refine C3.q (xig (M:=M) (m:=m) u.d R hw he ml.1 mc.1 mc.2 (hwl x (zh K))) λ v6 H6⟨⟨ov,e,J,G⟩,a',en6,f6,o6⟩=>?_;rw[J];have⟨s6,T,h6,q6,g6⟩:=u.dir R en6 f6 o6;have hlen:=xc4 x w m;simp only[aa,bc,xj];refine C3.q (WD h6 G.1 (by show(b.fl.eraseIdx i).length+_<=_;omega)) λ v7 y hp=>?_;have⟨O,l7,N,l8,I⟩:=fin (kV.then g6 q6 hp);simp only[aa,bc,l7,N,l8];exact I
 .have nk:7<m.k:=by omega
  simp only[qy k7];have⟨n,hn,hnw⟩:=hI.core mc.1 mc.2;rw[hn];have⟨ni,bk,us⟩:=hb.no _ n hn;have⟨A,hA,nr⟩:=u.yT hn;have K:(g.ad.map Na.r)[m.core.toNat]? = B1 A.r:=by rw[xm,hA];rfl
  have ixn:=u.nv.sl.idx K (z:=m.core) (by omega) .i64;have ldn:Op.ae [.ptr (aF g.nv) (cZ 1 g.nv m.core.toNat)] C=B1 (.ptr A.r 0):=u.nv.sl.jQ XW K (by decide);have mk2:Op.bt vd 1 [.ptr A.r 0]=B1 (.fn (.func vd) [.ptr A.r 0] []):=rfl;simp only[aa,bc,xb nk,u.l1,qt,lc5,ixn,ldn,Y,S];refine C3.q (xku nr ni.ci bk (by omega) m) λ v6 H6⟨⟨ov,e,J,G⟩,ht⟩=>?_;rw[J];have⟨s6,T,h6,q6,g6⟩:=u.node hn hA ht;have hlen:=o_ n m;simp only[aa,bc,xj];refine C3.q (WD h6 G.1 (by show(b.fl.eraseIdx i).length+_<=_;omega)) λ v7 y hp=>?_;have⟨O,l7,N,l8,I⟩:=fin (kV.then g6 q6 hp);simp only[aa,bc,l7,N,l8];exact I
end
end Go.Am
namespace Go.Am
open Go.Proofs Ca
open Lang (ints)
variable{M:ak}[MK M]
def WJ{α:Type}(enc:α->List AV)(x:α):∀n:Nat,(Jr n x).flatMap enc=fM n (enc x)
 |0=>rfl
 |n+1=>by rw[Rc,j6,WJ enc x n,fM,pO]
def zA(l:Int):Prop:=2<=l/\l<=64
instance(l:Int):Decidable (zA l):=inferInstanceAs (Decidable (_/\_))
def GH(H:ar)(l:Int)(v:AV)(H':ar):Prop:=Fr Em H H'/\(¬zA l/\v=.tuple [.nilp,.int .i64 2]\/zA l /\ ∃mp lv,v=.tuple [.ptr mp 0,.int .i64 0]/\AK H' mp lv (Jr l.toNat .zero)/\H.au<=mp/\H.au<=aF lv)
def xf4{H:ar}(l:Int):ze M XS [.int .i64 l] H (GH H l):=by
 refine xm4 ?_;obtain⟨w0,w2,g⟩:=xm5 M ⟨B5,XS⟩
 by_cases e:l<2
 .simp only[aa,bc,w0,w2,e];exact⟨Fr.refl _,.inl ⟨λ q=>by have:=q.1;omega,rfl⟩⟩
 by_cases i:64<l
 .simp only[aa,bc,w0,w2,e,i];exact⟨Fr.refl _,.inl ⟨λ q=>by have:=q.2;omega,rfl⟩⟩
 obtain⟨a,rfl⟩:=jk (show 0<=l by omega);have mk:=Xh ja 64 (cu .zero) a .i64 .i64 (by omega) (by omega);rw[<-WJ]at mk;obtain⟨H1,e1,k,n1,-⟩:=cq H (OR ((Jr a L8.zero).flatMap cu) ja);obtain⟨sv,d⟩:∃sv:AV,sv=.slice H.au 0 a a:=⟨_,rfl⟩
 have f:Op.sliceTo a a H.au=sv:=by rw[d];rfl
 have o:aF sv=H.au:=by rw[d];rfl
 have j:Op.build [.nils] [(0,1)] [sv]=B1 (.agg [sv]):=by rw[d];rfl
 obtain⟨p,e2,h,-,m⟩:=cq H1 (OR [sv] _I);simp only[aa,bc,w0,w2,e,i,g,lZ,mk,f,<-e1,j,<-e2];refine⟨k.trans h λ _ q=>q.elim,.inr ⟨⟨by omega,by omega⟩,_,sv,rfl,⟨m,by rw[e2,xz];omega,⟨H.au,?_,?_,?_⟩,by omega,by rw[zy];omega⟩,by omega,by omega⟩⟩
 .rw [zy];exact d
 .rw [e2,xz];omega
 .rw [h.ah _ (by omega) id,e1,xq];rfl
def rI:De:=⟨0,0,⟨0,0,0,.zero⟩,0,0,[]⟩
def iL:De:={rI with ow:=-1}
def eXZ:[AV.int .i64 0,.int .u8 0,.int .i64 0,.int .i64 0,.int .i64 0,.int .u64 0,.int .u64 0,.int .u64 0,.int .u64 0,.int .u64 0,.int .u64 0,.int .u64 0,.int .u64 0,.int .i64 0,.int .u8 0,.nils]=gT (rI,.nils):=rfl
def ur(n i:Nat):List (De×AV):=(N5 n).map λ k=>(if k<i then iL else rI,.nils)
def EI(n:Nat):ur n 0=Jr n (rI,.nils):=by
 unfold ur;apply yo;intro j;rw[xm];rcases za j n with q|q
 .rw [jx q,Ui,xg q];simp
 .rw [jt (by rw[zw];exact q),jt (by rw[zy];exact q)];rfl
def Is(n:Nat):ur n n=Jr n (iL,.nils):=by
 unfold ur;apply yo;intro j;rw[xm];rcases za j n with q|q
 .rw [jx q,Ui,xg q];simp[q]
 .rw [jt (by rw[zw];exact q),jt (by rw[zy];exact q)];rfl
def UB{n i j:Nat}(h:j<n):(ur n i)[j]? = B1 (if j<i then iL else rI,.nils):=by
 unfold ur;rw[xm,jx h];rfl
def ae2{n i:Nat}(h:i<n):(ur n i).set i (iL,.nils)=ur n (i+1):=by
 have hl:∀k,(ur n k).length=n:=λ k=>by unfold ur;rw[xr,zw]
 apply yo;intro j
 by_cases q:j=i
 .subst q;rw[zb (by rw[hl];exact h),UB h,xg (by omega)]
 .rw [zg (nE q)];rcases za j n with w|w
  .rw [UB w,UB w]
   by_cases e:j<i
   .rw [xg e,xg (by omega)]
   .rw [qy e,qy (by omega)]
  .rw [jt (by rw[hl];exact w),jt (by rw[hl];exact w)]
def TF{n i k:Nat}{x:De}{a:AV}(h:(ur n i)[k]? = B1 (x,a)):a=.nils/\x.wt=[]:=by
 unfold ur at h;rw[xm,xt]at h;obtain⟨j,-,e⟩:=h;injection e with e1 e2
 refine⟨e2.symm,?_⟩;rw[<-e1];split<;>rfl
def zG(l c:Int):Prop:=zA l/\1<=c/\c<=4
instance(l c:Int):Decidable (zG l c):=inferInstanceAs (Decidable (_/\_))
def HO(H:ar)(l c:Int)(v:AV)(H':ar):Prop:=Fr Em H H'/\(¬zG l c/\v=.tuple [.nilp,.int .i64 2]\/zG l c /\ ∃D mp lv ev,v=.tuple [.ptr D 0,.int .i64 0]/\mK H' D mp lv ev c (Jr l.toNat .zero) (Jr l.toNat (iL,.nils)) /\ ∀z,mP D mp lv ev (Jr l.toNat (iL,.nils)) z->H.au<=z)
def xfe{H:ar}(l c:Int):ze M Y6 [.int .i64 l,.int .i64 c] H (HO H l c):=by
 refine xlz ?_;obtain⟨w0,w4,N,O,R,A,P,Q⟩:=xl0 M ⟨B5,Y6⟩;simp only[aa,bc,w0];refine C3.q (xf4 l) λ v H1⟨p,hv⟩=>?_;rcases hv with⟨hm,rfl⟩|⟨hm,mp,lv,rfl,me,Y,Z⟩
 .have t2:¬(2:Int)=0:=by decide
  simp only[aa,bc,xj,w4,t2];exact⟨p,.inl ⟨λ q=>hm q.1,rfl⟩⟩
 have t0:=xb (show(0:Int)=0 from rfl)
 by_cases F:c<1
 .simp only[aa,bc,xj,w4,F];exact⟨p,.inl ⟨λ q=>by have:=q.2.1;omega,rfl⟩⟩
 by_cases U:4<c
 .simp only[aa,bc,xj,w4,F,U];exact⟨p,.inl ⟨λ q=>by have:=q.2.2;omega,rfl⟩⟩
 have J:=hm;have⟨m1,m2⟩:=J;obtain⟨n,rfl⟩:=jk (show 0<=l by omega);have mk:=Xh QJ 144 (gT (rI,.nils)) n .i64 .i64 (by omega) (by omega);rw[<-WJ gT]at mk;obtain⟨m,e2,f2,n2,-⟩:=cq H1 (OR ((Jr n (rI,AV.nils)).flatMap gT) QJ);obtain⟨sv,e⟩:∃sv:AV,sv=.slice H1.au 0 n n:=⟨_,rfl⟩
 have K:Op.sliceTo n n H1.au=sv:=by rw[e];rfl
 have hsb:aF sv=H1.au:=by rw[e];rfl
 have bd:Op.build [.nilp,.int .i64 0,.nils] [(0,1),(1,1),(2,1)] [.ptr mp 0,.int .i64 c,sv]=B1 (.agg [.ptr mp 0,.int .i64 c,sv]):=by rw[e];rfl
 obtain⟨C,S,T,-,g3⟩:=cq m (OR [.ptr mp 0,.int .i64 c,sv] O_);have n3:C.au=H1.au+2:=by rw[S,xz,n2]
 have r:Fr Em H1 C:=f2.trans T λ _ q=>q.elim;have ml:=me.lt;have mls:=me.ls.lt;have r3:gW gT QJ 16 C sv (ur n 0):=by
  rw[EI];refine⟨H1.au,by rw[zy];exact e,by omega,?_⟩;rw[T.ah _ (by omega) id,e2,xq]
 have m1':=p.au;have d3:mK C m.au mp lv sv c (Jr n .zero) (ur n 0) :=
  ⟨g3,by omega,me.fr r id id,r3,λ i x a f=>by rw[(TF f).1,(TF f).2];exact Sk.nil _,⟨by omega,by omega,by omega,by omega,by omega⟩,λ i x a f z g=>by rw[(TF f).1]at g;exact absurd rfl g.1,λ i j x y a b f _ _ z g=>by rw[(TF f).1]at g;exact absurd rfl g.1,by rw[zy];unfold ur;rw[xr,zw]⟩
 have hn3:H.au<=H1.au:=p.au;have w:∀{o:ar}{i:Nat},mK o m.au mp lv sv c (Jr n .zero) (ur n i)->Op.ae [.ptr m.au 2] o=B1 sv:=λ h=>zd (xe h.row) 2;have I:Op.cD [sv]=B1 (.int .i64 ((n:Nat):Int)):=by rw[e];rfl
 simp only[aa,bc,xj,w4,F,U,N,eXZ,mk,K,<-e2,bd,<-S,O,qt,w d3,I];refine cz.intro (λ k E o=>∃(i:Nat),E=[(36,.int .i64 (i:Int)),(35,.int .i64 ((n:Nat):Int)),(8,.ptr m.au 0)]/\k=n-i/\i<=n/\mK o m.au mp lv sv c (Jr n .zero) (ur n i)/\Fr Em H o) ?_ ?_
 .exact ⟨_,_,⟨0,rfl,rfl,xx _,d3,p.trans r λ _ q=>q.elim⟩,by simp only[aa,bc]⟩
 rintro k E o ⟨i,rfl,rfl,hi,t,W⟩;rcases za i n with u|hge
 .have L:(i:Int)<((n:Nat):Int):=by omega
  have f:=UB (i:=i) u;rw[qy (Gx i)]at f;have en:=dV.of t f;have ix:Op.aQ 16 [sv,.int .i64 (i:Int)]=B1 (.ptr (aF sv) (cZ 16 sv i)):=(t.es.sl AM).idx f rfl .i64;have⟨X,s5,D,f5⟩:=en.s0 (-1);have wj:aj .i64 ((i:Int)+1)=((i+1:Nat):Int):=by rw[jj (by omega) (by omega)];omega
  have d5:mK X m.au mp lv sv c (Jr n .zero) (ur n (i+1)):=by rw[<-ae2 u];exact D.d
  simp only[aa,bc,A,L,P,qt,w t,ix,s5,Q,wj];exact⟨_,_,⟨i+1,rfl,rfl,by omega,d5,W.trans f5 λ z(q:z=aF sv)=>.inr (by omega)⟩,by simp only[aa,bc],by omega⟩
 .have G:i=n:=by omega
  have L:¬(i:Int)<((n:Nat):Int):=by omega
  subst G;simp only[aa,bc,A,L,R];rw[Is]at t;refine⟨W,.inr ⟨⟨hm,by omega,by omega⟩,_,mp,lv,sv,rfl,t,λ z g=>?_⟩⟩;rcases g with rfl|rfl|rfl|rfl|⟨k,x,a,hk,g⟩
  .omega
  .exact Y
  .exact Z
  .omega
  .rw [HC,Ui]at hk;split at hk
   .injection hk with hk;injection hk with _ hk;rw[<-hk]at g;exact absurd rfl g.1
   .cases hk
end Go.Am
