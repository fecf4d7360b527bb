import Derived.Test.YtgjdmncoonceaaaGreatDoorAmFZf
import Derived.Test.YtgjdmncoonceaaaGreatDoorAmFZh
import Derived.Test.YtgjdmncoonceaaaGreatDoorAmFZe
import Derived.Test.YtgjdmncoonceaaaGreatDoorAmFZg
import Derived.Test.YtgjdmncoonceaaaGreatDoorAmFZd
set_option linter.defProp false
set_option linter.unusedVariables false
set_option linter.unusedSimpArgs false
set_option linter.unusedSectionVars false
set_option maxRecDepth 100000
open Bool renaming noConfusion→RO,false→B2,true→B4
open List renaming range→MT,replicate→JK
open Option renaming none→B5,some→B1
open Nat renaming reduceEqDiff→bc
namespace Go.Am
open Go.Proofs Ca
variable{M:ak}[MK M]
structure AF(H:ar)(mp:Nat)(lv:AV)(ws:List L8):Prop where
 row:H.get mp=B1 (OR [lv] j4)
 lt:mp<H.au
 ls:gN cu zx 8 H lv ws
 ne:mp≠aE lv
 le:ws.length<=64
section
variable{H:ar}{mp:Nat}{lv:AV}{ws:List L8}
def AF.fr{H':ar}{W:Nat->Prop}(h:AF H mp lv ws)(f:Fr W H H')(b:¬W mp)(c:¬W (aE lv)):AF H' mp lv ws:=⟨by rw[f.ah _ h.lt b];exact h.row,qn h.lt f.au,h.ls.fr f c,h.ne,h.le⟩
def q4v(h:AF H mp lv ws){n:Int}(f:0<=n)(g:n<ws.length):zb M Zl [.ptr mp 0,.int .i64 n] H λ v H'=>v=.tuple [.ptr (aE lv) (cM 8 lv n.toNat),.int .i64 0]/\H'=H:=by
 have hl:Op.ae [.ptr mp 0] H=B1 lv:=x9 (xb h.row) 0;have hn:=(h.ls.sl kq).len;have d:¬n<0:=by omega
 have e:¬((ws.length:Nat):Int)<=n:=by omega
 have c:ws[n.toNat]? = B1 (ws[n.toNat]'(by omega)):=(by grind)
 have ix:Op.aP 8 [lv,.int .i64 n]=B1 (.ptr (aE lv) (cM 8 lv n.toNat)):=(h.ls.sl kq).idx c (by omega) .i64;refine xb8 ?_;obtain⟨w0,w2,b⟩:=xb9 M ⟨B5,Zl⟩;simp only[aa,bc,w0,w2,ye,d,qo,hl,hn,e,b,ix]
def _o(h:AF H mp lv ws){n:Int}{w:L8}(e:0<=n)(hw:ws[n.toNat]? = B1 w):zb M YU [.ptr mp 0,.int .i64 n] H λ v H'=>v=.tuple [.agg (cu w),.int .i64 0]/\Fr Em H H':=by
 have g:=(qt.1 hw).1;refine q60 ?_;obtain⟨w0,w4,c⟩:=q61 M ⟨B5,YU⟩;obtain⟨H1,e1,b,-,d⟩:=cD H (OR (cu .zero) zx);simp only[aa,bc,w0,lZ,<-e1];refine C3.q (q4v (h.fr b id id) e (by omega)) λ v k⟨j,f⟩=>?_;rw[j,f];have ld:Op.aq 8 [.ptr (aE lv) (cM 8 lv n.toNat)] H1=B1 (.agg (cu w)):=((h.fr b id id).ls.sl kq).aq kq (by decide) hw;have st:=fE d (kq _) (kq w) (tZ w);have hg:(H1.set H.au (OR (cu w) zx)).get H.au=B1 (OR (cu w) zx):=xc ..;have ln:=eI hg (kq w);simp only[aa,bc,xf,w4,c,qo,ld,st,ln];exact b.set (by omega) _
def Vk(h:AF H mp lv ws){n:Int}(f:0<=n)(g:n<ws.length)(x:L8):zb M Yz [.ptr mp 0,.int .i64 n,.agg (cu x)] H λ v H'=>v=.int .i64 0/\AF H' mp lv (ws.set n.toNat x)/\Fr (On (aE lv)) H H':=by
 refine q9s ?_;obtain⟨w0,w4,c⟩:=q9t M ⟨B5,Yz⟩;obtain⟨H1,e1,d,-,e⟩:=cD H (OR (cu x) zx);have hm:=h.fr d id id;simp only[aa,bc,w0,<-e1];refine C3.q (q4v hm f g) λ v o⟨k,j⟩=>?_;rw[k,j];have ln:=eI e (kq x);have l:ws[n.toNat]? = B1 (ws[n.toNat]'(by omega)):=(by grind)
 have⟨p,st,m,b⟩:=hm.ls.Mi kq tZ l x;simp only[aa,bc,xf,w4,ln,qo,st,c];exact⟨⟨by rw[b.ah _ hm.lt (λ q=>hm.ne q)];exact hm.row,qn hm.lt b.au,m,h.ne,by rw[zf];exact h.le⟩,(d.mono λ _ _ q=>q.elim).trans b λ _ q=>.inl q⟩
end
end Go.Am
namespace Go.Am
open Go.Proofs Ca
variable{M:ak}[MK M]
abbrev uB(s:Nat):AV:=.int .u8 (s:Int)
def M9{c:Int}(b:0<=c)(d:c<4):Op.bin .shl [.int .u8 1,.int .i64 c]=B1 (uB (2 ^ c.toNat)):=by
 rcases four b d with rfl|rfl|rfl|rfl<;>rfl
def LQ{s:Nat}(h:s<16):s=0\/s=1\/s=2\/s=3\/s=4\/s=5\/s=6\/s=7\/s=8\/s=9\/s=10\/s=11\/s=12\/s=13\/s=14\/s=15:=by omega
def UX{s:Nat}(hs:s<16){c:Int}(b:0<=c)(d:c<4):Op.bin .andNot [uB s,uB (2 ^ c.toNat)]=B1 (uB (cN s c)):=by
 rcases four b d with rfl|rfl|rfl|rfl<;>rcases LQ hs with rfl|rfl|rfl|rfl|rfl|rfl|rfl|rfl|rfl|rfl|rfl|rfl|rfl|rfl|rfl|rfl<;>rfl
def _l{s:Nat}(hs:s<16){c:Int}(b:0<=c)(d:c<4):Op.bin .or [uB s,uB (2 ^ c.toNat)]=B1 (uB (rC s c)):=by
 rcases four b d with rfl|rfl|rfl|rfl<;>rcases LQ hs with rfl|rfl|rfl|rfl|rfl|rfl|rfl|rfl|rfl|rfl|rfl|rfl|rfl|rfl|rfl|rfl<;>rfl
def e_{s:Nat}(hs:s<16){c:Int}(b:0<=c)(d:c<4):Op.bin .and [uB s,uB (2 ^ c.toNat)]=B1 (uB (hb s c*2 ^ c.toNat)):=by
 rcases four b d with rfl|rfl|rfl|rfl<;>rcases LQ hs with rfl|rfl|rfl|rfl|rfl|rfl|rfl|rfl|rfl|rfl|rfl|rfl|rfl|rfl|rfl|rfl<;>rfl
def gQ(p:De×AV):List AV:=.int .i64 p.1.ow::uB p.1.sh::(ao p.1.un ++ [.int .i64 p.1.ph,uB p.1.ask,p.2])
def AQ(p:De×AV):(gQ p).length=16:=by simp[gQ,zg]
theorem GY(p:De×AV):(gQ p)[0]? = B1 (.int .i64 p.1.ow)/\(gQ p)[1]? = B1 (uB p.1.sh)/\(gQ p)[2]? = B1 (.int .i64 p.1.un.k)/\(gQ p)[3]? = B1 (.int .i64 p.1.un.core)/\(gQ p)[4]? = B1 (.int .i64 p.1.un.line)/\(gQ p)[13]? = B1 (.int .i64 p.1.ph)/\(gQ p)[14]? = B1 (uB p.1.ask)/\(gQ p)[15]? = B1 p.2/\((gQ p).drop 2).take 11=ao p.1.un:=by
 have⟨⟨ow,sh,⟨k,co,li,⟨d,b⟩⟩,ph,ask,wt⟩,a⟩:=p
 match d,b with
 |[_,_,_,_,_,_,_,_],_=>exact⟨rfl,rfl,rfl,rfl,rfl,rfl,rfl,rfl,rfl⟩
structure mM(H:ar)(D mp:Nat)(lv ev:AV)(N:Int)(ws:List L8)(xs:List (De×AV)):Prop where
 row:H.get D=B1 (OR [.ptr mp 0,.int .i64 N,ev] b_)
 lt:D<H.au
 me:AF H mp lv ws
 es:gN gQ QH 16 H ev xs
 wt:∀(i:Nat)(x:De)(a:AV),xs[i]? = B1 (x,a)->Sk ao xk 11 H a x.wt
 d1:D≠mp/\D≠aE lv/\D≠aE ev/\mp≠aE ev/\aE lv≠aE ev
 d2:∀(i:Nat)(x:De)(a:AV),xs[i]? = B1 (x,a) -> ∀z,aM a z->z≠D/\z≠mp/\z≠aE lv/\z≠aE ev
 d3:∀(i j:Nat)(x y:De)(a b:AV),xs[i]? = B1 (x,a)->xs[j]? = B1 (y,b)->i≠j -> ∀z,aM a z -> ¬aM b z
 len:xs.length=ws.length
def mO(D mp:Nat)(lv ev:AV)(xs:List (De×AV)):Nat->Prop:=λ z=>z=D\/z=mp\/z=aE lv\/z=aE ev \/ ∃(i:Nat)(x:De)(a:AV),xs[i]? = B1 (x,a)/\aM a z
section
variable{H:ar}{D mp:Nat}{lv ev:AV}{N:Int}{ws:List L8}{xs:List (De×AV)}
def mM.fr{H':ar}{W:Nat->Prop}(h:mM H D mp lv ev N ws xs)(f:Fr W H H')(hw:∀z,W z -> ¬mO D mp lv ev xs z):mM H' D mp lv ev N ws xs :=
 ⟨by rw[f.ah _ h.lt (λ q=>hw _ q (.inl rfl))];exact h.row,qn h.lt f.au,h.me.fr f (λ q=>hw _ q (.inr (.inl rfl))) (λ q=>hw _ q (.inr (.inr (.inl rfl)))),h.es.fr f (λ q=>hw _ q (.inr (.inr (.inr (.inl rfl))))),λ i x a b=>(h.wt i x a b).fr f λ z c q=>hw z q (.inr (.inr (.inr (.inr ⟨i,x,a,b,c⟩)))),h.d1,h.d2,h.d3,h.len⟩
def mM.em{H':ar}(h:mM H D mp lv ev N ws xs)(f:Fr Em H H'):mM H' D mp lv ev N ws xs:=h.fr f λ _ q=>q.elim
def mM.low(h:mM H D mp lv ev N ws xs){z:Nat}(b:mO D mp lv ev xs z):z<H.au:=by
 rcases b with rfl|rfl|rfl|rfl|⟨i,x,a,c,b⟩
 .exact h.lt
 .exact h.me.lt
 .exact h.me.ls.lt
 .exact h.es.lt
 .exact (h.wt i x a c).lt z b
abbrev xA(ev:AV)(i:Nat):AV:=.ptr (aE ev) (cM 16 ev i)
def mM.ld(h:mM H D mp lv ev N ws xs){i:Nat}{p:De×AV}(b:xs[i]? = B1 p){k:Nat}(hk:k<16):Op.ae [.ptr (aE ev) (cM 16 ev i+k)] H=(gQ p)[k]?:=(h.es.sl AQ).ae AQ b hk
def mM.yN(h:mM H D mp lv ev N ws xs){i:Nat}{p:De×AV}(b:xs[i]? = B1 p):Op.ae [.ptr (aE ev) (cM 16 ev i)] H=B1 (.int .i64 p.1.ow):=((h.es.sl AQ).kW AQ b (by decide)).trans (GY p).1
def mM.ldU(h:mM H D mp lv ev N ws xs){i:Nat}{p:De×AV}(c:xs[i]? = B1 p):Op.aq 11 [.ptr (aE ev) (cM 16 ev i+2)] H=B1 (.agg (ao p.1.un)):=by
 have k:=h.es.sl AQ;have⟨b,e,l,d⟩:=h.es;have hl:cM 16 ev i=i*16:=by grind [cM]
 have g:=(qt.1 c).1;have f:aE ev=b:=by rw[e];rfl
 rw[hl,f,rR (xb d) (by rw[Fw AQ];omega)];have:((xs.flatMap gQ).drop (i*16+2)).take 11=ao p.1.un:=by
  rw[<-(GY p).2.2.2.2.2.2.2.2];apply kz;intro j;rw[N8,N8];split
  .rw [we,we,zZ,JM AQ xs c (by omega)]
  .rfl
 rw[this]
theorem mM.put(h:mM H D mp lv ev N ws xs){i:Nat}{x y:De}{a:AV}(o:xs[i]? = B1 (x,a))(C:y.wt=x.wt){j n:Nat}{u:AV}(hu:u.cells.length=n)(ho:aL u.cells=B4)(A:j+n<=16)(E:gQ (y,a)=(gQ (x,a)).take j++u.cells++(gQ (x,a)).drop (j+n)) :
 ∃H',Op.store n [.ptr (aE ev) (cM 16 ev i+j),u] H=B1 (.undef,H')/\mM H' D mp lv ev N ws (xs.set i (y,a))/\Fr (On (aE ev)) H H':=by
 have⟨H',s,r,f⟩:=h.es.zP AQ o hu ho A E;have F:=(qt.1 o).1;have⟨e1,e2,p,t,v⟩:=h.d1;have d:∀(k:Nat)(z:De)(b:AV),(xs.set i (y,a))[k]? = B1 (z,b) -> ∃e,xs[k]? = B1 (e,b)/\e.wt=z.wt:=λ k z b hk=>by
  grind
 refine⟨H',s,⟨by rw[f.ah _ h.lt (λ q=>p q)];exact h.row,qn h.lt f.au,h.me.fr f (λ q=>t q) (λ q=>v q),r,λ k z b hk=>?_,h.d1,λ k z b hk=>?_,λ k l z w b c hk m=>?_,by rw[zf];exact h.len⟩,f⟩
 .have ⟨e,g,hw⟩:=d k z b hk;rw[<-hw];exact(h.wt k e b g).fr f λ q B w=>(h.d2 k e b g q B).2.2.2 w
 .obtain ⟨e,g,-⟩:=d k z b hk;exact h.d2 k e b g
 .obtain ⟨e,g,-⟩:=d k z b hk;obtain⟨w',hw,-⟩:=d l w c m;exact h.d3 k l e w' b c g hw
def mM.wait(h:mM H D mp lv ev N ws xs){i:Nat}{x:De}{a g:AV}{ys:List Mg}{H1:ar}(A:xs[i]? = B1 (x,a))(hs:Sk ao xk 11 H1 g ys)(f:Fr (aM a) H H1)(B:∀z,aM g z->aM a z\/H.au<=z)(O:aB g=B4) :
 ∃H',Op.store 1 [.ptr (aE ev) (cM 16 ev i+15),g] H1=B1 (.undef,H')/\mM H' D mp lv ev N ws (xs.set i ({x with wt:=ys},g))/\Fr (mO D mp lv ev xs) H H'/\Fr (On (aE ev)) H1 H':=by
 have C:=(qt.1 A).1;have⟨e1,e2,J,K,L⟩:=h.d1;have I:=h.d2 i x a A;have E:gN gQ QH 16 H1 ev xs:=h.es.fr f λ q=>(by grind)
 have P:g.cells=[g]:=by cases g<;>first|rfl|cases O
 have⟨H',s,r,m⟩:=E.zP (y:=({x with wt:=ys},g)) AQ A (j:=15) (n:=1) (u:=g) (by grind) (by grind [vc]) (by decide) (by
  rw[P];have⟨ow,sh,⟨k,co,li,⟨d,Q⟩⟩,ph,ask,wt⟩:=x
  match d,Q with
  |[_,_,_,_,_,_,_,_],_=>rfl)
 have F:Fr (mO D mp lv ev xs) H H':=(f.mono λ z _ G=>(.inr (.inr (.inr (.inr ⟨i,x,a,A,G⟩))):mO D mp lv ev xs z)).trans m λ z(q:z=aE ev)=>.inl (.inr (.inr (.inr (.inl q))));have R:=h.es.lt;refine⟨H',s,⟨?_,?_,?_,r,λ k z b hk=>?_,h.d1,λ k z b hk q v=>?_,λ k l z w b c hk e t q v=>?_,by rw[zf];exact h.len⟩,F,m⟩
 .rw [m.ah _ (qn h.lt f.au) (λ q=>J q),f.ah _ h.lt (by grind)];exact h.row
 .exact qn (qn h.lt f.au) m.au
 .exact (h.me.fr f (by grind) (by grind)).fr m (λ q=>K q) (λ q=>L q)
 .by_cases q:k=i
  .subst q;rw[zj C]at hk;injection hk with hk;injection hk with o p
   subst o p;refine hs.fr m λ z G w=>?_;rcases B z G with q|q
   .exact (I z q).2.2.2 w
   .have w:z=aE ev:=w;omega
  .rw [zn (rP q)]at hk;refine((h.wt k z b hk).fr f λ u hu w=>h.d3 k i z x b a hk A q u hu w).fr m λ u hu w=>(h.d2 k z b hk u hu).2.2.2 w
 .by_cases w:k=i
  .subst w;rw[zj C]at hk;injection hk with hk;injection hk with o p
   subst o p;rcases B q v with w|w
   .grind
   .have T:=h.lt;have U:=h.me.lt;have V:=h.me.ls.lt;omega
  .rw [zn (rP w)]at hk;exact h.d2 k z b hk q v
 .by_cases w1:k=i
  .subst w1;rw[zj C]at hk;rw[zn t]at e;injection hk with hk;injection hk with o p
   subst o p;rcases B q v with w|w
   .exact h.d3 k l x _ a c A e t q w
   .intro w2;have:=(h.wt l _ c e).lt q w2;omega
  .rw [zn (rP w1)]at hk
   by_cases w2:l=i
   .subst w2;rw[zj C]at e;injection e with e;injection e with o p
    subst o p;intro S;rcases B q S with w|w
    .exact h.d3 k l z x b a hk A w1 q v w
    .have:=(h.wt k z b hk).lt q v;omega
   .rw [zn (rP w2)]at e;exact h.d3 k l z _ b c hk e t q v
end
end Go.Am
namespace Go.Am
open Go.Proofs Ca
variable{M:ak}[MK M]
structure dS(H:ar)(D mp:Nat)(lv ev:AV)(N:Int)(ws:List L8)(xs:List (De×AV))(i:Nat)(x:De)(a:AV):Prop where
 il:i<xs.length
 d:mM H D mp lv ev N ws (xs.set i (x,a))
section
variable{H:ar}{D mp:Nat}{lv ev:AV}{N:Int}{ws:List L8}{xs:List (De×AV)}{i:Nat}{x:De}{a:AV}
def dS.of(h:mM H D mp lv ev N ws xs)(b:xs[i]? = B1 (x,a)):dS H D mp lv ev N ws xs i x a:=by
 refine⟨(qt.1 b).1,?_⟩;have:xs.set i (x,a)=xs:=by
  apply kz
  grind
 grind
def dS.here(h:dS H D mp lv ev N ws xs i x a):(xs.set i (x,a))[i]? = B1 (x,a):=zj h.il
def dS.em{H':ar}(h:dS H D mp lv ev N ws xs i x a)(f:Fr Em H H'):dS H' D mp lv ev N ws xs i x a:=⟨h.il,h.d.em f⟩
def dS.l0(h:dS H D mp lv ev N ws xs i x a):Op.ae [.ptr (aE ev) (cM 16 ev i)] H=B1 (.int .i64 x.ow):=h.d.yN h.here
def dS.l1(h:dS H D mp lv ev N ws xs i x a):Op.ae [.ptr (aE ev) (cM 16 ev i+1)] H=B1 (uB x.sh):=(h.d.ld h.here (by decide)).trans (GY (x,a)).2.1
def dS.l2(h:dS H D mp lv ev N ws xs i x a):Op.ae [.ptr (aE ev) (cM 16 ev i+2)] H=B1 (.int .i64 x.un.k):=(h.d.ld h.here (by decide)).trans (GY (x,a)).2.2.1
def dS.l3(h:dS H D mp lv ev N ws xs i x a):Op.ae [.ptr (aE ev) (cM 16 ev i+2+1)] H=B1 (.int .i64 x.un.core):=(h.d.ld h.here (k:=3) (by decide)).trans (by grind [GY])
def dS.l4(h:dS H D mp lv ev N ws xs i x a):Op.ae [.ptr (aE ev) (cM 16 ev i+2+2)] H=B1 (.int .i64 x.un.line):=(h.d.ld h.here (k:=4) (by decide)).trans (by grind [GY])
def dS.rS(h:dS H D mp lv ev N ws xs i x a):Op.ae [.ptr (aE ev) (cM 16 ev i+13)] H=B1 (.int .i64 x.ph):=(h.d.ld h.here (by decide)).trans (by grind [GY])
def dS.vS(h:dS H D mp lv ev N ws xs i x a):Op.ae [.ptr (aE ev) (cM 16 ev i+14)] H=B1 (uB x.ask):=(h.d.ld h.here (by decide)).trans (by grind [GY])
def dS.jA(h:dS H D mp lv ev N ws xs i x a):Op.ae [.ptr (aE ev) (cM 16 ev i+15)] H=B1 a:=(h.d.ld h.here (by decide)).trans (by grind [GY])
def dS.lU(h:dS H D mp lv ev N ws xs i x a):Op.aq 11 [.ptr (aE ev) (cM 16 ev i+2)] H=B1 (.agg (ao x.un)):=h.d.ldU h.here
theorem dS.put(h:dS H D mp lv ev N ws xs i x a){y:De}(b:y.wt=x.wt){j n:Nat}{u:AV}(hu:u.cells.length=n)(ho:aL u.cells=B4)(c:j+n<=16)(e:gQ (y,a)=(gQ (x,a)).take j++u.cells++(gQ (x,a)).drop (j+n)) :
 ∃H',Op.store n [.ptr (aE ev) (cM 16 ev i+j),u] H=B1 (.undef,H')/\dS H' D mp lv ev N ws xs i y a/\Fr (On (aE ev)) H H':=by
 have⟨H',s,r,f⟩:=h.d.put h.here b hu ho c e;rw[List.set_set]at r;exact⟨H',s,⟨h.il,r⟩,f⟩
def dS.s0(h:dS H D mp lv ev N ws xs i x a)(k:Int):∃H',Op.store 1 [.ptr (aE ev) (cM 16 ev i),.int .i64 k] H=B1 (.undef,H')/\dS H' D mp lv ev N ws xs i {x with ow:=k} a/\Fr (On (aE ev)) H H' :=
 h.put (y:={x with ow:=k}) (j:=0) (n:=1) (u:=.int .i64 k) rfl rfl rfl (by decide) rfl
def dS.s1(h:dS H D mp lv ev N ws xs i x a)(k:Nat):∃H',Op.store 1 [.ptr (aE ev) (cM 16 ev i+1),uB k] H=B1 (.undef,H')/\dS H' D mp lv ev N ws xs i {x with sh:=k} a/\Fr (On (aE ev)) H H' :=
 h.put (y:={x with sh:=k}) (j:=1) (n:=1) (u:=uB k) rfl rfl rfl (by decide) rfl
def dS.sU(h:dS H D mp lv ev N ws xs i x a)(m:Mg):∃H',Op.store 11 [.ptr (aE ev) (cM 16 ev i+2),.agg (ao m)] H=B1 (.undef,H')/\dS H' D mp lv ev N ws xs i {x with un:=m} a/\Fr (On (aE ev)) H H':=by
 refine h.put (y:={x with un:=m}) (j:=2) (n:=11) (u:=.agg (ao m)) rfl (by grind [zk,zg]) (by grind [zk,qT]) (by decide) ?_;rw[zk];have⟨ow,sh,⟨k,co,li,⟨d,b⟩⟩,ph,ask,wt⟩:=x
 match d,b with
 |[_,_,_,_,_,_,_,_],_=>rfl
def dS.RI(h:dS H D mp lv ev N ws xs i x a)(k:Int):∃H',Op.store 1 [.ptr (aE ev) (cM 16 ev i+13),.int .i64 k] H=B1 (.undef,H')/\dS H' D mp lv ev N ws xs i {x with ph:=k} a/\Fr (On (aE ev)) H H':=by
 refine h.put (y:={x with ph:=k}) (j:=13) (n:=1) (u:=.int .i64 k) rfl rfl rfl (by decide) ?_;have⟨ow,sh,⟨k,co,li,⟨d,b⟩⟩,ph,ask,wt⟩:=x
 match d,b with
 |[_,_,_,_,_,_,_,_],_=>rfl
def dS.R4(h:dS H D mp lv ev N ws xs i x a)(k:Nat):∃H',Op.store 1 [.ptr (aE ev) (cM 16 ev i+14),uB k] H=B1 (.undef,H')/\dS H' D mp lv ev N ws xs i {x with ask:=k} a/\Fr (On (aE ev)) H H':=by
 refine h.put (y:={x with ask:=k}) (j:=14) (n:=1) (u:=uB k) rfl rfl rfl (by decide) ?_;have⟨ow,sh,⟨k,co,li,⟨d,b⟩⟩,ph,ask,wt⟩:=x
 match d,b with
 |[_,_,_,_,_,_,_,_],_=>rfl
def bdG(co l:Int)(d:L8):Op.build (ao ⟨0,0,0,.zero⟩) [(0,1),(1,1),(2,1),(3,8)] [.int .i64 14,.int .i64 co,.int .i64 l,.agg (cu d)]=B1 (.agg (ao ⟨14,co,l,d⟩)):=by
 have⟨d,b⟩:=d
 match d,b with
 |[_,_,_,_,_,_,_,_],_=>rfl
def dS.WK(h:dS H D mp lv ev N ws xs i x a):∃H',Op.store 1 [.ptr (aE ev) (cM 16 ev i+14),.int .u8 0] H=B1 (.undef,H')/\dS H' D mp lv ev N ws xs i {x with ask:=0} a/\Fr (On (aE ev)) H H':=h.R4 0
def dS.s1z(h:dS H D mp lv ev N ws xs i x a):∃H',Op.store 1 [.ptr (aE ev) (cM 16 ev i+1),.int .u8 0] H=B1 (.undef,H')/\dS H' D mp lv ev N ws xs i {x with sh:=0} a/\Fr (On (aE ev)) H H':=h.s1 0
abbrev Lo(H:ar):Nat->Prop:=λ z=>H.au<=z
def dS.loc{g:De}{H1 e:ar}(h:dS H D mp lv ev N ws xs i x a)(c:dS H1 D mp lv ev N ws xs i g a)(f:Fr (Lo H) H1 e):dS e D mp lv ev N ws xs i g a:=by
 refine⟨c.il,c.d.fr f λ z j q=>?_⟩;have:mO D mp lv ev (xs.set i (x,a)) z:=by
  rcases q with q|q|q|q|⟨k,y,b,hk,q⟩
  .exact .inl q
  .exact .inr (.inl q)
  .exact .inr (.inr (.inl q))
  .exact .inr (.inr (.inr (.inl q)))
  .by_cases w:k=i
   .subst w;rw[c.here]at hk;injection hk with hk;injection hk with _ hk;subst hk
    exact .inr (.inr (.inr (.inr ⟨k,x,a,h.here,q⟩)))
   .rw [zn (rP w)]at hk;exact .inr (.inr (.inr (.inr ⟨k,y,b,by grind,q⟩)))
 have:=h.d.low this;omega
def oW(h:dS H D mp lv ev N ws xs i x a){w:L8}(hw:ws[x.un.line.toNat]? = B1 w)(hl:0<=x.un.line)(hs:x.sh<16)(c0:0<=x.un.core)(c1:x.un.core<4) :
 zb M RV [.ptr D 0,xA ev i] H λ v H'=>v=.agg (ao (x.dU w).2)/\dS H' D mp lv ev N ws xs i (x.dU w).1 a/\Fr (On (aE ev)) H H':=by
 refine q3l ?_;obtain⟨w0,w4,w8,w18⟩:=q3m M ⟨B5,RV⟩;have⟨H1,e1,f1,n1,g1⟩:=cD H (OR (ao ⟨0,0,0,.zero⟩) xk);have⟨H2,s2,h2,L⟩:=(h.em f1).RI 4;have⟨E,s3,A,O⟩:=h2.WK;have yN:Op.ae [.ptr D 0] E=B1 (.ptr mp 0):=x9 (xb A.d.row) 0;have hev:=h.d.es.lt;have nb:¬H.au=aE ev:=by omega
 have m2:=L.au;have m3:=O.au;have g3:E.get H.au=B1 (OR (ao ⟨0,0,0,.zero⟩) xk):=by rw[O.ah _ (by omega) nb,L.ah _ (by omega) nb];exact g1
 simp only[aa,bc,w0,mZ,<-e1,qo,s2,s3,w4,yN,A.l4];refine C3.q (_o A.d.me hl hw) λ v F⟨hv,f4⟩=>?_;rw[hv];obtain⟨H5,e5,P,-,g5⟩:=cD F (OR (cu .zero) zx);have B:=fE g5 (kq _) (kq w) (tZ w);obtain⟨b,J⟩:∃X,X=H5.set F.au (OR (cu w) zx):=⟨_,rfl⟩
 rw[<-J]at B;have g6:b.get F.au=B1 (OR (cu w) zx):=by rw[J,xc]
 have Q:Fr Em F b:=by rw[J];exact P.set (by omega) _
 have f:Fr Em E b:=f4.trans Q λ _ q=>q.elim;have h6:=A.em f;have l5:=eI g6 (kq w);obtain⟨H7,e7,R,-,g7⟩:=cD b (OR (ao ⟨0,0,0,.zero⟩) xk);have C:=fE g7 (zg _) (zg ⟨14,x.un.core,x.un.line,w⟩) (qT _);obtain⟨l,K⟩:∃X,X=H7.set b.au (OR (ao ⟨14,x.un.core,x.un.line,w⟩) xk):=⟨_,rfl⟩
 rw[<-K]at C;have g8:l.get b.au=B1 (OR (ao ⟨14,x.un.core,x.un.line,w⟩) xk):=by rw[K,xc]
 have u:Fr Em b l:=by rw[K];exact R.set (by omega) _
 have g:Fr Em E l:=f.trans u λ _ q=>q.elim;have s:=A.em g;have m36:=f.au;have m68:=u.au;have z:l.get H.au=B1 (OR (ao ⟨0,0,0,.zero⟩) xk):=by rw[g.ah _ (by omega) id];exact g3
 have n8:b.au<l.au:=by grind [tV,xx]
 have t:Fr (On (aE ev)) H l:=(((f1.mono λ _ _ q=>q.elim).trans L λ _ q=>.inl q).trans O λ _ q=>.inl q).trans g λ _ q=>q.elim;simp only[aa,bc,xf,lZ,<-e5,B,qo,h6.l3,h6.l4,l5,bdG,<-e7,C,w8,s.l2];have fin:∀{c:ar}{y:De}{m:Mg},dS c D mp lv ev N ws xs i y a->Fr (On (aE ev)) H c->c.get H.au=B1 (OR (ao ⟨0,0,0,.zero⟩) xk)->H.au<c.au -> ∃r,Op.store 11 [.ptr H.au 0,.agg (ao m)] c=B1 (.undef,r)/\Op.aq 11 [.ptr H.au 0] r=B1 (.agg (ao m))/\dS r D mp lv ev N ws xs i y a/\Fr (On (aE ev)) H r:=λ{c y m}a1 a2 a3 a4=>by
  have st:=fE a3 (zg _) (zg m) (qT m);refine⟨_,st,eI (xc ..) (zg m),h.loc a1 ((Fr.refl c).set (W:=Lo H) (by omega) _),a2.set (by omega) _⟩
 have j:¬b.au=aE ev:=by omega
 unfold De.dU
 by_cases I:x.un.k=1
 .rw [xg I];have sh1:=M9 c0 c1;have Z:=_l hs c0 c1;have⟨c,Y,T,e⟩:=s.s1 (rC x.sh x.un.core);have m9:=e.au;have l9:Op.aq 11 [.ptr b.au 0] c=B1 (.agg (ao ⟨14,x.un.core,x.un.line,w⟩)):=eI (by rw[e.ah _ n8 j];exact g8) (zg _);have⟨r,sx,U,hx,fx⟩:=fin (m:=⟨14,x.un.core,x.un.line,w⟩) T (t.trans e λ _ q=>.inl q) (by rw[e.ah _ (by omega) nb];exact z) (by omega);simp only[aa,bc,qy I,s.l1,s.l3,qo,sh1,Z,Y,l9,sx,U]
  grind
 .rw [qv I];have⟨c,Y,T,e⟩:=s.s0 x.un.core;have⟨p,Z,ha,fa⟩:=T.s1z;have m9:=e.au;have ma:=fa.au;have ga:p.get b.au=B1 (OR (ao ⟨14,x.un.core,x.un.line,w⟩) xk):=by rw[fa.ah _ (by omega) j,e.ah _ n8 j];exact g8
  have sb:Op.store 1 [.ptr b.au 0,.int .i64 15] p=B1 (.undef,p.set b.au (OR (ao ⟨15,x.un.core,x.un.line,w⟩) xk)):=wY (v:=.int .i64 15) ga (o:=0) (n:=1) rfl (by rw[zg];decide) rfl;obtain⟨Hb,G⟩:∃X,X=p.set b.au (OR (ao ⟨15,x.un.core,x.un.line,w⟩) xk):=⟨_,rfl⟩
  rw[<-G]at sb;have S:Fr (Lo H) p Hb:=by rw[G];exact(Fr.refl p).set (W:=Lo H) (by omega) _
  have lb:Op.aq 11 [.ptr b.au 0] Hb=B1 (.agg (ao ⟨15,x.un.core,x.un.line,w⟩)):=eI (by rw[G,xc]) (zg _);have hb:=h.loc ha S;have V:¬b.au=H.au:=by omega
  have gb:Hb.get H.au=B1 (OR (ao ⟨0,0,0,.zero⟩) xk):=by rw[G,ki V,fa.ah _ (by omega) nb,e.ah _ (by omega) nb];exact z
  have⟨r,sx,U,hx,fx⟩:=fin (m:=⟨15,x.un.core,x.un.line,w⟩) hb (((t.trans e λ _ q=>.inl q).trans fa λ _ q=>.inl q).trans S λ _ q=>.inr q) gb (by have:=S.au;omega);simp only[aa,bc,I,w18,s.l3,qo,Y,Z,sb,lb,sx,U]
  grind
end
end Go.Am
namespace Go.Am
open Go.Proofs Ca
variable{M:ak}[MK M]
section
variable{H:ar}{D mp:Nat}{lv ev:AV}{N:Int}{ws:List L8}{xs:List (De×AV)}{i:Nat}{x:De}{a:AV}
def Eh(h:mM H D mp lv ev N ws xs){n:Int}(f:0<=n)(g:n<xs.length):zb M YY [.ptr D 0,.int .i64 n] H λ v H'=>v=xA ev n.toNat/\H'=H:=by
 have hl:Op.ae [.ptr D 2] H=B1 ev:=x9 (xb h.row) 2;have hn:=(h.es.sl AQ).len;have d:¬n<0:=by omega
 have e:¬((xs.length:Nat):Int)<=n:=by omega
 have c:xs[n.toNat]? = B1 (xs[n.toNat]'(by omega)):=(by grind)
 have ix:Op.aP 16 [ev,.int .i64 n]=B1 (.ptr (aE ev) (cM 16 ev n.toNat)):=(h.es.sl AQ).idx c (by omega) .i64;refine xa9 ?_;obtain⟨w0,w2,b⟩:=xba M ⟨B5,YY⟩;simp only[aa,bc,w0,w2,ye,d,qo,hl,hn,e,b,ix]
end
def lf(s:Nat):List Nat:=(MT 4).filter λ(k:Nat)=>hb s (k:Int) == 1
def Kn(s:Nat):xG s=(lf s).map λ(k:Nat)=>(k:Int):=by
 unfold xG lf;have e:([0,1,2,3]:List Int)=(MT 4).map λ(k:Nat)=>(k:Int):=rfl;rw[e,List.filter_map];rfl
def xhm{H0:ar}{p s:Nat}(hp:H0.get p=B1 (OR [uB s] Vt))(hpl:p<H0.au)(hs:s<16) :
 rk M OZ [] [.ptr p 0] (λ x=>x=p) (λ _=>False) H0 ((lf s).map λ(k:Nat)=>[AV.int .i64 (k:Int)]):=by
 intro Y R S l H1 X P B Q loc L step;have⟨p1,p2,p3⟩:=P p (.inl rfl)
 suffices h:zb M OZ [.fn (.yield Y) [] [],.ptr p 0] H1 (JO R S l (λ _=>False) H1 ((lf s).map λ(k:Nat)=>[AV.int .i64 (k:Int)]).length)by
  have⟨v,H',hc,W',g,q2,q3⟩:=h.elim
  grind
 refine qu8 ?_;obtain⟨w0,w4,y,z⟩:=qu9 M ⟨B5,OZ⟩;have lp:∀{j:ar},Fr l H1 j->Op.ae [.ptr p 0] j=B1 (uB s):=λ f=>by rw[x9 (xb (by rw[f.ah _ (by omega) p3,p2];exact hp))];rfl
 simp only[aa,bc,w0];refine da.intro (λ n E j=>∃(i:Nat)(V:Nat->Prop),E=[(4,.int .i64 (i:Int)),(0,.fn (.yield Y) [] []),(1,.ptr p 0)]/\n=4-i/\i<=4/\MF R l H1 j ((MT i).filter λ(k:Nat)=>hb s (k:Int) == 1).length V) ?_ ?_
 .exact ⟨_,_,⟨0,l,rfl,rfl,xz _,⟨B,λ b hb=>(by grind),Fr.refl _⟩⟩,by simp only[aa,bc]⟩
 rintro n E j ⟨i,V,rfl,rfl,hi,d⟩;rcases xy i 4 with W|T
 .have g:(i:Int)<4:=by omega
  have sh:=M9 (c:=(i:Int)) (by omega) g;have ha:=e_ hs (c:=(i:Int)) (by omega) g;have O:aj .i64 ((i:Int)+1)=((i+1:Nat):Int):=by grind [ji]
  have K:=Pw (λ(k:Nat)=>hb s (k:Int) == 1) i;have hle:=Ja s (i:Int)
  by_cases J:hb s (i:Int)=1
  .have u:((MT (i+1)).filter λ(k:Nat)=>hb s (k:Int) == 1).length=((MT i).filter λ(k:Nat)=>hb s (k:Int) == 1).length+1:=by rw[K];simp[J]
   have hg:((lf s).map λ(k:Nat)=>[AV.int .i64 (k:Int)])[((MT i).filter λ(k:Nat)=>hb s (k:Int) == 1).length]? = B1 [.int .i64 (i:Int)]:=by
    grind [lf,Yc]
   have Z:0<2 ^ (i:Int).toNat:=(by grind)
   have G:¬(((hb s (i:Int)*2 ^ (i:Int).toNat:Nat)):Int)=0:=by rw[J,Nat.one_mul];omega
   have⟨bb,I,A,hr,C,r,ht,F⟩:=step _ _ hg V j d.hR d.hV (d.fr.mono λ _ _ q=>.inl q);have m:Fr l H1 I:=d.fr.trans C λ b q=>(d.hV b q).2;have o:∀b,A b->b<I.au/\(l b\/H1.au<=b):=λ b q=>⟨(r b q).1,(r b q).2.elim (λ w=>(d.hV b w).2) λ w=>.inr (xw d.fr.au w)⟩
   simp only[aa,bc,w4,g,y,lp d.fr,sh,ha,G];refine C3.uo hr ?_;cases bb with
   |true =>
    simp only[aa,bc,z,O];exact⟨_,_,⟨i+1,A,rfl,rfl,by omega,⟨by grind,o,m⟩⟩,by simp only[aa,bc],by omega⟩
   |false =>
    simp only[aa,bc];exact⟨A,m.mono λ _ _ q=>.inl q,o,.inr (F rfl)⟩
  .have t:hb s (i:Int)=0:=by omega
   have u:((MT (i+1)).filter λ(k:Nat)=>hb s (k:Int) == 1).length=((MT i).filter λ(k:Nat)=>hb s (k:Int) == 1).length:=by rw[K];simp[t]
   have G:(((hb s (i:Int)*2 ^ (i:Int).toNat:Nat)):Int)=0:=by rw[t,DQ];rfl
   simp only[aa,bc,w4,g,y,lp d.fr,sh,ha,qy G,z,O];exact⟨_,_,⟨i+1,V,rfl,rfl,by omega,by rw[u];exact d⟩,by simp only[aa,bc],by omega⟩
 .have g:¬(i:Int)<4:=by omega
  have U:i=4:=by omega
  simp only[aa,bc,w4,g];refine⟨V,d.fr.mono λ _ _ q=>.inl q,d.hV,.inl ?_⟩;have e:((lf s).map λ(k:Nat)=>[AV.int .i64 (k:Int)]).length=((MT i).filter λ(k:Nat)=>hb s (k:Int) == 1).length:=by grind [lf]
  rw[e];exact d.hR
def xkm{H:ar}(s:Nat):zb M f_ [uB s] H λ v H'=>v=.fn (.func OZ) [] [.ptr H.au 0]/\H'=H.alloc (OR [uB s] Vt):=by
 refine qzp ?_;simp_all[aa,qzq]
end Go.Am
namespace Go.Am
open Go.Proofs Ca
variable{M:ak}[MK M]
abbrev Bp(t:Nat):AV:=.fn (.func Tj) [] [.ptr t 0]
def UF{H:ar}{t:Nat}{c:Int}(w:Mg)(hl:∀{d:ar},Fr Em H d->Op.ae [.ptr t 1] d=B1 (.int .i64 c)):zb M Tj [.agg (ao w),.ptr t 0] H λ r H'=>r=.bool (decide (w.core=c))/\Fr Em H H':=by
 refine qw5 ?_;obtain⟨H1,e1,b,-,e⟩:=cD H (OR (ao w) xk);have l1:Op.ae [.ptr H.au 1] H1=B1 (.int .i64 w.core):=x9 (xb e) 1
 by_cases q:w.core=c
 .simp only[aa,bc,ZV,<-e1,l1,hl b,qy q];exact b
 .simp only[aa,bc,ZV,<-e1,l1,hl b,q];exact b
def xeb{H:ar}{v:AV}{ms:List Mg}{t:Nat}{c:Int}(h:bV ao 11 H v ms)(hk:ms.length<=1000000)(hl:∀{d:ar},Fr Em H d->Op.ae [.ptr t 1] d=B1 (.int .i64 c)) :
 zb M UZ [v,Bp t] H λ r H'=>(∃z:Int,r=.int .i64 z/\(0<=z↔ ∃w∈ms,w.core=c))/\Fr Em H H':=by
 refine qli ?_;obtain⟨w0,w2,u,A,p,s⟩:=qlj M ⟨B5,UZ⟩;simp only[aa,bc,w0,w2,h.len];refine da.intro (λ n E d=>∃i:Nat,E=[(8,.int .i64 (i:Int)),(7,.int .i64 ((ms.length:Nat):Int)),(0,v),(1,Bp t)]/\n=ms.length-i/\i<=ms.length/\Fr Em H d /\ ∀k w,k<i->ms[k]? = B1 w->w.core≠c) ?_ ?_
 .exact ⟨_,_,⟨0,rfl,rfl,xz _,Fr.refl _,λ k w hk=>by omega⟩,by simp only[aa,bc]⟩
 rintro n E d ⟨i,rfl,rfl,F,b,l⟩;rcases xy i ms.length with j|B
 .have o:(i:Int)<((ms.length:Nat):Int):=by omega
  have m:=xe j;have ix:=(h.em b).idx m (z:=(i:Int)) rfl .i64;have ld:=(h.em b).aq zg (by decide) m;have C:aj .i64 ((i:Int)+1)=((i+1:Nat):Int):=by rw[ji (by omega) (by omega)];omega
  simp only[aa,bc,A,o,p,ix,ld];refine C3.q (UF (ms[i]) (λ f=>hl (b.trans f λ _ q=>q.elim))) λ r H1⟨hr,y⟩=>?_;rw[hr]
  by_cases q:(ms[i]).core=c
  .simp only[aa,bc,qy q];exact⟨⟨_,rfl,λ _=>⟨_,List.getElem_mem j,q⟩,λ _=>by omega⟩,b.trans y λ _ q=>q.elim⟩
  .simp only[aa,bc,q,s,C];refine⟨_,_,⟨i+1,rfl,rfl,by omega,b.trans y λ _ q=>q.elim,λ k w hk hw=>?_⟩,by simp only[aa,bc],by omega⟩
   by_cases e:k=i
   .rw [e,m]at hw;injection hw with hw;rw[<-hw];exact q
   .exact l k w (by omega) hw
 .have o:¬(i:Int)<((ms.length:Nat):Int):=by omega
  simp only[aa,bc,A,o,u];refine⟨⟨_,rfl,λ q=>absurd q (by decide),λ⟨w,hw,hc⟩=>?_⟩,b⟩;have⟨k,g⟩:=Mc hw;exact absurd hc (l k w (by have:=(qt.1 g).1;omega) g)
def qst{H:ar}{v:AV}{ms:List Mg}{t:Nat}{c:Int}(h:bV ao 11 H v ms)(hk:ms.length<=1000000)(hl:∀{b:ar},Fr Em H b->Op.ae [.ptr t 1] b=B1 (.int .i64 c)) :
 zb M qef [v,Bp t] H λ r H'=>r=.bool (decide (∃w∈ms,w.core=c))/\Fr Em H H':=by
 refine qjg ?_;simp only[aa,bc,qjh];refine C3.q (xeb h hk hl) λ r H1⟨⟨z,hr,e⟩,d⟩=>?_;rw[hr];simp only[aa,bc]
 by_cases q:0<=z
 .simp only[q,e.1 q,decide_true,Fq];exact d
 .have f:¬ ∃w∈ms,w.core=c:=λ w=>q (e.2 w);simp only[q,f,J1,Fq];exact d
section
variable{H:ar}{D mp:Nat}{lv ev:AV}{N:Int}{ws:List L8}{xs:List (De×AV)}{i:Nat}{x:De}{a:AV}
def xkh(h:dS H D mp lv ev N ws xs i x a)(m:Mg)(c0:0<=m.core)(c1:m.core<4)(ha:x.ask<16)(hw:x.wt.length<=1000000):zb M Jm [xA ev i,.agg (ao m)] H λ v H'=>v=.bool (decide (x.may m))/\Fr Em H H':=by
 refine q3n ?_;obtain⟨w0,w4,w51,F,G,w26,w38⟩:=q3o M ⟨B5,Jm⟩;have⟨H1,e1,f1,n1,g1⟩:=cD H (OR (ao m) xk);have lm:∀{p:ar}(k:Nat),Fr Em H1 p->Op.ae [.ptr H.au k] p=(ao m)[k]?:=λ k f=>x9 (xb (by rw[f.ah _ (by omega) id];exact g1)) k;have l0:Op.ae [.ptr H.au 0] H1=B1 (.int .i64 m.k):=lm 0 (Fr.refl _);have l1:∀{p:ar},Fr Em H1 p->Op.ae [.ptr H.au 1] p=B1 (.int .i64 m.core):=λ f=>lm 1 f;have l:=l1 (Fr.refl H1);have mk:Op.bJ Tj 0 [.ptr H.au 0]=B1 (Bp H.au):=rfl;have c:=h.em f1;have C:=M9 c0 c1;have X:=e_ ha c0 c1;have hle:=Ja x.ask m.core;have hp0:0<2 ^ m.core.toNat:=Nat.pos_of_ne_zero (by simp);have fin:∀{b:Bool}{p:ar},(b=B4↔x.may m)->Fr Em H1 p->(AV.bool b=.bool (decide (x.may m))/\Fr Em H p):=λ{b p}e f=>by
  refine⟨?_,f1.trans f λ _ q=>q.elim⟩;congr 1;cases b with
  |true=>exact(jz (e.1 rfl)).symm
  |false=>exact(js λ w=>by cases e.2 w).symm
 have n:=Fr.refl (W:=Em) H1;simp only[aa,bc,w0,<-e1,w4,l0]
 by_cases B:m.k=1\/m.k=2
 .have hm:x.may m↔ ¬(x.ph≠0/\x.ph≠4/\x.un.core=m.core)/\(x.ow≠m.core\/x.ph=2) /\ ¬ ∃w∈x.wt,w.core=m.core:=by unfold De.may De.own;rw[xg B]
  have key:∀{E:Env},lk E 10=B1 (.bool B4)->lk E 0=B1 (xA ev i)->lk E 3=B1 (.ptr H.au 0)->lk E 5=B1 (Bp H.au)->W M ⟨B5,Jm⟩ (Tk 14) B4 (eS 0 (fj (W M ⟨B5,Jm⟩ (Tk 51)) (fh M [.tmp 4] (uI λ v H'=>v=.bool (decide (x.may m))/\Fr Em H H')))) E [] H1:=by
   intro E I O Z b5
   -- the rest,once it is known whether one is under way
   have rest:∀{p:ar}(u:Bool),Fr Em H1 p->(u=B4↔(x.ph≠0/\x.ph≠4/\x.un.core=m.core))->W M ⟨B5,Jm⟩ (Tk 17) B4 (eS 0 (fj (W M ⟨B5,Jm⟩ (Tk 51)) (fh M [.tmp 4] (uI λ v H'=>v=.bool (decide (x.may m))/\Fr Em H H')))) ((6,.bool u)::E) [] p:=by
    intro p u t hu;have y:=c.em t;have T:=y.d.wt i x a y.here;cases u with
    |true =>
     simp only[aa,bc,G];exact fin ⟨λ q=>RO q,λ q=>absurd (hu.1 rfl) (hm.1 q).1⟩ t
    |false =>
     have P:¬(x.ph≠0/\x.ph≠4/\x.un.core=m.core):=λ q=>by cases hu.2 q
     by_cases S:x.ow=m.core
     .by_cases V:x.ph=2
      .simp only[aa,bc,G,O,Z,b5,qo,y.l0,l1 t,qy S,y.rS,qy V,y.jA];refine C3.q (qst (T.sl zg) hw (λ f=>l1 (t.trans f λ _ q=>q.elim))) λ r Y⟨hr,J⟩=>?_;rw[hr];simp only[aa,bc];refine fin ?_ (t.trans J λ _ q=>q.elim);rw[hm];constructor
       .intro q;exact⟨P,.inr V,by simpa using q⟩
       .intro q;simpa using q.2.2
      .simp only[aa,bc,G,O,Z,b5,qo,y.l0,l1 t,qy S,y.rS,V];exact fin ⟨λ q=>RO q,λ q=>((hm.1 q).2.1.elim (λ w=>absurd S w) λ w=>absurd w V)⟩ t
     .simp only[aa,bc,G,O,Z,b5,qo,y.l0,l1 t,S,y.jA];refine C3.q (qst (T.sl zg) hw (λ f=>l1 (t.trans f λ _ q=>q.elim))) λ r Y⟨hr,J⟩=>?_;rw[hr];simp only[aa,bc];refine fin ?_ (t.trans J λ _ q=>q.elim);rw[hm];constructor
      .intro q;exact⟨P,.inl S,by simpa using q⟩
      .intro q;simpa using q.2.2
   by_cases R:x.ph=0
   .simp only[aa,bc,F,I,O,qo,c.rS,qy R];exact rest B2 n ⟨λ q=>RO q,λ q=>absurd R q.1⟩
   by_cases U:x.ph=4
   .simp only[aa,bc,F,I,O,qo,c.rS,R,qy U];exact rest B2 n ⟨λ q=>RO q,λ q=>absurd U q.2.1⟩
   simp only[aa,bc,F,I,O,b5,qo,c.rS,R,U,c.lU];refine C3.q (UF x.un l1) λ r Y⟨hr,J⟩=>?_;rw[hr];simp only[aa,bc];exact rest _ J ⟨λ q=>⟨R,U,by simpa using q⟩,λ q=>by simpa using q.2.2⟩
  rcases B with k|k
  .simp only[aa,bc,qy k];exact key rfl rfl rfl rfl
  .have k1:¬m.k=1:=by omega
   simp only[aa,bc,k1,qy k];exact key rfl rfl rfl rfl
 have k1:¬m.k=1:=λ q=>B (.inl q);have k2:¬m.k=2:=λ q=>B (.inr q);have o:(((hb x.ask m.core*2 ^ m.core.toNat:Nat)):Int)=0↔ ¬hb x.ask m.core=1:=by
  constructor
  .intro q w;rw[w,Nat.one_mul]at q;omega
  .intro q;rw[show hb x.ask m.core=0 by omega,DQ];rfl
 simp only[aa,bc,k1,k2,F]
 by_cases A:m.k=4
 .have hm:x.may m↔x.ph=1/\hb x.ask m.core=1:=by unfold De.may;rw[qv B,xg A]
  by_cases g:x.ph=1
  .by_cases j:hb x.ask m.core=1
   .have z:=λ w=>o.1 w j;simp only[aa,bc,qy A,qo,c.rS,qy g,c.vS,l,C,X];exact fin ⟨λ _=>hm.2 ⟨g,j⟩,λ _=>jz z⟩ n
   .have z:=o.2 j;simp only[aa,bc,qy A,qo,c.rS,qy g,c.vS,l,C,X,qy z];exact fin ⟨λ q=>RO q,λ q=>absurd (hm.1 q).2 j⟩ n
  .simp only[aa,bc,qy A,qo,c.rS,g];exact fin ⟨λ q=>RO q,λ q=>absurd (hm.1 q).1 g⟩ n
 simp only[aa,bc,A,w26]
 by_cases s:m.k=5
 .have hm:x.may m↔x.ph=2/\x.ow=m.core:=by unfold De.may;rw[qv B,qv A,xg s]
  by_cases g:x.ph=2
  .by_cases j:x.ow=m.core
   .simp only[aa,bc,qy s,qo,c.rS,qy g,c.l0,l,qy j];exact fin ⟨λ _=>hm.2 ⟨g,j⟩,λ _=>rfl⟩ n
   .simp only[aa,bc,qy s,qo,c.rS,qy g,c.l0,l,j];exact fin ⟨λ q=>RO q,λ q=>absurd (hm.1 q).2 j⟩ n
  .simp only[aa,bc,qy s,qo,c.rS,g];exact fin ⟨λ q=>RO q,λ q=>absurd (hm.1 q).1 g⟩ n
 by_cases L:m.k=6
 .have hm:x.may m↔x.ph=2/\hb x.ask m.core=1:=by unfold De.may;rw[qv B,qv A,qv s,xg L]
  by_cases g:x.ph=2
  .by_cases j:hb x.ask m.core=1
   .have z:=λ w=>o.1 w j;simp only[aa,bc,s,qy L,qo,c.rS,qy g,c.vS,l,C,X];exact fin ⟨λ _=>hm.2 ⟨g,j⟩,λ _=>jz z⟩ n
   .have z:=o.2 j;simp only[aa,bc,s,qy L,qo,c.rS,qy g,c.vS,l,C,X,qy z];exact fin ⟨λ q=>RO q,λ q=>absurd (hm.1 q).2 j⟩ n
  .simp only[aa,bc,s,qy L,qo,c.rS,g];exact fin ⟨λ q=>RO q,λ q=>absurd (hm.1 q).1 g⟩ n
 simp only[aa,bc,s,L,w38]
 by_cases K:m.k=3
 .have hm:x.may m↔x.ow=m.core:=by unfold De.may;rw[qv B,qv A,qv s,qv L,xg K]
  by_cases j:x.ow=m.core
  .simp only[aa,bc,qy K,qo,c.l0,l,qy j];exact fin ⟨λ _=>hm.2 j,λ _=>rfl⟩ n
  .simp only[aa,bc,qy K,qo,c.l0,l,j];exact fin ⟨λ q=>RO q,λ q=>absurd (hm.1 q) j⟩ n
 have hm:x.may m↔m.k=7/\x.ph=4/\x.un.core=m.core:=by unfold De.may;rw[qv B,qv A,qv s,qv L,qv K]
 by_cases Q:m.k=7
 .by_cases g:x.ph=4
  .simp only[aa,bc,K,qy Q,qo,c.rS,qy g,c.lU];refine C3.q (UF x.un l1) λ r Y⟨hr,J⟩=>?_;rw[hr];simp only[aa,bc];exact fin ⟨λ q=>hm.2 ⟨Q,g,by simpa using q⟩,λ q=>by simpa using(hm.1 q).2.2⟩ J
  .simp only[aa,bc,K,qy Q,qo,c.rS,g];exact fin ⟨λ q=>RO q,λ q=>absurd (hm.1 q).2.1 g⟩ n
 .simp only[aa,bc,K,Q,w51];exact fin ⟨λ q=>RO q,λ q=>absurd (hm.1 q).1 Q⟩ n
end
end Go.Am
namespace Go.Am
open Go.Proofs Ca
variable{M:ak}[MK M]
structure T4(t:Nat)(ms:List Mg)(V:Nat->Prop)(Hx:ar):Prop where
 vt:V t
 lt:t<Hx.au
 ls:∃lv,Hx.get t=B1 (OR [lv] sQ)/\aT ao xk 11 Hx lv ms /\ ∀z,aM lv z->V z/\t<z
def T4.loc{t:Nat}{ms:List Mg}{V:Nat->Prop}{c Hb:ar}(h:T4 t ms V c)(hs:∀x,V x->Hb.get x=c.get x)(hn:c.au<=Hb.au):T4 t ms V Hb:=by
 have⟨lv,l1,l2,l3⟩:=h.ls;exact⟨h.vt,qn h.lt hn,lv,by rw[hs _ h.vt];exact l1,Own.fr l2 (⟨hn,λ b _ hw=>hs b (vx.1 hw)⟩:Fr (λ b=>¬V b) c Hb) λ x d w=>w (l3 x d).1,l3⟩
abbrev rY(l:Int)(k:Nat):Mg:=⟨11,(k:Int),l,.zero⟩
def xk3(s:Nat)(l:Int):(xG s).map (λ c=>(⟨11,c,l,.zero⟩:Mg))=(lf s).map (rY l):=by
 rw[Kn,wg];rfl
def ac9(s:Nat):(lf s).length<=4:=by
 have:=List.length_filter_le (λ(k:Nat)=>hb s (k:Int) == 1) (MT 4);rw[zy]at this;exact this
section
variable{H:ar}{D mp:Nat}{lv ev:AV}{N:Int}{ws:List L8}{xs:List (De×AV)}{i:Nat}{x:De}{a:AV}
def pI(h:dS H D mp lv ev N ws xs i x a)(m:Mg){w:L8}(hw:ws[m.line.toNat]? = B1 w)(hl:0<=m.line)(hs:x.sh<16)(c0:0<=m.core)(c1:m.core<4)(hk:m.k=1\/m.k=2)(ho:x.ow<4) :
 zb M N2 [.ptr D 0,xA ev i,.agg (ao m)] H λ v H'=>mG H H' v (x.begin m w).2/\dS H' D mp lv ev N ws xs i (x.begin m w).1 a/\Fr (On (aE ev)) H H':=by
 refine q3k ?_;have⟨w0,wa,wb,w4,L,w10,O,w12,w32,w18,w36,w41⟩:=H_ M ⟨B5,N2⟩;have⟨H1,e1,f1,n1,g1⟩:=cD H (OR (ao m) xk);have hev:=h.d.es.lt;have nb:¬H.au=aE ev:=by omega
 have lU:=eI g1 (zg m);have⟨T,s2,C,f2⟩:=(h.em f1).sU m;have m2:=f2.au;have F2:Fr (On (aE ev)) H T:=(f1.mono λ _ _ q=>q.elim).trans f2 λ _ q=>.inl q;have lm:∀{Hx:ar}(k:Nat),Fr (On (aE ev)) T Hx->Op.ae [.ptr H.au k] Hx=(ao m)[k]?:=λ k f=>x9 (xb (by rw[f.ah _ (by omega) nb,f2.ah _ (by omega) nb];exact g1)) k;simp only[aa,bc,w0,<-e1,lU,qo,s2,w4,C.l0];unfold De.begin
 by_cases q:0<=x.ow
 .rw [xg q];have s:=M9 q ho;have⟨U,S,Q,Y⟩:=C.RI 2;have⟨c,s4,J,Z⟩:=Q.R4 (2 ^ x.ow.toNat);have l:Fr (On (aE ev)) T c:=Y.trans Z λ _ q=>.inl q;have G:=F2.trans l λ _ q=>.inl q;have l0:Op.ae [.ptr H.au 0] c=B1 (.int .i64 m.k):=lm 0 l;have l2:Op.ae [.ptr H.au 2] c=B1 (.int .i64 m.line):=lm 2 l;have m4:=G.au;have out:∀k:Int,mG H (c.alloc (OR (ao ⟨k,x.ow,m.line,.zero⟩) xk)) (Op.sliceTo 1 1 c.au) [⟨k,x.ow,m.line,.zero⟩]/\dS (c.alloc (OR (ao ⟨k,x.ow,m.line,.zero⟩) xk)) D mp lv ev N ws xs i {x with un:=m,ph:=2,ask:=2 ^ x.ow.toNat} a/\Fr (On (aE ev)) H (c.alloc (OR (ao ⟨k,x.ow,m.line,.zero⟩) xk)):=λ k =>
   ⟨KA _ m4,J.em ((Fr.refl c).alloc _),G.alloc _⟩
  by_cases k2:m.k=2
  .rw [xg k2];simp only[aa,bc,qy q,C.l0,qo,s,S,s4,w10,w12,l0,qy k2,w18,J.l0,l2,mZ,SG,AL];exact out 13
  .rw [qv k2];simp only[aa,bc,qy q,C.l0,qo,s,S,s4,w10,w12,l0,k2,w18,J.l0,l2,mZ,SG,AL];exact out 12
 .rw [qv q];have s:=M9 c0 c1;have sd:=UX hs c0 c1;have⟨U,S,Q,Y⟩:=C.R4 (cN x.sh m.core);have F3:=F2.trans Y λ _ q=>.inl q;have l1:Op.ae [.ptr H.au 1] T=B1 (.int .i64 m.core):=lm 1 (Fr.refl _);have l0:Op.ae [.ptr H.au 0] U=B1 (.int .i64 m.k):=lm 0 Y;have dz:cN x.sh m.core=0↔((cN x.sh m.core:Nat):Int)=0:=by omega
  have tog:m.k=1\/cN x.sh m.core=0->zb M RV [.ptr D 0,xA ev i] U λ v H'=>v=.agg (ao (De.dU {x with un:=m,ask:=cN x.sh m.core} w).2)/\dS H' D mp lv ev N ws xs i (De.dU {x with un:=m,ask:=cN x.sh m.core} w).1 a/\Fr (On (aE ev)) U H':=λ _=>oW Q hw hl hs c0 c1;have F:∀{v:AV}{c:ar},(v=.agg (ao (De.dU {x with un:=m,ask:=cN x.sh m.core} w).2)/\dS c D mp lv ev N ws xs i (De.dU {x with un:=m,ask:=cN x.sh m.core} w).1 a/\Fr (On (aE ev)) U c) ->
   mG H (c.alloc (OR (ao (De.dU {x with un:=m,ask:=cN x.sh m.core} w).2) xk)) (Op.sliceTo 1 1 c.au) [(De.dU {x with un:=m,ask:=cN x.sh m.core} w).2]/\dS (c.alloc (OR (ao (De.dU {x with un:=m,ask:=cN x.sh m.core} w).2) xk)) D mp lv ev N ws xs i (De.dU {x with un:=m,ask:=cN x.sh m.core} w).1 a/\Fr (On (aE ev)) H (c.alloc (OR (ao (De.dU {x with un:=m,ask:=cN x.sh m.core} w).2) xk)):=λ{v c}⟨_,J,Z⟩=>by
   have G:=F3.trans Z λ _ q=>.inl q;exact⟨KA _ G.au,J.em ((Fr.refl c).alloc _),G.alloc _⟩
  by_cases R:m.k=1
  .rw [xg (.inl R)];simp only[aa,bc,q,L,C.l1,qo,l1,s,sd,S,O,l0,qy R];refine C3.q (tog (.inl R)) λ v c E=>?_;rw[E.1];simp only[aa,bc,mZ,AL];exact F E
  by_cases d0:cN x.sh m.core=0
  .rw [xg (.inr d0)];have d1:=dz.1 d0;simp only[aa,bc,q,L,C.l1,qo,l1,s,sd,S,O,l0,R,Q.vS,qy d1];refine C3.q (tog (.inr d0)) λ v c E=>?_;rw[E.1];simp only[aa,bc,mZ,AL];exact F E
  rw[qv (λ w=>w.elim R d0)];have d1:¬((cN x.sh m.core:Nat):Int)=0:=λ q=>d0 (dz.2 q);have⟨c,s4,J,Z⟩:=Q.RI 1;have⟨H5,e5,I,n5,g5⟩:=cD c (OR [.nils] sQ);have h5:=J.em I;have l:Fr (On (aE ev)) T c:=Y.trans Z λ _ q=>.inl q;have G:=F2.trans l λ _ q=>.inl q;have m24:=l.au;simp only[aa,bc,q,L,C.l1,qo,l1,s,sd,S,O,l0,R,Q.vS,d1,w32,s4,<-e5,w36,h5.vS];refine C3.q (xkm (cN x.sh m.core)) λ v H7⟨hv,E⟩=>?_;obtain⟨H6,e6,A,-,g6⟩:=cD H5 (OR [uB (cN x.sh m.core)] Vt);rw[<-e6]at E;rw[hv,E];have n6:H6.au=c.au+2:=by rw[e6,xx,n5]
  have g6t:H6.get c.au=B1 (OR [.nils] sQ):=by rw[A.ah _ (by omega) id];exact g5
  have h6:=h5.em A;have g6m:H6.get H.au=B1 (OR (ao m) xk):=by
   rw[A.ah _ (by omega) id,I.ah _ (by omega) id,l.ah _ (by omega) nb,f2.ah _ (by omega) nb];exact g1
  have hd16:cN x.sh m.core<16:=(M1 hs c0 c1 (d:=0) (by decide) (by decide)).1;refine iI.iter (fn:=R7) (lp:=Pf) (pa:=W6 0) (pb:=X6 0) qzo V_.1 V_.2 (by decide) qw3 qw4
   (xhm g6 (by omega) hd16) (λ j V Hx=>T4 c.au (((lf (cN x.sh m.core)).take j).map (rY m.line)) V Hx) (λ _ _ _=>False) (λ z=>z=c.au) (qm _) ?_ ?_ ?_ ?_ ?_ ?_ ?_ ?_
  .rintro z (q|q)
   .exact ⟨by omega,rfl,by omega⟩
   .exact q.elim
  .exact λ z t=>by omega
  .exact ⟨rfl,by omega,.nils,g6t,Own.nil ..,λ z q=>(q.1 rfl).elim⟩
  .exact λ j V Ha Hb hp hs hn=>hp.loc hs hn
  .exact λ e V Ha Hb hp _ _=>hp
  .intro n j lr lb y hy hL2 V u B hV hfc K hLc hgL;rw[xp,xq]at hy;obtain⟨k,hk,rfl⟩:=hy;refine⟨_,rfl,?_⟩;obtain⟨-,wa,wb,-⟩:=H_ M ⟨B1 n,N2⟩;simp only[aa,bc,wa,Fc];refine⟨hgL,?_⟩;have fx:Fr (On n) u (u.set n lb):=(Fr.refl u).set (W:=On n) (.inl rfl) _;have gL:(u.set n lb).get n=B1 lb:=xc ..;have nL:(u.set n lb).au=u.au:=rfl;have hP7:=B.loc (Hb:=u.set n lb) (λ y hy=>by rw[ki (λ q:n=y=>K (by rw[q];exact hy))]) (qm _);have gm:(u.set n lb).get H.au=B1 (OR (ao m) xk):=by
    rw[ki (by omega),hfc.ah H.au (by omega) (λ q=>q.elim (λ q=>by omega) id)];exact g6m
   generalize u.set n lb=o at *;have⟨g,l1,l2,l3⟩:=hP7.ls;have lq:Op.ae [.ptr c.au 0] o=B1 g:=x9 (xb l1) 0;have ll:Op.ae [.ptr H.au 2] o=B1 (.int .i64 m.line):=x9 (xb gm) 2;have nq:(((lf (cN x.sh m.core)).take j).map (rY m.line)).length<=4:=by
    rw[xt,ya];have:=ac9 (cN x.sh m.core);omega
   simp only[aa,bc,wb,lq,ll,mZ,SG];refine nN (e:=xk) (size:=11) (bytes:=88) l2 (x:=.agg (ao (rY m.line k))) (zg _) (by rw[zk];exact zg _) (by rw[zk];exact qT _) (by decide) (by omega) (by omega) λ r P p hf hfr=>?_;rw[zk]at p;have q8:P.get c.au=B1 (OR [g] sQ):=by rw[hf.ah _ hP7.lt λ q=>by have:=(l3 _ q).2;omega];exact l1
   have o1:aB r=true:=by have:=Sl.one (Own.sl p);exact this
   have st:=NV q8 o1;obtain⟨H9,e9⟩:∃X,X=P.set c.au (OR [r] sQ):=⟨_,rfl⟩
   rw[<-e9]at st;have f9:Fr (On c.au) P H9:=by rw[e9];exact(Fr.refl P).set (W:=On c.au) (.inl rfl) _
   simp only[aa,bc,st];have lo':∀y,aM r y->c.au<y:=λ y q=>(hfr y q).elim (λ q=>(l3 y q).2) λ q=>by have:=B.lt;omega
   have nf:=hf.au;have n9:H9.au=P.au:=by rw[e9];rfl
   refine⟨rfl,?_,λ y=>V y\/aM r y,?_,?_,.inl ⟨rfl,⟨.inl B.vt,?_,r,?_,?_,λ y q=>⟨.inr q,lo' y q⟩⟩⟩⟩
   .rw [f9.ah n (by omega) (λ(q:n=c.au)=>K (by rw[q];exact B.vt)),hf.ah n (by omega) λ q=>K (l3 _ q).1];exact gL
   .rintro y (q|q)
    .exact ⟨by have:=(hV y q).1;omega,.inl q⟩
    .refine ⟨by rw[n9];exact Own.lt p y q,?_⟩;rcases hfr y q with w|w
     .exact .inl (l3 y w).1
     .exact .inr (by omega)
   .have a1:Fr (λ b=>V b\/b=n) u o:=fx.mono λ x _ q=>.inr q;exact(a1.trans hf λ x hx=>.inl (.inl (l3 x hx).1)).trans f9 λ x hx=>.inl (.inl (by rw[show x=c.au from hx];exact B.vt))
   .have:=B.lt;omega
   .rw [e9,xc]
   .have hx2:((lf (cN x.sh m.core)).take (j+1)).map (rY m.line)=((lf (cN x.sh m.core)).take j).map (rY m.line) ++ [rY m.line k]:=by rw[kc,hk];simp
    rw[hx2];have ow:aT ao xk 11 P r (((lf (cN x.sh m.core)).take j).map (rY m.line) ++ [rY m.line k]):=by
     unfold aT;rw[xr,vh,j9,List.flatMap_nil,zq];exact p
    exact Own.fr ow f9 λ x hx(q:x=c.au)=>by have:=lo' x hx;omega
  .intro d V o hd1 hd2 hgd hfd hVd B;have⟨g,l1,l2,l3⟩:=B.ls;have el:((lf (cN x.sh m.core)).map λ(k:Nat)=>[AV.int .i64 (k:Int)]).length=(lf (cN x.sh m.core)).length:=xt _;rw[el,ze (qm _)]at l2;have lq:Op.ae [.ptr c.au 0] (o.set d (.deferred B5))=B1 g:=x9 (xb (show(o.set d (.deferred B5)).get c.au=B1 (OR [g] sQ)from by rw[ki (λ q:d=c.au=>by have:=(hVd _ B.vt).2.2;omega)];exact l1)) 0;have lq0:Op.ae [.ptr c.au 0] o=B1 g:=x9 (xb l1) 0;have sl2:bV ao 11 (o.set d (.deferred B5)) g ((lf (cN x.sh m.core)).map (rY m.line)):=by
    have fs:Fr (On d) o (o.set d (.deferred B5)):=(Fr.refl o).set (W:=On d) (.inl rfl) _;exact(Own.fr l2 fs λ z t(q:z=d)=>(hVd z (l3 z t).1).2.2 q).sl
   have hx1:dS (o.set d (.deferred B5)) D mp lv ev N ws xs i {x with un:=m,ph:=1,ask:=cN x.sh m.core} a:=by
    refine h.loc h6 ((hfd.mono λ z _ t=>?_).set (.inl (show H.au<=d by omega)) _);rcases t with t|t
    .show H.au<=z;omega
    .exact t.elim
   have fr1:Fr (On (aE ev)) H (o.set d (.deferred B5)):=by
    refine(((G.trans I λ _ q=>q.elim).trans A λ _ q=>q.elim).trans hfd λ z t=>?_).set (.inr (by omega)) _;rcases t with t|t
    .exact .inr (by omega)
    .exact t.elim
   simp only[aa,bc,w41,lq0,JR];refine⟨hgd,⟨by rw[xk3];exact sl2,λ hne=>?_⟩,hx1,fr1⟩;have hlo:g≠ .nils:=λ q=>by
    rw[xk3]at hne;subst q;have:=l2.1;rw[AA zg]at this;rcases l2.2 with⟨z,-⟩|⟨b,q,-⟩
    .exact hne (ku.1 z)
    .cases q
   have:=(l3 (aE g) ⟨hlo,rfl⟩).2;omega
  .exact λ e d V o _ _ _ _ _ _ hp=>hp.elim
end
end Go.Am
namespace Go.Am
open Go.Proofs Ca
variable{M:ak}[MK M]
section
variable{H:ar}{D mp:Nat}{lv ev:AV}{N:Int}{ws:List L8}{xs:List (De×AV)}{i:Nat}{x:De}{a:AV}
def dS.mem(h:dS H D mp lv ev N ws xs i x a){H':ar}{c:List L8}(hm:AF H' mp lv c)(f:Fr (On (aE lv)) H H')(hl:c.length=ws.length):dS H' D mp lv ev N c xs i x a:=by
 have⟨e1,e2,j,l,e⟩:=h.d.d1;exact⟨h.il,by rw[f.ah _ h.d.lt (λ q=>e2 q)];exact h.d.row,qn h.d.lt f.au,hm,h.d.es.fr f (λ q=>e q.symm),λ k y b hk=>(h.d.wt k y b hk).fr f λ z g q=>(h.d.d2 k y b hk z g).2.2.1 q,h.d.d1,h.d.d2,h.d.d3,by rw[hl];exact h.d.len⟩
def Br(H:ar)(D mp:Nat)(lv ev:AV)(N:Int)(ws:List L8)(xs:List (De×AV))(i:Nat)(a:AV)(r:De×L8×List Mg)(v:AV)(H':ar):Prop :=
 (∃ov e,v=.tuple [ov,e]/\mG H H' ov r.2.2) /\ ∃a',dS H' D mp lv ev N (ws.set i r.2.1) xs i r.1 a'/\Fr (mO D mp lv ev xs) H H' /\ ∀z,aM a' z->aM a z\/H.au<=z
def Rw{ws:List L8}{i:Nat}{w:L8}(h:ws[i]? = B1 w):ws.set i w=ws:=by
 apply kz
 grind
def Bm{H1 b:ar}(f:Fr (On (aE ev)) H1 b):Fr (mO D mp lv ev xs) H1 b:=f.mono λ _ _ q=>.inr (.inr (.inr (.inl q)))
def frM{H1 b:ar}(f:Fr (On (aE lv)) H1 b):Fr (mO D mp lv ev xs) H1 b:=f.mono λ _ _ q=>.inr (.inr (.inl q))
def xD{H1 b c:ar}(f:Fr (mO D mp lv ev xs) H1 b)(g:Fr (mO D mp lv ev xs) b c):Fr (mO D mp lv ev xs) H1 c:=f.trans g λ _ q=>.inl q
def oY{E:Env}{p:ar}{y:De}{w':L8}{o:List Mg}{g:AV}{q:Prop}[Decidable q]{b8:Bool}(u:b8=decide q)(G:lk E 8=B1 (.bool b8))(Q:lk E 7=B1 g)(T:lk E 0=B1 (.ptr D 0))(b4:lk E 6=B1 (xA ev i))
 (hx:xs[i]? = B1 (x,a)) (h:dS p D mp lv ev N (ws.set i w') xs i y a) (hq:q->(ws.set i w')[y.un.line.toNat]? = B1 w'/\0<=y.un.line/\y.sh<16/\0<=y.un.core/\y.un.core<4)
 (ho:aT ao xk 11 p g o) (Z:o.length<=3) (r:∀z,aM g z->H.au<=z) (f:Fr (mO D mp lv ev xs) H p) (j:∀z,mO D mp lv ev xs z->z<H.au) :
 W M ⟨B5,FW⟩ (Wr 113) B4 (fh M [.tmp 4,.tmp 5] (uI (Br H D mp lv ev N ws xs i a (y.vR w' q o)))) E [] p:=by
 obtain⟨-,-,-,-,-,-,-,l,-,n,-⟩:=qsv M ⟨B5,FW⟩;have A:∀{g:AV}{o:List Mg}{p:ar},aT ao xk 11 p g o->(∀z,aM g z->H.au<=z)->o≠[]->H.au<=aE g:=λ{g o p}R t h3=>by
  refine t _ ⟨λ e=>?_,rfl⟩;subst e;have:=R.1;rw[AA zg]at this;rcases R.2 with⟨z,-⟩|⟨b,q,-⟩
  .grind
  grind
 unfold De.vR
 by_cases F:q
 .have ⟨hw,hl,hs,U,V⟩:=hq F;rw[xg F];rw[u,jz F]at G;simp only[aa,bc,l,G,Q,T,b4];refine C3.q (oW h hw hl hs U V) λ v I⟨hv,t,J⟩=>?_;rw[hv];have L:aT ao xk 11 I g o:=Own.fr ho J λ z c(q:z=aE ev)=>by have:=r z c;have:=j (aE ev) (.inr (.inr (.inr (.inl rfl))));omega
  simp only[aa,bc,mZ];refine nN (e:=xk) (size:=11) (bytes:=88) L (x:=.agg (ao (y.dU w').2)) (zg _) (by grind [zk,zg]) (by grind [zk,qT]) (by decide) (by omega) (by omega) λ S P O X Y=>?_;rw[zk]at O;simp only[aa,bc,n];have s:Fr (Lo H) I P:=X.mono λ z _ c=>r z c;have B:aT ao xk 11 P S (o ++ [(y.dU w').2]):=by
   grind [aT]
  have hn:H.au<=I.au:=xw f.au J.au;have C:∀z,aM S z->H.au<=z:=λ z c=>(by grind)
  have K:∀z,mO D mp lv ev (xs.set i ((y.dU w').1,a)) z->z<H.au:=λ z c=>by
   refine j z ?_;rcases c with c|c|c|c|⟨k,yy,b,hk,c⟩
   .exact .inl c
   .exact .inr (.inl c)
   .exact .inr (.inr (.inl c))
   .exact .inr (.inr (.inr (.inl c)))
   .by_cases e:k=i
    .subst e;rw[t.here]at hk;injection hk with hk;injection hk with _ hk;subst hk
     exact .inr (.inr (.inr (.inr ⟨k,x,a,hx,c⟩)))
    .rw [zn (rP e)]at hk;exact .inr (.inr (.inr (.inr ⟨k,yy,b,hk,c⟩)))
  refine⟨⟨_,_,rfl,B.sl,λ e=>A B C e⟩,a,⟨t.il,t.d.fr s λ z c q=>?_⟩,?_,λ z c=>.inl c⟩
  .grind
  .exact (xD f (Bm J)).trans s λ z c=>.inr c
 .rw [qv F];rw[u,js F]at G;simp only[aa,bc,l,G,Q,n];exact⟨⟨_,_,rfl,ho.sl,λ e=>A ho r e⟩,a,h,f,λ z c=>.inl c⟩
end
end Go.Am
namespace Go.Am
open Go.Proofs Ca
variable{M:ak}[MK M]
def bdA(co l:Int):Op.build (ao ⟨0,0,0,.zero⟩) [(0,1),(1,1),(2,1)] [.int .i64 16,.int .i64 co,.int .i64 l]=B1 (.agg (ao ⟨16,co,l,.zero⟩)):=rfl
def hT:Op.build (cu .zero) [] []=B1 (.agg (cu .zero)):=rfl
def Ij:Op.build (ao ⟨0,0,0,.zero⟩) [] []=B1 (.agg (ao ⟨0,0,0,.zero⟩)):=rfl
def GM(m:Mg):(ao m).take 3++(AV.agg (cu .zero)).cells++(ao m).drop (3+8)=ao {m with d:=.zero}:=YF m .zero
section
variable{H:ar}{D mp:Nat}{lv ev:AV}{N:Int}{ws:List L8}{xs:List (De×AV)}{x:De}{a:AV}{m:Mg}{w:L8}{ys:List Mg}
def dS.wait{i:Nat}(h:dS H D mp lv ev N ws xs i x a){b:AV}{ys:List Mg}{H1:ar}(hs:Sk ao xk 11 H1 b ys)(f:Fr (aM a) H H1)(j:∀z,aM b z->aM a z\/H.au<=z)(g:aB b=B4) :
 ∃H',Op.store 1 [.ptr (aE ev) (cM 16 ev i+15),b] H1=B1 (.undef,H')/\dS H' D mp lv ev N ws xs i {x with wt:=ys} b/\Fr (mO D mp lv ev (xs.set i (x,a))) H H'/\Fr (On (aE ev)) H1 H':=by
 have⟨H',s,r,c,e⟩:=h.d.wait h.here hs f j g;rw[List.set_set]at r;exact⟨H',s,⟨h.il,r⟩,c,e⟩
def Sk.one(h:Sk ao xk 11 H a ys):aB a=true:=by
 rcases h with⟨rfl,-⟩|⟨b,i,alt,r,h⟩
 .rfl
 .rw [h.eq];rfl
def xjc{i:Nat}{y:De}(f:xs[i]? = B1 (x,a)){z:Nat}:mO D mp lv ev (xs.set i (y,a)) z↔mO D mp lv ev xs z:=by
 have g:=(qt.1 f).1;have key:(∃(k:Nat)(c:De)(b:AV),(xs.set i (y,a))[k]? = B1 (c,b)/\aM b z)↔ ∃(k:Nat)(c:De)(b:AV),xs[k]? = B1 (c,b)/\aM b z:=by
  constructor
  .rintro ⟨k,c,b,hk,d⟩
   by_cases e:k=i
   .subst e;rw[zj g]at hk;injection hk with hk;injection hk with _ hk;subst hk
    exact⟨k,x,a,f,d⟩
   .rw [zn (rP e)]at hk;exact⟨k,c,b,hk,d⟩
  .rintro ⟨k,c,b,hk,d⟩
   by_cases e:k=i
   .subst e;rw[f]at hk;injection hk with hk;injection hk with _ hk;subst hk
    exact⟨k,y,a,zj g,d⟩
   .exact ⟨k,c,b,by rw[zn (rP e)];exact hk,d⟩
 unfold mO;rw[key]
def xg1(h:mM H D mp lv ev N ws xs)(Q:xs[m.line.toNat]? = B1 (x,a))(hw:ws[m.line.toNat]? = B1 w)(I:XI x N m.line)(h0:0<=m.line)(c0:0<=m.core)(c1:m.core<N)(hwl:x.wt.length<=900000) :
 zb M FW [.ptr D 0,.agg (ao m)] H (Br H D mp lv ev N ws xs m.line.toNat a (x.bP w m)):=by
 have N4:=I.N4;have c4:m.core<4:=by omega
 have hil:=(qt.1 Q).1;have l:∀z,mO D mp lv ev xs z->z<H.au:=λ z u=>h.low u;refine q6f ?_;have⟨w0,w2,w10,w12,w20,w28,w32,w113,w42,w119,w45,w61,Y,w55,w71,w86,w73,w99,w79⟩:=qsv M ⟨B5,FW⟩;have⟨H1,e1,f1,n1,g1⟩:=cD H (OR (ao m) xk);have d1:=h.em f1;have l2:Op.ae [.ptr H.au 2] H1=B1 (.int .i64 m.line):=x9 (xb g1) 2;have l1:Op.ae [.ptr H.au 1] H1=B1 (.int .i64 m.core):=x9 (xb g1) 1;have lN:Op.ae [.ptr D 1] H1=B1 (.int .i64 N):=x9 (xb d1.row) 1;have lU:=eI g1 (zg m);have q0:¬m.core<0:=by omega
 have q1:¬N<=m.core:=by omega
 simp only[aa,bc,w0,<-e1,w2,ye,w10,l2];refine C3.q (Eh d1 h0 (by omega)) λ v A⟨hv,hh⟩=>?_;rw[hv,hh];simp only[aa,bc,w12,ye,l1,q0,qo,lN,q1,w20,lU];have en1:dS H1 D mp lv ev N ws xs m.line.toNat x a:=dS.of d1 Q;refine C3.q (xkh en1 m c0 c4 I.ab (by omega)) λ v A⟨hv,f2⟩=>?_;rw[hv];have s:=en1.em f2;have F2:Fr Em H A:=f1.trans f2 λ _ q=>q.elim;have m2:=f2.au
 by_cases may:x.may m
 case neg =>
  simp only[aa,bc,may];unfold De.bP;rw[xg may];exact⟨⟨_,_,rfl,.nil ..⟩,a,by rw[Rw hw];exact s,F2.mono λ _ _ q=>q.elim,λ z u=>.inl u⟩
 -- what the box of the message stays under
 have lm:∀{t:ar}(k:Nat),Fr (mO D mp lv ev xs) A t->Op.ae [.ptr H.au k] t=(ao m)[k]?:=λ k f=>x9 (xb (by rw[f.ah _ (by omega) (λ q=>by have:=l _ q;omega),f2.ah _ (by omega) id];exact g1)) k;have lD:∀{t:ar},Fr (mO D mp lv ev xs) A t->Op.aq 8 [.ptr H.au 3] t=B1 (.agg (cu m.d)):=λ{t}f=>by
  have g:t.get H.au=B1 (OR (ao m) xk):=by rw[f.ah _ (by omega) (λ q=>by have:=l _ q;omega),f2.ah _ (by omega) id];exact g1
  rw[rR (xb g) (by rw[zg];decide)];have⟨k,co,li,⟨d,hd⟩⟩:=m
  match d,hd with
  |[_,_,_,_,_,_,_,_],_=>rfl
 have r2:=Fr.refl (W:=mO D mp lv ev xs) A;have k0:Op.ae [.ptr H.au 0] A=B1 (.int .i64 m.k):=lm 0 r2;have k1r:∀{t:ar},Fr (mO D mp lv ev xs) A t->Op.ae [.ptr H.au 1] t=B1 (.int .i64 m.core):=λ f=>lm 1 f;have k2r:∀{t:ar},Fr (mO D mp lv ev xs) A t->Op.ae [.ptr H.au 2] t=B1 (.int .i64 m.line):=λ f=>lm 2 f;have hwt:=s.d.wt m.line.toNat x a s.here;have bx:=λ z(u:aM a z)=>(l z (.inr (.inr (.inr (.inr ⟨_,x,a,Q,u⟩)))))
 unfold De.bP;rw[qv (λ q=>q may)];have sh1:=M9 c0 c4;simp only[aa,bc,may,w28,w32,k0]
 by_cases kg:m.k=1\/m.k=2
 .rw [xg kg]
  -- the message in hand has no words
  have st:Op.store 8 [.ptr H.au 3,.agg (cu .zero)] A=B1 (.undef,A.set H.au (OR (ao {m with d:=.zero}) xk)):=by
   have g:A.get H.au=B1 (OR (ao m) xk):=by rw[f2.ah _ (by omega) id];exact g1
   have:=wY g (o:=3) (n:=8) (v:=.agg (cu .zero)) (by rw[zk];exact kq _) (by rw[zg];decide) (by rw[zk];exact tZ _);rw[this,GM]
  obtain⟨P,e3⟩:∃X,X=A.set H.au (OR (ao {m with d:=.zero}) xk):=⟨_,rfl⟩
  rw[<-e3]at st;have J:Fr (On H.au) A P:=by rw[e3];exact(Fr.refl A).set (W:=On H.au) (.inl rfl) _
  have g3:P.get H.au=B1 (OR (ao {m with d:=.zero}) xk):=by rw[e3,xc]
  have lU3:=eI g3 (zg {m with d:=.zero});have c:dS P D mp lv ev N ws xs m.line.toNat x a:=(dS.of h Q).loc s (J.mono λ z _(q:z=H.au)=>by show H.au<=z;omega);have R:Fr Em H P:=F2.trans (J.mono (W':=Lo H) λ z _(q:z=H.au)=>by show H.au<=z;omega) λ z q=>.inr q;have m3:=J.au;have key:∀{E:Env},lk E 38=B1 (.bool B4)->lk E 3=B1 (.ptr H.au 0)->lk E 6=B1 (xA ev m.line.toNat)->lk E 0=B1 (.ptr D 0)->lk E 4=B1 .nils ->
   W M ⟨B5,FW⟩ (Wr 42) B4 (eS 0 (fj (W M ⟨B5,FW⟩ (Wr 113)) (fh M [.tmp 4,.tmp 5] (uI (Br H D mp lv ev N ws xs m.line.toNat a (if x.ph≠0 then({x with wt:=x.wt ++ [{m with d:=.zero}]},w,[])else((x.begin {m with d:=.zero} w).1,w,(x.begin {m with d:=.zero} w).2))))))) E [] A:=by
   intro E b38 b3 b6 b0 b4
   by_cases p0:x.ph=0
   .rw [qv (λ q=>q p0)];simp only[aa,bc,w42,b38,lZ,hT,b3,st,w45,b6,qo,c.rS,qy p0,w55,b0,lU3];refine C3.q (pI c {m with d:=.zero} hw h0 I.sb c0 c4 kg (by have:=I.ow;omega)) λ v B⟨T,j,f4⟩=>?_;simp only[aa,bc];refine⟨⟨_,_,rfl,T.1,λ q=>xw R.au (T.2 q)⟩,a,by rw[Rw hw];exact j,(R.mono λ _ _ q=>q.elim).trans (Bm f4) λ _ q=>.inl q,λ z u=>.inl u⟩
   .rw [xg p0];have hsk:=c.d.wt m.line.toNat x a c.here;obtain⟨B,e4,f34,n4,-⟩:=cD P (OR (ao {m with d:=.zero}) xk);have rw1:=Lr (H:=P) {m with d:=.zero};rw[<-e4]at rw1;have sl1:=rw1.sl zg;have⟨v5,H5,s5,Z,f5,o5⟩:=(hsk.em f34).app zg (by decide) (ys:=[{m with d:=.zero}]) (k:=1) (new:=ao {m with d:=.zero}) rfl (by simp) (Sl.eR sl1) (by have:=Sl.first sl1;simpa using this) (qT _) (bytes:=88) (by omega) (by omega);have f35:Fr (aM a) P H5:=(f34.mono λ _ _ q=>q.elim).trans f5 λ _ q=>.inl q;have⟨H6,s6,en6,f6,f56⟩:=c.wait Z f35 (λ z u=>(o5 z u).elim .inl λ q=>.inr (by omega)) Z.one;simp only[aa,bc,w42,b38,lZ,hT,b3,st];simp only[aa,bc,w45,b3,b6,qo,c.rS,p0,c.jA,lU3,mZ,AL,<-e4,s5,s6];refine⟨⟨_,_,rfl,.nil ..⟩,v5,by rw[Rw hw];exact en6,?_,λ z u=>(o5 z u).elim .inl λ q=>.inr (by have:=R.au;omega)⟩;exact(R.mono λ _ _ q=>q.elim).trans f6 λ z q=>.inl ((xjc Q).1 q)
  rcases kg with k|k
  .simp only[aa,bc,qy k];exact key rfl rfl rfl rfl rfl
  .have nk:¬m.k=1:=by omega
   simp only[aa,bc,nk,qy k];exact key rfl rfl rfl rfl rfl
 rw[qv kg];have nk1:¬m.k=1:=λ q=>kg (.inl q);have nk2:¬m.k=2:=λ q=>kg (.inr q);have hm:=may;unfold De.may at hm;rw[qv kg]at hm;have hU:=I.un;have S:∀{y:De}{w':L8},x.ph≠0->y.un=x.un->y.sh<16->(ws.set m.line.toNat w')[y.un.line.toNat]? = B1 w'/\0<=y.un.line/\y.sh<16/\0<=y.un.core/\y.un.core<4:=λ{y w'}p e1 e2=>by
  obtain⟨-,u0,u1,ul⟩:=hU p;have hl:=(qt.1 hw).1;rw[e1];exact⟨by rw[ul,zj hl],by rw[ul];exact h0,e2,u0,by omega⟩
 have K:∀{t:ar}{y:De},dS t D mp lv ev N ws xs m.line.toNat y a->dS t D mp lv ev N (ws.set m.line.toNat w) xs m.line.toNat y a:=λ e=>by rw[Rw hw];exact e
 have full:∀{t:ar},Fr (mO D mp lv ev xs) A t->Fr (mO D mp lv ev xs) H t:=λ f=>(F2.mono λ _ _ q=>q.elim).trans f λ _ q=>.inl q;have G:∀{t:ar},aT ao xk 11 t .nils ([]:List Mg):=Own.nil ..;have F:∀z,aM AV.nils z->H.au<=z:=λ z q=>absurd rfl q.1;simp only[aa,bc,nk1,nk2,w42]
 by_cases k4:m.k=4
 .rw [xg k4]at hm⊢;have sd:=UX I.sb c0 c4;have sda:=UX I.ab c0 c4;have⟨P,s3,c,J⟩:=s.s1 (cN x.sh m.core);have⟨B,s4,j,f4⟩:=c.R4 (cN x.ask m.core);have R:=Bm (D:=D) (mp:=mp) (lv:=lv) (xs:=xs) J;have L:=xD R (Bm f4);have dl:cN x.sh m.core<16:=(M1 I.sb c0 c4 (d:=0) (by decide) (by decide)).1;have dd:decide (((cN x.ask m.core:Nat):Int)=0)=decide (cN x.ask m.core=0):=by
   by_cases e:cN x.ask m.core=0
   .rw [e];rfl
   .rw [js e,js (by omega)]
  simp only[aa,bc,qy k4,w61,qo,s.l1,k1r r2,sh1,sd,s3,c.vS,k1r R,sda,s4,j.vS];exact oY (q:=cN x.ask m.core=0) dd rfl rfl rfl rfl Q (K j) (λ _=>S (by omega) rfl dl) G (by decide) F (full L) l
 rw[qv k4]at hm⊢
 by_cases Z:m.k=5
 .rw [xg Z]at hm⊢;have yN:Op.ae [.ptr D 0] A=B1 (.ptr mp 0):=x9 (xb s.d.row) 0;have hlen:m.line<ws.length:=by have:=(qt.1 hw).1;omega
  simp only[aa,bc,k4,Y,qy Z,qo,yN,k2r r2,lD r2];refine C3.q (Vk s.d.me h0 hlen m.d) λ v P⟨hv,hm3,J⟩=>?_;have c:=s.mem hm3 J (zf ..);have R:=frM (D:=D) (mp:=mp) (ev:=ev) (xs:=xs) J;have⟨B,s4,j,f4⟩:=c.s0 (-1);have L:=xD R (Bm f4)
  by_cases u1:x.un.k=1
  .rw [xg u1];have sa:=_l I.sb c0 c4;have⟨H5,s5,en5,f5⟩:=j.s1 (rC x.sh m.core);have F5:=xD L (Bm f5);simp only[aa,bc,w71,qo,s4,w73,j.l2,qy u1,j.l1,k1r L,sh1,sa,s5,w79];exact oY (q:=True) rfl rfl rfl rfl rfl Q en5 (λ _=>S (by omega) rfl (Qm I.sb c0 c4 (d:=0) (by decide) (by decide)).1) G (by decide) F (full F5) l
  .rw [qv u1];simp only[aa,bc,w71,qo,s4,w73,j.l2,u1,w79];exact oY (q:=True) rfl rfl rfl rfl rfl Q j (λ _=>S (by omega) rfl I.sb) G (by decide) F (full L) l
 rw[qv Z]at hm⊢
 by_cases k6:m.k=6
 .rw [xg k6]at hm⊢;have⟨P,s3,c,J⟩:=s.RI 3;simp only[aa,bc,k4,Y,Z,qy k6,qo,s3,c.l0];exact oY (q:=x.ow<0) rfl rfl rfl rfl rfl Q (K c) (λ _=>S (by omega) rfl I.sb) G (by decide) F (full (Bm J)) l
 rw[qv k6]at hm⊢
 by_cases k3:m.k=3
 .rw [xg k3]at hm⊢;have yN:Op.ae [.ptr D 0] A=B1 (.ptr mp 0):=x9 (xb s.d.row) 0;have hlen:m.line<ws.length:=by have:=(qt.1 hw).1;omega
  simp only[aa,bc,k4,Y,Z,k6,w86,qy k3,qo,yN,k2r r2,lD r2];refine C3.q (Vk s.d.me h0 hlen m.d) λ v P⟨hv,hm3,J⟩=>?_;have c:=s.mem hm3 J (zf ..);have R:=frM (D:=D) (mp:=mp) (ev:=ev) (xs:=xs) J;have⟨B,s4,j,f4⟩:=c.s0 (-1);have L:=xD R (Bm f4);simp only[aa,bc,qo,s4,k1r L,k2r L,mZ,bdA];refine nN (e:=xk) (size:=11) (bytes:=88) (Own.nil B xk 11) (x:=.agg (ao ⟨16,m.core,m.line,.zero⟩)) (zg _) (by rw[zk];exact zg _) (by rw[zk];exact qT _) (by decide) (by omega) (by omega) λ v5 H5 hv5 hf hfr=>?_;rw[zk]at hv5;have f45:Fr Em B H5:=hf.mono λ z _ u=>absurd rfl u.1;have en5:=j.em f45;have F5:=L.trans f45 λ _ q=>q.elim;have nn:H.au<=B.au:=(full L).au;simp only[aa,bc,qo,en5.rS];refine oY (q:=x.ph=3) rfl rfl rfl rfl rfl Q en5 (λ q=>S (by omega) rfl I.sb) (o:=[⟨16,m.core,m.line,.zero⟩]) ?_ (by simp) (λ z u=>(hfr z u).elim (λ q=>absurd rfl q.1) λ q=>by omega) (full F5) l;unfold aT
  simpa using hv5
 rw[qv k3]at hm⊢;have⟨k7,p4,pu⟩:=hm;have⟨P,s3,c,J⟩:=s.RI 0;have⟨B,s4,j,f4⟩:=c.sU ⟨0,0,0,.zero⟩;have L:=xD (Bm (D:=D) (mp:=mp) (lv:=lv) (xs:=xs) J) (Bm f4);have hsk:=j.d.wt m.line.toNat _ a j.here;have O:=hsk.len zg;cases C:x.wt with
 |nil =>
  have O:Op.db [a]=B1 (.int .i64 0):=by rw[O];simp only[C];rfl
  have z00:¬(0:Int)<0:=by decide
  have en4n:dS B D mp lv ev N ws xs m.line.toNat {x with ph:=0,un:=⟨0,0,0,.zero⟩,wt:=[]} a:=by rw[<-C];exact j
  simp only[aa,bc,k4,Y,Z,k6,w86,k3,qy k7,w99,qo,mZ,Ij,s3,s4,j.jA,O,z00];exact oY (q:=False) (b8:=B2) rfl rfl rfl rfl rfl Q (K en4n) (λ q=>q.elim) G (by decide) F (full L) l
 |cons n r =>
  have hn:=I.wt n (by rw[C];simp);have O:Op.db [a]=B1 (.int .i64 ((r.length+1:Nat):Int)):=by rw[O];simp only[C];rfl
  have z01:(0:Int)<((r.length+1:Nat):Int):=by omega
  have V:Sk ao xk 11 B a (n::r):=by
   have:({x with ph:=0,un:=⟨0,0,0,.zero⟩}:De).wt=n::r:=C;rw[<-this];exact hsk
  have ix:=(V.sl zg).idx (i:=0) (x:=n) rfl (z:=0) rfl .i64;have ld:=(V.sl zg).aq zg (by decide) (i:=0) (x:=n) rfl;obtain⟨H5,e5,f45,-,g5⟩:=cD B (OR (ao ⟨0,0,0,.zero⟩) xk);have st5:=fE g5 (zg _) (zg n) (qT n);obtain⟨H6,e6⟩:∃X,X=H5.set B.au (OR (ao n) xk):=⟨_,rfl⟩
  rw[<-e6]at st5;have g6:H6.get B.au=B1 (OR (ao n) xk):=by rw[e6,xc]
  have f46:Fr Em B H6:=by rw[e6];exact f45.set (.inr (qm _)) _
  have n6:B.au<H6.au:=by rw[e6,tV,e5,xx];omega
  have en6:=j.em f46;have hsk6:=V.em f46;rcases hsk6 with⟨-,q⟩|⟨b,i,alt,rr,hsb⟩
  .cases q
  obtain⟨v7,alt',s7,U,-⟩:=hsb.off zg (k:=1) (by simp) .i64;have s7:Op.aD 11 [B1 0,B5,B5] [a,.int .i64 1]=B1 v7:=s7;have hon7:∀z,aM v7 z->aM a z:=λ z u=>by rw[U.TE u];exact hsb.on
  have⟨H8,s8,en8,f8,f68⟩:=en6.wait (ys:=r) (.inr ⟨_,_,_,_,U⟩) (Fr.refl H6) (λ z u=>.inl (hon7 z u)) (by rw[U.eq];rfl);have F6:=L.trans f46 λ _ q=>q.elim;have F8:=F6.trans f8 λ z q=>.inl ((xjc Q).1 q);have nev:¬B.au=aE ev:=by have:=l (aE ev) (.inr (.inr (.inr (.inl rfl))));have:=(full L).au;omega
  have l8:Op.aq 11 [.ptr B.au 0] H8=B1 (.agg (ao n)):=eI (by rw[f68.ah _ n6 nev];exact g6) (zg n);simp only[aa,bc,k4,Y,Z,k6,w86,k3,qy k7,w99,qo,mZ,Ij,s3,s4,j.jA,O,qy z01,ix,ld,<-e5,st5,en6.jA,s7,s8,l8];have⟨nk,n0,n1',nl⟩:=hn;refine C3.q (pI en8 n (w:=w) (by rw[nl];exact hw) (by rw[nl];exact h0) I.sb n0 (by omega) nk (by have:=I.ow;show x.ow<4;omega)) λ v H9⟨T,en9,f9⟩=>?_;simp only[aa,bc];refine⟨⟨_,_,rfl,T.1,λ q=>xw (full F8).au (T.2 q)⟩,v7,by rw[Rw hw];exact en9,full (xD F8 (Bm f9)),λ z u=>.inl (hon7 z u)⟩
end
end Go.Am
namespace Go.Am
open Go.Proofs Ca
open Lang (ints)
variable{M:ak}[MK M]
structure Na where
 r:Nat
 b:Nat
 sv:AV
 bv:AV
 ks:List Nat
structure Bs where
 D:Nat
 mp:Nat
 lv:AV
 ev:AV
 xs:List (De×AV)
 nv:AV
 fv:AV
 ad:List Na
def po(r:Nat):List AV:=[.ptr r 0]
def XS(r:Nat):(po r).length=1:=rfl
def Na.w(A:Na):Nat->Prop:=iE A.r A.b A.sv A.bv
def Bs.dw(s:Bs):Nat->Prop:=mO s.D s.mp s.lv s.ev s.xs
def gE(B:Nat)(s:Bs)(z:Nat):Prop:=z=B\/s.dw z\/aM s.nv z\/aM s.fv z \/ ∃(c:Nat)(A:Na),s.ad[c]? = B1 A/\A.w z
structure eH(H0 H:ar)(B:Nat)(s:Bs)(b:Bu)(own:Nat->Nat):Prop where
 row:H.get B=B1 (OR [.ptr s.D 0,s.nv,s.fv,.int .i64 (b.l.length:Int)] Kx)
 lt:B<H.au
 d:mM H s.D s.mp s.lv s.ev b.ns.length b.m s.xs
 dx:s.xs.map Prod.fst=b.l
 nv:aT po LH 1 H s.nv (s.ad.map Na.r)
 no:∀(c:Nat)(n:No)(A:Na),b.ns[c]? = B1 n->s.ad[c]? = B1 A->dc H0 H A.r A.b A.sv A.bv n A.ks
 al:s.ad.length=b.ns.length
 fl:Sk ao xk 11 H s.fv b.fl
 oB:own B=0
 oD:∀z,s.dw z->own z=1
 oN:∀z,aM s.nv z->own z=2
 oF:∀z,aM s.fv z->own z=3
 oC:∀(c:Nat)(A:Na),s.ad[c]? = B1 A -> ∀z,A.w z->own z=4+c
 lo:∀z,gE B s z->H0.au<=z
def dc.low{H0 H:ar}{r b:Nat}{sv bv:AV}{n:No}{ks:List Nat}(h:dc H0 H r b sv bv n ks){z:Nat}(a:iE r b sv bv z):z<H.au:=by
 rcases a with rfl|(rfl|rfl)|a
 .exact h.lt
 .exact h.ca.lt
 .exact h.ca.sl.lt
 .exact (h.bk.fresh z a).2
section
variable{H0 H:ar}{B:Nat}{s:Bs}{b:Bu}{own:Nat->Nat}
def eH.zF(h:eH H0 H B s b own){c:Nat}{n:No}(hn:b.ns[c]? = B1 n):∃A,s.ad[c]? = B1 A/\dc H0 H A.r A.b A.sv A.bv n A.ks:=by
 have hl:=(qt.1 hn).1;have ha:s.ad[c]? = B1 (s.ad[c]'(by rw[h.al];exact hl)):=xe _;exact⟨_,ha,h.no c n _ hn ha⟩
def eH.low(h:eH H0 H B s b own){z:Nat}(a:gE B s z):z<H.au:=by
 rcases a with rfl|a|a|a|⟨c,A,e,a⟩
 .exact h.lt
 .exact h.d.low a
 .exact Own.lt h.nv z a
 .exact h.fl.lt z a
 .have hl:=(qt.1 e).1;have hn:b.ns[c]? = B1 (b.ns[c]'(by rw[<-h.al];exact hl)):=xe _;exact(h.no c _ A hn e).low a
def eH.fr{H':ar}{W:Nat->Prop}(h:eH H0 H B s b own)(f:Fr W H H')(hw:∀z,W z->H0.au<=z /\ ¬gE B s z):eH H0 H' B s b own :=
 ⟨by rw[f.ah _ h.lt (λ q=>(hw _ q).2 (.inl rfl))];exact h.row,qn h.lt f.au,h.d.fr f (λ z q w=>(hw z q).2 (.inr (.inl w))),h.dx,Own.fr h.nv f (λ z a q=>(hw z q).2 (.inr (.inr (.inl a)))),
  λ c n A hn e=>(h.no c n A hn e).off f λ z q=>⟨(hw z q).1,λ w=>(hw z q).2 (.inr (.inr (.inr (.inr ⟨c,A,e,w⟩))))⟩,h.al,h.fl.fr f (λ z a q=>(hw z q).2 (.inr (.inr (.inr (.inl a))))),h.oB,h.oD,h.oN,h.oF,h.oC,h.lo⟩
def eH.em{H':ar}(h:eH H0 H B s b own)(f:Fr Em H H'):eH H0 H' B s b own:=h.fr f λ z q=>q.elim
def eH.l1(h:eH H0 H B s b own):Op.ae [.ptr B 1] H=B1 s.nv:=x9 (xb h.row) 1
def eH.l0(h:eH H0 H B s b own):Op.ae [.ptr B 0] H=B1 (.ptr s.D 0):=x9 (xb h.row) 0
def eH.l2(h:eH H0 H B s b own):Op.ae [.ptr B 2] H=B1 s.fv:=x9 (xb h.row) 2
def eH.l3(h:eH H0 H B s b own):Op.ae [.ptr B 3] H=B1 (.int .i64 (b.l.length:Int)):=x9 (xb h.row) 3
def aO(own:Nat->Nat)(n k z:Nat):Nat:=if z<n then own z else k
def eH.node(h:eH H0 H B s b own){c:Nat}{n n':No}{A:Na}{H':ar}(hn:b.ns[c]? = B1 n)(m:s.ad[c]? = B1 A)(D:si H0 H A.r A.b A.sv A.bv n' H') :
 ∃u o,eH H0 H' B u {b with ns:=b.ns.set c n'} o/\(∀z,gE B u z->gE B s z\/H.au<=z)/\Fr (gE B s) H H':=by
 have⟨i,j,hr,f,hb⟩:=D;have C:=(qt.1 hn).1;have y:=(qt.1 m).1;have x:Fr (gE B s) H H':=f.mono λ z _ q=>.inr (.inr (.inr (.inr ⟨c,A,m,q⟩)));have nw:∀z,iE A.r A.b A.sv A.bv z->own z=4+c:=h.oC c A m;have has:∀(d:Nat)(e:Na),(s.ad.set c {A with bv:=i,ks:=j})[d]? = B1 e->(d=c/\e = {A with bv:=i,ks:=j})\/d≠c/\s.ad[d]? = B1 e:=λ d e g=>by
  grind
 have t:∀z,gE B {s with ad:=s.ad.set c {A with bv:=i,ks:=j}} z->gE B s z\/H.au<=z:=λ z a=>by
  rcases a with a|a|a|a|⟨d,e,g,a⟩
  .exact .inl (.inl a)
  .exact .inl (.inr (.inl a))
  .exact .inl (.inr (.inr (.inl a)))
  .exact .inl (.inr (.inr (.inr (.inl a))))
  .rcases has d e g with⟨rfl,rfl⟩|⟨q,g⟩
   .rcases a with a|a|a
    .exact .inl (.inr (.inr (.inr (.inr ⟨d,A,m,.inl a⟩))))
    .exact .inl (.inr (.inr (.inr (.inr ⟨d,A,m,.inr (.inl a)⟩))))
    .rcases hb z a with w|w
     .exact .inl (.inr (.inr (.inr (.inr ⟨d,A,m,.inr (.inr w)⟩))))
     omega
   .exact .inl (.inr (.inr (.inr (.inr ⟨d,e,g,a⟩))))
 have v:H0.au<=H.au:=by have:=h.lo B (.inl rfl);have:=h.lt;omega
 have ne:∀{z k:Nat},own z=k->k≠4+c -> ¬iE A.r A.b A.sv A.bv z:=λ e1 e2 q=>(by grind)
 have ow:∀{z:Nat},z<H.au->aO own H.au (4+c) z=own z:=λ q=>xg q;refine⟨{s with ad:=s.ad.set c {A with bv:=i,ks:=j}},aO own H.au (4+c),⟨?_,qn h.lt f.au,?_,h.dx,?_,λ d n2 e l p=>?_,?_,?_,?_,λ z a=>?_,λ z a=>?_,λ z a=>?_,λ d e g z a=>?_,λ z a=>?_⟩,t,x⟩
 .rw [f.ah _ h.lt (ne h.oB (by omega))];exact h.row
 .simp only[zf];exact h.d.fr f λ z q w=>ne (h.oD z w) (by omega) q
 .have:(s.ad.set c {A with bv:=i,ks:=j}).map Na.r=s.ad.map Na.r:=by
   rw[List.map_set];apply kz
   grind
  simp only[this];exact Own.fr h.nv f λ z a q=>ne (h.oN z a) (by omega) q
 .have l:(b.ns.set c n')[d]? = B1 n2:=l;rcases has d e p with⟨rfl,rfl⟩|⟨q,g⟩
  .grind
  .rw [zn (rP q)]at l;refine(h.no d n2 e l g).off f λ z w=>⟨h.lo z (.inr (.inr (.inr (.inr ⟨c,A,m,w⟩)))),λ w2=>?_⟩
   have e1:=h.oC d e g z w2
   grind
 .simp only[zf];exact h.al
 .exact h.fl.fr f λ z a q=>ne (h.oF z a) (by omega) q
 .rw [ow h.lt];exact h.oB
 .rw [ow (h.low (.inr (.inl a)))];exact h.oD z a
 .rw [ow (h.low (.inr (.inr (.inl a))))];exact h.oN z a
 .rw [ow (h.low (.inr (.inr (.inr (.inl a)))))];exact h.oF z a
 .rcases has d e g with⟨rfl,rfl⟩|⟨q,g⟩
  .unfold aO;split
   .rename_i q;rcases a with a|a|a
    .exact nw z (.inl a)
    .exact nw z (.inr (.inl a))
    .rcases hb z a with w|w
     .exact nw z (.inr (.inr w))
     .omega
   .rfl
  .rw [ow (h.low (.inr (.inr (.inr (.inr ⟨d,e,g,a⟩)))))];exact h.oC d e g z a
 .rcases t z a with w|w
  .exact h.lo z w
  .omega
end
end Go.Am
namespace Go.Am
open Go.Proofs Ca
open Lang (ints)
variable{M:ak}[MK M]
def kB(H0 H:ar)(B:Nat)(s:Bs)(b':Bu)(H':ar):Prop:=∃s' aO,eH H0 H' B s' b' aO/\(∀z,gE B s' z->gE B s z\/H.au<=z)/\Fr (gE B s) H H'
section
variable{H0 H:ar}{B:Nat}{s:Bs}{b:Bu}{own:Nat->Nat}
def eH.same(h:eH H0 H B s b own){H':ar}(f:Fr Em H H'):kB H0 H B s b H':=⟨s,own,h.em f,λ _ q=>.inl q,f.mono λ _ _ q=>q.elim⟩
def kB.then{H1 d:ar}{s1:Bs}{e:Bu}(g:Fr (gE B s) H H1)(hs:∀z,gE B s1 z->gE B s z\/H.au<=z)(h:kB H0 H1 B s1 e d):kB H0 H B s e d:=by
 have⟨s2,o2,r,q,f⟩:=h;refine⟨s2,o2,r,λ z a=>(q z a).elim (hs z) λ w=>.inr (xw g.au w),g.trans f λ z a=>hs z a⟩
def kB.em{H1 a:ar}{d:Bu}(h:kB H0 H B s d H1)(f:Fr Em H1 a):kB H0 H B s d a:=by
 have⟨s2,o2,r,q,g⟩:=h;exact⟨s2,o2,r.em f,q,g.trans f λ _ w=>w.elim⟩
theorem kB.pre{H1 a:ar}{d:Bu}(f:Fr Em H H1)(h:kB H0 H1 B s d a):kB H0 H B s d a:=kB.then (f.mono λ _ _ q=>q.elim) (λ _ q=>.inl q) h
def eH.EM(h:eH H0 H B s b own){H1:ar}{e:AV}{j:List Mg}(hk:Sk ao xk 11 H1 e j)(f:Fr (aM s.fv) H H1)(p:∀z,aM e z->aM s.fv z\/H.au<=z):∃H',Op.store 1 [.ptr B 2,e] H1=B1 (.undef,H')/\kB H0 H B s {b with fl:=j} H':=by
 have t:aB e=true:=hk.one;have ne:∀{z k:Nat},own z=k->k≠3 -> ¬aM s.fv z:=λ e1 e2 q=>e2 (by rw[<-e1];exact h.oF _ q);have E:H1.get B=B1 (OR [.ptr s.D 0,s.nv,s.fv,.int .i64 (b.l.length:Int)] Kx):=by rw[f.ah _ h.lt (ne h.oB (by decide))];exact h.row
 have m:e.cells=[e]:=by cases e<;>first|rfl|cases t
 have st:=wY E (o:=2) (n:=1) (v:=e) (by rw[m];rfl) (by simp) (by rw[m,vc];simpa using t);rw[m]at st;have C:Fr (gE B s) H H1:=f.mono λ z _ q=>.inr (.inr (.inr (.inl q)));have y:H0.au<=H.au:=by have:=h.lo B (.inl rfl);have:=h.lt;omega
 have u:∀z,gE B {s with fv:=e} z->gE B s z\/H.au<=z:=λ z a=>by
  rcases a with a|a|a|a|a
  .exact .inl (.inl a)
  .exact .inl (.inr (.inl a))
  .exact .inl (.inr (.inr (.inl a)))
  .rcases p z a with w|w
   .exact .inl (.inr (.inr (.inr (.inl w))))
   .exact .inr w
  .exact .inl (.inr (.inr (.inr (.inr a))))
 have ow:∀{z:Nat},z<H.au->aO own H.au 3 z=own z:=λ q=>xg q;have g:Fr (On B) H1 (H1.set B (OR ([AV.ptr s.D 0,s.nv,s.fv,.int .i64 (b.l.length:Int)].take 2 ++ [e] ++ [AV.ptr s.D 0,s.nv,s.fv,.int .i64 (b.l.length:Int)].drop (2+1)) Kx)):=(Fr.refl H1).set (W:=On B) (.inl rfl) _;have x:∀{z k:Nat},own z=k->k≠0 -> ¬z=B:=λ e1 e2 q=>e2 (by rw[<-e1,q];exact h.oB);refine⟨_,st,{s with fv:=e},aO own H.au 3,⟨xc ..,?_,?_,h.dx,?_,λ c n A hn i=>?_,h.al,?_,?_,λ z a=>?_,λ z a=>?_,λ z a=>?_,λ c A i z a=>?_,λ z a=>?_⟩,u,C.trans g λ z q=>.inl (.inl q)⟩
 .exact qn h.lt (xw f.au g.au)
 .exact (h.d.fr f λ z q w=>ne (h.oD z w) (by decide) q).fr g λ z q w=>x (h.oD z w) (by decide) q
 .exact Own.fr (Own.fr h.nv f λ z a q=>ne (h.oN z a) (by decide) q) g λ z a q=>x (h.oN z a) (by decide) q
 .refine ((h.no c n A hn i).off f λ z w=>⟨h.lo z (.inr (.inr (.inr (.inl w)))),λ w2=>?_⟩).off g λ z w=>?_
  .have:=h.oC c A i z w2;have:=h.oF z w;omega
  .have w:z=B:=w;refine⟨by rw[w];exact h.lo B (.inl rfl),λ w2=>?_⟩;have:=h.oC c A i z w2;rw[w,h.oB]at this;omega
 .refine hk.fr g λ z a q=>?_;have q:z=B:=q;rcases p z a with w|w
  .rw [q]at w;exact ne h.oB (by decide) w
  .have:=h.lt;omega
 .rw [ow h.lt];exact h.oB
 .rw [ow (h.low (.inr (.inl a)))];exact h.oD z a
 .rw [ow (h.low (.inr (.inr (.inl a))))];exact h.oN z a
 .unfold aO;split
  .rcases p z a with w|w
   .exact h.oF z w
   .omega
  .rfl
 .rw [ow (h.low (.inr (.inr (.inr (.inr ⟨c,A,i,a⟩)))))];exact h.oC c A i z a
 .rcases u z a with w|w
  .exact h.lo z w
  .omega
def Dg(l:List Mg):aL (l.flatMap ao)=true:=by
 rw[vc,List.all_flatMap,Gw];intro x _;have:=qT x;rw[vc]at this;exact this
def Xb(h:eH H0 H B s b own){a:AV}{ms:List Mg}(hm:bV ao 11 H a ms)(hl:b.fl.length+ms.length<=1000000):zb M Yb [.ptr B 0,a] H λ _ H'=>kB H0 H B s {b with fl:=b.fl++ms} H':=by
 refine q6c ?_;have⟨v1,H1,s1,e,d,o1⟩:=h.fl.app zg (by decide) (ys:=ms) rfl rfl (Sl.eR hm) (Sl.first hm) (Dg ms) (bytes:=88) (by omega) (by omega);have⟨g,s2,f⟩:=h.EM e d o1;simp only[aa,bc,q6d,qo,h.l2,s1,s2];exact f
def Ie(h:eH H0 H B s b own)(k:b.ns.length<=4)(c:Int):zb M U6 [.ptr B 0,.int .i64 c] H λ v H'=>H'=H/\((0<=c/\c<b.ns.length -> ∃A,s.ad[c.toNat]? = B1 A/\v=.tuple [.ptr A.r 0,.int .i64 0])/\(¬(0<=c/\c<b.ns.length)->v=.tuple [.nilp,.int .i64 2])):=by
 refine xa1 ?_;obtain⟨w0,w2,f⟩:=xa2 M ⟨B5,U6⟩;have a:=h.nv.sl.len;rw[xt,h.al]at a
 by_cases e:c<0
 .simp only[aa,bc,w0,w2,ye,qy e];exact⟨λ q=>by omega,λ _=>trivial⟩
 by_cases j:((b.ns.length:Nat):Int)<=c
 .simp only[aa,bc,w0,w2,ye,e,qo,h.l1,a,qy j];exact⟨λ q=>by omega,λ _=>trivial⟩
 have d:c.toNat<s.ad.length:=by rw[h.al];omega
 have g:s.ad[c.toNat]? = B1 (s.ad[c.toNat]):=xe d;have i:(s.ad.map Na.r)[c.toNat]? = B1 (s.ad[c.toNat]).r:=by rw[xp,g];rfl
 have ix:=h.nv.sl.idx i (z:=c) (by omega) .i64;have ld:=h.nv.sl.kW XS i (by decide);have ld:Op.ae [.ptr (aE s.nv) (cM 1 s.nv c.toNat)] H=B1 (.ptr (s.ad[c.toNat]).r 0):=ld;simp only[aa,bc,w0,w2,ye,e,qo,h.l1,a,j,f,ix,ld];exact⟨λ _=>⟨_,g,rfl⟩,λ q=>absurd ⟨by omega,by omega⟩ q⟩
end
end Go.Am
namespace Go.Am
open Go.Proofs Ca
open Lang (ints)
variable{M:ak}[MK M]
def No.jO(n:No)(a o:Int):Bool×Bool×Int:=if n.may a then if n.live then(B2,B2,41)else if n.owned (No.ln a)then(decide ((n.c.word a.toNat).2.getD 0=o),B4,0)else(B2,B2,0)else(B2,B2,2)
section
variable{H0 H:ar}{r b:Nat}{sv bv:AV}{n:No}{ks:List Nat}
def xdp(h:dc H0 H r b sv bv n ks):zb M Ux [.ptr r 0] H λ v H'=>v=.int .i64 (if n.live=B4 then 41 else 0)/\dc H0 H' r b sv bv n.begin ks/\Fr (iE r b sv bv) H H':=by
 refine qxi ?_;obtain⟨w0,w2,a⟩:=qxj M ⟨B5,Ux⟩;have jA:=h.jA;unfold No.begin;cases hl:n.live with
 |true =>
  rw[hl]at jA;simp only[aa,bc,w0,w2,ye,qo,jA];exact⟨h,Fr.refl _⟩
 |false =>
  rw[hl]at jA;have⟨j,s2,f,d⟩:=h.tE B4;have⟨k,i,g,e⟩:=f.xV 0;simp only[aa,bc,w0,w2,ye,qo,jA,a,s2,i];exact⟨by first|rfl|trivial|(simp),by rw[qv (by decide)];exact g,jL (Mx d) (Mx e)⟩
def q9y(h:dc H0 H r b sv bv n ks):zb M YQ [.ptr r 0] H λ v H'=>v=.int .i64 (if n.live=B4 then 0 else 40)/\dc H0 H' r b sv bv n.bn ks/\Fr (iE r b sv bv) H H':=by
 refine qvo ?_;obtain⟨w0,w2,d⟩:=qvp M ⟨B5,YQ⟩;have jA:=h.jA;unfold No.bn;cases hl:n.live with
 |false =>
  rw[hl]at jA;simp only[aa,bc,w0,w2,ye,qo,jA];exact⟨by first|rfl|trivial|(simp),by rw[qv (by decide)];exact h,Fr.refl _⟩
 |true =>
  rw[hl]at jA;simp only[aa,bc,w0,w2,ye,qo,jA,d,h.l2];refine C3.q (l_ h.ca h.len) λ _ H1⟨g,e⟩=>?_;have a:=h.iy g e (by show(n.c.sl.map rL).length<=40;rw[xt];exact h.len);have⟨j,s2,i,f⟩:=a.tE B2;simp only[aa,bc,qo,s2];exact⟨i,jL (vV e) (Mx f)⟩
def Ar(H0 H:ar)(r b:Nat)(sv bv:AV)(n:No)(ks:List Nat)(a o y:Int)(v:AV)(H':ar):Prop:=(∃ov,v=.tuple [.bool (n.jO a o).1,.bool (n.jO a o).2.1,ov,.int .i64 (n.jO a o).2.2]/\mG H H' ov (n.ny a o y).2)/\dc H0 H' r b sv bv (n.ny a o y).1 ks/\Fr (iE r b sv bv) H H'
def xj7(h:dc H0 H r b sv bv n ks)(m:CI n.lines n.c)(hk:n.aQ.length<=900000)(hu:n.c.us+2<=1000000)(a o y:Int):zb M XL [.ptr r 0,.int .i64 a,.int .u64 o,.int .u64 y] H (Ar H0 H r b sv bv n ks a o y):=by
 refine q40 ?_;obtain⟨w0,w2,w,E,F,G,x,z⟩:=q41 M ⟨B5,XL⟩;simp only[aa,bc,w0,w2];refine C3.q (Wu h a) λ v H1⟨u,P⟩=>?_;rw[u,P]
 by_cases hm:n.may a
 case neg =>
  have j:n.ny a o y=(n,[]):=by unfold No.ny;rw[qv hm]
  have ev:n.jO a o=(B2,B2,2):=by unfold No.jO;rw[qv hm]
  have T:¬(2:Int)=0:=by decide
  rw[qv hm];unfold Ar;rw[j,ev];simp only[aa,bc,T];exact⟨⟨.nils,rfl,mG.nil ..⟩,h,Fr.refl _⟩
 rw[xg hm];have hl:=h.li;have⟨K,S⟩:=hm;obtain⟨e,rfl⟩:=jm K;have l:e<1000000:=by omega
 have g:n.may (e:Int):=⟨K,S⟩
 have k:No.ln (e:Int)=((e / 8:Nat):Int):=rfl;have W:=qy (show(0:Int)=0 from rfl);have jA:=h.jA;cases f:n.live with
 |true =>
  have j:n.ny (e:Int) o y=(n,[]):=by unfold No.ny;rw[xg g,f];rfl
  have ev:n.jO (e:Int) o=(B2,B2,41):=by unfold No.jO;rw[xg g,f];rfl
  rw[f]at jA;unfold Ar;rw[j,ev];simp only[aa,bc,w,qo,jA];exact⟨⟨.nils,rfl,mG.nil ..⟩,h,Fr.refl _⟩
 |false =>
  rw[f]at jA;simp only[aa,bc,w,qo,jA,E,Ao l,F];refine C3.q (π (line:=((e / 8:Nat):Int)) h m) λ v H1⟨u,A⟩=>?_;rw[u];have hb:=h.em A;cases ho:n.owned ((e / 8:Nat):Int)with
  |false =>
   have j:n.ny (e:Int) o y=n.ask 2 ((e / 8:Nat):Int):=by
    unfold No.ny;rw[xg g,f,k,ho];rfl
   have ev:n.jO (e:Int) o=(B2,B2,0):=by unfold No.jO;rw[xg g,f,k,ho];rfl
   simp only[aa,bc];refine C3.q (VW hb hk 2 ((e / 8:Nat):Int)) λ v U⟨t,hn,C⟩=>?_;unfold Ar;rw[j,ev];simp only[aa,bc];exact⟨⟨v,rfl,t.1,λ q=>xw A.au (t.2 q)⟩,hn,jL (nC A) C⟩
  |true =>
   have⟨i,hp,Q⟩:=xls ho;have hw:(n.c.word e).2=B1 ((n.c.en i).d.get (e % 8)):=by unfold Ca.word;rw[hp]
   have j:n.ny (e:Int) o y=({n with c:=if(n.c.en i).d.get (e % 8)=o then(n.c.word e).1.put e y else(n.c.word e).1},[]):=by
    unfold No.ny;rw[xg g,f,k,ho,qv (by decide),xg rfl];simp only[GQ,hw,vj]
   have ev:n.jO (e:Int) o=(decide ((n.c.en i).d.get (e % 8)=o),B4,0):=by
    unfold No.jO;rw[xg g,f,k,ho,qv (by decide),xg rfl];simp only[GQ,hw,vj]
   simp only[aa,bc,G,qo,hb.l2];refine C3.q (σ hb.ca m (by omega) l) λ v L⟨u,N,I⟩=>?_;rw[u];have hn:=hb.iy N I (by rw[(Q0 ..).1];exact h.len);unfold yI;rw[hp];have p:Fr (iE r b sv bv) H L:=jL (nC A) (vV I)
   by_cases q:(n.c.en i).d.get (e % 8)=o
   .rw [xg q]at j;rw[jz q]at ev;simp only[aa,bc,xf,x,qy q,qo,hn.l2];refine C3.q (xgm hn.ca (m.word e) (by show(n.c.word e).1.us+1<=1000000;have:=(Q0 n.c e).2;omega) l y) λ v V⟨R,O,J⟩=>?_;have D:=hn.iy O J (by rw[(TF ..).1,(Q0 ..).1];exact h.len);unfold Ar;rw[j,ev];simp only[aa,bc,z,qy q];exact⟨⟨.nils,rfl,mG.nil ..⟩,D,jL p (vV J)⟩
   .rw [qv q]at j;rw[js q]at ev;unfold Ar;rw[j,ev];simp only[aa,bc,xf,x,q,z];exact⟨⟨.nils,rfl,mG.nil ..⟩,hn,p⟩
end
end Go.Am
namespace Go.Am
open Go.Proofs Ca
open Lang (ints)
variable{M:ak}[MK M]
structure BB(b:Bu):Prop where
 N4:b.ns.length<=4
 fl:b.fl.length<=900000
 no:∀(c:Nat)n,b.ns[c]? = B1 n->n.NI/\n.aQ.length<=900000/\n.c.us+2<=1000000
def Xe(n:No)(k l:Int):(n.ask k l).2.length<=1:=by unfold No.ask;split<;>simp
def xf8(n:No)(a:Int):(n.load a).2.2.2.1.length<=1:=by
 unfold No.load;split
 .cases n.c.find (No.ln a)with
  |none=>exact Xe ..
  |some x=>simp
 .simp
def Y'(n:No)(a y:Int):(n.store a y).2.2.1.length<=1:=by
 unfold No.store;split
 .split
  .simp
  .exact Xe ..
 .simp
def lx(n:No)(a o y:Int):(n.ny a o y).2.length<=1:=by
 unfold No.ny;split
 .split
  .simp
  .split
   .simp
   .exact Xe ..
 .simp
def xf2(n:No)(x:En):(n.gone x).2.length<=1:=by unfold No.gone;split<;>simp
def xbc(n:No)(l:Int):(n.cS l).2.length<=1:=by
 unfold No.cS;split
 .simp
 .cases n.c.find l with
  |none=>simp
  |some x=>exact xf2 ..
def af1(n:No)(m:Mg):(n.fill m).2.length<=1:=by
 have:∀(n:No)st,(n.dX m st).2.length<=1:=λ n st=>by
  unfold No.dX;split
  .exact xf2 ..
  .simp
 unfold No.fill No.mF;generalize(if m.k=15 then(2:Int)else 1)=st;split<;>exact this _ _
def xf6(n:No)(m:Mg):(n.bP m).2.length<=2:=by
 unfold No.bP;split;· simp
 split;· simp
 split
 .cases n.c.find m.line with
  |none=>simp
  |some x=>simp only;split<;>simp
 split;· simp
 cases n.c.find m.line with
 |some x=>simp
 |none =>
  have:=af1 {n with out:=⟨0,0,0,.zero⟩} m;simp only[xr,jd,kr];omega
section
variable{H0 H:ar}{B:Nat}{s:Bs}{b:Bu}{own:Nat->Nat}{c:Int}{n:No}
def dc.t{r b:Nat}{sv bv:AV}{n':No}{ks:List Nat}{H':ar}(h:dc H0 H' r b sv bv n' ks)(f:Fr (iE r b sv bv) H H'):si H0 H r b sv bv n' H':=⟨bv,ks,h,f,λ _ q=>.inl q⟩
def eH.out(h:eH H0 H B s b own)(hb:BB b){c:Nat}{n n':No}{A:Na}{H1:ar}{a:AV}{ms:List Mg}(hn:b.ns[c]? = B1 n)(f:s.ad[c]? = B1 A)(j:si H0 H A.r A.b A.sv A.bv n' H1)(hm:mG H H1 a ms)(hl:ms.length<=2){Q:AV->ar->Prop}{r:AV}
 (g:∀{H'},kB H0 H B s (b.put c (n',ms)) H'->Q r H'):zb M Yb [.ptr B 0,a] H1 λ _ H'=>Q r H':=by
 have⟨l,o',e,k,d⟩:=h.node hn f j;have i:=hb.fl;exact(Xb e hm.1 (by show b.fl.length+ms.length<=1000000;omega)).mono λ v H' hp=>g (kB.then d k hp)
def Ak(hn:b.ns[c.toNat]? = B1 n)(a:0<=c):0<=c/\c<b.ns.length:=by have:=(qt.1 hn).1;omega
def xji(h:eH H0 H B s b own)(hb:BB b)(j:0<=c)(hn:b.ns[c.toNat]? = B1 n)(a:Int):zb M Tn [.ptr B 0,.int .i64 c,.int .i64 a] H λ v H'=>v=.tuple [.int .u64 (n.load a).2.1,.bool (n.load a).2.2.1,.int .i64 (n.load a).2.2.2.2]/\kB H0 H B s (b.put c.toNat ((n.load a).1,(n.load a).2.2.2.1)) H':=by
 refine q58 ?_;obtain⟨w0,w4,g⟩:=q59 M ⟨B5,Tn⟩;simp only[aa,bc,w0];refine C3.q (Ie h hb.N4 c) λ v H1⟨m,k,_⟩=>?_;have⟨A,i,o⟩:=k (Ak hn j);rw[o,m];have y:=qy (show(0:Int)=0 from rfl);have⟨ni,bk,us⟩:=hb.no _ n hn;have p:=h.no _ n A hn i;simp only[aa,bc,xf,w4,g];refine C3.q (xlb p ni.ci bk (by omega) a) λ v u⟨⟨x,f,d⟩,e,l⟩=>?_;rw[f];simp only[aa,bc,xf];refine C3.q (h.out hb hn i (e.t l) d (by have:=xf8 n a;omega) (Q:=λ _ H'=>kB H0 H B s (b.put c.toNat ((n.load a).1,(n.load a).2.2.2.1)) H') (r:=.nils) id) λ v w hp=>?_;simp only[aa,bc];exact hp
def xhb(h:eH H0 H B s b own)(hb:BB b)(j:0<=c)(hn:b.ns[c.toNat]? = B1 n)(a y:Int):zb M Sj [.ptr B 0,.int .i64 c,.int .i64 a,.int .u64 y] H λ v H'=>v=.tuple [.bool (n.store a y).2.1,.int .i64 (n.store a y).2.2.2]/\kB H0 H B s (b.put c.toNat ((n.store a y).1,(n.store a y).2.2.1)) H':=by
 refine q28 ?_;obtain⟨w0,w4,g⟩:=q29 M ⟨B5,Sj⟩;simp only[aa,bc,w0];refine C3.q (Ie h hb.N4 c) λ v H1⟨m,k,_⟩=>?_;have⟨A,i,o⟩:=k (Ak hn j);rw[o,m];have z:=qy (show(0:Int)=0 from rfl);have⟨ni,bk,us⟩:=hb.no _ n hn;have p:=h.no _ n A hn i;simp only[aa,bc,xf,w4,g];refine C3.q (xi4 p ni.ci bk (by omega) a y) λ v u⟨⟨x,f,d⟩,e,l⟩=>?_;rw[f];simp only[aa,bc,xf];refine C3.q (h.out hb hn i (e.t l) d (by have:=Y' n a y;omega) (Q:=λ _ H'=>kB H0 H B s (b.put c.toNat ((n.store a y).1,(n.store a y).2.2.1)) H') (r:=.nils) id) λ v w hp=>?_;simp only[aa,bc];exact hp
def af6(h:eH H0 H B s b own)(hb:BB b)(j:0<=c)(hn:b.ns[c.toNat]? = B1 n)(a o y:Int):zb M SV [.ptr B 0,.int .i64 c,.int .i64 a,.int .u64 o,.int .u64 y] H λ v H'=>v=.tuple [.bool (n.jO a o).1,.bool (n.jO a o).2.1,.int .i64 (n.jO a o).2.2]/\kB H0 H B s (b.put c.toNat (n.ny a o y)) H':=by
 refine q8w ?_;obtain⟨w0,w4,g⟩:=q8x M ⟨B5,SV⟩;simp only[aa,bc,w0];refine C3.q (Ie h hb.N4 c) λ v H1⟨m,k,_⟩=>?_;have⟨A,i,p⟩:=k (Ak hn j);rw[p,m];have C:=qy (show(0:Int)=0 from rfl);have⟨ni,bk,us⟩:=hb.no _ n hn;have u:=h.no _ n A hn i;simp only[aa,bc,xf,w4,g];refine C3.q (xj7 u ni.ci bk us a o y) λ v w⟨⟨z,f,d⟩,e,l⟩=>?_;rw[f];simp only[aa,bc,xf];refine C3.q (h.out hb hn i (e.t l) d (by have:=lx n a o y;omega) (Q:=λ _ H'=>kB H0 H B s (b.put c.toNat (n.ny a o y)) H') (r:=.nils) id) λ v x hp=>?_;simp only[aa,bc];exact hp
def xaq(h:eH H0 H B s b own)(hb:BB b)(e:0<=c)(hn:b.ns[c.toNat]? = B1 n):zb M S9 [.ptr B 0,.int .i64 c] H λ v H'=>v=.bool n.live/\H'=H:=by
 refine q56 ?_;simp only[aa,bc,q57];refine C3.q (Ie h hb.N4 c) λ v H1⟨i,f,_⟩=>?_;have⟨A,g,j⟩:=f (Ak hn e);rw[j,i];have k:=h.no _ n A hn g;simp only[aa,bc,xf];refine C3.q (xk9 k) λ v l⟨d,a⟩=>?_;rw[d,a];simp only[aa,bc]
end
end Go.Am
namespace Go.Am
open Go.Proofs Ca
open Lang (ints)
variable{M:ak}[MK M]
def Bu.xC(b:Bu)(i:Nat):Bu:=match b.fl[i]? with
 |none=>b
 |some m=>if m.k<=7 then match b.l[m.line.toNat]?,b.m[m.line.toNat]? with
  |some x,B1 w=>{b with m:=b.m.set m.line.toNat (x.bP w m).2.1,l:=b.l.set m.line.toNat (x.bP w m).1,fl:=b.fl.eraseIdx i++(x.bP w m).2.2}
  |_,_=>b
  else match b.ns[m.core.toNat]? with
   |some n=>{b with ns:=b.ns.set m.core.toNat (n.bP m).1,fl:=b.fl.eraseIdx i++(n.bP m).2}
   |none=>b
section
variable{H0 H:ar}{B:Nat}{s:Bs}{b:Bu}{own:Nat->Nat}{c:Int}{n:No}
def eH.quiet(h:eH H0 H B s b own){c:Nat}{n n':No}{A:Na}{H1:ar}(hn:b.ns[c]? = B1 n)(e:s.ad[c]? = B1 A)(f:si H0 H A.r A.b A.sv A.bv n' H1):kB H0 H B s (b.put c (n',[])) H1:=by
 have⟨i,o',d,g,a⟩:=h.node hn e f;refine⟨i,o',?_,g,a⟩;have:b.put c (n',[]) = {b with ns:=b.ns.set c n'}:=by unfold Bu.put;simp
 rw[this];exact d
def RX{H1:ar}{e:AV}{n':No}(h:eH H0 H B s b own)(hb:BB b)(k:0<=c)(hn:b.ns[c.toNat]? = B1 n){f:Nat}{cap:List AV}
 (m:∀{A:Na},s.ad[c.toNat]? = B1 A->zb M f ([AV.ptr A.r 0]++cap) H λ v H'=>v=e/\dc H0 H' A.r A.b A.sv A.bv n' A.ks/\Fr (iE A.r A.b A.sv A.bv) H H'):zb M RC [.ptr B 0,.int .i64 c,.fn (.func f) [] cap] H λ v H'=>v=e/\kB H0 H B s (b.put c.toNat (n',[])) H':=by
 refine lh ?_;obtain⟨w0,w4,i⟩:=h_ M ⟨B5,RC⟩;simp only[aa,bc,w0];refine C3.q (Ie h hb.N4 c) λ v H1⟨o,l,_⟩=>?_;have⟨A,j,p⟩:=l (Ak hn k);rw[p,o];have w:=qy (show(0:Int)=0 from rfl);simp only[aa,bc,xf,w4,i];refine C3.q (m j) λ v u⟨g,d,a⟩=>?_;rw[g];simp only[aa,bc];exact h.quiet hn j (d.t a)
def IG(h:eH H0 H B s b own)(hb:BB b)(d:¬(0<=c/\c<b.ns.length))(fv:AV):zb M RC [.ptr B 0,.int .i64 c,fv] H λ v H'=>v=.int .i64 2/\H'=H:=by
 refine lh ?_;obtain⟨w0,w4,g⟩:=h_ M ⟨B5,RC⟩;simp only[aa,bc,w0];refine C3.q (Ie h hb.N4 c) λ v H1⟨e,_,a⟩=>?_;rw[a d,e];have f:¬(2:Int)=0:=by decide
 simp only[aa,bc,xf,w4,f]
def xgz(h:eH H0 H B s b own)(hb:BB b)(a:0<=c)(hn:b.ns[c.toNat]? = B1 n):zb M SF [.ptr B 0,.int .i64 c] H λ v H'=>v=.int .i64 (if n.live=B4 then 41 else 0)/\kB H0 H B s (b.put c.toNat (n.begin,[])) H':=by
 refine q26 ?_;simp only[aa,bc,q27];refine C3.q (RX (H1:=H) h hb a hn (cap:=[]) λ{A}d=>xdp (h.no _ n A hn d)) λ v f⟨e,hp⟩=>?_;rw[e];simp only[aa,bc];exact hp
def xdd(h:eH H0 H B s b own)(hb:BB b)(a:0<=c)(hn:b.ns[c.toNat]? = B1 n):zb M Sc [.ptr B 0,.int .i64 c] H λ v H'=>v=.int .i64 (if n.live=B4 then 0 else 40)/\kB H0 H B s (b.put c.toNat (n.bn,[])) H':=by
 refine qy6 ?_;simp only[aa,bc,qy7];refine C3.q (RX (H1:=H) h hb a hn (cap:=[]) λ{A}d=>q9y (h.no _ n A hn d)) λ v f⟨e,hp⟩=>?_;rw[e];simp only[aa,bc];exact hp
def _B{A:Na}{t:Nat}{k:Int}(d:dc H0 H A.r A.b A.sv A.bv n A.ks)(hl:Op.ae [.ptr t 0] H=B1 (.int .i64 k)):zb M JE ([.ptr A.r 0] ++ [.ptr t 0]) H λ v H'=>v=.int .i64 (n.abort k).2/\dc H0 H' A.r A.b A.sv A.bv (n.abort k).1 A.ks/\Fr (iE A.r A.b A.sv A.bv) H H':=by
 refine qwo ?_;simp only[aa,bc,qwp,hl];refine C3.q (xgx d k) λ v e⟨a,hp⟩=>?_;rw[a];simp only[aa,bc];exact hp
def q8e(h:eH H0 H B s b own)(hb:BB b)(f:0<=c)(hn:b.ns[c.toNat]? = B1 n)(k:Int):zb M Nd [.ptr B 0,.int .i64 c,.int .i64 k] H λ v H'=>kB H0 H B s (b.put c.toNat ((n.abort k).1,[])) H':=by
 refine Yy ?_;obtain⟨H1,e1,a,-,g⟩:=cD H (OR [.int .i64 k] cz);have ca:AV.cells (.int .i64 k)=[.int .i64 k]:=rfl;have l1:Op.ae [.ptr H.au 0] H1=B1 (.int .i64 k):=x9 (xb g) 0;have mk:Op.bJ JE 0 [.ptr H.au 0]=B1 (.fn (.func JE) [] [.ptr H.au 0]):=rfl;simp only[aa,bc,Zb,ca,<-e1];have d:=h.em a;refine C3.q (RX (H1:=H1) (e:=.int .i64 (n.abort k).2) (n':=(n.abort k).1) d hb f hn (cap:=[.ptr H.au 0]) λ{A}i=>_B (d.no _ n A hn i) l1) λ v j⟨l,hp⟩=>?_;simp only[aa,bc];exact kB.pre a hp
def EY{fv:AV}{fl:List Mg}(h:Sk ao xk 11 H fv fl){i:Nat}(e:i<fl.length)(hl:fl.length<=1000000):zb M YZ [fv,.int .i64 (i:Int),.int .i64 ((i+1:Nat):Int)] H λ v H'=>Sk ao xk 11 H' v (fl.eraseIdx i)/\Fr (aM fv) H H' /\ ∀z,aM v z->aM fv z:=by
 refine qog ?_;obtain⟨w0,w4,d⟩:=qoh M ⟨B5,YZ⟩;rcases h with⟨-,rfl⟩|⟨b,j,alt,r,hk⟩
 .simp at e
 have⟨v0,v1,v2,w,H1,v4,u,a0,g,k,l,p,m,o,b5,t⟩:=hk.del zg qT (by decide) e (zero:=ao ⟨0,0,0,.zero⟩) (zg _) (qT _) 88;have a:=(hk.sl zg).len;have ne:¬(i:Int)=((i+1:Nat):Int):=by omega
 simp only[aa,bc,w0,a,a0,w4,ne,d,g,k,l,p,m,mZ,o];exact⟨.inr ⟨_,_,_,_,b5⟩,t.mono λ z f(q:z=b)=>by rw[q];exact hk.on,λ z f=>by rw[b5.TE f];exact hk.on⟩
def eH.dir(h:eH H0 H B s b own){i:Nat}{x j:De}{a g:AV}{w':L8}{H':ar}(v:s.xs[i]? = B1 (x,a))(he:dS H' s.D s.mp s.lv s.ev b.ns.length (b.m.set i w') s.xs i j g)(f:Fr s.dw H H')(r:∀z,aM g z->aM a z\/H.au<=z) :
 ∃C t,eH H0 H' B C {b with m:=b.m.set i w',l:=b.l.set i j} t/\(∀z,gE B C z->gE B s z\/H.au<=z)/\Fr (gE B s) H H':=by
 have F:Fr (gE B s) H H':=f.mono λ z _ q=>.inr (.inl q);have ne:∀{z k:Nat},own z=k->k≠1 -> ¬s.dw z:=λ e1 e2 q=>e2 (by rw[<-e1];exact h.oD _ q);have E:H0.au<=H.au:=by have:=h.lo B (.inl rfl);have:=h.lt;omega
 have G:=(qt.1 v).1;have p:∀z,Bs.dw {s with xs:=s.xs.set i (j,g)} z->s.dw z\/H.au<=z:=λ z q=>by
  rcases q with q|q|q|q|⟨k,y,c,hk,q⟩
  .exact .inl (.inl q)
  .exact .inl (.inr (.inl q))
  .exact .inl (.inr (.inr (.inl q)))
  .exact .inl (.inr (.inr (.inr (.inl q))))
  .have hk:(s.xs.set i (j,g))[k]? = B1 (y,c):=hk
   by_cases e:k=i
   .subst e;rw[zj G]at hk;injection hk with hk;injection hk with _ hk;subst hk
    exact(r z q).elim (λ q=>.inl (.inr (.inr (.inr (.inr ⟨k,x,a,v,q⟩))))) .inr
   .rw [zn (rP e)]at hk;exact .inl (.inr (.inr (.inr (.inr ⟨k,y,c,hk,q⟩))))
 have u:∀z,gE B {s with xs:=s.xs.set i (j,g)} z->gE B s z\/H.au<=z:=λ z q=>by
  rcases q with q|q|q|q|q
  .exact .inl (.inl q)
  .exact (p z q).elim (λ q=>.inl (.inr (.inl q))) .inr
  .exact .inl (.inr (.inr (.inl q)))
  .exact .inl (.inr (.inr (.inr (.inl q))))
  .exact .inl (.inr (.inr (.inr (.inr q))))
 have ow:∀{z:Nat},z<H.au->aO own H.au 1 z=own z:=λ q=>xg q;refine⟨{s with xs:=s.xs.set i (j,g)},aO own H.au 1,⟨?_,qn h.lt f.au,he.d,?_,?_,λ c n A hn o=>?_,h.al,?_,?_,λ z q=>?_,λ z q=>?_,λ z q=>?_,λ c A o z q=>?_,λ z q=>?_⟩,u,F⟩
 .simp only[zf];rw[f.ah _ h.lt (ne h.oB (by decide))];exact h.row
 .simp only[List.map_set,h.dx]
 .exact Own.fr h.nv f λ z r q=>ne (h.oN z r) (by decide) q
 .refine (h.no c n A hn o).off f λ z w=>⟨h.lo z (.inr (.inl w)),λ w2=>?_⟩
  have:=h.oC c A o z w2;have:=h.oD z w;omega
 .exact h.fl.fr f λ z r q=>ne (h.oF z r) (by decide) q
 .rw [ow h.lt];exact h.oB
 .unfold aO;split
  .rcases p z q with w|w
   .exact h.oD z w
   .omega
  .rfl
 .rw [ow (h.low (.inr (.inr (.inl q))))];exact h.oN z q
 .rw [ow (h.low (.inr (.inr (.inr (.inl q)))))];exact h.oF z q
 .rw [ow (h.low (.inr (.inr (.inr (.inr ⟨c,A,o,q⟩)))))];exact h.oC c A o z q
 .rcases u z q with w|w
  .exact h.lo z w
  .omega
end
end Go.Am
namespace Go.Am
open Go.Proofs Ca
open Lang (ints)
variable{M:ak}[MK M]
def η(x:De)(w:L8)(m:Mg):(x.bP w m).2.2.length<=4:=by
 have hb:∀(y:De)n,(y.begin n w).2.length<=4:=λ y n=>by
  unfold De.begin;split
  .simp
  .split
   .simp
   .rw [xt];unfold xG;exact List.length_filter_le ..
 have hr:∀(y:De)w'(q:Prop)[Decidable q](r:List Mg),r.length<=3->(y.vR w' q r).2.2.length<=4:=λ y w' q _ r h=>by
  unfold De.vR;split
  .simp only[xr,jd,kr];omega
  .simp only;omega
 unfold De.bP;split;· simp
 split
 .split
  .simp
  .exact hb _ _
 split;· exact hr _ _ _ _ (by simp)
 split;· exact hr _ _ _ _ (by simp)
 split;· exact hr _ _ _ _ (by simp)
 split;· exact hr _ _ _ _ (by simp)
 cases x.wt with
 |nil=>simp
 |cons n r=>exact hb _ _
section
variable{H0 H:ar}{B:Nat}{s:Bs}{b:Bu}{own:Nat->Nat}{V:Int->L8}
def xg0(h:eH H0 H B s b own)(hb:BB b){i:Int}(k:¬(0<=i/\i<b.fl.length)):zb M P6 [.ptr B 0,.int .i64 i] H λ v H'=>v=.tuple [.agg (ao ⟨0,0,0,.zero⟩),.int .i64 50]/\Fr Em H H':=by
 refine qm9 ?_;obtain⟨w0,w2,-,-,-,-⟩:=yb M ⟨B5,P6⟩;obtain⟨H1,e1,d,-,g⟩:=cD H (OR (ao ⟨0,0,0,.zero⟩) xk);have st:=fE g (zg _) (zg ⟨0,0,0,.zero⟩) (qT _);have ln:=eI (xc H1 H.au (OR (ao ⟨0,0,0,.zero⟩) xk)) (zg ⟨0,0,0,.zero⟩);have e:=h.em d;have a:=e.fl.len zg;have fin:Fr Em H (H1.set H.au (OR (ao ⟨0,0,0,.zero⟩) xk)):=d.set (.inr (qm _)) _
 by_cases f:i<0
 .simp only[aa,bc,w0,mZ,<-e1,w2,ye,qy f,Ij,st,ln];exact fin
 have j:((b.fl.length:Nat):Int)<=i:=by omega
 simp only[aa,bc,w0,mZ,<-e1,w2,ye,f,qo,e.l2,a,qy j,Ij,st,ln];exact fin
def xar(h:eH H0 H B s b own)(hb:BB b)(hI:BuI b V)(hwl:∀x∈b.l,x.wt.length<=900000){i:Nat}{m:Mg}(hm:b.fl[i]? = B1 m):zb M P6 [.ptr B 0,.int .i64 (i:Int)] H λ v H'=>v=.tuple [.agg (ao m),.int .i64 0]/\kB H0 H B s (b.xC i) H':=by
 have hil:=(qt.1 hm).1;have hfl:=hb.fl;have N4:=hI.N4;obtain⟨mk,mc,ml⟩:=hI.mw m (zd hm);refine qm9 ?_;obtain⟨w0,w2,w17,w21,w23,Y⟩:=yb M ⟨B5,P6⟩;have⟨H1,e1,f1,n1,g1⟩:=cD H (OR (ao ⟨0,0,0,.zero⟩) xk);have h1:=h.em f1;have Q:=h1.fl.sl zg;have hln:=h1.fl.len zg;have q0:¬(i:Int)<0:=by omega
 have q1:¬((b.fl.length:Nat):Int)<=(i:Int):=by omega
 have ix:=Q.idx hm (z:=(i:Int)) rfl .i64;have ld:=Q.aq zg (by decide) hm;obtain⟨H2,e2,f12,-,g2⟩:=cD H1 (OR (ao ⟨0,0,0,.zero⟩) xk);have U:=fE g2 (zg _) (zg m) (qT m);obtain⟨j,Z⟩:∃X,X=H2.set H1.au (OR (ao m) xk):=⟨_,rfl⟩
 rw[<-Z]at U;have F:Fr Em H1 j:=by rw[Z];exact f12.set (.inr (qm _)) _
 have n3:j.au=H.au+2:=by rw[Z,tV,e2,xx,n1]
 have g3:j.get H1.au=B1 (OR (ao m) xk):=by rw[Z,xc]
 have g3z:j.get H.au=B1 (OR (ao ⟨0,0,0,.zero⟩) xk):=by rw[F.ah _ (by omega) id];exact g1
 have h3:=h1.em F;have wi:aj .i64 ((i:Int)+1)=((i+1:Nat):Int):=by rw[ji (by omega) (by omega)];omega
 have F3:Fr Em H j:=f1.trans F λ _ q=>q.elim;simp only[aa,bc,w0,mZ,<-e1,w2,ye,q0,qo,h1.l2,hln,q1,w17,ix,ld,<-e2,U,h3.l2,wi];refine C3.q (EY h3.fl hil (by omega)) λ v4 H4⟨k4,f4,o4⟩=>?_;have⟨C,s5,g,aO,u,o5,f5⟩:=h3.EM k4 f4 (λ z o=>.inl (o4 z o));have L:∀z,gE B s z->z<H.au:=λ z o=>h.low o;have t:∀z,gE B g z->gE B s z\/j.au<=z:=o5;have f:∀z,z<j.au->H.au<=z->C.get z=j.get z:=λ z q1 q2=>f5.ah z q1 λ w=>by have:=L z w;omega
 have lk5:Op.ae [.ptr H1.au 0] C=B1 (.int .i64 m.k):=x9 (xb (show C.get H1.au=B1 (OR (ao m) xk)from by rw[f _ (by omega) (by omega)];exact g3)) 0;have lc5:Op.ae [.ptr H1.au 1] C=B1 (.int .i64 m.core):=x9 (xb (show C.get H1.au=B1 (OR (ao m) xk)from by rw[f _ (by omega) (by omega)];exact g3)) 1;have S:Op.aq 11 [.ptr H1.au 0] C=B1 (.agg (ao m)):=eI (by rw[f _ (by omega) (by omega)];exact g3) (zg m);have mk1:Op.bJ FW 1 [.ptr g.D 0]=B1 (.fn (.func FW) [.ptr g.D 0] []):=rfl;have m5:=f5.au
 -- behind the hearing
 have fin:∀{y:ar}{b':Bu},kB H0 C B g b' y->(∃O,Op.aq 11 [.ptr H1.au 0] y=B1 (.agg (ao m))/\Op.store 11 [.ptr H.au 0,.agg (ao m)] y=B1 (.undef,O)/\Op.aq 11 [.ptr H.au 0] O=B1 (.agg (ao m))/\kB H0 H B s b' O):=λ{y b'}hp=>by
  have⟨N,o7,h7,q7,f7⟩:=hp;have p:∀z,z<j.au->H.au<=z->y.get z=j.get z:=λ z w1 w2=>by
   rw[f7.ah z (by omega) λ w=>(t z w).elim (λ w=>by have:=L z w;omega) λ w=>by omega];exact f z w1 w2
  have gz:y.get H.au=B1 (OR (ao ⟨0,0,0,.zero⟩) xk):=by rw[p _ (by omega) (by omega)];exact g3z
  have m7:=f7.au;have E:∀z,gE B N z->gE B s z\/j.au<=z:=λ z o=>(q7 z o).elim (t z) λ w=>.inr (by omega);refine⟨_,eI (by rw[p _ (by omega) (by omega)];exact g3) (zg m),fE gz (zg _) (zg m) (qT m),eI (xc ..) (zg m),N,o7,h7.fr ((Fr.refl y).set (W:=On H.au) (.inl rfl) _) λ z o=>?_,λ z o=>(E z o).elim .inl λ w=>.inr (by omega),?_⟩
  .have o:z=H.au:=o;subst o;refine⟨by have:=h.lo B (.inl rfl);have:=h.lt;omega,λ w=>(E _ w).elim (λ w=>by have:=L _ w;omega) λ w=>by omega⟩
  .refine ((((F3.mono λ _ _ q=>q.elim).trans f5 λ z q=>.inl q).trans f7 λ z q=>?_).set (.inr (qm _)) _);exact(t z q).elim .inl λ w=>.inr (by omega)
 have hel:(b.fl.eraseIdx i).length<=b.fl.length:=List.length_eraseIdx_le ..;simp only[aa,bc,qo,s5,w21,u.l0,w23,lk5];unfold Bu.xC;rw[hm]
 by_cases k7:m.k<=7
 .have nk:¬7<m.k:=by omega
  simp only[xg k7];have⟨x,w,K,hw,he⟩:=hI.entry ml.1 ml.2;rw[K,hw];have hxx:∃a,g.xs[m.line.toNat]? = B1 (x,a):=by
   have hl:=(qt.1 K).1;have P:m.line.toNat<g.xs.length:=by
    have:=congrArg List.length u.dx;rw[xt]at this;have:g.xs.length=b.l.length:=this;omega
   refine⟨(g.xs[m.line.toNat]).2,?_⟩;rw[xe P];have e:=congrArg (λ l=>l[m.line.toNat]?) u.dx;simp only[xp,xe P,Ir]at e;have e:B1 (g.xs[m.line.toNat]).1=B1 x:=e.trans K;injection e with e
   rw[<-e]
  have⟨a,R⟩:=hxx;simp only[aa,bc,nk,Y,S];refine C3.q (xg1 (M:=M) (m:=m) u.d R hw he ml.1 mc.1 mc.2 (hwl x (zd K))) λ v6 H6⟨⟨ov,e,J,G⟩,a',en6,f6,o6⟩=>?_;rw[J];have⟨s6,T,h6,q6,g6⟩:=u.dir R en6 f6 o6;have hlen:=η x w m;simp only[aa,bc,xf];refine C3.q (Xb h6 G.1 (by show(b.fl.eraseIdx i).length+_<=_;omega)) λ v7 y hp=>?_;have⟨O,l7,N,l8,I⟩:=fin (kB.then g6 q6 hp);simp only[aa,bc,l7,N,l8];exact I
 .have nk:7<m.k:=by omega
  simp only[qv k7];have⟨n,hn,hnw⟩:=hI.core mc.1 mc.2;rw[hn];have⟨ni,bk,us⟩:=hb.no _ n hn;have⟨A,hA,nr⟩:=u.zF hn;have K:(g.ad.map Na.r)[m.core.toNat]? = B1 A.r:=by rw[xp,hA];rfl
  have ixn:=u.nv.sl.idx K (z:=m.core) (by omega) .i64;have ldn:Op.ae [.ptr (aE g.nv) (cM 1 g.nv m.core.toNat)] C=B1 (.ptr A.r 0):=u.nv.sl.kW XS K (by decide);have mk2:Op.bJ yx 1 [.ptr A.r 0]=B1 (.fn (.func yx) [.ptr A.r 0] []):=rfl;simp only[aa,bc,qy nk,u.l1,qo,lc5,ixn,ldn,Y,S];refine C3.q (xjd nr ni.ci bk (by omega) m) λ v6 H6⟨⟨ov,e,J,G⟩,ht⟩=>?_;rw[J];have⟨s6,T,h6,q6,g6⟩:=u.node hn hA ht;have hlen:=xf6 n m;simp only[aa,bc,xf];refine C3.q (Xb h6 G.1 (by show(b.fl.eraseIdx i).length+_<=_;omega)) λ v7 y hp=>?_;have⟨O,l7,N,l8,I⟩:=fin (kB.then g6 q6 hp);simp only[aa,bc,l7,N,l8];exact I
end
end Go.Am
namespace Go.Am
open Go.Proofs Ca
open Lang (ints)
variable{M:ak}[MK M]
def WA{α:Type}(enc:α->List AV)(x:α):∀n:Nat,(JK n x).flatMap enc=fV n (enc x)
 |0=>rfl
 |n+1=>by rw[N5,j9,WA enc x n,fV,pe]
def yP(l:Int):Prop:=2<=l/\l<=64
instance(l:Int):Decidable (yP l):=inferInstanceAs (Decidable (_/\_))
def GW(H:ar)(l:Int)(v:AV)(H':ar):Prop:=Fr Em H H'/\(¬yP l/\v=.tuple [.nilp,.int .i64 2]\/yP l /\ ∃mp lv,v=.tuple [.ptr mp 0,.int .i64 0]/\AF H' mp lv (JK l.toNat .zero)/\H.au<=mp/\H.au<=aE lv)
def xep{H:ar}(l:Int):zb M YL [.int .i64 l] H (GW H l):=by
 refine xlj ?_;obtain⟨w0,w2,g⟩:=xlk M ⟨B5,YL⟩
 by_cases e:l<2
 .simp only[aa,bc,w0,w2,e];exact⟨Fr.refl _,.inl ⟨λ q=>by have:=q.1;omega,rfl⟩⟩
 by_cases i:64<l
 .simp only[aa,bc,w0,w2,e,i];exact⟨Fr.refl _,.inl ⟨λ q=>by have:=q.2;omega,rfl⟩⟩
 obtain⟨a,rfl⟩:=jm (show 0<=l by omega);have mk:=WY zx 64 (cu .zero) a .i64 .i64 (by omega) (by omega);rw[<-WA]at mk;obtain⟨H1,e1,k,n1,-⟩:=cD H (OR ((JK a L8.zero).flatMap cu) zx);obtain⟨sv,d⟩:∃sv:AV,sv=.slice H.au 0 a a:=⟨_,rfl⟩
 have f:Op.sliceTo a a H.au=sv:=by rw[d];rfl
 have o:aE sv=H.au:=by rw[d];rfl
 have j:Op.build [.nils] [(0,1)] [sv]=B1 (.agg [sv]):=by rw[d];rfl
 obtain⟨p,e2,h,-,m⟩:=cD H1 (OR [sv] j4);simp only[aa,bc,w0,w2,e,i,g,lZ,mk,f,<-e1,j,<-e2];refine⟨k.trans h λ _ q=>q.elim,.inr ⟨⟨by omega,by omega⟩,_,sv,rfl,⟨m,by rw[e2,xx];omega,⟨H.au,?_,?_,?_⟩,by omega,by rw[jc];omega⟩,by omega,by omega⟩⟩
 .rw [jc];exact d
 .rw [e2,xx];omega
 .rw [h.ah _ (by omega) id,e1,xm];rfl
def rh:De:=⟨0,0,⟨0,0,0,.zero⟩,0,0,[]⟩
def iG:De:={rh with ow:=-1}
def eXZ:[AV.int .i64 0,.int .u8 0,.int .i64 0,.int .i64 0,.int .i64 0,.int .u64 0,.int .u64 0,.int .u64 0,.int .u64 0,.int .u64 0,.int .u64 0,.int .u64 0,.int .u64 0,.int .i64 0,.int .u8 0,.nils]=gQ (rh,.nils):=rfl
def tT(n i:Nat):List (De×AV):=(MT n).map λ k=>(if k<i then iG else rh,.nils)
def Eb(n:Nat):tT n 0=JK n (rh,.nils):=by
 unfold tT;apply kz;intro j;rw[xp];rcases xy j n with q|q
 .rw [kj q,List.getElem?_replicate,xg q];simp
 .rw [jg (by rw[zy];exact q),jg (by rw[jc];exact q)];rfl
def HC(n:Nat):tT n n=JK n (iG,.nils):=by
 unfold tT;apply kz;intro j;rw[xp];rcases xy j n with q|q
 .rw [kj q,List.getElem?_replicate,xg q];simp[q]
 .rw [jg (by rw[zy];exact q),jg (by rw[jc];exact q)];rfl
def Ta{n i j:Nat}(h:j<n):(tT n i)[j]? = B1 (if j<i then iG else rh,.nils):=by
 unfold tT;rw[xp,kj h];rfl
def ad2{n i:Nat}(h:i<n):(tT n i).set i (iG,.nils)=tT n (i+1):=by
 have hl:∀k,(tT n k).length=n:=λ k=>by unfold tT;rw[xt,zy]
 apply kz;intro j
 by_cases q:j=i
 .subst q;rw[zj (by rw[hl];exact h),Ta h,xg (by omega)]
 .rw [zn (rP q)];rcases xy j n with w|w
  .rw [Ta w,Ta w]
   by_cases e:j<i
   .rw [xg e,xg (by omega)]
   .rw [qv e,qv (by omega)]
  .rw [jg (by rw[hl];exact w),jg (by rw[hl];exact w)]
def S0{n i k:Nat}{x:De}{a:AV}(h:(tT n i)[k]? = B1 (x,a)):a=.nils/\x.wt=[]:=by
 unfold tT at h;rw[xp,xq]at h;obtain⟨j,-,e⟩:=h;injection e with e1 e2
 refine⟨e2.symm,?_⟩;rw[<-e1];split<;>rfl
def yA(l c:Int):Prop:=yP l/\1<=c/\c<=4
instance(l c:Int):Decidable (yA l c):=inferInstanceAs (Decidable (_/\_))
def IC(H:ar)(l c:Int)(v:AV)(H':ar):Prop:=Fr Em H H'/\(¬yA l c/\v=.tuple [.nilp,.int .i64 2]\/yA l c /\ ∃D mp lv ev,v=.tuple [.ptr D 0,.int .i64 0]/\mM H' D mp lv ev c (JK l.toNat .zero) (JK l.toNat (iG,.nils)) /\ ∀z,mO D mp lv ev (JK l.toNat (iG,.nils)) z->H.au<=z)
def xdy{H:ar}(l c:Int):zb M XE [.int .i64 l,.int .i64 c] H (IC H l c):=by
 refine xkf ?_;obtain⟨w0,w4,N,O,R,A,P,Q⟩:=xkg M ⟨B5,XE⟩;simp only[aa,bc,w0];refine C3.q (xep l) λ v H1⟨p,hv⟩=>?_;rcases hv with⟨hm,rfl⟩|⟨hm,mp,lv,rfl,me,Y,Z⟩
 .have t2:¬(2:Int)=0:=by decide
  simp only[aa,bc,xf,w4,t2];exact⟨p,.inl ⟨λ q=>hm q.1,rfl⟩⟩
 have t0:=qy (show(0:Int)=0 from rfl)
 by_cases F:c<1
 .simp only[aa,bc,xf,w4,F];exact⟨p,.inl ⟨λ q=>by have:=q.2.1;omega,rfl⟩⟩
 by_cases U:4<c
 .simp only[aa,bc,xf,w4,F,U];exact⟨p,.inl ⟨λ q=>by have:=q.2.2;omega,rfl⟩⟩
 have J:=hm;have⟨m1,m2⟩:=J;obtain⟨n,rfl⟩:=jm (show 0<=l by omega);have mk:=WY QH 144 (gQ (rh,.nils)) n .i64 .i64 (by omega) (by omega);rw[<-WA gQ]at mk;obtain⟨m,e2,f2,n2,-⟩:=cD H1 (OR ((JK n (rh,AV.nils)).flatMap gQ) QH);obtain⟨sv,e⟩:∃sv:AV,sv=.slice H1.au 0 n n:=⟨_,rfl⟩
 have K:Op.sliceTo n n H1.au=sv:=by rw[e];rfl
 have hsb:aE sv=H1.au:=by rw[e];rfl
 have bd:Op.build [.nilp,.int .i64 0,.nils] [(0,1),(1,1),(2,1)] [.ptr mp 0,.int .i64 c,sv]=B1 (.agg [.ptr mp 0,.int .i64 c,sv]):=by rw[e];rfl
 obtain⟨C,S,T,-,g3⟩:=cD m (OR [.ptr mp 0,.int .i64 c,sv] b_);have n3:C.au=H1.au+2:=by rw[S,xx,n2]
 have r:Fr Em H1 C:=f2.trans T λ _ q=>q.elim;have ml:=me.lt;have mls:=me.ls.lt;have r3:gN gQ QH 16 C sv (tT n 0):=by
  rw[Eb];refine⟨H1.au,by rw[jc];exact e,by omega,?_⟩;rw[T.ah _ (by omega) id,e2,xm]
 have m1':=p.au;have d3:mM C m.au mp lv sv c (JK n .zero) (tT n 0) :=
  ⟨g3,by omega,me.fr r id id,r3,λ i x a f=>by rw[(S0 f).1,(S0 f).2];exact Sk.nil _,⟨by omega,by omega,by omega,by omega,by omega⟩,λ i x a f z g=>by rw[(S0 f).1]at g;exact absurd rfl g.1,λ i j x y a b f _ _ z g=>by rw[(S0 f).1]at g;exact absurd rfl g.1,by rw[jc];unfold tT;rw[xt,zy]⟩
 have hn3:H.au<=H1.au:=p.au;have w:∀{o:ar}{i:Nat},mM o m.au mp lv sv c (JK n .zero) (tT n i)->Op.ae [.ptr m.au 2] o=B1 sv:=λ h=>x9 (xb h.row) 2;have I:Op.db [sv]=B1 (.int .i64 ((n:Nat):Int)):=by rw[e];rfl
 simp only[aa,bc,xf,w4,F,U,N,eXZ,mk,K,<-e2,bd,<-S,O,qo,w d3,I];refine da.intro (λ k E o=>∃(i:Nat),E=[(36,.int .i64 (i:Int)),(35,.int .i64 ((n:Nat):Int)),(8,.ptr m.au 0)]/\k=n-i/\i<=n/\mM o m.au mp lv sv c (JK n .zero) (tT n i)/\Fr Em H o) ?_ ?_
 .exact ⟨_,_,⟨0,rfl,rfl,xz _,d3,p.trans r λ _ q=>q.elim⟩,by simp only[aa,bc]⟩
 rintro k E o ⟨i,rfl,rfl,hi,t,W⟩;rcases xy i n with u|hge
 .have L:(i:Int)<((n:Nat):Int):=by omega
  have f:=Ta (i:=i) u;rw[qv (HO i)]at f;have en:=dS.of t f;have ix:Op.aP 16 [sv,.int .i64 (i:Int)]=B1 (.ptr (aE sv) (cM 16 sv i)):=(t.es.sl AQ).idx f rfl .i64;have⟨X,s5,D,f5⟩:=en.s0 (-1);have wj:aj .i64 ((i:Int)+1)=((i+1:Nat):Int):=by rw[ji (by omega) (by omega)];omega
  have d5:mM X m.au mp lv sv c (JK n .zero) (tT n (i+1)):=by rw[<-ad2 u];exact D.d
  simp only[aa,bc,A,L,P,qo,w t,ix,s5,Q,wj];exact⟨_,_,⟨i+1,rfl,rfl,by omega,d5,W.trans f5 λ z(q:z=aE sv)=>.inr (by omega)⟩,by simp only[aa,bc],by omega⟩
 .have G:i=n:=by omega
  have L:¬(i:Int)<((n:Nat):Int):=by omega
  subst G;simp only[aa,bc,A,L,R];rw[HC]at t;refine⟨W,.inr ⟨⟨hm,by omega,by omega⟩,_,mp,lv,sv,rfl,t,λ z g=>?_⟩⟩;rcases g with rfl|rfl|rfl|rfl|⟨k,x,a,hk,g⟩
  .omega
  .exact Y
  .exact Z
  .omega
  .rw [GQ,List.getElem?_replicate]at hk;split at hk
   .injection hk with hk;injection hk with _ hk;rw[<-hk]at g;exact absurd rfl g.1
   .cases hk
end Go.Am
