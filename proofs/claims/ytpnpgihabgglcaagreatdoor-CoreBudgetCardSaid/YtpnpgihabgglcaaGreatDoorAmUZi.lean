import Derived.Test.YtpnpgihabgglcaaGreatDoorAmUZf
import Derived.Test.YtpnpgihabgglcaaGreatDoorAmUZh
import Derived.Test.YtpnpgihabgglcaaGreatDoorAmUZe
import Derived.Test.YtpnpgihabgglcaaGreatDoorAmUZg
import Derived.Test.YtpnpgihabgglcaaGreatDoorAmUZd
set_option linter.defProp false
set_option linter.unusedVariables false
set_option linter.unusedSimpArgs false
set_option linter.unusedSectionVars false
set_option maxRecDepth 100000
open Nat renaming reduceEqDiff→bc
namespace Go.Am
open Go.Proofs Ca
variable{M:ak}[MK M]
structure zA(H:ar)(mp:Nat)(lv:AV)(ws:List L8):Prop where
 row:H.get mp=some (OR [lv] q9c)
 lt:mp<H.au
 ls:gB dS k9 8 H lv ws
 ne:mp≠aH lv
 le:ws.length<=64
section
variable{H:ar}{mp:Nat}{lv:AV}{ws:List L8}
def zA.fr{H':ar}{W:Nat->Prop}(h:zA H mp lv ws)(f:Fr W H H')(b:¬W mp)(c:¬W (aH lv)):zA H' mp lv ws:=⟨by rw[f.ah _ h.lt b];exact h.row,qj h.lt f.au,h.ls.fr f c,h.ne,h.le⟩
def sy(h:zA H mp lv ws){n:Int}(g:0<=n)(j:n<ws.length):za M UJ [.ptr mp 0,.int .i64 n] H λ v H'=>v=.tuple [.ptr (aH lv) (cG 8 lv n.toNat),.int .i64 0]/\H'=H:=by
 have hl:Op.ae [.ptr mp 0] H=some lv:=xz (qy h.row) 0;have hn:=(h.ls.sl wn).len;have d:¬n<0:=by omega
 have e:¬((ws.length:Nat):Int)<=n:=by omega
 have c:ws[n.toNat]? = some (ws[n.toNat]'(by omega)):=qt (by omega);have ix:Op.aO 8 [lv,.int .i64 n]=some (.ptr (aH lv) (cG 8 lv n.toNat)):=(h.ls.sl wn).idx c (by omega) .i64;refine xaj ?_;obtain⟨w0,f,b⟩:=xak M ⟨none,UJ⟩;simp only[aa,bc,w0,f,yq,d,qn,hl,hn,e,b,ix]
def q76(h:zA H mp lv ws){n:Int}{w:L8}(f:0<=n)(hw:ws[n.toNat]? = some w):za M Vv [.ptr mp 0,.int .i64 n] H λ v H'=>v=.tuple [.agg (dS w),.int .i64 0]/\Fr Em H H':=by
 have j:=(qk.1 hw).1;refine q5h ?_;obtain⟨w0,w4,c⟩:=q5i M ⟨none,Vv⟩;obtain⟨H1,d,b,-,e⟩:=bX H (OR (dS .zero) k9);simp only[aa,bc,w0,lZ,<-d];refine C3.q (sy (M:=M) (h.fr b id id) f (by omega)) λ v l⟨k,g⟩=>?_;rw[k,g];have ld:Op.aq 8 [.ptr (aH lv) (cG 8 lv n.toNat)] H1=some (.agg (dS w)):=((h.fr b id id).ls.sl wn).aq wn (by decide) hw;have st:=gK e (wn _) (wn w) (xY w);have hg:(H1.set H.au (OR (dS w) k9)).get H.au=some (OR (dS w) k9):=xc ..
 have ln:=fp hg (wn w);simp only[aa,bc,xe,w4,c,qn,ld,st,ln];exact b.set (.inr (qg _)) _
def Uy(h:zA H mp lv ws){n:Int}(g:0<=n)(j:n<ws.length)(x:L8):za M Vq [.ptr mp 0,.int .i64 n,.agg (dS x)] H λ v H'=>v=.int .i64 0/\zA H' mp lv (ws.set n.toNat x)/\Fr (On (aH lv)) H H':=by
 refine q74 ?_;obtain⟨w0,w4,c⟩:=q75 M ⟨none,Vq⟩;obtain⟨H1,e,d,-,f⟩:=bX H (OR (dS x) k9);have hm:=h.fr d id id;simp only[aa,bc,w0,<-e];refine C3.q (sy (M:=M) hm g j) λ v p⟨l,k⟩=>?_;rw[l,k];have ln:=fp f (wn x);have m:ws[n.toNat]? = some (ws[n.toNat]'(by omega)):=qt (by omega);obtain⟨r,st,o,b⟩:=hm.ls.PM wn xY m x;simp only[aa,bc,xe,w4,ln,qn,st,c];exact⟨⟨by rw[b.ah _ hm.lt (λ q=>hm.ne q)];exact hm.row,qj hm.lt b.au,o,h.ne,by rw[xg];exact h.le⟩,(d.mono λ _ _ q=>q.elim).trans b λ _ q=>.inl q⟩
end
end Go.Am
namespace Go.Am
open Go.Proofs Ca
variable{M:ak}[MK M]
abbrev uB(s:Nat):AV:=.int .u8 (s:Int)
def Lv{c:Int}(b:0<=c)(d:c<4):Op.bin .shl [.int .u8 1,.int .i64 c]=some (uB (2 ^ c.toNat)):=by
 rcases four b d with rfl|rfl|rfl|rfl<;>rfl
def Kx{s:Nat}(h:s<16):s=0\/s=1\/s=2\/s=3\/s=4\/s=5\/s=6\/s=7\/s=8\/s=9\/s=10\/s=11\/s=12\/s=13\/s=14\/s=15:=by omega
def Tc{s:Nat}(hs:s<16){c:Int}(b:0<=c)(d:c<4):Op.bin .andNot [uB s,uB (2 ^ c.toNat)]=some (uB (cF s c)):=by
 rcases four b d with rfl|rfl|rfl|rfl<;>rcases Kx hs with rfl|rfl|rfl|rfl|rfl|rfl|rfl|rfl|rfl|rfl|rfl|rfl|rfl|rfl|rfl|rfl<;>rfl
def t8{s:Nat}(hs:s<16){c:Int}(b:0<=c)(d:c<4):Op.bin .or [uB s,uB (2 ^ c.toNat)]=some (uB (pS s c)):=by
 rcases four b d with rfl|rfl|rfl|rfl<;>rcases Kx hs with rfl|rfl|rfl|rfl|rfl|rfl|rfl|rfl|rfl|rfl|rfl|rfl|rfl|rfl|rfl|rfl<;>rfl
def xh1{s:Nat}(hs:s<16){c:Int}(b:0<=c)(d:c<4):Op.bin .and [uB s,uB (2 ^ c.toNat)]=some (uB (hb s c*2 ^ c.toNat)):=by
 rcases four b d with rfl|rfl|rfl|rfl<;>rcases Kx hs with rfl|rfl|rfl|rfl|rfl|rfl|rfl|rfl|rfl|rfl|rfl|rfl|rfl|rfl|rfl|rfl<;>rfl
def gH(p:De×AV):List AV:=.int .i64 p.1.ow::uB p.1.sh::(ao p.1.un ++ [.int .i64 p.1.ph,uB p.1.ask,p.2])
def yU(p:De×AV):(gH p).length=16:=by simp[gH,zi]
def Gl(p:De×AV):(gH p)[0]? = some (.int .i64 p.1.ow)/\(gH p)[1]? = some (uB p.1.sh)/\(gH p)[2]? = some (.int .i64 p.1.un.k)/\(gH p)[3]? = some (.int .i64 p.1.un.core)/\(gH p)[4]? = some (.int .i64 p.1.un.line)/\(gH p)[13]? = some (.int .i64 p.1.ph)/\(gH p)[14]? = some (uB p.1.ask)/\(gH p)[15]? = some p.2/\((gH p).drop 2).take 11=ao p.1.un:=by
 obtain⟨⟨ow,sh,⟨k,co,li,⟨d,b⟩⟩,ph,ask,wt⟩,a⟩:=p
 match d,b with
 |[_,_,_,_,_,_,_,_],_=>exact⟨rfl,rfl,rfl,rfl,rfl,rfl,rfl,rfl,rfl⟩
structure mj(H:ar)(D mp:Nat)(lv ev:AV)(N:Int)(ws:List L8)(xs:List (De×AV)):Prop where
 row:H.get D=some (OR [.ptr mp 0,.int .i64 N,ev] q9b)
 lt:D<H.au
 me:zA H mp lv ws
 es:gB gH OZ 16 H ev xs
 wt:∀(i:Nat)(x:De)(a:AV),xs[i]? = some (x,a)->Sk ao xh 11 H a x.wt
 d1:D≠mp/\D≠aH lv/\D≠aH ev/\mp≠aH ev/\aH lv≠aH ev
 d2:∀(i:Nat)(x:De)(a:AV),xs[i]? = some (x,a) -> ∀z,aW a z->z≠D/\z≠mp/\z≠aH lv/\z≠aH ev
 d3:∀(i j:Nat)(x y:De)(a b:AV),xs[i]? = some (x,a)->xs[j]? = some (y,b)->i≠j -> ∀z,aW a z -> ¬aW b z
 len:xs.length=ws.length
def lQ(D mp:Nat)(lv ev:AV)(xs:List (De×AV)):Nat->Prop:=λ z=>z=D\/z=mp\/z=aH lv\/z=aH ev \/ ∃(i:Nat)(x:De)(a:AV),xs[i]? = some (x,a)/\aW a z
section
variable{H:ar}{D mp:Nat}{lv ev:AV}{N:Int}{ws:List L8}{xs:List (De×AV)}
def mj.fr{H':ar}{W:Nat->Prop}(h:mj H D mp lv ev N ws xs)(f:Fr W H H')(hw:∀z,W z -> ¬lQ D mp lv ev xs z):mj H' D mp lv ev N ws xs :=
 ⟨by rw[f.ah _ h.lt (λ q=>hw _ q (.inl rfl))];exact h.row,qj h.lt f.au,h.me.fr f (λ q=>hw _ q (.inr (.inl rfl))) (λ q=>hw _ q (.inr (.inr (.inl rfl)))),h.es.fr f (λ q=>hw _ q (.inr (.inr (.inr (.inl rfl))))),λ i x a b=>(h.wt i x a b).fr f λ z c q=>hw z q (.inr (.inr (.inr (.inr ⟨i,x,a,b,c⟩)))),h.d1,h.d2,h.d3,h.len⟩
def mj.em{H':ar}(h:mj H D mp lv ev N ws xs)(f:Fr Em H H'):mj H' D mp lv ev N ws xs:=h.fr f λ _ q=>q.elim
def mj.low(h:mj H D mp lv ev N ws xs){z:Nat}(b:lQ D mp lv ev xs z):z<H.au:=by
 rcases b with rfl|rfl|rfl|rfl|⟨i,x,a,c,b⟩
 .exact h.lt
 .exact h.me.lt
 .exact h.me.ls.lt
 .exact h.es.lt
 .exact (h.wt i x a c).lt z b
abbrev xA(ev:AV)(i:Nat):AV:=.ptr (aH ev) (cG 16 ev i)
def mj.ld(h:mj H D mp lv ev N ws xs){i:Nat}{p:De×AV}(b:xs[i]? = some p){k:Nat}(hk:k<16):Op.ae [.ptr (aH ev) (cG 16 ev i+k)] H=(gH p)[k]?:=(h.es.sl yU).ae yU b hk
def mj.wF(h:mj H D mp lv ev N ws xs){i:Nat}{p:De×AV}(b:xs[i]? = some p):Op.ae [.ptr (aH ev) (cG 16 ev i)] H=some (.int .i64 p.1.ow):=((h.es.sl yU).lT yU b (by decide)).trans (Gl p).1
def mj.ldU(h:mj H D mp lv ev N ws xs){i:Nat}{p:De×AV}(c:xs[i]? = some p):Op.aq 11 [.ptr (aH ev) (cG 16 ev i+2)] H=some (.agg (ao p.1.un)):=by
 have k:=h.es.sl yU;obtain⟨b,e,l,d⟩:=h.es;have hl:cG 16 ev i=i*16:=by rw[e];simp[cG]
 have g:=(qk.1 c).1;have f:aH ev=b:=by rw[e];rfl
 rw[hl,f,rq (qy d) (by rw[GY yU];omega)];have:((xs.flatMap gH).drop (i*16+2)).take 11=ao p.1.un:=by
  rw[<-(Gl p).2.2.2.2.2.2.2.2];apply jz;intro j;rw[yf,yf];split
  .rw [yo,yo,vw,Hl yU xs c (by omega)]
  .rfl
 rw[this]
def mj.put(h:mj H D mp lv ev N ws xs){i:Nat}{x y:De}{a:AV}(p:xs[i]? = some (x,a))(o:y.wt=x.wt){j n:Nat}{u:AV}(hu:u.cells.length=n)(ho:aJ u.cells=true)(F:j+n<=16)(I:gH (y,a)=(gH (x,a)).take j++u.cells++(gH (x,a)).drop (j+n)) :
 ∃H',Op.store n [.ptr (aH ev) (cG 16 ev i+j),u] H=some (.undef,H')/\mj H' D mp lv ev N ws (xs.set i (y,a))/\Fr (On (aH ev)) H H':=by
 obtain⟨H',s,r,f⟩:=h.es.G2 yU p hu ho F I;have E:=(qk.1 p).1;obtain⟨J,K,t,v,A⟩:=h.d1;have d:∀(k:Nat)(z:De)(b:AV),(xs.set i (y,a))[k]? = some (z,b) -> ∃e,xs[k]? = some (e,b)/\e.wt=z.wt:=λ k z b hk=>by
  by_cases q:k=i
  .subst q;rw[xr E]at hk;injection hk with hk;injection hk with B C
   subst B C;exact⟨x,p,o.symm⟩
  .rw [xw (mO q)]at hk;exact⟨z,hk,rfl⟩
 refine⟨H',s,⟨by rw[f.ah _ h.lt (λ q=>t q)];exact h.row,qj h.lt f.au,h.me.fr f (λ q=>v q) (λ q=>A q),r,λ k z b hk=>?_,h.d1,λ k z b hk=>?_,λ k l z w b c hk m=>?_,by rw[xg];exact h.len⟩,f⟩
 .obtain ⟨e,g,hw⟩:=d k z b hk;rw[<-hw];exact(h.wt k e b g).fr f λ q G w=>(h.d2 k e b g q G).2.2.2 w
 .obtain ⟨e,g,-⟩:=d k z b hk;exact h.d2 k e b g
 .obtain ⟨e,g,-⟩:=d k z b hk;obtain⟨w',hw,-⟩:=d l w c m;exact h.d3 k l e w' b c g hw
def mj.wait(h:mj H D mp lv ev N ws xs){i:Nat}{x:De}{a g:AV}{ys:List Mg}{H1:ar}(A:xs[i]? = some (x,a))(hs:Sk ao xh 11 H1 g ys)(f:Fr (aW a) H H1)(C:∀z,aW g z->aW a z\/H.au<=z)(O:av g=true) :
 ∃H',Op.store 1 [.ptr (aH ev) (cG 16 ev i+15),g] H1=some (.undef,H')/\mj H' D mp lv ev N ws (xs.set i ({x with wt:=ys},g))/\Fr (lQ D mp lv ev xs) H H'/\Fr (On (aH ev)) H1 H':=by
 have E:=(qk.1 A).1;obtain⟨Y,Z,P,Q,R⟩:=h.d1;have B:=h.d2 i x a A;have I:gB gH OZ 16 H1 ev xs:=h.es.fr f λ q=>(B _ q).2.2.2 rfl;have G:g.cells=[g]:=by cases g<;>first|rfl|cases O
 obtain⟨H',s,r,m⟩:=I.G2 (y:=({x with wt:=ys},g)) yU A (j:=15) (n:=1) (u:=g) (by rw[G];rfl) (by rw[G];rw[yj];simpa using O) (by decide) (by
  rw[G];obtain⟨ow,sh,⟨k,co,li,⟨d,S⟩⟩,ph,ask,wt⟩:=x
  match d,S with
  |[_,_,_,_,_,_,_,_],_=>rfl)
 have J:Fr (lQ D mp lv ev xs) H H':=(f.mono λ z _ K=>(.inr (.inr (.inr (.inr ⟨i,x,a,A,K⟩))):lQ D mp lv ev xs z)).trans m λ z(q:z=aH ev)=>.inl (.inr (.inr (.inr (.inl q))));have T:=h.es.lt;refine⟨H',s,⟨?_,?_,?_,r,λ k z b hk=>?_,h.d1,λ k z b hk q v=>?_,λ k l z w b c hk e t q v=>?_,by rw[xg];exact h.len⟩,J,m⟩
 .rw [m.ah _ (qj h.lt f.au) (λ q=>P q),f.ah _ h.lt (λ q=>(B _ q).1 rfl)];exact h.row
 .exact qj (qj h.lt f.au) m.au
 .exact (h.me.fr f (λ q=>(B _ q).2.1 rfl) (λ q=>(B _ q).2.2.1 rfl)).fr m (λ q=>Q q) (λ q=>R q)
 .by_cases q:k=i
  .subst q;rw[xr E]at hk;injection hk with hk;injection hk with o p
   subst o p;refine hs.fr m λ z K w=>?_;rcases C z K with q|q
   .exact (B z q).2.2.2 w
   .have w:z=aH ev:=w;omega
  .rw [xw (mO q)]at hk;refine((h.wt k z b hk).fr f λ u hu w=>h.d3 k i z x b a hk A q u hu w).fr m λ u hu w=>(h.d2 k z b hk u hu).2.2.2 w
 .by_cases w:k=i
  .subst w;rw[xr E]at hk;injection hk with hk;injection hk with o p
   subst o p;rcases C q v with w|w
   .exact B q w
   .have V:=h.lt;have W:=h.me.lt;have X:=h.me.ls.lt;exact⟨by omega,by omega,by omega,by omega⟩
  .rw [xw (mO w)]at hk;exact h.d2 k z b hk q v
 .by_cases L:k=i
  .subst L;rw[xr E]at hk;rw[xw t]at e;injection hk with hk;injection hk with o p
   subst o p;rcases C q v with w|w
   .exact h.d3 k l x _ a c A e t q w
   .intro F;have:=(h.wt l _ c e).lt q F;omega
  .rw [xw (mO L)]at hk
   by_cases F:l=i
   .subst F;rw[xr E]at e;injection e with e;injection e with o p
    subst o p;intro U;rcases C q U with w|w
    .exact h.d3 k l z x b a hk A L q v w
    .have:=(h.wt k z b hk).lt q v;omega
   .rw [xw (mO F)]at e;exact h.d3 k l z _ b c hk e t q v
end
end Go.Am
namespace Go.Am
open Go.Proofs Ca
variable{M:ak}[MK M]
structure dJ(H:ar)(D mp:Nat)(lv ev:AV)(N:Int)(ws:List L8)(xs:List (De×AV))(i:Nat)(x:De)(a:AV):Prop where
 il:i<xs.length
 d:mj H D mp lv ev N ws (xs.set i (x,a))
section
variable{H:ar}{D mp:Nat}{lv ev:AV}{N:Int}{ws:List L8}{xs:List (De×AV)}{i:Nat}{x:De}{a:AV}
def dJ.of(h:mj H D mp lv ev N ws xs)(b:xs[i]? = some (x,a)):dJ H D mp lv ev N ws xs i x a:=by
 refine⟨(qk.1 b).1,?_⟩;have:xs.set i (x,a)=xs:=by
  apply jz;intro j
  by_cases q:j=i
  .rw [q,xr (qk.1 b).1,b]
  .rw [xw (mO q)]
 rw[this];exact h
def dJ.here(h:dJ H D mp lv ev N ws xs i x a):(xs.set i (x,a))[i]? = some (x,a):=xr h.il
def dJ.em{H':ar}(h:dJ H D mp lv ev N ws xs i x a)(f:Fr Em H H'):dJ H' D mp lv ev N ws xs i x a:=⟨h.il,h.d.em f⟩
def dJ.l0(h:dJ H D mp lv ev N ws xs i x a):Op.ae [.ptr (aH ev) (cG 16 ev i)] H=some (.int .i64 x.ow):=h.d.wF h.here
def dJ.l1(h:dJ H D mp lv ev N ws xs i x a):Op.ae [.ptr (aH ev) (cG 16 ev i+1)] H=some (uB x.sh):=(h.d.ld h.here (by decide)).trans (Gl (x,a)).2.1
def dJ.l2(h:dJ H D mp lv ev N ws xs i x a):Op.ae [.ptr (aH ev) (cG 16 ev i+2)] H=some (.int .i64 x.un.k):=(h.d.ld h.here (by decide)).trans (Gl (x,a)).2.2.1
def dJ.l3(h:dJ H D mp lv ev N ws xs i x a):Op.ae [.ptr (aH ev) (cG 16 ev i+2+1)] H=some (.int .i64 x.un.core):=(h.d.ld h.here (k:=3) (by decide)).trans (Gl (x,a)).2.2.2.1
def dJ.l4(h:dJ H D mp lv ev N ws xs i x a):Op.ae [.ptr (aH ev) (cG 16 ev i+2+2)] H=some (.int .i64 x.un.line):=(h.d.ld h.here (k:=4) (by decide)).trans (Gl (x,a)).2.2.2.2.1
def dJ.qX(h:dJ H D mp lv ev N ws xs i x a):Op.ae [.ptr (aH ev) (cG 16 ev i+13)] H=some (.int .i64 x.ph):=(h.d.ld h.here (by decide)).trans (Gl (x,a)).2.2.2.2.2.1
def dJ.ui(h:dJ H D mp lv ev N ws xs i x a):Op.ae [.ptr (aH ev) (cG 16 ev i+14)] H=some (uB x.ask):=(h.d.ld h.here (by decide)).trans (Gl (x,a)).2.2.2.2.2.2.1
def dJ.ir(h:dJ H D mp lv ev N ws xs i x a):Op.ae [.ptr (aH ev) (cG 16 ev i+15)] H=some a:=(h.d.ld h.here (by decide)).trans (Gl (x,a)).2.2.2.2.2.2.2.1
def dJ.lU(h:dJ H D mp lv ev N ws xs i x a):Op.aq 11 [.ptr (aH ev) (cG 16 ev i+2)] H=some (.agg (ao x.un)):=h.d.ldU h.here
def dJ.put(h:dJ H D mp lv ev N ws xs i x a){y:De}(b:y.wt=x.wt){j n:Nat}{u:AV}(hu:u.cells.length=n)(ho:aJ u.cells=true)(c:j+n<=16)(e:gH (y,a)=(gH (x,a)).take j++u.cells++(gH (x,a)).drop (j+n)) :
 ∃H',Op.store n [.ptr (aH ev) (cG 16 ev i+j),u] H=some (.undef,H')/\dJ H' D mp lv ev N ws xs i y a/\Fr (On (aH ev)) H H':=by
 obtain⟨H',s,r,f⟩:=h.d.put h.here b hu ho c e;rw[List.set_set]at r;exact⟨H',s,⟨h.il,r⟩,f⟩
def dJ.s0(h:dJ H D mp lv ev N ws xs i x a)(k:Int):∃H',Op.store 1 [.ptr (aH ev) (cG 16 ev i),.int .i64 k] H=some (.undef,H')/\dJ H' D mp lv ev N ws xs i {x with ow:=k} a/\Fr (On (aH ev)) H H' :=
 h.put (y:={x with ow:=k}) (j:=0) (n:=1) (u:=.int .i64 k) rfl rfl rfl (by decide) rfl
def dJ.s1(h:dJ H D mp lv ev N ws xs i x a)(k:Nat):∃H',Op.store 1 [.ptr (aH ev) (cG 16 ev i+1),uB k] H=some (.undef,H')/\dJ H' D mp lv ev N ws xs i {x with sh:=k} a/\Fr (On (aH ev)) H H' :=
 h.put (y:={x with sh:=k}) (j:=1) (n:=1) (u:=uB k) rfl rfl rfl (by decide) rfl
def dJ.sU(h:dJ H D mp lv ev N ws xs i x a)(m:Mg):∃H',Op.store 11 [.ptr (aH ev) (cG 16 ev i+2),.agg (ao m)] H=some (.undef,H')/\dJ H' D mp lv ev N ws xs i {x with un:=m} a/\Fr (On (aH ev)) H H':=by
 refine h.put (y:={x with un:=m}) (j:=2) (n:=11) (u:=.agg (ao m)) rfl (by rw[zu];exact zi m) (by rw[zu];exact rT m) (by decide) ?_;rw[zu];obtain⟨ow,sh,⟨k,co,li,⟨d,b⟩⟩,ph,ask,wt⟩:=x
 match d,b with
 |[_,_,_,_,_,_,_,_],_=>rfl
def dJ.PQ(h:dJ H D mp lv ev N ws xs i x a)(k:Int):∃H',Op.store 1 [.ptr (aH ev) (cG 16 ev i+13),.int .i64 k] H=some (.undef,H')/\dJ H' D mp lv ev N ws xs i {x with ph:=k} a/\Fr (On (aH ev)) H H':=by
 refine h.put (y:={x with ph:=k}) (j:=13) (n:=1) (u:=.int .i64 k) rfl rfl rfl (by decide) ?_;obtain⟨ow,sh,⟨k,co,li,⟨d,b⟩⟩,ph,ask,wt⟩:=x
 match d,b with
 |[_,_,_,_,_,_,_,_],_=>rfl
def dJ.Q4(h:dJ H D mp lv ev N ws xs i x a)(k:Nat):∃H',Op.store 1 [.ptr (aH ev) (cG 16 ev i+14),uB k] H=some (.undef,H')/\dJ H' D mp lv ev N ws xs i {x with ask:=k} a/\Fr (On (aH ev)) H H':=by
 refine h.put (y:={x with ask:=k}) (j:=14) (n:=1) (u:=uB k) rfl rfl rfl (by decide) ?_;obtain⟨ow,sh,⟨k,co,li,⟨d,b⟩⟩,ph,ask,wt⟩:=x
 match d,b with
 |[_,_,_,_,_,_,_,_],_=>rfl
def bdG(co l:Int)(d:L8):Op.build (ao ⟨0,0,0,.zero⟩) [(0,1),(1,1),(2,1),(3,8)] [.int .i64 14,.int .i64 co,.int .i64 l,.agg (dS d)]=some (.agg (ao ⟨14,co,l,d⟩)):=by
 obtain⟨d,b⟩:=d
 match d,b with
 |[_,_,_,_,_,_,_,_],_=>rfl
def dJ.TX(h:dJ H D mp lv ev N ws xs i x a):∃H',Op.store 1 [.ptr (aH ev) (cG 16 ev i+14),.int .u8 0] H=some (.undef,H')/\dJ H' D mp lv ev N ws xs i {x with ask:=0} a/\Fr (On (aH ev)) H H':=h.Q4 0
def dJ.s1z(h:dJ H D mp lv ev N ws xs i x a):∃H',Op.store 1 [.ptr (aH ev) (cG 16 ev i+1),.int .u8 0] H=some (.undef,H')/\dJ H' D mp lv ev N ws xs i {x with sh:=0} a/\Fr (On (aH ev)) H H':=h.s1 0
abbrev Lo(H:ar):Nat->Prop:=λ z=>H.au<=z
def dJ.loc{j:De}{H1 e:ar}(h:dJ H D mp lv ev N ws xs i x a)(c:dJ H1 D mp lv ev N ws xs i j a)(f:Fr (Lo H) H1 e):dJ e D mp lv ev N ws xs i j a:=by
 refine⟨c.il,c.d.fr f λ z g q=>?_⟩;have:lQ D mp lv ev (xs.set i (x,a)) z:=by
  rcases q with q|q|q|q|⟨k,y,b,hk,q⟩
  .exact .inl q
  .exact .inr (.inl q)
  .exact .inr (.inr (.inl q))
  .exact .inr (.inr (.inr (.inl q)))
  .by_cases w:k=i
   .subst w;rw[c.here]at hk;injection hk with hk;injection hk with _ hk;subst hk
    exact .inr (.inr (.inr (.inr ⟨k,x,a,h.here,q⟩)))
   .rw [xw (mO w)]at hk;exact .inr (.inr (.inr (.inr ⟨k,y,b,by rw[xw (mO w)];exact hk,q⟩)))
 have:=h.d.low this;have g:H.au<=z:=g
 omega
def Yz(h:dJ H D mp lv ev N ws xs i x a){w:L8}(hw:ws[x.un.line.toNat]? = some w)(hl:0<=x.un.line)(hs:x.sh<16)(c0:0<=x.un.core)(c1:x.un.core<4) :
 za M SO [.ptr D 0,xA ev i] H λ v H'=>v=.agg (ao (x.dO w).2)/\dJ H' D mp lv ev N ws xs i (x.dO w).1 a/\Fr (On (aH ev)) H H':=by
 refine q2c ?_;obtain⟨w0,w4,w8,w18⟩:=q2d M ⟨none,SO⟩;obtain⟨H1,e1,f1,n1,g1⟩:=bX H (OR (ao ⟨0,0,0,.zero⟩) xh);obtain⟨H2,s2,h2,O⟩:=(h.em f1).PQ 4;obtain⟨E,s3,A,P⟩:=h2.TX;have wF:Op.ae [.ptr D 0] E=some (.ptr mp 0):=xz (qy A.d.row) 0;have hev:=h.d.es.lt;have nb:¬H.au=aH ev:=by omega
 have m2:=O.au;have m3:=P.au
 have g3:E.get H.au=some (OR (ao ⟨0,0,0,.zero⟩) xh):=by rw[P.ah _ (by omega) nb,O.ah _ (by omega) nb];exact g1
 simp only[aa,bc,w0,mZ,<-e1,qn,s2,s3,w4,wF,A.l4];refine C3.q (q76 (M:=M) A.d.me hl hw) λ v F⟨hv,f4⟩=>?_;rw[hv];obtain⟨H5,e5,Q,-,g5⟩:=bX F (OR (dS .zero) k9);have B:=gK g5 (wn _) (wn w) (xY w);obtain⟨b,L⟩:∃X,X=H5.set F.au (OR (dS w) k9):=⟨_,rfl⟩
 rw[<-L]at B;have g6:b.get F.au=some (OR (dS w) k9):=by rw[L,xc]
 have R:Fr Em F b:=by rw[L];exact Q.set (.inr (qg _)) _
 have f:Fr Em E b:=f4.trans R λ _ q=>q.elim;have h6:=A.em f;have l5:=fp g6 (wn w);obtain⟨H7,e7,S,-,g7⟩:=bX b (OR (ao ⟨0,0,0,.zero⟩) xh);have C:=gK g7 (zi _) (zi ⟨14,x.un.core,x.un.line,w⟩) (rT _);obtain⟨l,G⟩:∃X,X=H7.set b.au (OR (ao ⟨14,x.un.core,x.un.line,w⟩) xh):=⟨_,rfl⟩
 rw[<-G]at C;have g8:l.get b.au=some (OR (ao ⟨14,x.un.core,x.un.line,w⟩) xh):=by rw[G,xc]
 have u:Fr Em b l:=by rw[G];exact S.set (.inr (qg _)) _
 have g:Fr Em E l:=f.trans u λ _ q=>q.elim;have s:=A.em g;have m36:=f.au;have m68:=u.au
 have z:l.get H.au=some (OR (ao ⟨0,0,0,.zero⟩) xh):=by rw[g.ah _ (by omega) id];exact g3
 have n8:b.au<l.au:=by rw[G,su,e7,xx];omega
 have t:Fr (On (aH ev)) H l:=(((f1.mono λ _ _ q=>q.elim).trans O λ _ q=>.inl q).trans P λ _ q=>.inl q).trans g λ _ q=>q.elim;simp only[aa,bc,xe,lZ,<-e5,B,qn,h6.l3,h6.l4,l5,bdG,<-e7,C,w8,s.l2];have fin:∀{c:ar}{y:De}{m:Mg},dJ c D mp lv ev N ws xs i y a->Fr (On (aH ev)) H c->c.get H.au=some (OR (ao ⟨0,0,0,.zero⟩) xh)->H.au<c.au -> ∃r,Op.store 11 [.ptr H.au 0,.agg (ao m)] c=some (.undef,r)/\Op.aq 11 [.ptr H.au 0] r=some (.agg (ao m))/\dJ r D mp lv ev N ws xs i y a/\Fr (On (aH ev)) H r:=λ{c y m}a1 a2 a3 a4=>by
  have st:=gK a3 (zi _) (zi m) (rT m);refine⟨_,st,fp (xc ..) (zi m),h.loc a1 ((Fr.refl c).set (W:=Lo H) (.inl (qg _)) _),a2.set (.inr (qg _)) _⟩
 have j:¬b.au=aH ev:=by omega
 unfold De.dO
 by_cases K:x.un.k=1
 .rw [qr K];have sh1:=Lv c0 c1;have sa:=t8 hs c0 c1;obtain⟨c,s9,V,e⟩:=s.s1 (pS x.sh x.un.core);have m9:=e.au
  have l9:Op.aq 11 [.ptr b.au 0] c=some (.agg (ao ⟨14,x.un.core,x.un.line,w⟩)):=fp (by rw[e.ah _ n8 j];exact g8) (zi _);obtain⟨r,sx,Z,Y,U⟩:=fin (m:=⟨14,x.un.core,x.un.line,w⟩) V (t.trans e λ _ q=>.inl q) (by rw[e.ah _ (by omega) nb];exact z) (by omega);simp only[aa,bc,xb K,s.l1,s.l3,qn,sh1,sa,s9,l9,sx,Z];exact⟨Y,U⟩
 .rw [qo K];obtain⟨c,s9,V,e⟩:=s.s0 x.un.core;obtain⟨p,sa,ha,J⟩:=V.s1z;have m9:=e.au;have ma:=J.au
  have ga:p.get b.au=some (OR (ao ⟨14,x.un.core,x.un.line,w⟩) xh):=by rw[J.ah _ (by omega) j,e.ah _ n8 j];exact g8
  have sb:Op.store 1 [.ptr b.au 0,.int .i64 15] p=some (.undef,p.set b.au (OR (ao ⟨15,x.un.core,x.un.line,w⟩) xh)):=t9 (v:=.int .i64 15) ga (o:=0) (n:=1) rfl (by rw[zi];decide) rfl;obtain⟨Hb,I⟩:∃X,X=p.set b.au (OR (ao ⟨15,x.un.core,x.un.line,w⟩) xh):=⟨_,rfl⟩
  rw[<-I]at sb;have T:Fr (Lo H) p Hb:=by rw[I];exact(Fr.refl p).set (W:=Lo H) (.inl (show H.au<=b.au by omega)) _
  have lb:Op.aq 11 [.ptr b.au 0] Hb=some (.agg (ao ⟨15,x.un.core,x.un.line,w⟩)):=fp (by rw[I,xc]) (zi _);have hb:=h.loc ha T;have nne:¬b.au=H.au:=by omega
  have gb:Hb.get H.au=some (OR (ao ⟨0,0,0,.zero⟩) xh):=by rw[I,yk nne,J.ah _ (by omega) nb,e.ah _ (by omega) nb];exact z
  obtain⟨r,sx,Z,Y,U⟩:=fin (m:=⟨15,x.un.core,x.un.line,w⟩) hb (((t.trans e λ _ q=>.inl q).trans J λ _ q=>.inl q).trans T λ _ q=>.inr q) gb (by have:=T.au;omega);simp only[aa,bc,K,w18,s.l3,qn,s9,sa,sb,lb,sx,Z];exact⟨Y,U⟩
end
end Go.Am
namespace Go.Am
open Go.Proofs Ca
variable{M:ak}[MK M]
section
variable{H:ar}{D mp:Nat}{lv ev:AV}{N:Int}{ws:List L8}{xs:List (De×AV)}{i:Nat}{x:De}{a:AV}
def C9(h:mj H D mp lv ev N ws xs){n:Int}(g:0<=n)(j:n<xs.length):za M S7 [.ptr D 0,.int .i64 n] H λ v H'=>v=xA ev n.toNat/\H'=H:=by
 have hl:Op.ae [.ptr D 2] H=some ev:=xz (qy h.row) 2;have hn:=(h.es.sl yU).len;have d:¬n<0:=by omega
 have e:¬((xs.length:Nat):Int)<=n:=by omega
 have c:xs[n.toNat]? = some (xs[n.toNat]'(by omega)):=qt (by omega);have ix:Op.aO 16 [ev,.int .i64 n]=some (.ptr (aH ev) (cG 16 ev n.toNat)):=(h.es.sl yU).idx c (by omega) .i64;refine q9o ?_;obtain⟨w0,f,b⟩:=q9p M ⟨none,S7⟩;simp only[aa,bc,w0,f,yq,d,qn,hl,hn,e,b,ix]
end
def kI(s:Nat):List Nat:=(List.range 4).filter λ(k:Nat)=>hb s (k:Int) == 1
def JH(s:Nat):uP s=(kI s).map λ(k:Nat)=>(k:Int):=by
 unfold uP kI;have e:([0,1,2,3]:List Int)=(List.range 4).map λ(k:Nat)=>(k:Int):=rfl;rw[e,List.filter_map];rfl
def xfu{H0:ar}{p s:Nat}(hp:H0.get p=some (OR [uB s] TP))(hpl:p<H0.au)(hs:s<16) :
 tJ M J0 [] [.ptr p 0] (λ x=>x=p) (λ _=>False) H0 ((kI s).map λ(k:Nat)=>[AV.int .i64 (k:Int)]):=by
 intro Y R S m H1 Z U C F loc Q step;obtain⟨p1,p2,p3⟩:=U p (.inl rfl)
 suffices h:za M J0 [.fn (.yield Y) [] [],.ptr p 0] H1 (MX R S m (λ _=>False) H1 ((kI s).map λ(k:Nat)=>[AV.int .i64 (k:Int)]).length)by
  obtain⟨v,H',W,W',g,q2,q3⟩:=h.elim;exact⟨v,H',W',W,g,q2,q3⟩
 refine qtt ?_;obtain⟨w0,w4,y,z⟩:=qtu M ⟨none,J0⟩;have lp:∀{l:ar},Fr m H1 l->Op.ae [.ptr p 0] l=some (uB s):=λ f=>by rw[xz (qy (by rw[f.ah _ (by omega) p3,p2];exact hp))];rfl
 simp only[aa,bc,w0];refine de.intro (λ n E l=>∃(i:Nat)(V:Nat->Prop),E=[(4,.int .i64 (i:Int)),(0,.fn (.yield Y) [] []),(1,.ptr p 0)]/\n=4-i/\i<=4/\Mq R m H1 l ((List.range i).filter λ(k:Nat)=>hb s (k:Int) == 1).length V) ?_ ?_
 .exact ⟨_,_,⟨0,m,rfl,rfl,xy _,⟨C,λ b hb=>⟨F b hb,.inl hb⟩,Fr.refl _⟩⟩,by simp only[aa,bc]⟩
 rintro n E l ⟨i,V,rfl,rfl,hi,d⟩;rcases xq i 4 with J|X
 .have g:(i:Int)<4:=by omega
  have sh:=Lv (c:=(i:Int)) (by omega) g;have ha:=xh1 hs (c:=(i:Int)) (by omega) g;have T:aj .i64 ((i:Int)+1)=((i+1:Nat):Int):=by rw[js (by omega) (by omega)];omega
  have P:=PD (λ(k:Nat)=>hb s (k:Int) == 1) i;have hle:=Il s (i:Int)
  by_cases B:hb s (i:Int)=1
  .have j:((List.range (i+1)).filter λ(k:Nat)=>hb s (k:Int) == 1).length=((List.range i).filter λ(k:Nat)=>hb s (k:Int) == 1).length+1:=by rw[P];simp[B]
   have hg:((kI s).map λ(k:Nat)=>[AV.int .i64 (k:Int)])[((List.range i).filter λ(k:Nat)=>hb s (k:Int) == 1).length]? = some [.int .i64 (i:Int)]:=by
    unfold kI;rw[xj,Um _ J (by simp[B])];rfl
   have hp0:0<2 ^ (i:Int).toNat:=Nat.pos_of_ne_zero (by simp);have L:¬(((hb s (i:Int)*2 ^ (i:Int).toNat:Nat)):Int)=0:=by rw[B,Nat.one_mul];omega
   obtain⟨bb,O,A,hr,G,t,ht,K⟩:=step _ _ hg V l d.hR d.hV (d.fr.mono λ _ _ q=>.inl q);have o:Fr m H1 O:=d.fr.trans G λ b q=>(d.hV b q).2;have r:∀b,A b->b<O.au/\(m b\/H1.au<=b):=λ b q=>⟨(t b q).1,(t b q).2.elim (λ w=>(d.hV b w).2) λ w=>.inr (xu d.fr.au w)⟩
   simp only[aa,bc,w4,g,y,lp d.fr,sh,ha,L];refine C3.xV hr ?_;cases bb with
   |true =>
    simp only[aa,bc,z,T];exact⟨_,_,⟨i+1,A,rfl,rfl,by omega,⟨by rw[j];exact ht rfl,r,o⟩⟩,by simp only[aa,bc],by omega⟩
   |false =>
    simp only[aa,bc];exact⟨A,o.mono λ _ _ q=>.inl q,r,.inr (K rfl)⟩
  .have u:hb s (i:Int)=0:=by omega
   have j:((List.range (i+1)).filter λ(k:Nat)=>hb s (k:Int) == 1).length=((List.range i).filter λ(k:Nat)=>hb s (k:Int) == 1).length:=by rw[P];simp[u]
   have L:(((hb s (i:Int)*2 ^ (i:Int).toNat:Nat)):Int)=0:=by rw[u,wh];rfl
   simp only[aa,bc,w4,g,y,lp d.fr,sh,ha,xb L,z,T];exact⟨_,_,⟨i+1,V,rfl,rfl,by omega,by rw[j];exact d⟩,by simp only[aa,bc],by omega⟩
 .have g:¬(i:Int)<4:=by omega
  have I:i=4:=by omega
  simp only[aa,bc,w4,g];refine⟨V,d.fr.mono λ _ _ q=>.inl q,d.hV,.inl ?_⟩;have e:((kI s).map λ(k:Nat)=>[AV.int .i64 (k:Int)]).length=((List.range i).filter λ(k:Nat)=>hb s (k:Int) == 1).length:=by unfold kI;rw[xp,I]
  rw[e];exact d.hR
def xip{H:ar}(s:Nat):za M Y0 [uB s] H λ v H'=>v=.fn (.func J0) [] [.ptr H.au 0]/\H'=H.alloc (OR [uB s] TP):=by
 refine qyb ?_;have ca:AV.cells (uB s)=[uB s]:=rfl;have mk:Op.bD J0 0 [.ptr H.au 0]=some (.fn (.func J0) [] [.ptr H.au 0]):=rfl;simp only[aa,bc,qyc,ca];rfl
end Go.Am
namespace Go.Am
open Go.Proofs Ca
variable{M:ak}[MK M]
abbrev BG(t:Nat):AV:=.fn (.func Sr) [] [.ptr t 0]
def UE{H:ar}{t:Nat}{c:Int}(w:Mg)(hl:∀{d:ar},Fr Em H d->Op.ae [.ptr t 1] d=some (.int .i64 c)):za M Sr [.agg (ao w),.ptr t 0] H λ r H'=>r=.bool (decide (w.core=c))/\Fr Em H H':=by
 refine qvq ?_;obtain⟨H1,e,b,-,f⟩:=bX H (OR (ao w) xh);have l1:Op.ae [.ptr H.au 1] H1=some (.int .i64 w.core):=xz (qy f) 1
 by_cases q:w.core=c
 .simp only[aa,bc,qmo,<-e,l1,hl b,xb q];exact b
 .simp only[aa,bc,qmo,<-e,l1,hl b,q];exact b
def xce{H:ar}{v:AV}{ms:List Mg}{t:Nat}{c:Int}(h:dU ao 11 H v ms)(hk:ms.length<=1000000)(hl:∀{d:ar},Fr Em H d->Op.ae [.ptr t 1] d=some (.int .i64 c)) :
 za M VC [v,BG t] H λ r H'=>(∃z:Int,r=.int .i64 z/\(0<=z↔ ∃w∈ms,w.core=c))/\Fr Em H H':=by
 refine qky ?_;obtain⟨w0,C,u,A,p,s⟩:=qkz M ⟨none,VC⟩;simp only[aa,bc,w0,C,h.len];refine de.intro (λ n E d=>∃i:Nat,E=[(8,.int .i64 (i:Int)),(7,.int .i64 ((ms.length:Nat):Int)),(0,v),(1,BG t)]/\n=ms.length-i/\i<=ms.length/\Fr Em H d /\ ∀k w,k<i->ms[k]? = some w->w.core≠c) ?_ ?_
 .exact ⟨_,_,⟨0,rfl,rfl,xy _,Fr.refl _,λ k w hk=>by omega⟩,by simp only[aa,bc]⟩
 rintro n E d ⟨i,rfl,rfl,G,b,l⟩;rcases xq i ms.length with j|B
 .have o:(i:Int)<((ms.length:Nat):Int):=by omega
  have m:=qt j;have ix:=(h.em b).idx m (z:=(i:Int)) rfl .i64;have ld:=(h.em b).aq zi (by decide) m;have F:aj .i64 ((i:Int)+1)=((i+1:Nat):Int):=by rw[js (by omega) (by omega)];omega
  simp only[aa,bc,A,o,p,ix,ld];refine C3.q (UE (M:=M) (ms[i]) (λ f=>hl (b.trans f λ _ q=>q.elim))) λ r H1⟨hr,y⟩=>?_;rw[hr]
  by_cases q:(ms[i]).core=c
  .simp only[aa,bc,xb q];exact⟨⟨_,rfl,λ _=>⟨_,List.getElem_mem j,q⟩,λ _=>by omega⟩,b.trans y λ _ q=>q.elim⟩
  .simp only[aa,bc,q,s,F];refine⟨_,_,⟨i+1,rfl,rfl,by omega,b.trans y λ _ q=>q.elim,λ k w hk hw=>?_⟩,by simp only[aa,bc],by omega⟩
   by_cases e:k=i
   .rw [e,m]at hw;injection hw with hw;rw[<-hw];exact q
   .exact l k w (by omega) hw
 .have o:¬(i:Int)<((ms.length:Nat):Int):=by omega
  simp only[aa,bc,A,o,u];refine⟨⟨_,rfl,λ q=>absurd q (by decide),λ⟨w,hw,hc⟩=>?_⟩,b⟩;obtain⟨k,g⟩:=Ks hw;exact absurd hc (l k w (by have:=(qk.1 g).1;omega) g)
def lL{H:ar}{v:AV}{ms:List Mg}{t:Nat}{c:Int}(h:dU ao 11 H v ms)(hk:ms.length<=1000000)(hl:∀{b:ar},Fr Em H b->Op.ae [.ptr t 1] b=some (.int .i64 c)) :
 za M tb [v,BG t] H λ r H'=>r=.bool (decide (∃w∈ms,w.core=c))/\Fr Em H H':=by
 refine qiz ?_;simp only[aa,bc,qi0];refine C3.q (xce (M:=M) h hk hl) λ r H1⟨⟨z,hr,e⟩,d⟩=>?_;rw[hr];simp only[aa,bc]
 by_cases q:0<=z
 .simp only[q,e.1 q,decide_true,B0];exact d
 .have f:¬ ∃w∈ms,w.core=c:=λ w=>q (e.2 w);simp only[q,f,JK,B0];exact d
section
variable{H:ar}{D mp:Nat}{lv ev:AV}{N:Int}{ws:List L8}{xs:List (De×AV)}{i:Nat}{x:De}{a:AV}
def xim(h:dJ H D mp lv ev N ws xs i x a)(m:Mg)(c0:0<=m.core)(c1:m.core<4)(ha:x.ask<16)(hw:x.wt.length<=1000000):za M HX [xA ev i,.agg (ao m)] H λ v H'=>v=.bool (decide (x.may m))/\Fr Em H H':=by
 refine q2e ?_;obtain⟨w0,w4,w51,F,G,w26,w38⟩:=q2f M ⟨none,HX⟩;obtain⟨H1,e1,f1,n1,g1⟩:=bX H (OR (ao m) xh);have lm:∀{p:ar}(k:Nat),Fr Em H1 p->Op.ae [.ptr H.au k] p=(ao m)[k]?:=λ k f=>xz (qy (by rw[f.ah _ (by omega) id];exact g1)) k;have l0:Op.ae [.ptr H.au 0] H1=some (.int .i64 m.k):=lm 0 (Fr.refl _);have l1:∀{p:ar},Fr Em H1 p->Op.ae [.ptr H.au 1] p=some (.int .i64 m.core):=λ f=>lm 1 f;have l:=l1 (Fr.refl H1);have mk:Op.bD Sr 0 [.ptr H.au 0]=some (BG H.au):=rfl;have c:=h.em f1;have C:=Lv c0 c1;have X:=xh1 ha c0 c1;have hle:=Il x.ask m.core;have hp0:0<2 ^ m.core.toNat:=Nat.pos_of_ne_zero (by simp);have fin:∀{b:Bool}{p:ar},(b=true↔x.may m)->Fr Em H1 p->(AV.bool b=.bool (decide (x.may m))/\Fr Em H p):=λ{b p}e f=>by
  refine⟨?_,f1.trans f λ _ q=>q.elim⟩;congr 1;cases b with
  |true=>exact(kj (e.1 rfl)).symm
  |false=>exact(j9 λ w=>by cases e.2 w).symm
 have n:=Fr.refl (W:=Em) H1;simp only[aa,bc,w0,<-e1,w4,l0]
 by_cases B:m.k=1\/m.k=2
 .have hm:x.may m↔ ¬(x.ph≠0/\x.ph≠4/\x.un.core=m.core)/\(x.ow≠m.core\/x.ph=2) /\ ¬ ∃w∈x.wt,w.core=m.core:=by unfold De.may De.own;rw[qr B]
  have key:∀{E:Env},lk E 10=some (.bool true)->lk E 0=some (xA ev i)->lk E 3=some (.ptr H.au 0)->lk E 5=some (BG H.au)->W M ⟨none,HX⟩ (Qw 14) true (eM 0 (eP (W M ⟨none,HX⟩ (Qw 51)) (fj M [.tmp 4] (ug λ v H'=>v=.bool (decide (x.may m))/\Fr Em H H')))) E [] H1:=by
   intro E I O Z b5
   -- the rest,once it is known whether one is under way
   have rest:∀{p:ar}(u:Bool),Fr Em H1 p->(u=true↔(x.ph≠0/\x.ph≠4/\x.un.core=m.core))->W M ⟨none,HX⟩ (Qw 17) true (eM 0 (eP (W M ⟨none,HX⟩ (Qw 51)) (fj M [.tmp 4] (ug λ v H'=>v=.bool (decide (x.may m))/\Fr Em H H')))) ((6,.bool u)::E) [] p:=by
    intro p u t hu;have y:=c.em t;have T:=y.d.wt i x a y.here;cases u with
    |true =>
     simp only[aa,bc,G];exact fin ⟨λ q=>Bool.noConfusion q,λ q=>absurd (hu.1 rfl) (hm.1 q).1⟩ t
    |false =>
     have P:¬(x.ph≠0/\x.ph≠4/\x.un.core=m.core):=λ q=>by cases hu.2 q
     by_cases S:x.ow=m.core
     .by_cases V:x.ph=2
      .simp only[aa,bc,G,O,Z,b5,qn,y.l0,l1 t,xb S,y.qX,xb V,y.ir];refine C3.q (lL (M:=M) (T.sl zi) hw (λ f=>l1 (t.trans f λ _ q=>q.elim))) λ r Y⟨hr,J⟩=>?_;rw[hr];simp only[aa,bc];refine fin ?_ (t.trans J λ _ q=>q.elim);rw[hm];constructor
       .intro q;exact⟨P,.inr V,by simpa using q⟩
       .intro q;simpa using q.2.2
      .simp only[aa,bc,G,O,Z,b5,qn,y.l0,l1 t,xb S,y.qX,V];exact fin ⟨λ q=>Bool.noConfusion q,λ q=>((hm.1 q).2.1.elim (λ w=>absurd S w) λ w=>absurd w V)⟩ t
     .simp only[aa,bc,G,O,Z,b5,qn,y.l0,l1 t,S,y.ir];refine C3.q (lL (M:=M) (T.sl zi) hw (λ f=>l1 (t.trans f λ _ q=>q.elim))) λ r Y⟨hr,J⟩=>?_;rw[hr];simp only[aa,bc];refine fin ?_ (t.trans J λ _ q=>q.elim);rw[hm];constructor
      .intro q;exact⟨P,.inl S,by simpa using q⟩
      .intro q;simpa using q.2.2
   by_cases R:x.ph=0
   .simp only[aa,bc,F,I,O,qn,c.qX,xb R];exact rest false n ⟨λ q=>Bool.noConfusion q,λ q=>absurd R q.1⟩
   by_cases U:x.ph=4
   .simp only[aa,bc,F,I,O,qn,c.qX,R,xb U];exact rest false n ⟨λ q=>Bool.noConfusion q,λ q=>absurd U q.2.1⟩
   simp only[aa,bc,F,I,O,b5,qn,c.qX,R,U,c.lU];refine C3.q (UE (M:=M) x.un l1) λ r Y⟨hr,J⟩=>?_;rw[hr];simp only[aa,bc];exact rest _ J ⟨λ q=>⟨R,U,by simpa using q⟩,λ q=>by simpa using q.2.2⟩
  rcases B with k|k
  .simp only[aa,bc,xb k];exact key rfl rfl rfl rfl
  .have k1:¬m.k=1:=by omega
   simp only[aa,bc,k1,xb k];exact key rfl rfl rfl rfl
 have k1:¬m.k=1:=λ q=>B (.inl q);have k2:¬m.k=2:=λ q=>B (.inr q);have o:(((hb x.ask m.core*2 ^ m.core.toNat:Nat)):Int)=0↔ ¬hb x.ask m.core=1:=by
  constructor
  .intro q w;rw[w,Nat.one_mul]at q;omega
  .intro q;rw[show hb x.ask m.core=0 by omega,wh];rfl
 simp only[aa,bc,k1,k2,F]
 by_cases A:m.k=4
 .have hm:x.may m↔x.ph=1/\hb x.ask m.core=1:=by unfold De.may;rw[qo B,qr A]
  by_cases g:x.ph=1
  .by_cases j:hb x.ask m.core=1
   .have z:=λ w=>o.1 w j;simp only[aa,bc,xb A,qn,c.qX,xb g,c.ui,l,C,X];exact fin ⟨λ _=>hm.2 ⟨g,j⟩,λ _=>kj z⟩ n
   .have z:=o.2 j;simp only[aa,bc,xb A,qn,c.qX,xb g,c.ui,l,C,X,xb z];exact fin ⟨λ q=>Bool.noConfusion q,λ q=>absurd (hm.1 q).2 j⟩ n
  .simp only[aa,bc,xb A,qn,c.qX,g];exact fin ⟨λ q=>Bool.noConfusion q,λ q=>absurd (hm.1 q).1 g⟩ n
 simp only[aa,bc,A,w26]
 by_cases s:m.k=5
 .have hm:x.may m↔x.ph=2/\x.ow=m.core:=by unfold De.may;rw[qo B,qo A,qr s]
  by_cases g:x.ph=2
  .by_cases j:x.ow=m.core
   .simp only[aa,bc,xb s,qn,c.qX,xb g,c.l0,l,xb j];exact fin ⟨λ _=>hm.2 ⟨g,j⟩,λ _=>rfl⟩ n
   .simp only[aa,bc,xb s,qn,c.qX,xb g,c.l0,l,j];exact fin ⟨λ q=>Bool.noConfusion q,λ q=>absurd (hm.1 q).2 j⟩ n
  .simp only[aa,bc,xb s,qn,c.qX,g];exact fin ⟨λ q=>Bool.noConfusion q,λ q=>absurd (hm.1 q).1 g⟩ n
 by_cases L:m.k=6
 .have hm:x.may m↔x.ph=2/\hb x.ask m.core=1:=by unfold De.may;rw[qo B,qo A,qo s,qr L]
  by_cases g:x.ph=2
  .by_cases j:hb x.ask m.core=1
   .have z:=λ w=>o.1 w j;simp only[aa,bc,s,xb L,qn,c.qX,xb g,c.ui,l,C,X];exact fin ⟨λ _=>hm.2 ⟨g,j⟩,λ _=>kj z⟩ n
   .have z:=o.2 j;simp only[aa,bc,s,xb L,qn,c.qX,xb g,c.ui,l,C,X,xb z];exact fin ⟨λ q=>Bool.noConfusion q,λ q=>absurd (hm.1 q).2 j⟩ n
  .simp only[aa,bc,s,xb L,qn,c.qX,g];exact fin ⟨λ q=>Bool.noConfusion q,λ q=>absurd (hm.1 q).1 g⟩ n
 simp only[aa,bc,s,L,w38]
 by_cases K:m.k=3
 .have hm:x.may m↔x.ow=m.core:=by unfold De.may;rw[qo B,qo A,qo s,qo L,qr K]
  by_cases j:x.ow=m.core
  .simp only[aa,bc,xb K,qn,c.l0,l,xb j];exact fin ⟨λ _=>hm.2 j,λ _=>rfl⟩ n
  .simp only[aa,bc,xb K,qn,c.l0,l,j];exact fin ⟨λ q=>Bool.noConfusion q,λ q=>absurd (hm.1 q) j⟩ n
 have hm:x.may m↔m.k=7/\x.ph=4/\x.un.core=m.core:=by unfold De.may;rw[qo B,qo A,qo s,qo L,qo K]
 by_cases Q:m.k=7
 .by_cases g:x.ph=4
  .simp only[aa,bc,K,xb Q,qn,c.qX,xb g,c.lU];refine C3.q (UE (M:=M) x.un l1) λ r Y⟨hr,J⟩=>?_;rw[hr];simp only[aa,bc];exact fin ⟨λ q=>hm.2 ⟨Q,g,by simpa using q⟩,λ q=>by simpa using(hm.1 q).2.2⟩ J
  .simp only[aa,bc,K,xb Q,qn,c.qX,g];exact fin ⟨λ q=>Bool.noConfusion q,λ q=>absurd (hm.1 q).2.1 g⟩ n
 .simp only[aa,bc,K,Q,w51];exact fin ⟨λ q=>Bool.noConfusion q,λ q=>absurd (hm.1 q).1 Q⟩ n
end
end Go.Am
namespace Go.Am
open Go.Proofs Ca
variable{M:ak}[MK M]
structure Sh(t:Nat)(ms:List Mg)(V:Nat->Prop)(Hx:ar):Prop where
 vt:V t
 lt:t<Hx.au
 ls:∃lv,Hx.get t=some (OR [lv] rF)/\a9 ao xh 11 Hx lv ms /\ ∀z,aW lv z->V z/\t<z
def Sh.loc{t:Nat}{ms:List Mg}{V:Nat->Prop}{c Hb:ar}(h:Sh t ms V c)(hs:∀x,V x->Hb.get x=c.get x)(hn:c.au<=Hb.au):Sh t ms V Hb:=by
 obtain⟨lv,l1,l2,l3⟩:=h.ls;exact⟨h.vt,qj h.lt hn,lv,by rw[hs _ h.vt];exact l1,Own.fr l2 (⟨hn,λ b _ hw=>hs b (GA.1 hw)⟩:Fr (λ b=>¬V b) c Hb) λ x d w=>w (l3 x d).1,l3⟩
abbrev rh(l:Int)(k:Nat):Mg:=⟨11,(k:Int),l,.zero⟩
def ZZ(s:Nat)(l:Int):(uP s).map (λ c=>(⟨11,c,l,.zero⟩:Mg))=(kI s).map (rh l):=by
 rw[JH,we];rfl
def A6(s:Nat):(kI s).length<=4:=by
 have:=List.length_filter_le (λ(k:Nat)=>hb s (k:Int) == 1) (List.range 4);rw[j0]at this;exact this
section
variable{H:ar}{D mp:Nat}{lv ev:AV}{N:Int}{ws:List L8}{xs:List (De×AV)}{i:Nat}{x:De}{a:AV}
def oT(h:dJ H D mp lv ev N ws xs i x a)(m:Mg){w:L8}(hw:ws[m.line.toNat]? = some w)(hl:0<=m.line)(hs:x.sh<16)(c0:0<=m.core)(c1:m.core<4)(hk:m.k=1\/m.k=2)(ho:x.ow<4) :
 za M MD [.ptr D 0,xA ev i,.agg (ao m)] H λ v H'=>mf H H' v (x.begin m w).2/\dJ H' D mp lv ev N ws xs i (x.begin m w).1 a/\Fr (On (aH ev)) H H':=by
 refine q2b ?_;obtain⟨w0,wa,wb,w4,L,w10,O,w12,w32,w18,w36,w41⟩:=ZA M ⟨none,MD⟩;obtain⟨H1,e1,f1,n1,g1⟩:=bX H (OR (ao m) xh);have hev:=h.d.es.lt;have nb:¬H.au=aH ev:=by omega
 have lU:=fp g1 (zi m);obtain⟨T,s2,C,f2⟩:=(h.em f1).sU m;have m2:=f2.au
 have F2:Fr (On (aH ev)) H T:=(f1.mono λ _ _ q=>q.elim).trans f2 λ _ q=>.inl q;have lm:∀{Hx:ar}(k:Nat),Fr (On (aH ev)) T Hx->Op.ae [.ptr H.au k] Hx=(ao m)[k]?:=λ k f=>xz (qy (by rw[f.ah _ (by omega) nb,f2.ah _ (by omega) nb];exact g1)) k;simp only[aa,bc,w0,<-e1,lU,qn,s2,w4,C.l0];unfold De.begin
 by_cases q:0<=x.ow
 .rw [qr q];have s:=Lv q ho;obtain⟨U,S,Q,Y⟩:=C.PQ 2;obtain⟨c,s4,J,Z⟩:=Q.Q4 (2 ^ x.ow.toNat);have l:Fr (On (aH ev)) T c:=Y.trans Z λ _ q=>.inl q;have G:=F2.trans l λ _ q=>.inl q;have l0:Op.ae [.ptr H.au 0] c=some (.int .i64 m.k):=lm 0 l;have l2:Op.ae [.ptr H.au 2] c=some (.int .i64 m.line):=lm 2 l;have m4:=G.au
  have out:∀k:Int,mf H (c.alloc (OR (ao ⟨k,x.ow,m.line,.zero⟩) xh)) (Op.sliceTo 1 1 c.au) [⟨k,x.ow,m.line,.zero⟩]/\dJ (c.alloc (OR (ao ⟨k,x.ow,m.line,.zero⟩) xh)) D mp lv ev N ws xs i {x with un:=m,ph:=2,ask:=2 ^ x.ow.toNat} a/\Fr (On (aH ev)) H (c.alloc (OR (ao ⟨k,x.ow,m.line,.zero⟩) xh)):=λ k =>
   ⟨Kb _ m4,J.em ((Fr.refl c).alloc _),G.alloc _⟩
  by_cases k2:m.k=2
  .rw [qr k2];simp only[aa,bc,xb q,C.l0,qn,s,S,s4,w10,w12,l0,xb k2,w18,J.l0,l2,mZ,SA,zD];exact out 13
  .rw [qo k2];simp only[aa,bc,xb q,C.l0,qn,s,S,s4,w10,w12,l0,k2,w18,J.l0,l2,mZ,SA,zD];exact out 12
 .rw [qo q];have s:=Lv c0 c1;have sd:=Tc hs c0 c1;obtain⟨U,S,Q,Y⟩:=C.Q4 (cF x.sh m.core);have F3:=F2.trans Y λ _ q=>.inl q;have l1:Op.ae [.ptr H.au 1] T=some (.int .i64 m.core):=lm 1 (Fr.refl _);have l0:Op.ae [.ptr H.au 0] U=some (.int .i64 m.k):=lm 0 Y;have dz:cF x.sh m.core=0↔((cF x.sh m.core:Nat):Int)=0:=by omega
  have tog:m.k=1\/cF x.sh m.core=0->za M SO [.ptr D 0,xA ev i] U λ v H'=>v=.agg (ao (De.dO {x with un:=m,ask:=cF x.sh m.core} w).2)/\dJ H' D mp lv ev N ws xs i (De.dO {x with un:=m,ask:=cF x.sh m.core} w).1 a/\Fr (On (aH ev)) U H':=λ _=>Yz (M:=M) Q hw hl hs c0 c1;have F:∀{v:AV}{c:ar},(v=.agg (ao (De.dO {x with un:=m,ask:=cF x.sh m.core} w).2)/\dJ c D mp lv ev N ws xs i (De.dO {x with un:=m,ask:=cF x.sh m.core} w).1 a/\Fr (On (aH ev)) U c) ->
   mf H (c.alloc (OR (ao (De.dO {x with un:=m,ask:=cF x.sh m.core} w).2) xh)) (Op.sliceTo 1 1 c.au) [(De.dO {x with un:=m,ask:=cF x.sh m.core} w).2]/\dJ (c.alloc (OR (ao (De.dO {x with un:=m,ask:=cF x.sh m.core} w).2) xh)) D mp lv ev N ws xs i (De.dO {x with un:=m,ask:=cF x.sh m.core} w).1 a/\Fr (On (aH ev)) H (c.alloc (OR (ao (De.dO {x with un:=m,ask:=cF x.sh m.core} w).2) xh)):=λ{v c}⟨_,J,Z⟩=>by
   have G:=F3.trans Z λ _ q=>.inl q;exact⟨Kb _ G.au,J.em ((Fr.refl c).alloc _),G.alloc _⟩
  by_cases R:m.k=1
  .rw [qr (.inl R)];simp only[aa,bc,q,L,C.l1,qn,l1,s,sd,S,O,l0,xb R];refine C3.q (tog (.inl R)) λ v c E=>?_;rw[E.1];simp only[aa,bc,mZ,zD];exact F E
  by_cases d0:cF x.sh m.core=0
  .rw [qr (.inr d0)];have d1:=dz.1 d0;simp only[aa,bc,q,L,C.l1,qn,l1,s,sd,S,O,l0,R,Q.ui,xb d1];refine C3.q (tog (.inr d0)) λ v c E=>?_;rw[E.1];simp only[aa,bc,mZ,zD];exact F E
  rw[qo (λ w=>w.elim R d0)];have d1:¬((cF x.sh m.core:Nat):Int)=0:=λ q=>d0 (dz.2 q);obtain⟨c,s4,J,Z⟩:=Q.PQ 1;obtain⟨H5,e5,I,n5,g5⟩:=bX c (OR [.nils] rF);have h5:=J.em I;have l:Fr (On (aH ev)) T c:=Y.trans Z λ _ q=>.inl q;have G:=F2.trans l λ _ q=>.inl q;have m24:=l.au
  simp only[aa,bc,q,L,C.l1,qn,l1,s,sd,S,O,l0,R,Q.ui,d1,w32,s4,<-e5,w36,h5.ui];refine C3.q (xip (M:=M) (cF x.sh m.core)) λ v H7⟨hv,E⟩=>?_;obtain⟨H6,e6,A,-,g6⟩:=bX H5 (OR [uB (cF x.sh m.core)] TP);rw[<-e6]at E;rw[hv,E];have n6:H6.au=c.au+2:=by rw[e6,xx,n5]
  have g6t:H6.get c.au=some (OR [.nils] rF):=by rw[A.ah _ (by omega) id];exact g5
  have h6:=h5.em A;have g6m:H6.get H.au=some (OR (ao m) xh):=by
   rw[A.ah _ (by omega) id,I.ah _ (by omega) id,l.ah _ (by omega) nb,f2.ah _ (by omega) nb];exact g1
  have hd16:cF x.sh m.core<16:=(LJ hs c0 c1 (d:=0) (by decide) (by decide)).1;refine jB.iter (fn:=Sy) (lp:=OG) (pa:=UR 0) (pb:=Wg 0) qya qmn.1 qmn.2 (by decide) qvo qvp
   (xfu (M:=M) g6 (by omega) hd16) (λ j V Hx=>Sh c.au (((kI (cF x.sh m.core)).take j).map (rh m.line)) V Hx) (λ _ _ _=>False) (λ z=>z=c.au) (qg _) ?_ ?_ ?_ ?_ ?_ ?_ ?_ ?_
  .rintro z (q|q)
   .exact ⟨by omega,rfl,by omega⟩
   .exact q.elim
  .exact λ z t=>by omega
  .exact ⟨rfl,by omega,.nils,g6t,Own.nil ..,λ z q=>(q.1 rfl).elim⟩
  .exact λ j V Ha Hb hp hs hn=>hp.loc hs hn
  .exact λ e V Ha Hb hp _ _=>hp
  .intro n j lr lb y hy hL2 V u B hV hfc K hLc hgL;rw[xj,xl]at hy;obtain⟨k,hk,rfl⟩:=hy;refine⟨_,rfl,?_⟩;obtain⟨-,wa,wb,-⟩:=ZA M ⟨some n,MD⟩;simp only[aa,bc,wa,Fx];refine⟨hgL,?_⟩;have fx:Fr (On n) u (u.set n lb):=(Fr.refl u).set (W:=On n) (.inl rfl) _;have gL:(u.set n lb).get n=some lb:=xc ..;have nL:(u.set n lb).au=u.au:=rfl
   have hP7:=B.loc (Hb:=u.set n lb) (λ y hy=>by rw[yk (λ q:n=y=>K (by rw[q];exact hy))]) (qg _);have gm:(u.set n lb).get H.au=some (OR (ao m) xh):=by
    rw[yk (by omega),hfc.ah H.au (by omega) (λ q=>q.elim (λ q=>by omega) id)];exact g6m
   generalize u.set n lb=o at *;obtain⟨g,l1,l2,l3⟩:=hP7.ls;have lq:Op.ae [.ptr c.au 0] o=some g:=xz (qy l1) 0;have ll:Op.ae [.ptr H.au 2] o=some (.int .i64 m.line):=xz (qy gm) 2;have ny:(((kI (cF x.sh m.core)).take j).map (rh m.line)).length<=4:=by
    rw[xp,j6];have:=A6 (cF x.sh m.core);omega
   simp only[aa,bc,wb,lq,ll,mZ,SA];refine mK (e:=xh) (size:=11) (bytes:=88) l2 (x:=.agg (ao (rh m.line k))) (zi _) (by rw[zu];exact zi _) (by rw[zu];exact rT _) (by decide) (by omega) (by omega) λ r P p hf hfr=>?_;rw[zu]at p;have q8:P.get c.au=some (OR [g] rF):=by rw[hf.ah _ hP7.lt λ q=>by have:=(l3 _ q).2;omega];exact l1
   have o1:av r=true:=by have:=Sl.one (Own.sl p);exact this
   have st:=Mf q8 o1;obtain⟨H9,e9⟩:∃X,X=P.set c.au (OR [r] rF):=⟨_,rfl⟩
   rw[<-e9]at st;have f9:Fr (On c.au) P H9:=by rw[e9];exact(Fr.refl P).set (W:=On c.au) (.inl rfl) _
   simp only[aa,bc,st];have lo':∀y,aW r y->c.au<y:=λ y q=>(hfr y q).elim (λ q=>(l3 y q).2) λ q=>by have:=B.lt;omega
   have nf:=hf.au
   have n9:H9.au=P.au:=by rw[e9];rfl
   refine⟨rfl,?_,λ y=>V y\/aW r y,?_,?_,.inl ⟨rfl,⟨.inl B.vt,?_,r,?_,?_,λ y q=>⟨.inr q,lo' y q⟩⟩⟩⟩
   .rw [f9.ah n (by omega) (λ(q:n=c.au)=>K (by rw[q];exact B.vt)),hf.ah n (by omega) λ q=>K (l3 _ q).1];exact gL
   .rintro y (q|q)
    .exact ⟨by have:=(hV y q).1;omega,.inl q⟩
    .refine ⟨by rw[n9];exact Own.lt p y q,?_⟩;rcases hfr y q with w|w
     .exact .inl (l3 y w).1
     .exact .inr (by omega)
   .have a1:Fr (λ b=>V b\/b=n) u o:=fx.mono λ x _ q=>.inr q;exact(a1.trans hf λ x hx=>.inl (.inl (l3 x hx).1)).trans f9 λ x hx=>.inl (.inl (by rw[show x=c.au from hx];exact B.vt))
   .have:=B.lt;omega
   .rw [e9,xc]
   .have hx2:((kI (cF x.sh m.core)).take (j+1)).map (rh m.line)=((kI (cF x.sh m.core)).take j).map (rh m.line) ++ [rh m.line k]:=by rw[L7,hk];simp
    rw[hx2];have ow:a9 ao xh 11 P r (((kI (cF x.sh m.core)).take j).map (rh m.line) ++ [rh m.line k]):=by
     unfold a9;rw[qv,kq,ju,List.flatMap_nil,ze];exact p
    exact Own.fr ow f9 λ x hx(q:x=c.au)=>by have:=lo' x hx;omega
  .intro d V o hd1 hd2 hgd hfd hVd B;obtain⟨g,l1,l2,l3⟩:=B.ls;have el:((kI (cF x.sh m.core)).map λ(k:Nat)=>[AV.int .i64 (k:Int)]).length=(kI (cF x.sh m.core)).length:=xp _;rw[el,zg (qg _)]at l2;have lq:Op.ae [.ptr c.au 0] (o.set d (.deferred none))=some g:=xz (qy (show(o.set d (.deferred none)).get c.au=some (OR [g] rF)from by rw[yk (λ q:d=c.au=>by have:=(hVd _ B.vt).2.2;omega)];exact l1)) 0;have lq0:Op.ae [.ptr c.au 0] o=some g:=xz (qy l1) 0;have sl2:dU ao 11 (o.set d (.deferred none)) g ((kI (cF x.sh m.core)).map (rh m.line)):=by
    have fs:Fr (On d) o (o.set d (.deferred none)):=(Fr.refl o).set (W:=On d) (.inl rfl) _;exact(Own.fr l2 fs λ z t(q:z=d)=>(hVd z (l3 z t).1).2.2 q).sl
   have hx1:dJ (o.set d (.deferred none)) D mp lv ev N ws xs i {x with un:=m,ph:=1,ask:=cF x.sh m.core} a:=by
    refine h.loc h6 ((hfd.mono λ z _ t=>?_).set (.inl (show H.au<=d by omega)) _);rcases t with t|t
    .show H.au<=z;omega
    .exact t.elim
   have fr1:Fr (On (aH ev)) H (o.set d (.deferred none)):=by
    refine(((G.trans I λ _ q=>q.elim).trans A λ _ q=>q.elim).trans hfd λ z t=>?_).set (.inr (by omega)) _;rcases t with t|t
    .exact .inr (by omega)
    .exact t.elim
   simp only[aa,bc,w41,lq0,Ke];refine⟨hgd,⟨by rw[ZZ];exact sl2,λ hne=>?_⟩,hx1,fr1⟩;have hlo:g≠ .nils:=λ q=>by
    rw[ZZ]at hne;subst q;have:=l2.1;rw[yZ zi]at this;rcases l2.2 with⟨z,-⟩|⟨b,q,-⟩
    .exact hne (jt.1 z)
    .cases q
   have:=(l3 (aH g) ⟨hlo,rfl⟩).2;omega
  .exact λ e d V o _ _ _ _ _ _ hp=>hp.elim
end
end Go.Am
namespace Go.Am
open Go.Proofs Ca
variable{M:ak}[MK M]
section
variable{H:ar}{D mp:Nat}{lv ev:AV}{N:Int}{ws:List L8}{xs:List (De×AV)}{i:Nat}{x:De}{a:AV}
def dJ.mem(h:dJ H D mp lv ev N ws xs i x a){H':ar}{c:List L8}(hm:zA H' mp lv c)(f:Fr (On (aH lv)) H H')(hl:c.length=ws.length):dJ H' D mp lv ev N c xs i x a:=by
 obtain⟨l,e,n,o,g⟩:=h.d.d1;exact⟨h.il,by rw[f.ah _ h.d.lt (λ q=>e q)];exact h.d.row,qj h.d.lt f.au,hm,h.d.es.fr f (λ q=>g q.symm),λ k y b hk=>(h.d.wt k y b hk).fr f λ z j q=>(h.d.d2 k y b hk z j).2.2.1 q,h.d.d1,h.d.d2,h.d.d3,by rw[hl];exact h.d.len⟩
def C8(H:ar)(D mp:Nat)(lv ev:AV)(N:Int)(ws:List L8)(xs:List (De×AV))(i:Nat)(a:AV)(r:De×L8×List Mg)(v:AV)(H':ar):Prop :=
 (∃ov e,v=.tuple [ov,e]/\mf H H' ov r.2.2) /\ ∃a',dJ H' D mp lv ev N (ws.set i r.2.1) xs i r.1 a'/\Fr (lQ D mp lv ev xs) H H' /\ ∀z,aW a' z->aW a z\/H.au<=z
def M8{ws:List L8}{i:Nat}{w:L8}(h:ws[i]? = some w):ws.set i w=ws:=by
 apply jz;intro j
 by_cases q:j=i
 .rw [q,xr (qk.1 h).1,h]
 .rw [xw (mO q)]
def BK{H1 b:ar}(f:Fr (On (aH ev)) H1 b):Fr (lQ D mp lv ev xs) H1 b:=f.mono λ _ _ q=>.inr (.inr (.inr (.inl q)))
def YA{H1 b:ar}(f:Fr (On (aH lv)) H1 b):Fr (lQ D mp lv ev xs) H1 b:=f.mono λ _ _ q=>.inr (.inr (.inl q))
def vA{H1 b c:ar}(f:Fr (lQ D mp lv ev xs) H1 b)(g:Fr (lQ D mp lv ev xs) b c):Fr (lQ D mp lv ev xs) H1 c:=f.trans g λ _ q=>.inl q
def nR{E:Env}{r:ar}{y:De}{w':L8}{o:List Mg}{j:AV}{q:Prop}[Decidable q]{b8:Bool}(A:b8=decide q)(J:lk E 8=some (.bool b8))(R:lk E 7=some j)(U:lk E 0=some (.ptr D 0))(b4:lk E 6=some (xA ev i))
 (hx:xs[i]? = some (x,a)) (h:dJ r D mp lv ev N (ws.set i w') xs i y a) (hq:q->(ws.set i w')[y.un.line.toNat]? = some w'/\0<=y.un.line/\y.sh<16/\0<=y.un.core/\y.un.core<4)
 (ho:a9 ao xh 11 r j o) (hol:o.length<=3) (g:∀z,aW j z->H.au<=z) (f:Fr (lQ D mp lv ev xs) H r) (l:∀z,lQ D mp lv ev xs z->z<H.au) :
 W M ⟨none,Ez⟩ (Uh 113) true (fj M [.tmp 4,.tmp 5] (ug (C8 H D mp lv ev N ws xs i a (y.tQ w' q o)))) E [] r:=by
 obtain⟨-,-,-,-,-,-,-,n,-,p,-⟩:=qrm M ⟨none,Ez⟩;have B:∀{j:AV}{o:List Mg}{r:ar},a9 ao xh 11 r j o->(∀z,aW j z->H.au<=z)->o≠[]->H.au<=aH j:=λ{j o r}S u Y=>by
  refine u _ ⟨λ e=>?_,rfl⟩;subst e;have:=S.1;rw[yZ zi]at this;rcases S.2 with⟨z,-⟩|⟨b,q,-⟩
  .exact Y (jt.1 z)
  .cases q
 unfold De.tQ
 by_cases I:q
 .obtain ⟨hw,hl,hs,V,X⟩:=hq I;rw[qr I];rw[A,kj I]at J;simp only[aa,bc,n,J,R,U,b4];refine C3.q (Yz (M:=M) h hw hl hs V X) λ v K⟨hv,u,L⟩=>?_;rw[hv];have P:a9 ao xh 11 K j o:=Own.fr ho L λ z c(q:z=aH ev)=>by have:=g z c;have:=l (aH ev) (.inr (.inr (.inr (.inl rfl))));omega
  simp only[aa,bc,mZ];refine mK (e:=xh) (size:=11) (bytes:=88) P (x:=.agg (ao (y.dO w').2)) (zi _) (by rw[zu];exact zi _) (by rw[zu];exact rT _) (by decide) (by omega) (by omega) λ T Q G Z O=>?_;rw[zu]at G;simp only[aa,bc,p];have t:Fr (Lo H) K Q:=Z.mono λ z _ c=>g z c;have C:a9 ao xh 11 Q T (o ++ [(y.dO w').2]):=by
   unfold a9;rw[qv,kq,ju,List.flatMap_nil,ze];exact G
  have hn:H.au<=K.au:=xu f.au L.au
  have F:∀z,aW T z->H.au<=z:=λ z c=>(O z c).elim (λ q=>g z q) λ q=>xu hn q
  have s:∀z,lQ D mp lv ev (xs.set i ((y.dO w').1,a)) z->z<H.au:=λ z c=>by
   refine l z ?_;rcases c with c|c|c|c|⟨k,yy,b,hk,c⟩
   .exact .inl c
   .exact .inr (.inl c)
   .exact .inr (.inr (.inl c))
   .exact .inr (.inr (.inr (.inl c)))
   .by_cases e:k=i
    .subst e;rw[u.here]at hk;injection hk with hk;injection hk with _ hk;subst hk
     exact .inr (.inr (.inr (.inr ⟨k,x,a,hx,c⟩)))
    .rw [xw (mO e)]at hk;exact .inr (.inr (.inr (.inr ⟨k,yy,b,hk,c⟩)))
  refine⟨⟨_,_,rfl,C.sl,λ e=>B C F e⟩,a,⟨u.il,u.d.fr t λ z c q=>?_⟩,?_,λ z c=>.inl c⟩
  .have:=s z q;have c:H.au<=z:=c;omega
  .exact (vA f (BK L)).trans t λ z c=>.inr c
 .rw [qo I];rw[A,j9 I]at J;simp only[aa,bc,n,J,R,p];exact⟨⟨_,_,rfl,ho.sl,λ e=>B ho g e⟩,a,h,f,λ z c=>.inl c⟩
end
end Go.Am
namespace Go.Am
open Go.Proofs Ca
variable{M:ak}[MK M]
def bdA(co l:Int):Op.build (ao ⟨0,0,0,.zero⟩) [(0,1),(1,1),(2,1)] [.int .i64 16,.int .i64 co,.int .i64 l]=some (.agg (ao ⟨16,co,l,.zero⟩)):=rfl
def Ze:Op.build (dS .zero) [] []=some (.agg (dS .zero)):=rfl
def FM:Op.build (ao ⟨0,0,0,.zero⟩) [] []=some (.agg (ao ⟨0,0,0,.zero⟩)):=rfl
def G1(m:Mg):(ao m).take 3++(AV.agg (dS .zero)).cells++(ao m).drop (3+8)=ao {m with d:=.zero}:=WC m .zero
section
variable{H:ar}{D mp:Nat}{lv ev:AV}{N:Int}{ws:List L8}{xs:List (De×AV)}{x:De}{a:AV}{m:Mg}{w:L8}{ys:List Mg}
def dJ.wait{i:Nat}(h:dJ H D mp lv ev N ws xs i x a){b:AV}{ys:List Mg}{H1:ar}(hs:Sk ao xh 11 H1 b ys)(f:Fr (aW a) H H1)(j:∀z,aW b z->aW a z\/H.au<=z)(g:av b=true) :
 ∃H',Op.store 1 [.ptr (aH ev) (cG 16 ev i+15),b] H1=some (.undef,H')/\dJ H' D mp lv ev N ws xs i {x with wt:=ys} b/\Fr (lQ D mp lv ev (xs.set i (x,a))) H H'/\Fr (On (aH ev)) H1 H':=by
 obtain⟨H',s,r,c,e⟩:=h.d.wait h.here hs f j g;rw[List.set_set]at r;exact⟨H',s,⟨h.il,r⟩,c,e⟩
def Sk.one(h:Sk ao xh 11 H a ys):av a=true:=by
 rcases h with⟨rfl,-⟩|⟨b,i,alt,r,h⟩
 .rfl
 .rw [h.eq];rfl
def se{i:Nat}{y:De}(f:xs[i]? = some (x,a)){z:Nat}:lQ D mp lv ev (xs.set i (y,a)) z↔lQ D mp lv ev xs z:=by
 have g:=(qk.1 f).1;have key:(∃(k:Nat)(c:De)(b:AV),(xs.set i (y,a))[k]? = some (c,b)/\aW b z)↔ ∃(k:Nat)(c:De)(b:AV),xs[k]? = some (c,b)/\aW b z:=by
  constructor
  .rintro ⟨k,c,b,hk,d⟩
   by_cases e:k=i
   .subst e;rw[xr g]at hk;injection hk with hk;injection hk with _ hk;subst hk
    exact⟨k,x,a,f,d⟩
   .rw [xw (mO e)]at hk;exact⟨k,c,b,hk,d⟩
  .rintro ⟨k,c,b,hk,d⟩
   by_cases e:k=i
   .subst e;rw[f]at hk;injection hk with hk;injection hk with _ hk;subst hk
    exact⟨k,y,a,xr g,d⟩
   .exact ⟨k,c,b,by rw[xw (mO e)];exact hk,d⟩
 unfold lQ;rw[key]
def xfb(h:mj H D mp lv ev N ws xs)(Q:xs[m.line.toNat]? = some (x,a))(hw:ws[m.line.toNat]? = some w)(I:XI x N m.line)(h0:0<=m.line)(c0:0<=m.core)(c1:m.core<N)(hwl:x.wt.length<=900000) :
 za M Ez [.ptr D 0,.agg (ao m)] H (C8 H D mp lv ev N ws xs m.line.toNat a (x.bQ w m)):=by
 have N4:=I.N4;have c4:m.core<4:=by omega
 have hil:=(qk.1 Q).1;have l:∀z,lQ D mp lv ev xs z->z<H.au:=λ z u=>h.low u
 refine q4z ?_;obtain⟨w0,w2,w10,w12,w20,w28,w32,w113,w42,w119,w45,w61,Y,w55,w71,w86,w73,w99,w79⟩:=qrm M ⟨none,Ez⟩;obtain⟨H1,e1,f1,n1,g1⟩:=bX H (OR (ao m) xh);have d1:=h.em f1;have l2:Op.ae [.ptr H.au 2] H1=some (.int .i64 m.line):=xz (qy g1) 2;have l1:Op.ae [.ptr H.au 1] H1=some (.int .i64 m.core):=xz (qy g1) 1;have lN:Op.ae [.ptr D 1] H1=some (.int .i64 N):=xz (qy d1.row) 1;have lU:=fp g1 (zi m);have q0:¬m.core<0:=by omega
 have q1:¬N<=m.core:=by omega
 simp only[aa,bc,w0,<-e1,w2,yq,w10,l2];refine C3.q (C9 (M:=M) d1 h0 (by omega)) λ v A⟨hv,hh⟩=>?_;rw[hv,hh];simp only[aa,bc,w12,yq,l1,q0,qn,lN,q1,w20,lU];have en1:dJ H1 D mp lv ev N ws xs m.line.toNat x a:=dJ.of d1 Q;refine C3.q (xim (M:=M) en1 m c0 c4 I.ab (by omega)) λ v A⟨hv,f2⟩=>?_;rw[hv];have s:=en1.em f2;have F2:Fr Em H A:=f1.trans f2 λ _ q=>q.elim;have m2:=f2.au
 by_cases may:x.may m
 case neg =>
  simp only[aa,bc,may];unfold De.bQ;rw[qr may];exact⟨⟨_,_,rfl,.nil ..⟩,a,by rw[M8 hw];exact s,F2.mono λ _ _ q=>q.elim,λ z u=>.inl u⟩
 -- what the box of the message stays under
 have lm:∀{t:ar}(k:Nat),Fr (lQ D mp lv ev xs) A t->Op.ae [.ptr H.au k] t=(ao m)[k]?:=λ k f=>xz (qy (by rw[f.ah _ (by omega) (λ q=>by have:=l _ q;omega),f2.ah _ (by omega) id];exact g1)) k;have lD:∀{t:ar},Fr (lQ D mp lv ev xs) A t->Op.aq 8 [.ptr H.au 3] t=some (.agg (dS m.d)):=λ{t}f=>by
  have g:t.get H.au=some (OR (ao m) xh):=by rw[f.ah _ (by omega) (λ q=>by have:=l _ q;omega),f2.ah _ (by omega) id];exact g1
  rw[rq (qy g) (by rw[zi];decide)];obtain⟨k,co,li,⟨d,hd⟩⟩:=m
  match d,hd with
  |[_,_,_,_,_,_,_,_],_=>rfl
 have r2:=Fr.refl (W:=lQ D mp lv ev xs) A;have k0:Op.ae [.ptr H.au 0] A=some (.int .i64 m.k):=lm 0 r2;have k1r:∀{t:ar},Fr (lQ D mp lv ev xs) A t->Op.ae [.ptr H.au 1] t=some (.int .i64 m.core):=λ f=>lm 1 f;have k2r:∀{t:ar},Fr (lQ D mp lv ev xs) A t->Op.ae [.ptr H.au 2] t=some (.int .i64 m.line):=λ f=>lm 2 f;have hwt:=s.d.wt m.line.toNat x a s.here;have bx:=λ z(u:aW a z)=>(l z (.inr (.inr (.inr (.inr ⟨_,x,a,Q,u⟩)))))
 unfold De.bQ;rw[qo (λ q=>q may)];have sh1:=Lv c0 c4;simp only[aa,bc,may,w28,w32,k0]
 by_cases kg:m.k=1\/m.k=2
 .rw [qr kg]
  -- the message in hand has no words
  have st:Op.store 8 [.ptr H.au 3,.agg (dS .zero)] A=some (.undef,A.set H.au (OR (ao {m with d:=.zero}) xh)):=by
   have g:A.get H.au=some (OR (ao m) xh):=by rw[f2.ah _ (by omega) id];exact g1
   have:=t9 g (o:=3) (n:=8) (v:=.agg (dS .zero)) (by rw[zu];exact wn _) (by rw[zi];decide) (by rw[zu];exact xY _);rw[this,G1]
  obtain⟨P,e3⟩:∃X,X=A.set H.au (OR (ao {m with d:=.zero}) xh):=⟨_,rfl⟩
  rw[<-e3]at st;have J:Fr (On H.au) A P:=by rw[e3];exact(Fr.refl A).set (W:=On H.au) (.inl rfl) _
  have g3:P.get H.au=some (OR (ao {m with d:=.zero}) xh):=by rw[e3,xc]
  have lU3:=fp g3 (zi {m with d:=.zero});have c:dJ P D mp lv ev N ws xs m.line.toNat x a:=(dJ.of h Q).loc s (J.mono λ z _(q:z=H.au)=>by show H.au<=z;omega);have R:Fr Em H P:=F2.trans (J.mono (W':=Lo H) λ z _(q:z=H.au)=>by show H.au<=z;omega) λ z q=>.inr q;have m3:=J.au
  have key:∀{E:Env},lk E 38=some (.bool true)->lk E 3=some (.ptr H.au 0)->lk E 6=some (xA ev m.line.toNat)->lk E 0=some (.ptr D 0)->lk E 4=some .nils ->
   W M ⟨none,Ez⟩ (Uh 42) true (eM 0 (eP (W M ⟨none,Ez⟩ (Uh 113)) (fj M [.tmp 4,.tmp 5] (ug (C8 H D mp lv ev N ws xs m.line.toNat a (if x.ph≠0 then({x with wt:=x.wt ++ [{m with d:=.zero}]},w,[])else((x.begin {m with d:=.zero} w).1,w,(x.begin {m with d:=.zero} w).2))))))) E [] A:=by
   intro E b38 b3 b6 b0 b4
   by_cases p0:x.ph=0
   .rw [qo (λ q=>q p0)];simp only[aa,bc,w42,b38,lZ,Ze,b3,st,w45,b6,qn,c.qX,xb p0,w55,b0,lU3];refine C3.q (oT (M:=M) c {m with d:=.zero} hw h0 I.sb c0 c4 kg (by have:=I.ow;omega)) λ v B⟨T,j,f4⟩=>?_;simp only[aa,bc];refine⟨⟨_,_,rfl,T.1,λ q=>xu R.au (T.2 q)⟩,a,by rw[M8 hw];exact j,(R.mono λ _ _ q=>q.elim).trans (BK f4) λ _ q=>.inl q,λ z u=>.inl u⟩
   .rw [qr p0];have hsk:=c.d.wt m.line.toNat x a c.here;obtain⟨B,e4,f34,n4,-⟩:=bX P (OR (ao {m with d:=.zero}) xh);have rw1:=Jn (H:=P) {m with d:=.zero};rw[<-e4]at rw1;have sl1:=rw1.sl zi;obtain⟨v5,H5,s5,Z,f5,o5⟩:=(hsk.em f34).app zi (by decide) (ys:=[{m with d:=.zero}]) (k:=1) (new:=ao {m with d:=.zero}) rfl (by simp) (Sl.eY sl1) (by have:=Sl.first sl1;simpa using this) (rT _) (bytes:=88) (by omega) (by omega);have f35:Fr (aW a) P H5:=(f34.mono λ _ _ q=>q.elim).trans f5 λ _ q=>.inl q;obtain⟨H6,s6,en6,f6,f56⟩:=c.wait Z f35 (λ z u=>(o5 z u).elim .inl λ q=>.inr (by omega)) Z.one;simp only[aa,bc,w42,b38,lZ,Ze,b3,st];simp only[aa,bc,w45,b3,b6,qn,c.qX,p0,c.ir,lU3,mZ,zD,<-e4,s5,s6];refine⟨⟨_,_,rfl,.nil ..⟩,v5,by rw[M8 hw];exact en6,?_,λ z u=>(o5 z u).elim .inl λ q=>.inr (by have:=R.au;omega)⟩;exact(R.mono λ _ _ q=>q.elim).trans f6 λ z q=>.inl ((se Q).1 q)
  rcases kg with k|k
  .simp only[aa,bc,xb k];exact key rfl rfl rfl rfl rfl
  .have nk:¬m.k=1:=by omega
   simp only[aa,bc,nk,xb k];exact key rfl rfl rfl rfl rfl
 rw[qo kg];have nk1:¬m.k=1:=λ q=>kg (.inl q);have nk2:¬m.k=2:=λ q=>kg (.inr q);have hm:=may;unfold De.may at hm;rw[qo kg]at hm;have hU:=I.un;have S:∀{y:De}{w':L8},x.ph≠0->y.un=x.un->y.sh<16->(ws.set m.line.toNat w')[y.un.line.toNat]? = some w'/\0<=y.un.line/\y.sh<16/\0<=y.un.core/\y.un.core<4:=λ{y w'}p e1 e2=>by
  obtain⟨-,u0,u1,ul⟩:=hU p;have hl:=(qk.1 hw).1;rw[e1];exact⟨by rw[ul,xr hl],by rw[ul];exact h0,e2,u0,by omega⟩
 have K:∀{t:ar}{y:De},dJ t D mp lv ev N ws xs m.line.toNat y a->dJ t D mp lv ev N (ws.set m.line.toNat w) xs m.line.toNat y a:=λ e=>by rw[M8 hw];exact e
 have full:∀{t:ar},Fr (lQ D mp lv ev xs) A t->Fr (lQ D mp lv ev xs) H t:=λ f=>(F2.mono λ _ _ q=>q.elim).trans f λ _ q=>.inl q;have G:∀{t:ar},a9 ao xh 11 t .nils ([]:List Mg):=Own.nil ..;have F:∀z,aW AV.nils z->H.au<=z:=λ z q=>absurd rfl q.1
 simp only[aa,bc,nk1,nk2,w42]
 by_cases k4:m.k=4
 .rw [qr k4]at hm⊢;have sd:=Tc I.sb c0 c4;have sda:=Tc I.ab c0 c4;obtain⟨P,s3,c,J⟩:=s.s1 (cF x.sh m.core);obtain⟨B,s4,j,f4⟩:=c.Q4 (cF x.ask m.core);have R:=BK (D:=D) (mp:=mp) (lv:=lv) (xs:=xs) J;have L:=vA R (BK f4);have dl:cF x.sh m.core<16:=(LJ I.sb c0 c4 (d:=0) (by decide) (by decide)).1;have dd:decide (((cF x.ask m.core:Nat):Int)=0)=decide (cF x.ask m.core=0):=by
   by_cases e:cF x.ask m.core=0
   .rw [e];rfl
   .rw [j9 e,j9 (by omega)]
  simp only[aa,bc,xb k4,w61,qn,s.l1,k1r r2,sh1,sd,s3,c.ui,k1r R,sda,s4,j.ui];exact nR (M:=M) (q:=cF x.ask m.core=0) dd rfl rfl rfl rfl Q (K j) (λ _=>S (by omega) rfl dl) G (by decide) F (full L) l
 rw[qo k4]at hm⊢
 by_cases Z:m.k=5
 .rw [qr Z]at hm⊢;have wF:Op.ae [.ptr D 0] A=some (.ptr mp 0):=xz (qy s.d.row) 0;have hlen:m.line<ws.length:=by have:=(qk.1 hw).1;omega
  simp only[aa,bc,k4,Y,xb Z,qn,wF,k2r r2,lD r2];refine C3.q (Uy (M:=M) s.d.me h0 hlen m.d) λ v P⟨hv,hm3,J⟩=>?_;have c:=s.mem hm3 J (xg ..);have R:=YA (D:=D) (mp:=mp) (ev:=ev) (xs:=xs) J;obtain⟨B,s4,j,f4⟩:=c.s0 (-1);have L:=vA R (BK f4)
  by_cases u1:x.un.k=1
  .rw [qr u1];have sa:=t8 I.sb c0 c4;obtain⟨H5,s5,en5,f5⟩:=j.s1 (pS x.sh m.core);have F5:=vA L (BK f5);simp only[aa,bc,w71,qn,s4,w73,j.l2,xb u1,j.l1,k1r L,sh1,sa,s5,w79];exact nR (M:=M) (q:=True) rfl rfl rfl rfl rfl Q en5 (λ _=>S (by omega) rfl (Nv I.sb c0 c4 (d:=0) (by decide) (by decide)).1) G (by decide) F (full F5) l
  .rw [qo u1];simp only[aa,bc,w71,qn,s4,w73,j.l2,u1,w79];exact nR (M:=M) (q:=True) rfl rfl rfl rfl rfl Q j (λ _=>S (by omega) rfl I.sb) G (by decide) F (full L) l
 rw[qo Z]at hm⊢
 by_cases k6:m.k=6
 .rw [qr k6]at hm⊢;obtain⟨P,s3,c,J⟩:=s.PQ 3;simp only[aa,bc,k4,Y,Z,xb k6,qn,s3,c.l0];exact nR (M:=M) (q:=x.ow<0) rfl rfl rfl rfl rfl Q (K c) (λ _=>S (by omega) rfl I.sb) G (by decide) F (full (BK J)) l
 rw[qo k6]at hm⊢
 by_cases k3:m.k=3
 .rw [qr k3]at hm⊢;have wF:Op.ae [.ptr D 0] A=some (.ptr mp 0):=xz (qy s.d.row) 0;have hlen:m.line<ws.length:=by have:=(qk.1 hw).1;omega
  simp only[aa,bc,k4,Y,Z,k6,w86,xb k3,qn,wF,k2r r2,lD r2];refine C3.q (Uy (M:=M) s.d.me h0 hlen m.d) λ v P⟨hv,hm3,J⟩=>?_;have c:=s.mem hm3 J (xg ..);have R:=YA (D:=D) (mp:=mp) (ev:=ev) (xs:=xs) J;obtain⟨B,s4,j,f4⟩:=c.s0 (-1);have L:=vA R (BK f4);simp only[aa,bc,qn,s4,k1r L,k2r L,mZ,bdA];refine mK (e:=xh) (size:=11) (bytes:=88) (Own.nil B xh 11) (x:=.agg (ao ⟨16,m.core,m.line,.zero⟩)) (zi _) (by rw[zu];exact zi _) (by rw[zu];exact rT _) (by decide) (by omega) (by omega) λ v5 H5 hv5 hf hfr=>?_;rw[zu]at hv5;have f45:Fr Em B H5:=hf.mono λ z _ u=>absurd rfl u.1;have en5:=j.em f45;have F5:=L.trans f45 λ _ q=>q.elim;have nn:H.au<=B.au:=(full L).au
  simp only[aa,bc,qn,en5.qX];refine nR (M:=M) (q:=x.ph=3) rfl rfl rfl rfl rfl Q en5 (λ q=>S (by omega) rfl I.sb) (o:=[⟨16,m.core,m.line,.zero⟩]) ?_ (by simp) (λ z u=>(hfr z u).elim (λ q=>absurd rfl q.1) λ q=>by omega) (full F5) l;unfold a9
  simpa using hv5
 rw[qo k3]at hm⊢;obtain⟨k7,p4,pu⟩:=hm;obtain⟨P,s3,c,J⟩:=s.PQ 0;obtain⟨B,s4,j,f4⟩:=c.sU ⟨0,0,0,.zero⟩;have L:=vA (BK (D:=D) (mp:=mp) (lv:=lv) (xs:=xs) J) (BK f4);have hsk:=j.d.wt m.line.toNat _ a j.here;have O:=hsk.len zi;cases C:x.wt with
 |nil =>
  have O:Op.dc [a]=some (.int .i64 0):=by rw[O];simp only[C];rfl
  have z00:¬(0:Int)<0:=by decide
  have en4n:dJ B D mp lv ev N ws xs m.line.toNat {x with ph:=0,un:=⟨0,0,0,.zero⟩,wt:=[]} a:=by rw[<-C];exact j
  simp only[aa,bc,k4,Y,Z,k6,w86,k3,xb k7,w99,qn,mZ,FM,s3,s4,j.ir,O,z00];exact nR (M:=M) (q:=False) (b8:=false) rfl rfl rfl rfl rfl Q (K en4n) (λ q=>q.elim) G (by decide) F (full L) l
 |cons n r =>
  have hn:=I.wt n (by rw[C];simp);have O:Op.dc [a]=some (.int .i64 ((r.length+1:Nat):Int)):=by rw[O];simp only[C];rfl
  have z01:(0:Int)<((r.length+1:Nat):Int):=by omega
  have V:Sk ao xh 11 B a (n::r):=by
   have:({x with ph:=0,un:=⟨0,0,0,.zero⟩}:De).wt=n::r:=C;rw[<-this];exact hsk
  have ix:=(V.sl zi).idx (i:=0) (x:=n) rfl (z:=0) rfl .i64;have ld:=(V.sl zi).aq zi (by decide) (i:=0) (x:=n) rfl;obtain⟨H5,e5,f45,-,g5⟩:=bX B (OR (ao ⟨0,0,0,.zero⟩) xh);have st5:=gK g5 (zi _) (zi n) (rT n);obtain⟨H6,e6⟩:∃X,X=H5.set B.au (OR (ao n) xh):=⟨_,rfl⟩
  rw[<-e6]at st5;have g6:H6.get B.au=some (OR (ao n) xh):=by rw[e6,xc]
  have f46:Fr Em B H6:=by rw[e6];exact f45.set (.inr (qg _)) _
  have n6:B.au<H6.au:=by rw[e6,su,e5,xx];omega
  have en6:=j.em f46;have hsk6:=V.em f46;rcases hsk6 with⟨-,q⟩|⟨b,i,alt,rr,hsb⟩
  .cases q
  obtain⟨v7,alt',s7,U,-⟩:=hsb.off zi (k:=1) (by simp) .i64;have s7:Op.aL 11 [some 0,none,none] [a,.int .i64 1]=some v7:=s7;have hon7:∀z,aW v7 z->aW a z:=λ z u=>by rw[U.RJ u];exact hsb.on
  obtain⟨H8,s8,en8,f8,f68⟩:=en6.wait (ys:=r) (.inr ⟨_,_,_,_,U⟩) (Fr.refl H6) (λ z u=>.inl (hon7 z u)) (by rw[U.eq];rfl);have F6:=L.trans f46 λ _ q=>q.elim;have F8:=F6.trans f8 λ z q=>.inl ((se Q).1 q);have nev:¬B.au=aH ev:=by have:=l (aH ev) (.inr (.inr (.inr (.inl rfl))));have:=(full L).au;omega
  have l8:Op.aq 11 [.ptr B.au 0] H8=some (.agg (ao n)):=fp (by rw[f68.ah _ n6 nev];exact g6) (zi n);simp only[aa,bc,k4,Y,Z,k6,w86,k3,xb k7,w99,qn,mZ,FM,s3,s4,j.ir,O,xb z01,ix,ld,<-e5,st5,en6.ir,s7,s8,l8];obtain⟨nk,n0,n1',nl⟩:=hn;refine C3.q (oT (M:=M) en8 n (w:=w) (by rw[nl];exact hw) (by rw[nl];exact h0) I.sb n0 (by omega) nk (by have:=I.ow;show x.ow<4;omega)) λ v H9⟨T,en9,f9⟩=>?_;simp only[aa,bc];refine⟨⟨_,_,rfl,T.1,λ q=>xu (full F8).au (T.2 q)⟩,v7,by rw[M8 hw];exact en9,full (vA F8 (BK f9)),λ z u=>.inl (hon7 z u)⟩
end
end Go.Am
namespace Go.Am
open Go.Proofs Ca
open Lang (ints)
variable{M:ak}[MK M]
structure Na where
 r:Nat
 b:Nat
 sv:AV
 bv:AV
 ks:List Nat
structure Bs where
 D:Nat
 mp:Nat
 lv:AV
 ev:AV
 xs:List (De×AV)
 nv:AV
 fv:AV
 ad:List Na
def lj(r:Nat):List AV:=[.ptr r 0]
def Zy(r:Nat):(lj r).length=1:=rfl
def Na.w(A:Na):Nat->Prop:=iv A.r A.b A.sv A.bv
def Bs.dw(s:Bs):Nat->Prop:=lQ s.D s.mp s.lv s.ev s.xs
def i4(B:Nat)(s:Bs)(z:Nat):Prop:=z=B\/s.dw z\/aW s.nv z\/aW s.fv z \/ ∃(c:Nat)(A:Na),s.ad[c]? = some A/\A.w z
structure eV(H0 H:ar)(B:Nat)(s:Bs)(b:Bu)(own:Nat->Nat):Prop where
 row:H.get B=some (OR [.ptr s.D 0,s.nv,s.fv,.int .i64 (b.l.length:Int)] K9)
 lt:B<H.au
 d:mj H s.D s.mp s.lv s.ev b.ns.length b.m s.xs
 dx:s.xs.map Prod.fst=b.l
 nv:a9 lj IY 1 H s.nv (s.ad.map Na.r)
 no:∀(c:Nat)(n:No)(A:Na),b.ns[c]? = some n->s.ad[c]? = some A->cU H0 H A.r A.b A.sv A.bv n A.ks
 al:s.ad.length=b.ns.length
 fl:Sk ao xh 11 H s.fv b.fl
 oB:own B=0
 oD:∀z,s.dw z->own z=1
 oN:∀z,aW s.nv z->own z=2
 oF:∀z,aW s.fv z->own z=3
 oC:∀(c:Nat)(A:Na),s.ad[c]? = some A -> ∀z,A.w z->own z=4+c
 lo:∀z,i4 B s z->H0.au<=z
def cU.low{H0 H:ar}{r b:Nat}{sv bv:AV}{n:No}{ks:List Nat}(h:cU H0 H r b sv bv n ks){z:Nat}(a:iv r b sv bv z):z<H.au:=by
 rcases a with rfl|(rfl|rfl)|a
 .exact h.lt
 .exact h.ca.lt
 .exact h.ca.sl.lt
 .exact (h.bk.fresh z a).2
section
variable{H0 H:ar}{B:Nat}{s:Bs}{b:Bu}{own:Nat->Nat}
def eV.FJ(h:eV H0 H B s b own){c:Nat}{n:No}(hn:b.ns[c]? = some n):∃A,s.ad[c]? = some A/\cU H0 H A.r A.b A.sv A.bv n A.ks:=by
 have hl:=(qk.1 hn).1;have ha:s.ad[c]? = some (s.ad[c]'(by rw[h.al];exact hl)):=qt _;exact⟨_,ha,h.no c n _ hn ha⟩
def eV.low(h:eV H0 H B s b own){z:Nat}(a:i4 B s z):z<H.au:=by
 rcases a with rfl|a|a|a|⟨c,A,e,a⟩
 .exact h.lt
 .exact h.d.low a
 .exact Own.lt h.nv z a
 .exact h.fl.lt z a
 .have hl:=(qk.1 e).1;have hn:b.ns[c]? = some (b.ns[c]'(by rw[<-h.al];exact hl)):=qt _;exact(h.no c _ A hn e).low a
def eV.fr{H':ar}{W:Nat->Prop}(h:eV H0 H B s b own)(f:Fr W H H')(hw:∀z,W z->H0.au<=z /\ ¬i4 B s z):eV H0 H' B s b own :=
 ⟨by rw[f.ah _ h.lt (λ q=>(hw _ q).2 (.inl rfl))];exact h.row,qj h.lt f.au,h.d.fr f (λ z q w=>(hw z q).2 (.inr (.inl w))),h.dx,Own.fr h.nv f (λ z a q=>(hw z q).2 (.inr (.inr (.inl a)))),
  λ c n A hn e=>(h.no c n A hn e).off f λ z q=>⟨(hw z q).1,λ w=>(hw z q).2 (.inr (.inr (.inr (.inr ⟨c,A,e,w⟩))))⟩,h.al,h.fl.fr f (λ z a q=>(hw z q).2 (.inr (.inr (.inr (.inl a))))),h.oB,h.oD,h.oN,h.oF,h.oC,h.lo⟩
def eV.em{H':ar}(h:eV H0 H B s b own)(f:Fr Em H H'):eV H0 H' B s b own:=h.fr f λ z q=>q.elim
def eV.l1(h:eV H0 H B s b own):Op.ae [.ptr B 1] H=some s.nv:=xz (qy h.row) 1
def eV.l0(h:eV H0 H B s b own):Op.ae [.ptr B 0] H=some (.ptr s.D 0):=xz (qy h.row) 0
def eV.l2(h:eV H0 H B s b own):Op.ae [.ptr B 2] H=some s.fv:=xz (qy h.row) 2
def eV.l3(h:eV H0 H B s b own):Op.ae [.ptr B 3] H=some (.int .i64 (b.l.length:Int)):=xz (qy h.row) 3
def aR(own:Nat->Nat)(n k z:Nat):Nat:=if z<n then own z else k
def eV.node(h:eV H0 H B s b own){c:Nat}{n n':No}{A:Na}{H':ar}(hn:b.ns[c]? = some n)(o:s.ad[c]? = some A)(G:rA H0 H A.r A.b A.sv A.bv n' H') :
 ∃D t,eV H0 H' B D {b with ns:=b.ns.set c n'} t/\(∀z,i4 B D z->i4 B s z\/H.au<=z)/\Fr (i4 B s) H H':=by
 obtain⟨l,m,hr,f,hb⟩:=G;have v:=(qk.1 hn).1;have p:=(qk.1 o).1;have F:Fr (i4 B s) H H':=f.mono λ z _ q=>.inr (.inr (.inr (.inr ⟨c,A,o,q⟩)));have nw:∀z,iv A.r A.b A.sv A.bv z->own z=4+c:=h.oC c A o;have has:∀(d:Nat)(i:Na),(s.ad.set c {A with bv:=l,ks:=m})[d]? = some i->(d=c/\i = {A with bv:=l,ks:=m})\/d≠c/\s.ad[d]? = some i:=λ d i e=>by
  by_cases q:d=c
  .subst q;rw[xr p]at e;injection e with e;exact .inl ⟨rfl,e.symm⟩
  .rw [xw (mO q)]at e;exact .inr ⟨q,e⟩
 have C:∀z,i4 B {s with ad:=s.ad.set c {A with bv:=l,ks:=m}} z->i4 B s z\/H.au<=z:=λ z a=>by
  rcases a with a|a|a|a|⟨d,i,e,a⟩
  .exact .inl (.inl a)
  .exact .inl (.inr (.inl a))
  .exact .inl (.inr (.inr (.inl a)))
  .exact .inl (.inr (.inr (.inr (.inl a))))
  .rcases has d i e with⟨rfl,rfl⟩|⟨q,e⟩
   .rcases a with a|a|a
    .exact .inl (.inr (.inr (.inr (.inr ⟨d,A,o,.inl a⟩))))
    .exact .inl (.inr (.inr (.inr (.inr ⟨d,A,o,.inr (.inl a)⟩))))
    .rcases hb z a with w|w
     .exact .inl (.inr (.inr (.inr (.inr ⟨d,A,o,.inr (.inr w)⟩))))
     .exact .inr w
   .exact .inl (.inr (.inr (.inr (.inr ⟨d,i,e,a⟩))))
 have E:H0.au<=H.au:=by have:=h.lo B (.inl rfl);have:=h.lt;omega
 have ne:∀{z k:Nat},own z=k->k≠4+c -> ¬iv A.r A.b A.sv A.bv z:=λ x y q=>y (by rw[<-x];exact nw _ q);have ow:∀{z:Nat},z<H.au->aR own H.au (4+c) z=own z:=λ q=>qr q
 refine⟨{s with ad:=s.ad.set c {A with bv:=l,ks:=m}},aR own H.au (4+c),⟨?_,qj h.lt f.au,?_,h.dx,?_,λ d n2 i g u=>?_,?_,?_,?_,λ z a=>?_,λ z a=>?_,λ z a=>?_,λ d i e z a=>?_,λ z a=>?_⟩,C,F⟩
 .rw [f.ah _ h.lt (ne h.oB (by omega))];exact h.row
 .simp only[xg];exact h.d.fr f λ z q w=>ne (h.oD z w) (by omega) q
 .have:(s.ad.set c {A with bv:=l,ks:=m}).map Na.r=s.ad.map Na.r:=by
   rw[List.map_set];apply jz;intro j
   by_cases q:j=c
   .rw [q,xr (by rw[xp];exact p),xj,o];rfl
   .rw [xw (mO q)]
  simp only[this];exact Own.fr h.nv f λ z a q=>ne (h.oN z a) (by omega) q
 .have g:(b.ns.set c n')[d]? = some n2:=g;rcases has d i u with⟨rfl,rfl⟩|⟨q,e⟩
  .rw [xr v]at g;injection g with g;subst g;exact hr
  .rw [xw (mO q)]at g;refine(h.no d n2 i g e).off f λ z w=>⟨h.lo z (.inr (.inr (.inr (.inr ⟨c,A,o,w⟩)))),λ I=>?_⟩
   have x:=h.oC d i e z I;have y:=nw z w;omega
 .simp only[xg];exact h.al
 .exact h.fl.fr f λ z a q=>ne (h.oF z a) (by omega) q
 .rw [ow h.lt];exact h.oB
 .rw [ow (h.low (.inr (.inl a)))];exact h.oD z a
 .rw [ow (h.low (.inr (.inr (.inl a))))];exact h.oN z a
 .rw [ow (h.low (.inr (.inr (.inr (.inl a)))))];exact h.oF z a
 .rcases has d i e with⟨rfl,rfl⟩|⟨q,e⟩
  .unfold aR;split
   .rename_i q;rcases a with a|a|a
    .exact nw z (.inl a)
    .exact nw z (.inr (.inl a))
    .rcases hb z a with w|w
     .exact nw z (.inr (.inr w))
     .omega
   .rfl
  .rw [ow (h.low (.inr (.inr (.inr (.inr ⟨d,i,e,a⟩)))))];exact h.oC d i e z a
 .rcases C z a with w|w
  .exact h.lo z w
  .omega
end
end Go.Am
namespace Go.Am
open Go.Proofs Ca
open Lang (ints)
variable{M:ak}[MK M]
def kG(H0 H:ar)(B:Nat)(s:Bs)(b':Bu)(H':ar):Prop:=∃s' aR,eV H0 H' B s' b' aR/\(∀z,i4 B s' z->i4 B s z\/H.au<=z)/\Fr (i4 B s) H H'
section
variable{H0 H:ar}{B:Nat}{s:Bs}{b:Bu}{own:Nat->Nat}
def kG.then{H1 d:ar}{s1:Bs}{e:Bu}(g:Fr (i4 B s) H H1)(hs:∀z,i4 B s1 z->i4 B s z\/H.au<=z)(h:kG H0 H1 B s1 e d):kG H0 H B s e d:=by
 obtain⟨s2,o2,r,q,f⟩:=h;refine⟨s2,o2,r,λ z a=>(q z a).elim (hs z) λ w=>.inr (xu g.au w),g.trans f λ z a=>hs z a⟩
def kG.em{H1 a:ar}{d:Bu}(h:kG H0 H B s d H1)(f:Fr Em H1 a):kG H0 H B s d a:=by
 obtain⟨s2,o2,r,q,g⟩:=h;exact⟨s2,o2,r.em f,q,g.trans f λ _ w=>w.elim⟩
def kG.pre{H1 a:ar}{d:Bu}(f:Fr Em H H1)(h:kG H0 H1 B s d a):kG H0 H B s d a:=kG.then (f.mono λ _ _ q=>q.elim) (λ _ q=>.inl q) h
def eV.Ap(h:eV H0 H B s b own){H1:ar}{e:AV}{j:List Mg}(hk:Sk ao xh 11 H1 e j)(f:Fr (aW s.fv) H H1)(u:∀z,aW e z->aW s.fv z\/H.au<=z):∃H',Op.store 1 [.ptr B 2,e] H1=some (.undef,H')/\kG H0 H B s {b with fl:=j} H':=by
 have y:av e=true:=hk.one;have ne:∀{z k:Nat},own z=k->k≠3 -> ¬aW s.fv z:=λ m p q=>p (by rw[<-m];exact h.oF _ q);have I:H1.get B=some (OR [.ptr s.D 0,s.nv,s.fv,.int .i64 (b.l.length:Int)] K9):=by rw[f.ah _ h.lt (ne h.oB (by decide))];exact h.row
 have t:e.cells=[e]:=by cases e<;>first|rfl|cases y
 have st:=t9 I (o:=2) (n:=1) (v:=e) (by rw[t];rfl) (by simp) (by rw[t,yj];simpa using y);rw[t]at st;have G:Fr (i4 B s) H H1:=f.mono λ z _ q=>.inr (.inr (.inr (.inl q)));have F:H0.au<=H.au:=by have:=h.lo B (.inl rfl);have:=h.lt;omega
 have C:∀z,i4 B {s with fv:=e} z->i4 B s z\/H.au<=z:=λ z a=>by
  rcases a with a|a|a|a|a
  .exact .inl (.inl a)
  .exact .inl (.inr (.inl a))
  .exact .inl (.inr (.inr (.inl a)))
  .rcases u z a with w|w
   .exact .inl (.inr (.inr (.inr (.inl w))))
   .exact .inr w
  .exact .inl (.inr (.inr (.inr (.inr a))))
 have ow:∀{z:Nat},z<H.au->aR own H.au 3 z=own z:=λ q=>qr q
 have g:Fr (On B) H1 (H1.set B (OR ([AV.ptr s.D 0,s.nv,s.fv,.int .i64 (b.l.length:Int)].take 2 ++ [e] ++ [AV.ptr s.D 0,s.nv,s.fv,.int .i64 (b.l.length:Int)].drop (2+1)) K9)):=(Fr.refl H1).set (W:=On B) (.inl rfl) _;have E:∀{z k:Nat},own z=k->k≠0 -> ¬z=B:=λ m p q=>p (by rw[<-m,q];exact h.oB);refine⟨_,st,{s with fv:=e},aR own H.au 3,⟨xc ..,?_,?_,h.dx,?_,λ c n A hn i=>?_,h.al,?_,?_,λ z a=>?_,λ z a=>?_,λ z a=>?_,λ c A i z a=>?_,λ z a=>?_⟩,C,G.trans g λ z q=>.inl (.inl q)⟩
 .exact qj h.lt (xu f.au g.au)
 .exact (h.d.fr f λ z q w=>ne (h.oD z w) (by decide) q).fr g λ z q w=>E (h.oD z w) (by decide) q
 .exact Own.fr (Own.fr h.nv f λ z a q=>ne (h.oN z a) (by decide) q) g λ z a q=>E (h.oN z a) (by decide) q
 .refine ((h.no c n A hn i).off f λ z w=>⟨h.lo z (.inr (.inr (.inr (.inl w)))),λ x=>?_⟩).off g λ z w=>?_
  .have:=h.oC c A i z x;have:=h.oF z w;omega
  .have w:z=B:=w;refine⟨by rw[w];exact h.lo B (.inl rfl),λ x=>?_⟩;have:=h.oC c A i z x;rw[w,h.oB]at this;omega
 .refine hk.fr g λ z a q=>?_;have q:z=B:=q;rcases u z a with w|w
  .rw [q]at w;exact ne h.oB (by decide) w
  .have:=h.lt;omega
 .rw [ow h.lt];exact h.oB
 .rw [ow (h.low (.inr (.inl a)))];exact h.oD z a
 .rw [ow (h.low (.inr (.inr (.inl a))))];exact h.oN z a
 .unfold aR;split
  .rcases u z a with w|w
   .exact h.oF z w
   .omega
  .rfl
 .rw [ow (h.low (.inr (.inr (.inr (.inr ⟨c,A,i,a⟩)))))];exact h.oC c A i z a
 .rcases C z a with w|w
  .exact h.lo z w
  .omega
def zJ(l:List Mg):aJ (l.flatMap ao)=true:=by
 rw[yj,List.all_flatMap,wq];intro x _;have:=rT x;rw[yj]at this;exact this
def TS(h:eV H0 H B s b own){ov:AV}{ms:List Mg}(hm:dU ao 11 H ov ms)(hl:b.fl.length+ms.length<=1000000):za M Us [.ptr B 0,ov] H λ _ H'=>kG H0 H B s {b with fl:=b.fl++ms} H':=by
 refine q4w ?_;obtain⟨v1,H1,s1,d,a,o1⟩:=h.fl.app zi (by decide) (ys:=ms) rfl rfl (Sl.eY hm) (Sl.first hm) (zJ ms) (bytes:=88) (by omega) (by omega);obtain⟨f,s2,e⟩:=h.Ap d a o1;simp only[aa,bc,q4x,qn,h.l2,s1,s2];exact e
def Gn(h:eV H0 H B s b own)(l:b.ns.length<=4)(c:Int):za M UB [.ptr B 0,.int .i64 c] H λ v H'=>H'=H/\((0<=c/\c<b.ns.length -> ∃A,s.ad[c.toNat]? = some A/\v=.tuple [.ptr A.r 0,.int .i64 0])/\(¬(0<=c/\c<b.ns.length)->v=.tuple [.nilp,.int .i64 2])):=by
 refine q9g ?_;obtain⟨w0,g,f⟩:=q9h M ⟨none,UB⟩;have a:=h.nv.sl.len;rw[xp,h.al]at a
 by_cases e:c<0
 .simp only[aa,bc,w0,g,yq,xb e];exact⟨λ q=>by omega,λ _=>trivial⟩
 by_cases k:((b.ns.length:Nat):Int)<=c
 .simp only[aa,bc,w0,g,yq,e,qn,h.l1,a,xb k];exact⟨λ q=>by omega,λ _=>trivial⟩
 have d:c.toNat<s.ad.length:=by rw[h.al];omega
 have i:s.ad[c.toNat]? = some (s.ad[c.toNat]):=qt d;have j:(s.ad.map Na.r)[c.toNat]? = some (s.ad[c.toNat]).r:=by rw[xj,i];rfl
 have ix:=h.nv.sl.idx j (z:=c) (by omega) .i64;have ld:=h.nv.sl.lT Zy j (by decide);have ld:Op.ae [.ptr (aH s.nv) (cG 1 s.nv c.toNat)] H=some (.ptr (s.ad[c.toNat]).r 0):=ld;simp only[aa,bc,w0,g,yq,e,qn,h.l1,a,k,f,ix,ld];exact⟨λ _=>⟨_,i,rfl⟩,λ q=>absurd ⟨by omega,by omega⟩ q⟩
end
end Go.Am
namespace Go.Am
open Go.Proofs Ca
open Lang (ints)
variable{M:ak}[MK M]
def No.jA(n:No)(a o:Int):Bool×Bool×Int:=if n.may a then if n.live then(false,false,41)else if n.owned (No.ln a)then(decide ((n.c.word a.toNat).2.getD 0=o),true,0)else(false,false,0)else(false,false,2)
section
variable{H0 H:ar}{r b:Nat}{sv bv:AV}{n:No}{ks:List Nat}
def xbv(h:cU H0 H r b sv bv n ks):za M TG [.ptr r 0] H λ v H'=>v=.int .i64 (if n.live=true then 41 else 0)/\cU H0 H' r b sv bv n.begin ks/\Fr (iv r b sv bv) H H':=by
 refine qv3 ?_;obtain⟨w0,d,a⟩:=qv4 M ⟨none,TG⟩;have ir:=h.ir;unfold No.begin;cases hl:n.live with
 |true =>
  rw[hl]at ir;simp only[aa,bc,w0,d,yq,qn,ir];exact⟨h,Fr.refl _⟩
 |false =>
  rw[hl]at ir;obtain⟨k,s2,g,e⟩:=h.sm true;obtain⟨l,j,i,f⟩:=g.wR 0;simp only[aa,bc,w0,d,yq,qn,ir,a,s2,j];exact⟨by first|rfl|trivial|(simp),by rw[qo (by decide)];exact i,jI (JT e) (JT f)⟩
def q8b(h:cU H0 H r b sv bv n ks):za M Uw [.ptr r 0] H λ v H'=>v=.int .i64 (if n.live=true then 0 else 40)/\cU H0 H' r b sv bv n.bw ks/\Fr (iv r b sv bv) H H':=by
 refine qt8 ?_;obtain⟨w0,f,d⟩:=qt9 M ⟨none,Uw⟩;have ir:=h.ir;unfold No.bw;cases hl:n.live with
 |false =>
  rw[hl]at ir;simp only[aa,bc,w0,f,yq,qn,ir];exact⟨by first|rfl|trivial|(simp),by rw[qo (by decide)];exact h,Fr.refl _⟩
 |true =>
  rw[hl]at ir;simp only[aa,bc,w0,f,yq,qn,ir,d,h.l2];refine C3.q (q16 (M:=M) h.ca h.len) λ _ H1⟨i,e⟩=>?_;have a:=h.ig i e (by show(n.c.sl.map pQ).length<=40;rw[xp];exact h.len);obtain⟨k,s2,j,g⟩:=a.sm false;simp only[aa,bc,qn,s2];exact⟨j,jI (vE e) (JT g)⟩
def yG(H0 H:ar)(r b:Nat)(sv bv:AV)(n:No)(ks:List Nat)(a o y:Int)(v:AV)(H':ar):Prop:=(∃ov,v=.tuple [.bool (n.jA a o).1,.bool (n.jA a o).2.1,ov,.int .i64 (n.jA a o).2.2]/\mf H H' ov (n.lP a o y).2)/\cU H0 H' r b sv bv (n.lP a o y).1 ks/\Fr (iv r b sv bv) H H'
def xic(h:cU H0 H r b sv bv n ks)(m:CI n.lines n.c)(hk:n.aK.length<=900000)(hu:n.c.us+2<=1000000)(a o y:Int):za M Vt [.ptr r 0,.int .i64 a,.int .u64 o,.int .u64 y] H (yG H0 H r b sv bv n ks a o y):=by
 refine q3q ?_;obtain⟨w0,U,w,E,F,G,x,z⟩:=q3r M ⟨none,Vt⟩;simp only[aa,bc,w0,U];refine C3.q (UT (M:=M) h a) λ v H1⟨u,P⟩=>?_;rw[u,P]
 by_cases hm:n.may a
 case neg =>
  have j:n.lP a o y=(n,[]):=by unfold No.lP;rw[qo hm]
  have ev:n.jA a o=(false,false,2):=by unfold No.jA;rw[qo hm]
  have T:¬(2:Int)=0:=by decide
  rw[qo hm];unfold yG;rw[j,ev];simp only[aa,bc,T];exact⟨⟨.nils,rfl,mf.nil ..⟩,h,Fr.refl _⟩
 rw[qr hm];have hl:=h.li;obtain⟨K,S⟩:=hm;obtain⟨e,rfl⟩:=z4 K;have l:e<1000000:=by omega
 have g:n.may (e:Int):=⟨K,S⟩
 have k:No.ln (e:Int)=((e / 8:Nat):Int):=rfl;have X:=xb (show(0:Int)=0 from rfl);have ir:=h.ir;cases f:n.live with
 |true =>
  have j:n.lP (e:Int) o y=(n,[]):=by unfold No.lP;rw[qr g,f];rfl
  have ev:n.jA (e:Int) o=(false,false,41):=by unfold No.jA;rw[qr g,f];rfl
  rw[f]at ir;unfold yG;rw[j,ev];simp only[aa,bc,w,qn,ir];exact⟨⟨.nils,rfl,mf.nil ..⟩,h,Fr.refl _⟩
 |false =>
  rw[f]at ir;simp only[aa,bc,w,qn,ir,E,AN l,F];refine C3.q (q6f (M:=M) (line:=((e / 8:Nat):Int)) h m) λ v H1⟨u,A⟩=>?_;rw[u];have hb:=h.em A;cases ho:n.owned ((e / 8:Nat):Int)with
  |false =>
   have j:n.lP (e:Int) o y=n.ask 2 ((e / 8:Nat):Int):=by
    unfold No.lP;rw[qr g,f,k,ho];rfl
   have ev:n.jA (e:Int) o=(false,false,0):=by unfold No.jA;rw[qr g,f,k,ho];rfl
   simp only[aa,bc];refine C3.q (Wl (M:=M) hb hk 2 ((e / 8:Nat):Int)) λ v V⟨t,hn,C⟩=>?_;unfold yG;rw[j,ev];simp only[aa,bc];exact⟨⟨v,rfl,t.1,λ q=>xu A.au (t.2 q)⟩,hn,jI (mI A) C⟩
  |true =>
   obtain⟨i,hp,Q⟩:=xj1 ho;have hw:(n.c.word e).2=some ((n.c.en i).d.get (e % 8)):=by unfold Ca.word;rw[hp]
   have j:n.lP (e:Int) o y=({n with c:=if(n.c.en i).d.get (e % 8)=o then(n.c.word e).1.put e y else(n.c.word e).1},[]):=by
    unfold No.lP;rw[qr g,f,k,ho,qo (by decide),qr rfl];simp only[EM,hw,vi]
   have ev:n.jA (e:Int) o=(decide ((n.c.en i).d.get (e % 8)=o),true,0):=by
    unfold No.jA;rw[qr g,f,k,ho,qo (by decide),qr rfl];simp only[EM,hw,vi]
   simp only[aa,bc,G,qn,hb.l2];refine C3.q (um (M:=M) hb.ca m (by omega) l) λ v L⟨u,N,I⟩=>?_;rw[u];have hn:=hb.ig N I (by rw[(Pw ..).1];exact h.len);unfold wB;rw[hp];have p:Fr (iv r b sv bv) H L:=jI (mI A) (vE I)
   by_cases q:(n.c.en i).d.get (e % 8)=o
   .rw [qr q]at j;rw[kj q]at ev;simp only[aa,bc,xe,x,xb q,qn,hn.l2];refine C3.q (YF (M:=M) hn.ca (m.word e) (by show(n.c.word e).1.us+1<=1000000;have:=(Pw n.c e).2;omega) l y) λ v W⟨R,O,J⟩=>?_;have D:=hn.ig O J (by rw[(Sz ..).1,(Pw ..).1];exact h.len);unfold yG;rw[j,ev];simp only[aa,bc,z,xb q];exact⟨⟨.nils,rfl,mf.nil ..⟩,D,jI p (vE J)⟩
   .rw [qo q]at j;rw[j9 q]at ev;unfold yG;rw[j,ev];simp only[aa,bc,xe,x,q,z];exact⟨⟨.nils,rfl,mf.nil ..⟩,hn,p⟩
end
end Go.Am
namespace Go.Am
open Go.Proofs Ca
open Lang (ints)
variable{M:ak}[MK M]
structure BB(b:Bu):Prop where
 N4:b.ns.length<=4
 fl:b.fl.length<=900000
 no:∀(c:Nat)n,b.ns[c]? = some n->n.NI/\n.aK.length<=900000/\n.c.us+2<=1000000
def Wf(n:No)(k l:Int):(n.ask k l).2.length<=1:=by unfold No.ask;split<;>simp
def xei(n:No)(a:Int):(n.load a).2.2.2.1.length<=1:=by
 unfold No.load;split
 .cases n.c.find (No.ln a)with
  |none=>exact Wf ..
  |some x=>simp
 .simp
def YH(n:No)(a y:Int):(n.store a y).2.2.1.length<=1:=by
 unfold No.store;split
 .split
  .simp
  .exact Wf ..
 .simp
def xib(n:No)(a o y:Int):(n.lP a o y).2.length<=1:=by
 unfold No.lP;split
 .split
  .simp
  .split
   .simp
   .exact Wf ..
 .simp
def na(n:No)(x:En):(n.gone x).2.length<=1:=by unfold No.gone;split<;>simp
def q9r(n:No)(l:Int):(n.cT l).2.length<=1:=by
 unfold No.cT;split
 .simp
 .cases n.c.find l with
  |none=>simp
  |some x=>exact na ..
def A8(n:No)(m:Mg):(n.fill m).2.length<=1:=by
 have:∀(n:No)st,(n.dM m st).2.length<=1:=λ n st=>by
  unfold No.dM;split
  .exact na ..
  .simp
 unfold No.fill No.lV;generalize(if m.k=15 then(2:Int)else 1)=st;split<;>exact this _ _
def xeg(n:No)(m:Mg):(n.bQ m).2.length<=2:=by
 unfold No.bQ;split;· simp
 split;· simp
 split
 .cases n.c.find m.line with
  |none=>simp
  |some x=>simp only;split<;>simp
 split;· simp
 cases n.c.find m.line with
 |some x=>simp
 |none =>
  have:=A8 {n with out:=⟨0,0,0,.zero⟩} m;simp only[qv,z6,yi];omega
section
variable{H0 H:ar}{B:Nat}{s:Bs}{b:Bu}{own:Nat->Nat}{c:Int}{n:No}
def cU.t{r b:Nat}{sv bv:AV}{n':No}{ks:List Nat}{H':ar}(h:cU H0 H' r b sv bv n' ks)(f:Fr (iv r b sv bv) H H'):rA H0 H r b sv bv n' H':=⟨bv,ks,h,f,λ _ q=>.inl q⟩
def eV.out(h:eV H0 H B s b own)(hb:BB b){c:Nat}{n n':No}{A:Na}{H1:ar}{ov:AV}{ms:List Mg}(hn:b.ns[c]? = some n)(e:s.ad[c]? = some A)(i:rA H0 H A.r A.b A.sv A.bv n' H1)(hm:mf H H1 ov ms)(hl:ms.length<=2){Q:AV->ar->Prop}{r:AV}
 (f:∀{H'},kG H0 H B s (b.put c (n',ms)) H'->Q r H'):za M Us [.ptr B 0,ov] H1 λ _ H'=>Q r H':=by
 obtain⟨k,o',d,j,a⟩:=h.node hn e i;have g:=hb.fl;exact(TS (M:=M) d hm.1 (by show b.fl.length+ms.length<=1000000;omega)).mono λ v H' hp=>f (kG.then a j hp)
def xU(hn:b.ns[c.toNat]? = some n)(a:0<=c):0<=c/\c<b.ns.length:=by have:=(qk.1 hn).1;omega
def xho(h:eV H0 H B s b own)(hb:BB b)(j:0<=c)(hn:b.ns[c.toNat]? = some n)(a:Int):za M Rv [.ptr B 0,.int .i64 c,.int .i64 a] H λ v H'=>v=.tuple [.int .u64 (n.load a).2.1,.bool (n.load a).2.2.1,.int .i64 (n.load a).2.2.2.2]/\kG H0 H B s (b.put c.toNat ((n.load a).1,(n.load a).2.2.2.1)) H':=by
 refine q4u ?_;obtain⟨w0,w4,g⟩:=q4v M ⟨none,Rv⟩;simp only[aa,bc,w0];refine C3.q (Gn (M:=M) h hb.N4 c) λ v H1⟨m,k,_⟩=>?_;obtain⟨A,i,o⟩:=k (xU hn j);rw[o,m];have x:=xb (show(0:Int)=0 from rfl);obtain⟨ni,bk,us⟩:=hb.no _ n hn;have p:=h.no _ n A hn i;simp only[aa,bc,xe,w4,g];refine C3.q (xjk (M:=M) p ni.ci bk (by omega) a) λ v u⟨⟨ov,f,d⟩,e,l⟩=>?_;rw[f];simp only[aa,bc,xe];refine C3.q (h.out hb hn i (e.t l) d (by have:=xei n a;omega) (Q:=λ _ H'=>kG H0 H B s (b.put c.toNat ((n.load a).1,(n.load a).2.2.2.1)) H') (r:=.nils) id) λ v w hp=>?_;simp only[aa,bc];exact hp
def xfk(h:eV H0 H B s b own)(hb:BB b)(j:0<=c)(hn:b.ns[c.toNat]? = some n)(a y:Int):za M SD [.ptr B 0,.int .i64 c,.int .i64 a,.int .u64 y] H λ v H'=>v=.tuple [.bool (n.store a y).2.1,.int .i64 (n.store a y).2.2.2]/\kG H0 H B s (b.put c.toNat ((n.store a y).1,(n.store a y).2.2.1)) H':=by
 refine q1y ?_;obtain⟨w0,w4,g⟩:=q1z M ⟨none,SD⟩;simp only[aa,bc,w0];refine C3.q (Gn (M:=M) h hb.N4 c) λ v H1⟨m,k,_⟩=>?_;obtain⟨A,i,o⟩:=k (xU hn j);rw[o,m];have x:=xb (show(0:Int)=0 from rfl);obtain⟨ni,bk,us⟩:=hb.no _ n hn;have p:=h.no _ n A hn i;simp only[aa,bc,xe,w4,g];refine C3.q (xha (M:=M) p ni.ci bk (by omega) a y) λ v u⟨⟨ov,f,d⟩,e,l⟩=>?_;rw[f];simp only[aa,bc,xe];refine C3.q (h.out hb hn i (e.t l) d (by have:=YH n a y;omega) (Q:=λ _ H'=>kG H0 H B s (b.put c.toNat ((n.store a y).1,(n.store a y).2.2.1)) H') (r:=.nils) id) λ v w hp=>?_;simp only[aa,bc];exact hp
def Df(h:eV H0 H B s b own)(hb:BB b)(j:0<=c)(hn:b.ns[c.toNat]? = some n)(a o y:Int):za M Qt [.ptr B 0,.int .i64 c,.int .i64 a,.int .u64 o,.int .u64 y] H λ v H'=>v=.tuple [.bool (n.jA a o).1,.bool (n.jA a o).2.1,.int .i64 (n.jA a o).2.2]/\kG H0 H B s (b.put c.toNat (n.lP a o y)) H':=by
 refine q69 ?_;obtain⟨w0,w4,g⟩:=q7a M ⟨none,Qt⟩;simp only[aa,bc,w0];refine C3.q (Gn (M:=M) h hb.N4 c) λ v H1⟨m,k,_⟩=>?_;obtain⟨A,i,p⟩:=k (xU hn j);rw[p,m];have z:=xb (show(0:Int)=0 from rfl);obtain⟨ni,bk,us⟩:=hb.no _ n hn;have u:=h.no _ n A hn i;simp only[aa,bc,xe,w4,g];refine C3.q (xic (M:=M) u ni.ci bk us a o y) λ v w⟨⟨ov,f,d⟩,e,l⟩=>?_;rw[f];simp only[aa,bc,xe];refine C3.q (h.out hb hn i (e.t l) d (by have:=xib n a o y;omega) (Q:=λ _ H'=>kG H0 H B s (b.put c.toNat (n.lP a o y)) H') (r:=.nils) id) λ v x hp=>?_;simp only[aa,bc];exact hp
def q85(h:eV H0 H B s b own)(hb:BB b)(e:0<=c)(hn:b.ns[c.toNat]? = some n):za M Ss [.ptr B 0,.int .i64 c] H λ v H'=>v=.bool n.live/\H'=H:=by
 refine q4s ?_;simp only[aa,bc,q4t];refine C3.q (Gn (M:=M) h hb.N4 c) λ v H1⟨i,f,_⟩=>?_;obtain⟨A,g,j⟩:=f (xU hn e);rw[j,i];have k:=h.no _ n A hn g;simp only[aa,bc,xe];refine C3.q (xji (M:=M) k) λ v l⟨d,a⟩=>?_;rw[d,a];simp only[aa,bc]
end
end Go.Am
namespace Go.Am
open Go.Proofs Ca
open Lang (ints)
variable{M:ak}[MK M]
def Bu.wQ(b:Bu)(i:Nat):Bu:=match b.fl[i]? with
 |none=>b
 |some m=>if m.k<=7 then match b.l[m.line.toNat]?,b.m[m.line.toNat]? with
  |some x,some w=>{b with m:=b.m.set m.line.toNat (x.bQ w m).2.1,l:=b.l.set m.line.toNat (x.bQ w m).1,fl:=b.fl.eraseIdx i++(x.bQ w m).2.2}
  |_,_=>b
  else match b.ns[m.core.toNat]? with
   |some n=>{b with ns:=b.ns.set m.core.toNat (n.bQ m).1,fl:=b.fl.eraseIdx i++(n.bQ m).2}
   |none=>b
section
variable{H0 H:ar}{B:Nat}{s:Bs}{b:Bu}{own:Nat->Nat}{c:Int}{n:No}
def eV.quiet(h:eV H0 H B s b own){c:Nat}{n n':No}{A:Na}{H1:ar}(hn:b.ns[c]? = some n)(e:s.ad[c]? = some A)(f:rA H0 H A.r A.b A.sv A.bv n' H1):kG H0 H B s (b.put c (n',[])) H1:=by
 obtain⟨i,o',d,g,a⟩:=h.node hn e f;refine⟨i,o',?_,g,a⟩;have:b.put c (n',[]) = {b with ns:=b.ns.set c n'}:=by unfold Bu.put;simp
 rw[this];exact d
def QC{H1:ar}{e:AV}{n':No}(h:eV H0 H B s b own)(hb:BB b)(k:0<=c)(hn:b.ns[c.toNat]? = some n){f:Nat}{cap:List AV}
 (m:∀{A:Na},s.ad[c.toNat]? = some A->za M f ([AV.ptr A.r 0]++cap) H λ v H'=>v=e/\cU H0 H' A.r A.b A.sv A.bv n' A.ks/\Fr (iv A.r A.b A.sv A.bv) H H'):za M OJ [.ptr B 0,.int .i64 c,.fn (.func f) [] cap] H λ v H'=>v=e/\kG H0 H B s (b.put c.toNat (n',[])) H':=by
 refine qrh ?_;obtain⟨w0,w4,i⟩:=S2 M ⟨none,OJ⟩;simp only[aa,bc,w0];refine C3.q (Gn (M:=M) h hb.N4 c) λ v H1⟨o,l,_⟩=>?_;obtain⟨A,j,p⟩:=l (xU hn k);rw[p,o];have w:=xb (show(0:Int)=0 from rfl);simp only[aa,bc,xe,w4,i];refine C3.q (m j) λ v u⟨g,d,a⟩=>?_;rw[g];simp only[aa,bc];exact h.quiet hn j (d.t a)
def FI(h:eV H0 H B s b own)(hb:BB b)(d:¬(0<=c/\c<b.ns.length))(fv:AV):za M OJ [.ptr B 0,.int .i64 c,fv] H λ v H'=>v=.int .i64 2/\H'=H:=by
 refine qrh ?_;obtain⟨w0,w4,g⟩:=S2 M ⟨none,OJ⟩;simp only[aa,bc,w0];refine C3.q (Gn (M:=M) h hb.N4 c) λ v H1⟨e,_,a⟩=>?_;rw[a d,e];have f:¬(2:Int)=0:=by decide
 simp only[aa,bc,xe,w4,f]
def xe9(h:eV H0 H B s b own)(hb:BB b)(a:0<=c)(hn:b.ns[c.toNat]? = some n):za M SG [.ptr B 0,.int .i64 c] H λ v H'=>v=.int .i64 (if n.live=true then 41 else 0)/\kG H0 H B s (b.put c.toNat (n.begin,[])) H':=by
 refine q1w ?_;simp only[aa,bc,q1x];refine C3.q (QC (M:=M) (H1:=H) h hb a hn (cap:=[]) λ{A}d=>xbv (M:=M) (h.no _ n A hn d)) λ v f⟨e,hp⟩=>?_;rw[e];simp only[aa,bc];exact hp
def xbl(h:eV H0 H B s b own)(hb:BB b)(a:0<=c)(hn:b.ns[c.toNat]? = some n):za M Qz [.ptr B 0,.int .i64 c] H λ v H'=>v=.int .i64 (if n.live=true then 0 else 40)/\kG H0 H B s (b.put c.toNat (n.bw,[])) H':=by
 refine qxs ?_;simp only[aa,bc,qxt];refine C3.q (QC (M:=M) (H1:=H) h hb a hn (cap:=[]) λ{A}d=>q8b (M:=M) (h.no _ n A hn d)) λ v f⟨e,hp⟩=>?_;rw[e];simp only[aa,bc];exact hp
def Yk{A:Na}{t:Nat}{k:Int}(d:cU H0 H A.r A.b A.sv A.bv n A.ks)(hl:Op.ae [.ptr t 0] H=some (.int .i64 k)):za M Ix ([.ptr A.r 0] ++ [.ptr t 0]) H λ v H'=>v=.int .i64 (n.abort k).2/\cU H0 H' A.r A.b A.sv A.bv (n.abort k).1 A.ks/\Fr (iv A.r A.b A.sv A.bv) H H':=by
 refine qu9 ?_;simp only[aa,bc,qva,hl];refine C3.q (xe7 (M:=M) d k) λ v e⟨a,hp⟩=>?_;rw[a];simp only[aa,bc];exact hp
def q6t(h:eV H0 H B s b own)(hb:BB b)(f:0<=c)(hn:b.ns[c.toNat]? = some n)(k:Int):za M Lw [.ptr B 0,.int .i64 c,.int .i64 k] H λ v H'=>kG H0 H B s (b.put c.toNat ((n.abort k).1,[])) H':=by
 refine Wa ?_;obtain⟨H1,g,a,-,i⟩:=bX H (OR [.int .i64 k] cK);have ca:AV.cells (.int .i64 k)=[.int .i64 k]:=rfl;have l1:Op.ae [.ptr H.au 0] H1=some (.int .i64 k):=xz (qy i) 0;have mk:Op.bD Ix 0 [.ptr H.au 0]=some (.fn (.func Ix) [] [.ptr H.au 0]):=rfl;simp only[aa,bc,VY,ca,<-g];have d:=h.em a;refine C3.q (QC (M:=M) (H1:=H1) (e:=.int .i64 (n.abort k).2) (n':=(n.abort k).1) d hb f hn (cap:=[.ptr H.au 0]) λ{A}j=>Yk (M:=M) (d.no _ n A hn j) l1) λ v l⟨m,hp⟩=>?_;simp only[aa,bc];exact kG.pre a hp
def Br{fv:AV}{fl:List Mg}(h:Sk ao xh 11 H fv fl){i:Nat}(e:i<fl.length)(hl:fl.length<=1000000):za M Ti [fv,.int .i64 (i:Int),.int .i64 ((i+1:Nat):Int)] H λ v H'=>Sk ao xh 11 H' v (fl.eraseIdx i)/\Fr (aW fv) H H' /\ ∀z,aW v z->aW fv z:=by
 refine qnm ?_;obtain⟨w0,w4,d⟩:=qnn M ⟨none,Ti⟩;rcases h with⟨-,rfl⟩|⟨b,j,alt,r,hk⟩
 .simp at e
 obtain⟨v0,v1,v2,w,H1,v4,u,a0,g,k,l,p,m,o,b5,t⟩:=hk.del zi rT (by decide) e (zero:=ao ⟨0,0,0,.zero⟩) (zi _) (rT _) 88;have a:=(hk.sl zi).len;have ne:¬(i:Int)=((i+1:Nat):Int):=by omega
 simp only[aa,bc,w0,a,a0,w4,ne,d,g,k,l,p,m,mZ,o];exact⟨.inr ⟨_,_,_,_,b5⟩,t.mono λ z f(q:z=b)=>by rw[q];exact hk.on,λ z f=>by rw[b5.RJ f];exact hk.on⟩
def eV.dir(h:eV H0 H B s b own){i:Nat}{x j:De}{a g:AV}{w':L8}{H':ar}(v:s.xs[i]? = some (x,a))(he:dJ H' s.D s.mp s.lv s.ev b.ns.length (b.m.set i w') s.xs i j g)(f:Fr s.dw H H')(r:∀z,aW g z->aW a z\/H.au<=z) :
 ∃C t,eV H0 H' B C {b with m:=b.m.set i w',l:=b.l.set i j} t/\(∀z,i4 B C z->i4 B s z\/H.au<=z)/\Fr (i4 B s) H H':=by
 have I:Fr (i4 B s) H H':=f.mono λ z _ q=>.inr (.inl q);have ne:∀{z k:Nat},own z=k->k≠1 -> ¬s.dw z:=λ F G q=>G (by rw[<-F];exact h.oD _ q);have E:H0.au<=H.au:=by have:=h.lo B (.inl rfl);have:=h.lt;omega
 have J:=(qk.1 v).1;have p:∀z,Bs.dw {s with xs:=s.xs.set i (j,g)} z->s.dw z\/H.au<=z:=λ z q=>by
  rcases q with q|q|q|q|⟨k,y,c,hk,q⟩
  .exact .inl (.inl q)
  .exact .inl (.inr (.inl q))
  .exact .inl (.inr (.inr (.inl q)))
  .exact .inl (.inr (.inr (.inr (.inl q))))
  .have hk:(s.xs.set i (j,g))[k]? = some (y,c):=hk
   by_cases e:k=i
   .subst e;rw[xr J]at hk;injection hk with hk;injection hk with _ hk;subst hk
    exact(r z q).elim (λ q=>.inl (.inr (.inr (.inr (.inr ⟨k,x,a,v,q⟩))))) .inr
   .rw [xw (mO e)]at hk;exact .inl (.inr (.inr (.inr (.inr ⟨k,y,c,hk,q⟩))))
 have u:∀z,i4 B {s with xs:=s.xs.set i (j,g)} z->i4 B s z\/H.au<=z:=λ z q=>by
  rcases q with q|q|q|q|q
  .exact .inl (.inl q)
  .exact (p z q).elim (λ q=>.inl (.inr (.inl q))) .inr
  .exact .inl (.inr (.inr (.inl q)))
  .exact .inl (.inr (.inr (.inr (.inl q))))
  .exact .inl (.inr (.inr (.inr (.inr q))))
 have ow:∀{z:Nat},z<H.au->aR own H.au 1 z=own z:=λ q=>qr q
 refine⟨{s with xs:=s.xs.set i (j,g)},aR own H.au 1,⟨?_,qj h.lt f.au,he.d,?_,?_,λ c n A hn o=>?_,h.al,?_,?_,λ z q=>?_,λ z q=>?_,λ z q=>?_,λ c A o z q=>?_,λ z q=>?_⟩,u,I⟩
 .simp only[xg];rw[f.ah _ h.lt (ne h.oB (by decide))];exact h.row
 .simp only[List.map_set,h.dx]
 .exact Own.fr h.nv f λ z r q=>ne (h.oN z r) (by decide) q
 .refine (h.no c n A hn o).off f λ z w=>⟨h.lo z (.inr (.inl w)),λ K=>?_⟩
  have:=h.oC c A o z K;have:=h.oD z w;omega
 .exact h.fl.fr f λ z r q=>ne (h.oF z r) (by decide) q
 .rw [ow h.lt];exact h.oB
 .unfold aR;split
  .rcases p z q with w|w
   .exact h.oD z w
   .omega
  .rfl
 .rw [ow (h.low (.inr (.inr (.inl q))))];exact h.oN z q
 .rw [ow (h.low (.inr (.inr (.inr (.inl q)))))];exact h.oF z q
 .rw [ow (h.low (.inr (.inr (.inr (.inr ⟨c,A,o,q⟩)))))];exact h.oC c A o z q
 .rcases u z q with w|w
  .exact h.lo z w
  .omega
end
end Go.Am
namespace Go.Am
open Go.Proofs Ca
open Lang (ints)
variable{M:ak}[MK M]
def YI(x:De)(w:L8)(m:Mg):(x.bQ w m).2.2.length<=4:=by
 have hb:∀(y:De)n,(y.begin n w).2.length<=4:=λ y n=>by
  unfold De.begin;split
  .simp
  .split
   .simp
   .rw [xp];unfold uP;exact List.length_filter_le ..
 have hr:∀(y:De)w'(q:Prop)[Decidable q](r:List Mg),r.length<=3->(y.tQ w' q r).2.2.length<=4:=λ y w' q _ r h=>by
  unfold De.tQ;split
  .simp only[qv,z6,yi];omega
  .simp only;omega
 unfold De.bQ;split;· simp
 split
 .split
  .simp
  .exact hb _ _
 split;· exact hr _ _ _ _ (by simp)
 split;· exact hr _ _ _ _ (by simp)
 split;· exact hr _ _ _ _ (by simp)
 split;· exact hr _ _ _ _ (by simp)
 cases x.wt with
 |nil=>simp
 |cons n r=>exact hb _ _
section
variable{H0 H:ar}{B:Nat}{s:Bs}{b:Bu}{own:Nat->Nat}{V:Int->L8}
def xfa(h:eV H0 H B s b own)(hb:BB b){i:Int}(m:¬(0<=i/\i<b.fl.length)):za M PL [.ptr B 0,.int .i64 i] H λ v H'=>v=.tuple [.agg (ao ⟨0,0,0,.zero⟩),.int .i64 50]/\Fr Em H H':=by
 refine YR ?_;obtain⟨w0,j,-,-,-,-⟩:=qmk M ⟨none,PL⟩;obtain⟨H1,d,e,-,k⟩:=bX H (OR (ao ⟨0,0,0,.zero⟩) xh);have st:=gK k (zi _) (zi ⟨0,0,0,.zero⟩) (rT _);have ln:=fp (xc H1 H.au (OR (ao ⟨0,0,0,.zero⟩) xh)) (zi ⟨0,0,0,.zero⟩);have f:=h.em e;have a:=f.fl.len zi;have fin:Fr Em H (H1.set H.au (OR (ao ⟨0,0,0,.zero⟩) xh)):=e.set (.inr (qg _)) _
 by_cases g:i<0
 .simp only[aa,bc,w0,mZ,<-d,j,yq,xb g,FM,st,ln];exact fin
 have l:((b.fl.length:Nat):Int)<=i:=by omega
 simp only[aa,bc,w0,mZ,<-d,j,yq,g,qn,f.l2,a,xb l,FM,st,ln];exact fin
def q86(h:eV H0 H B s b own)(hb:BB b)(hI:BuI b V)(hwl:∀x∈b.l,x.wt.length<=900000){i:Nat}{m:Mg}(hm:b.fl[i]? = some m):za M PL [.ptr B 0,.int .i64 (i:Int)] H λ v H'=>v=.tuple [.agg (ao m),.int .i64 0]/\kG H0 H B s (b.wQ i) H':=by
 have hil:=(qk.1 hm).1;have hfl:=hb.fl;have N4:=hI.N4;obtain⟨mk,mc,ml⟩:=hI.mw m (x9 hm);refine YR ?_;obtain⟨w0,w2,w17,w21,w23,Y⟩:=qmk M ⟨none,PL⟩;obtain⟨H1,e1,f1,n1,g1⟩:=bX H (OR (ao ⟨0,0,0,.zero⟩) xh);have h1:=h.em f1;have Q:=h1.fl.sl zi;have hln:=h1.fl.len zi;have q0:¬(i:Int)<0:=by omega
 have q1:¬((b.fl.length:Nat):Int)<=(i:Int):=by omega
 have ix:=Q.idx hm (z:=(i:Int)) rfl .i64;have ld:=Q.aq zi (by decide) hm;obtain⟨H2,e2,f12,-,g2⟩:=bX H1 (OR (ao ⟨0,0,0,.zero⟩) xh);have U:=gK g2 (zi _) (zi m) (rT m);obtain⟨j,Z⟩:∃X,X=H2.set H1.au (OR (ao m) xh):=⟨_,rfl⟩
 rw[<-Z]at U;have F:Fr Em H1 j:=by rw[Z];exact f12.set (.inr (qg _)) _
 have n3:j.au=H.au+2:=by rw[Z,su,e2,xx,n1]
 have g3:j.get H1.au=some (OR (ao m) xh):=by rw[Z,xc]
 have g3z:j.get H.au=some (OR (ao ⟨0,0,0,.zero⟩) xh):=by rw[F.ah _ (by omega) id];exact g1
 have h3:=h1.em F;have wi:aj .i64 ((i:Int)+1)=((i+1:Nat):Int):=by rw[js (by omega) (by omega)];omega
 have F3:Fr Em H j:=f1.trans F λ _ q=>q.elim;simp only[aa,bc,w0,mZ,<-e1,w2,yq,q0,qn,h1.l2,hln,q1,w17,ix,ld,<-e2,U,h3.l2,wi];refine C3.q (Br (M:=M) h3.fl hil (by omega)) λ v4 H4⟨k4,f4,o4⟩=>?_;obtain⟨C,s5,g,aR,u,o5,f5⟩:=h3.Ap k4 f4 (λ z o=>.inl (o4 z o));have L:∀z,i4 B s z->z<H.au:=λ z o=>h.low o
 have t:∀z,i4 B g z->i4 B s z\/j.au<=z:=o5
 have f:∀z,z<j.au->H.au<=z->C.get z=j.get z:=λ z q1 q2=>f5.ah z q1 λ w=>by have:=L z w;omega
 have lk5:Op.ae [.ptr H1.au 0] C=some (.int .i64 m.k):=xz (qy (show C.get H1.au=some (OR (ao m) xh)from by rw[f _ (by omega) (by omega)];exact g3)) 0;have lc5:Op.ae [.ptr H1.au 1] C=some (.int .i64 m.core):=xz (qy (show C.get H1.au=some (OR (ao m) xh)from by rw[f _ (by omega) (by omega)];exact g3)) 1;have S:Op.aq 11 [.ptr H1.au 0] C=some (.agg (ao m)):=fp (by rw[f _ (by omega) (by omega)];exact g3) (zi m);have mk1:Op.bD Ez 1 [.ptr g.D 0]=some (.fn (.func Ez) [.ptr g.D 0] []):=rfl;have m5:=f5.au
 -- behind the hearing
 have fin:∀{y:ar}{b':Bu},kG H0 C B g b' y->(∃O,Op.aq 11 [.ptr H1.au 0] y=some (.agg (ao m))/\Op.store 11 [.ptr H.au 0,.agg (ao m)] y=some (.undef,O)/\Op.aq 11 [.ptr H.au 0] O=some (.agg (ao m))/\kG H0 H B s b' O):=λ{y b'}hp=>by
  obtain⟨N,o7,h7,q7,f7⟩:=hp;have p:∀z,z<j.au->H.au<=z->y.get z=j.get z:=λ z w1 w2=>by
   rw[f7.ah z (by omega) λ w=>(t z w).elim (λ w=>by have:=L z w;omega) λ w=>by omega];exact f z w1 w2
  have gz:y.get H.au=some (OR (ao ⟨0,0,0,.zero⟩) xh):=by rw[p _ (by omega) (by omega)];exact g3z
  have m7:=f7.au
  have E:∀z,i4 B N z->i4 B s z\/j.au<=z:=λ z o=>(q7 z o).elim (t z) λ w=>.inr (by omega)
  refine⟨_,fp (by rw[p _ (by omega) (by omega)];exact g3) (zi m),gK gz (zi _) (zi m) (rT m),fp (xc ..) (zi m),N,o7,h7.fr ((Fr.refl y).set (W:=On H.au) (.inl rfl) _) λ z o=>?_,λ z o=>(E z o).elim .inl λ w=>.inr (by omega),?_⟩
  .have o:z=H.au:=o
   subst o;refine⟨by have:=h.lo B (.inl rfl);have:=h.lt;omega,λ w=>(E _ w).elim (λ w=>by have:=L _ w;omega) λ w=>by omega⟩
  .refine ((((F3.mono λ _ _ q=>q.elim).trans f5 λ z q=>.inl q).trans f7 λ z q=>?_).set (.inr (qg _)) _);exact(t z q).elim .inl λ w=>.inr (by omega)
 have hel:(b.fl.eraseIdx i).length<=b.fl.length:=List.length_eraseIdx_le ..;simp only[aa,bc,qn,s5,w21,u.l0,w23,lk5];unfold Bu.wQ;rw[hm]
 by_cases k7:m.k<=7
 .have nk:¬7<m.k:=by omega
  simp only[qr k7];obtain⟨x,w,K,hw,he⟩:=hI.entry ml.1 ml.2;rw[K,hw];have hxx:∃a,g.xs[m.line.toNat]? = some (x,a):=by
   have hl:=(qk.1 K).1;have P:m.line.toNat<g.xs.length:=by
    have:=congrArg List.length u.dx;rw[xp]at this;have:g.xs.length=b.l.length:=this;omega
   refine⟨(g.xs[m.line.toNat]).2,?_⟩;rw[qt P];have e:=congrArg (λ l=>l[m.line.toNat]?) u.dx;simp only[xj,qt P,wl]at e;have e:some (g.xs[m.line.toNat]).1=some x:=e.trans K;injection e with e
   rw[<-e]
  obtain⟨a,R⟩:=hxx;simp only[aa,bc,nk,Y,S];refine C3.q (xfb (M:=M) (m:=m) u.d R hw he ml.1 mc.1 mc.2 (hwl x (x9 K))) λ v6 H6⟨⟨ov,e,J,G⟩,a',en6,f6,o6⟩=>?_;rw[J];obtain⟨s6,T,h6,q6,g6⟩:=u.dir R en6 f6 o6;have hlen:=YI x w m;simp only[aa,bc,xe];refine C3.q (TS (M:=M) h6 G.1 (by show(b.fl.eraseIdx i).length+_<=_;omega)) λ v7 y hp=>?_;obtain⟨O,l7,N,l8,I⟩:=fin (kG.then g6 q6 hp);simp only[aa,bc,l7,N,l8];exact I
 .have nk:7<m.k:=by omega
  simp only[qo k7];obtain⟨n,hn,hnw⟩:=hI.core mc.1 mc.2;rw[hn];obtain⟨ni,bk,us⟩:=hb.no _ n hn;obtain⟨A,hA,nr⟩:=u.FJ hn;have K:(g.ad.map Na.r)[m.core.toNat]? = some A.r:=by rw[xj,hA];rfl
  have ixn:=u.nv.sl.idx K (z:=m.core) (by omega) .i64;have ldn:Op.ae [.ptr (aH g.nv) (cG 1 g.nv m.core.toNat)] C=some (.ptr A.r 0):=u.nv.sl.lT Zy K (by decide);have mk2:Op.bD yr 1 [.ptr A.r 0]=some (.fn (.func yr) [.ptr A.r 0] []):=rfl;simp only[aa,bc,xb nk,u.l1,qn,lc5,ixn,ldn,Y,S];refine C3.q (xhj (M:=M) nr ni.ci bk (by omega) m) λ v6 H6⟨⟨ov,e,J,G⟩,ht⟩=>?_;rw[J];obtain⟨s6,T,h6,q6,g6⟩:=u.node hn hA ht;have hlen:=xeg n m;simp only[aa,bc,xe];refine C3.q (TS (M:=M) h6 G.1 (by show(b.fl.eraseIdx i).length+_<=_;omega)) λ v7 y hp=>?_;obtain⟨O,l7,N,l8,I⟩:=fin (kG.then g6 q6 hp);simp only[aa,bc,l7,N,l8];exact I
end
end Go.Am
namespace Go.Am
open Go.Proofs Ca
open Lang (ints)
variable{M:ak}[MK M]
def UF{α:Type}(enc:α->List AV)(x:α):∀n:Nat,(List.replicate n x).flatMap enc=fq n (enc x)
 |0=>rfl
 |n+1=>by rw[Qp,ju,UF enc x n,fq,oJ]
def wY(l:Int):Prop:=2<=l/\l<=64
instance(l:Int):Decidable (wY l):=inferInstanceAs (Decidable (_/\_))
def FZ(H:ar)(l:Int)(v:AV)(H':ar):Prop:=Fr Em H H'/\(¬wY l/\v=.tuple [.nilp,.int .i64 2]\/wY l /\ ∃mp lv,v=.tuple [.ptr mp 0,.int .i64 0]/\zA H' mp lv (List.replicate l.toNat .zero)/\H.au<=mp/\H.au<=aH lv)
def xcs{H:ar}(l:Int):za M Wi [.int .i64 l] H (FZ H l):=by
 refine xjt ?_;obtain⟨w0,i,h⟩:=xju M ⟨none,Wi⟩
 by_cases f:l<2
 .simp only[aa,bc,w0,i,f];exact⟨Fr.refl _,.inl ⟨λ q=>by have:=q.1;omega,rfl⟩⟩
 by_cases m:64<l
 .simp only[aa,bc,w0,i,f,m];exact⟨Fr.refl _,.inl ⟨λ q=>by have:=q.2;omega,rfl⟩⟩
 obtain⟨a,rfl⟩:=z4 (show 0<=l by omega);have mk:=OH k9 64 (dS .zero) a .i64 .i64 (by omega) (by omega);rw[<-UF]at mk;obtain⟨H1,j,p,n1,-⟩:=bX H (OR ((List.replicate a L8.zero).flatMap dS) k9);obtain⟨sv,d⟩:∃sv:AV,sv=.slice H.au 0 a a:=⟨_,rfl⟩
 have g:Op.sliceTo a a H.au=sv:=by rw[d];rfl
 have t:aH sv=H.au:=by rw[d];rfl
 have o:Op.build [.nils] [(0,1)] [sv]=some (.agg [sv]):=by rw[d];rfl
 obtain⟨u,e,k,-,r⟩:=bX H1 (OR [sv] q9c);simp only[aa,bc,w0,i,f,m,h,lZ,mk,g,<-j,o,<-e];refine⟨p.trans k λ _ q=>q.elim,.inr ⟨⟨by omega,by omega⟩,_,sv,rfl,⟨r,by rw[e,xx];omega,⟨H.au,?_,?_,?_⟩,by omega,by rw[zr];omega⟩,by omega,by omega⟩⟩
 .rw [zr];exact d
 .rw [e,xx];omega
 .rw [k.ah _ (by omega) id,j,xf];rfl
def p7:De:=⟨0,0,⟨0,0,0,.zero⟩,0,0,[]⟩
def iW:De:={p7 with ow:=-1}
def eXZ:[AV.int .i64 0,.int .u8 0,.int .i64 0,.int .i64 0,.int .i64 0,.int .u64 0,.int .u64 0,.int .u64 0,.int .u64 0,.int .u64 0,.int .u64 0,.int .u64 0,.int .u64 0,.int .i64 0,.int .u8 0,.nils]=gH (p7,.nils):=rfl
def sK(n i:Nat):List (De×AV):=(List.range n).map λ k=>(if k<i then iW else p7,.nils)
def Ct(n:Nat):sK n 0=List.replicate n (p7,.nils):=by
 unfold sK;apply jz;intro j;rw[xj];rcases xq j n with q|q
 .rw [yg q,SE,qr q];simp
 .rw [zz (by rw[j0];exact q),zz (by rw[zr];exact q)];rfl
def Gv(n:Nat):sK n n=List.replicate n (iW,.nils):=by
 unfold sK;apply jz;intro j;rw[xj];rcases xq j n with q|q
 .rw [yg q,SE,qr q];simp[q]
 .rw [zz (by rw[j0];exact q),zz (by rw[zr];exact q)];rfl
def Qv{n i j:Nat}(h:j<n):(sK n i)[j]? = some (if j<i then iW else p7,.nils):=by
 unfold sK;rw[xj,yg h];rfl
def AZ{n i:Nat}(h:i<n):(sK n i).set i (iW,.nils)=sK n (i+1):=by
 have hl:∀k,(sK n k).length=n:=λ k=>by unfold sK;rw[xp,j0]
 apply jz;intro j
 by_cases q:j=i
 .subst q;rw[xr (by rw[hl];exact h),Qv h,qr (by omega)]
 .rw [xw (mO q)];rcases xq j n with w|w
  .rw [Qv w,Qv w]
   by_cases e:j<i
   .rw [qr e,qr (by omega)]
   .rw [qo e,qo (by omega)]
  .rw [zz (by rw[hl];exact w),zz (by rw[hl];exact w)]
def Sv{n i k:Nat}{x:De}{a:AV}(h:(sK n i)[k]? = some (x,a)):a=.nils/\x.wt=[]:=by
 unfold sK at h;rw[xj,xl]at h;obtain⟨j,-,e⟩:=h;injection e with d f
 refine⟨f.symm,?_⟩;rw[<-d];split<;>rfl
def wD(l c:Int):Prop:=wY l/\1<=c/\c<=4
instance(l c:Int):Decidable (wD l c):=inferInstanceAs (Decidable (_/\_))
def EU(H:ar)(l c:Int)(v:AV)(H':ar):Prop:=Fr Em H H'/\(¬wD l c/\v=.tuple [.nilp,.int .i64 2]\/wD l c /\ ∃D mp lv ev,v=.tuple [.ptr D 0,.int .i64 0]/\mj H' D mp lv ev c (List.replicate l.toNat .zero) (List.replicate l.toNat (iW,.nils)) /\ ∀z,lQ D mp lv ev (List.replicate l.toNat (iW,.nils)) z->H.au<=z)
def xb3{H:ar}(l c:Int):za M U3 [.int .i64 l,.int .i64 c] H (EU H l c):=by
 refine xik ?_;obtain⟨w0,w4,N,O,R,A,P,Q⟩:=xil M ⟨none,U3⟩;simp only[aa,bc,w0];refine C3.q (xcs (M:=M) l) λ v H1⟨p,hv⟩=>?_;rcases hv with⟨hm,rfl⟩|⟨hm,mp,lv,rfl,me,Z,a2⟩
 .have t2:¬(2:Int)=0:=by decide
  simp only[aa,bc,xe,w4,t2];exact⟨p,.inl ⟨λ q=>hm q.1,rfl⟩⟩
 have t0:=xb (show(0:Int)=0 from rfl)
 by_cases F:c<1
 .simp only[aa,bc,xe,w4,F];exact⟨p,.inl ⟨λ q=>by have:=q.2.1;omega,rfl⟩⟩
 by_cases W:4<c
 .simp only[aa,bc,xe,w4,F,W];exact⟨p,.inl ⟨λ q=>by have:=q.2.2;omega,rfl⟩⟩
 have J:=hm;obtain⟨m1,m2⟩:=J;obtain⟨n,rfl⟩:=z4 (show 0<=l by omega);have mk:=OH OZ 144 (gH (p7,.nils)) n .i64 .i64 (by omega) (by omega);rw[<-UF gH]at mk;obtain⟨m,S,f2,n2,-⟩:=bX H1 (OR ((List.replicate n (p7,AV.nils)).flatMap gH) OZ);obtain⟨sv,e⟩:∃sv:AV,sv=.slice H1.au 0 n n:=⟨_,rfl⟩
 have K:Op.sliceTo n n H1.au=sv:=by rw[e];rfl
 have hsb:aH sv=H1.au:=by rw[e];rfl
 have bd:Op.build [.nilp,.int .i64 0,.nils] [(0,1),(1,1),(2,1)] [.ptr mp 0,.int .i64 c,sv]=some (.agg [.ptr mp 0,.int .i64 c,sv]):=by rw[e];rfl
 obtain⟨C,T,U,-,g3⟩:=bX m (OR [.ptr mp 0,.int .i64 c,sv] q9b);have n3:C.au=H1.au+2:=by rw[T,xx,n2]
 have r:Fr Em H1 C:=f2.trans U λ _ q=>q.elim;have ml:=me.lt;have mls:=me.ls.lt;have r3:gB gH OZ 16 C sv (sK n 0):=by
  rw[Ct];refine⟨H1.au,by rw[zr];exact e,by omega,?_⟩;rw[U.ah _ (by omega) id,S,xf]
 have m1':=p.au
 have d3:mj C m.au mp lv sv c (List.replicate n .zero) (sK n 0) :=
  ⟨g3,by omega,me.fr r id id,r3,λ i x a f=>by rw[(Sv f).1,(Sv f).2];exact Sk.nil _,⟨by omega,by omega,by omega,by omega,by omega⟩,λ i x a f z g=>by rw[(Sv f).1]at g;exact absurd rfl g.1,λ i j x y a b f _ _ z g=>by rw[(Sv f).1]at g;exact absurd rfl g.1,by rw[zr];unfold sK;rw[xp,j0]⟩
 have hn3:H.au<=H1.au:=p.au
 have w:∀{o:ar}{i:Nat},mj o m.au mp lv sv c (List.replicate n .zero) (sK n i)->Op.ae [.ptr m.au 2] o=some sv:=λ h=>xz (qy h.row) 2
 have I:Op.dc [sv]=some (.int .i64 ((n:Nat):Int)):=by rw[e];rfl
 simp only[aa,bc,xe,w4,F,W,N,eXZ,mk,K,<-S,bd,<-T,O,qn,w d3,I];refine de.intro (λ k E o=>∃(i:Nat),E=[(36,.int .i64 (i:Int)),(35,.int .i64 ((n:Nat):Int)),(8,.ptr m.au 0)]/\k=n-i/\i<=n/\mj o m.au mp lv sv c (List.replicate n .zero) (sK n i)/\Fr Em H o) ?_ ?_
 .exact ⟨_,_,⟨0,rfl,rfl,xy _,d3,p.trans r λ _ q=>q.elim⟩,by simp only[aa,bc]⟩
 rintro k E o ⟨i,rfl,rfl,hi,t,X⟩;rcases xq i n with u|hge
 .have L:(i:Int)<((n:Nat):Int):=by omega
  have f:=Qv (i:=i) u;rw[qo (A9 i)]at f;have en:=dJ.of t f;have ix:Op.aO 16 [sv,.int .i64 (i:Int)]=some (.ptr (aH sv) (cG 16 sv i)):=(t.es.sl yU).idx f rfl .i64;obtain⟨Y,s5,D,f5⟩:=en.s0 (-1);have wj:aj .i64 ((i:Int)+1)=((i+1:Nat):Int):=by rw[js (by omega) (by omega)];omega
  have d5:mj Y m.au mp lv sv c (List.replicate n .zero) (sK n (i+1)):=by rw[<-AZ u];exact D.d
  simp only[aa,bc,A,L,P,qn,w t,ix,s5,Q,wj];exact⟨_,_,⟨i+1,rfl,rfl,by omega,d5,X.trans f5 λ z(q:z=aH sv)=>.inr (by omega)⟩,by simp only[aa,bc],by omega⟩
 .have G:i=n:=by omega
  have L:¬(i:Int)<((n:Nat):Int):=by omega
  subst G;simp only[aa,bc,A,L,R];rw[Gv]at t;refine⟨X,.inr ⟨⟨hm,by omega,by omega⟩,_,mp,lv,sv,rfl,t,λ z g=>?_⟩⟩;rcases g with rfl|rfl|rfl|rfl|⟨k,x,a,hk,g⟩
  .omega
  .exact Z
  .exact a2
  .omega
  .rw [EM,SE]at hk;split at hk
   .injection hk with hk;injection hk with _ hk;rw[<-hk]at g;exact absurd rfl g.1
   .cases hk
end Go.Am
