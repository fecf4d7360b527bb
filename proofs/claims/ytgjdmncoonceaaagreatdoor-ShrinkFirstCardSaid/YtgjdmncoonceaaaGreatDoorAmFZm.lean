import Derived.Test.YtgjdmncoonceaaaGreatDoorAmFZl
import Derived.Test.YtgjdmncoonceaaaGreatDoorAmFZj
import Derived.Test.YtgjdmncoonceaaaGreatDoorAmFZf
import Derived.Test.YtgjdmncoonceaaaGreatDoorAmFZg
set_option linter.defProp false
set_option linter.unusedVariables false
set_option linter.unusedSimpArgs false
set_option linter.unusedSectionVars false
set_option maxRecDepth 100000
open Bool renaming false→B2,true→B4
open Go renaming IntKind→P0
open List renaming range→MT,replicate→JK
open Option renaming none→B5,some→B1
open Prod renaming snd→CD
open Nat renaming reduceEqDiff→bc
namespace Go.Am
open Lang Go.Proofs
variable{M:ak}[MK M]
def N_:Op.mkMap []=B1 (.map [] 0,.map):=rfl
def V8{H:ar}{b e n:Nat}{z l:List AV}(g:H.get b=B1 (OR z e))(d:z.length=n)(hl:l.length=n)(a:aL l=B4):∃H',Op.store n [.ptr b 0,.agg l] H=B1 (.undef,H')/\Op.aq n [.ptr b 0] H'=B1 (.agg l)/\Fr (On b) H H'/\H'.get b=B1 (OR l e) :=
 ⟨_,fE g d hl a,eI (xc ..) hl,cm ..,xc ..⟩
def okB(f s o:Int):Prop:=(0<=f/\f<=16)/\(0<=s/\s<=16)/\0<=o/\o<=16
instance(f s o:Int):Decidable (okB f s o):=by unfold okB;infer_instance
def xe8(b o:Nat):Op.cK 5 1 [(B1 0),(B1 1),B5] [.ptr b o,.int .i64 1,.int .i64 4]=B1 (.slice b (o+1) 3 4):=by
 rfl
def XA{b o n c i:Nat}{k:P0}(h:i<n):Op.aP 1 [.slice b o n c,.int k (i:Int)]=B1 (.ptr b (o+i)):=by
 have a:=FT h;simp[Op.aP,eR,J5 (z:=(i:Int)) rfl h,elemAt,a]
def xaz{H:ar}{f s o:Int}:zb M _a [.agg [.int .i64 f,.int .i64 s,.int .i64 o]] H λ v H'=>v=.tuple [.agg [.int .i64 0,.int .i64 f,.int .i64 s,.int .i64 o,.int .i64 (-1)],.bool (decide (okB f s o))]/\Fr Em H H':=by
 refine q4i ?_;have l1:∀b,Op.db [.slice b 1 3 4]=B1 (.int .i64 3):=λ _=>rfl;have⟨H1,e1,P,n1,R⟩:=cD H (OR [.int .i64 f,.int .i64 s,.int .i64 o] JJ);have⟨e,e2,F,n2,S⟩:=cD H1 (OR [.int .i64 0,.int .i64 0,.int .i64 0,.int .i64 0,.int .i64 0] NK);have⟨Hz,N,G,n3,T⟩:=cD e (OR [.int .i64 0,.int .i64 0,.int .i64 0,.int .i64 0,.int .i64 0] NK);have w:e.get H.au=B1 (OR [.int .i64 f,.int .i64 s,.int .i64 o] JJ):=(F.ah _ (by omega) id).trans R;have W:Op.ae [.ptr H.au 0] e=B1 (.int .i64 f):=x9 (xb w) 0;have X:Op.ae [.ptr H.au 1] e=B1 (.int .i64 s):=x9 (xb w) 1;have Y:Op.ae [.ptr H.au 2] e=B1 (.int .i64 o):=x9 (xb w) 2;have L:Op.build [.int .i64 0,.int .i64 0,.int .i64 0,.int .i64 0,.int .i64 0] [(1,1),(2,1),(3,1),(4,1)] [.int .i64 f,.int .i64 s,.int .i64 o,.int .i64 (-1)]=B1 (.agg [.int .i64 0,.int .i64 f,.int .i64 s,.int .i64 o,.int .i64 (-1)]):=rfl;have⟨p,Z,l4,x,U⟩:=V8 (n:=5) (l:=[.int .i64 0,.int .i64 f,.int .i64 s,.int .i64 o,.int .i64 (-1)]) T rfl rfl rfl;have n4:=x.au;have J:Fr Em H p:=((P.em F).em G).trans x λ z(q:z=e.au)=>.inr (by omega);have z3:p.get H1.au=B1 (OR [.int .i64 0,.int .i64 0,.int .i64 0,.int .i64 0,.int .i64 0] NK):=(x.ah _ (by omega) λ q:H1.au=e.au=>by omega).trans ((G.ah _ (by omega) id).trans S);obtain⟨K,C,A,Q,-⟩:=V8 (n:=5) (l:=[.int .i64 0,.int .i64 f,.int .i64 s,.int .i64 o,.int .i64 (-1)]) z3 rfl rfl rfl;have u:Fr Em H K:=J.trans Q λ z(q:z=H1.au)=>.inr (by omega);simp only[aa,bc,Rm,<-e1,<-e2,<-N,W,X,Y,L,Z,xe8,l1]
 let g:Nat->Int:=λ i=>if i=0 then f else if i=1 then s else o
 have a:∀i,i<3->Op.ae [.ptr e.au (1+i)] p=B1 (.int .i64 (g i)):=λ i V=>by
  rw[x9 (xb U)];have:i=0\/i=1\/i=2:=by omega
  rcases this with rfl|rfl|rfl<;>rfl
 refine da.intro (λ n E D=>∃i,D=p/\E=[(14,.slice e.au 1 3 4),(15,.int .i64 3),(16,.int .i64 (i:Nat)),(4,.ptr e.au 0),(2,.ptr H1.au 0)]/\n=3-i/\i<=3 /\ ∀j,j<i->0<=g j/\g j<=16) ?_ ?_
 .exact ⟨_,_,⟨0,rfl,rfl,rfl,by omega,λ j I=>by omega⟩,by simp only[aa,bc]⟩
 rintro n E D ⟨i,rfl,rfl,rfl,V,k⟩
 by_cases d:i<3
 .have e1:(i:Int)<3:=by omega
  have O:aj .i64 ((i:Int)+1)=((i+1:Nat):Int):=by rw[ji (by omega) (by omega)];omega
  have xU:¬(0<=g i/\g i<=16)->decide (okB f s o)=false:=λ h=>by
   refine js λ⟨m,t,h3⟩=>h ?_;have:i=0\/i=1\/i=2:=by omega
   rcases this with rfl|rfl|rfl
   .exact m
   .exact t
   .exact h3
  by_cases m:g i<0
  .simp only[aa,bc,Rm,e1,XA d,a i d,m,l4,C,A];exact⟨by rw[xU (by omega)],u⟩
  .by_cases t:16<g i
   .simp only[aa,bc,Rm,e1,XA d,a i d,m,t,l4,C,A];exact⟨by rw[xU (by omega)],u⟩
   .simp only[aa,bc,Rm,e1,XA d,a i d,m,t,O];refine⟨_,_,⟨i+1,rfl,rfl,by omega,λ j I=>?_⟩,by simp only[aa,bc],by omega⟩;rcases Nat.lt_succ_iff_lt_or_eq.1 I with q|rfl
    .exact k j q
    .omega
 .have y:i=3:=by omega
  subst y;have e1:¬((3:Nat):Int)<3:=by omega
  have hk:decide (okB f s o)=true:=jz ⟨k 0 (by omega),k 1 (by omega),k 2 (by omega)⟩;simp only[aa,bc,Rm,e1,l4,C,A];exact⟨by rw[hk],u⟩
def uF(f s o:Int):List AV:=[.int .i64 0,.int .i64 f,.int .i64 s,.int .i64 o,.int .i64 (-1),.int .i64 0,.int .i64 0,.int .i64 0,.int .i64 0,.int .i64 0,.int .i64 0,.bool B4]
def OQ(H:ar)(f s o:Int)(v:AV)(H':ar):Prop:=(okB f s o /\ ∃b,v=.tuple [.ptr b 0,.int .i64 0]/\H.au<=b/\b<H'.au/\H'.get b=B1 (OR (uF f s o) y9))\/(¬okB f s o/\v=.tuple [.nilp,.int .i64 2])
def q9j{H:ar}{f s o:Int}:zb M q1z [.agg [.int .i64 f,.int .i64 s,.int .i64 o]] H λ v H'=>OQ H f s o v H'/\Fr Em H H':=by
 refine xej ?_;have a:Fr Em H (H.alloc (OR [.int .i64 f,.int .i64 s,.int .i64 o] JJ)):=(Fr.refl H).alloc _;simp only[aa,bc,W5,O' H [.int .i64 f,.int .i64 s,.int .i64 o] _ _ _ 3 rfl];refine C3.q (xaz) λ v i⟨x,d⟩=>?_;subst x;have g:=d.au;rw[xx]at g;have⟨y,j,u,A,w⟩:=cD i (OR [.int .i64 0,.int .i64 0,.int .i64 0,.int .i64 0,.int .i64 0] NK);obtain⟨p,m,l4,k,-⟩:=V8 (n:=5) (l:=[.int .i64 0,.int .i64 f,.int .i64 s,.int .i64 o,.int .i64 (-1)]) w rfl rfl rfl;have h:Fr Em H p:=(a.em (d.em u)).trans k λ z(q:z=i.au)=>.inr (by have:=a.au;omega);have C:=k.au;have t:Op.build [.int .i64 0,.int .i64 0,.int .i64 0,.int .i64 0,.int .i64 0,.int .i64 0,.int .i64 0,.int .i64 0,.int .i64 0,.int .i64 0,.int .i64 0,.bool B2] [(0,5),(11,1)] [.agg [.int .i64 0,.int .i64 f,.int .i64 s,.int .i64 o,.int .i64 (-1)],.bool B4]=B1 (.agg (uF f s o)):=rfl
 by_cases hk:okB f s o
 .have e:decide (okB f s o)=true:=jz hk;simp only[aa,bc,W5,aw,e,<-j,m,l4,t];exact⟨.inl ⟨hk,_,rfl,by omega,by rw[xx];omega,xm ..⟩,h.alloc _⟩
 .have e:decide (okB f s o)=false:=js hk;simp only[aa,bc,W5,aw,e,<-j,m];exact⟨.inr ⟨hk,rfl⟩,h⟩
def Po(e:Nat)(zero:List AV):Op.buildSlice e 0 zero [] []=B1 (.row [] e (0,0) B4,Op.sliceTo 0 0):=rfl
def φ(H:ar):Op.eq .slice B2 [.nils,.nils] H=B1 (.bool B4):=rfl
def C'{H:ar}{size:Nat}{v:AV}{n:Nat}{cells:List AV}(h:Sl H size v n cells)(a:v≠ .nils)(H':ar):Op.eq .slice B2 [v,.nils] H'=B1 (.bool B2):=by
 have⟨_,h⟩:=h;cases v<;>first|exact(a rfl).elim|rfl|exact h.elim
def Pk{H:ar}{a:AV}{n:Nat}{cells:List AV}(ha:Sl H 5 a n cells)(f:aL cells=B4)(hl:n*40<=140737488355328){K:Bool->AV->ar->Prop}{m:Bool}
 (hk:∀g H',Own H' AN 5 g n cells->Fr Em H H'->(∀b,aM g b->H.au<=b)->K m g H'):iW m (Op.append AN 5 40 [Op.sliceTo 0 0 H.au,a] (H.alloc (.row [] AN (0,0) B4))) K:=by
 have d:Fr Em H (H.alloc (.row [] AN (0,0) B4)):=(Fr.refl H).alloc _;refine Q2 (e:=AN) (n:=0) (cells:=[]) ⟨rfl,.inl ⟨rfl,.inr ⟨H.au,rfl,by rw[xx];omega⟩⟩⟩ (ha.em d) f (by omega) (by omega) (by omega) λ g i hv' j h=>hk g i ?_ ?_ λ b hb=>?_
 .rw [yu,jr]at hv';exact hv'
 .exact d.trans j λ x k=>.inr (by rw[k.2];exact qm _)
 .exact (h b hb).elim (λ q=>by rw[q.2];exact qm _) λ q=>xw d.au q
def Nb:Fi:=⟨JK 8 0,0,B5⟩
def Sa:So:=⟨[],[],⟨0,0,0,0⟩,B5,B2,B2,B2,0,0,0,0⟩
def xcs{H:ar}:zb M q7d [] H λ v H'=>v=.ptr H.au 0/\H'=H.alloc (OR (ct Nb .nilp) HX):=by
 refine xir ?_;have a:Op.build [.int .u64 0,.int .u64 0,.int .u64 0,.int .u64 0,.int .u64 0,.int .u64 0,.int .u64 0,.int .u64 0,.int .i64 0,.nilp,.bool B2] [(10,1)] [.bool B4]=B1 (.agg (ct Nb .nilp)):=rfl;simp only[aa,bc,xis,a]
structure ZG(H H':ar):Prop where
 n:H'.au=H.au+5
 a:H'.get H.au=B1 (.map [] 0)
 b:H'.get (H.au+1)=B1 (OR [.nils,.map H.au] JP)
 c:H'.get (H.au+2)=B1 (.map [] 0)
 d:H'.get (H.au+3)=B1 (OR [.nils,.map (H.au+2)] JP)
 e:H'.get (H.au+4)=B1 (OR [.ptr (H.au+1) 0,.ptr (H.au+3) 0] TQ)
 f:Fr Em H H'
def xek{H:ar}:zb M xo [] H λ v H'=>v=.ptr (H.au+4) 0/\ZG H H':=by
 refine xlc ?_;have a:∀b,Op.build [.nils,.mB] [(1,1)] [.map b]=B1 (.agg [.nils,.map b]):=λ _=>rfl;have d:∀x y,Op.build [.nilp,.nilp] [(0,1),(1,1)] [.ptr x 0,.ptr y 0]=B1 (.agg [.ptr x 0,.ptr y 0]):=λ _ _=>rfl;simp only[aa,bc,xld,N_,a,d];refine⟨rfl,rfl,?_,?_,?_,?_,?_,(((((Fr.refl H).alloc _).alloc _).alloc _).alloc _).alloc _⟩
 .exact (((wn (by simp only[xx];omega) _).trans (wn (by simp only[xx];omega) _)).trans (wn (by simp only[xx];omega) _)).trans ((wn (by simp only[xx];omega) _).trans (xm ..))
 .exact ((wn (by simp only[xx];omega) _).trans (wn (by simp only[xx];omega) _)).trans ((wn (by simp only[xx];omega) _).trans (xm ..))
 .exact (wn (by simp only[xx];omega) _).trans ((wn (by simp only[xx];omega) _).trans (xm ..))
 .exact (wn (by simp only[xx];omega) _).trans (xm ..)
 .exact xm ..
def GB(o:Nat->Nat)(n:Nat)(z:Nat):Nat:=if z<n then o z else if z=n then 11 else if z=n+1 then 10 else if z=n+2 then 21 else if z=n+3 then 20 else if z=n+4 then 9 else 8
def xc1{H:ar}:zb M q7e [] H λ v H'=>v=.ptr (H.au+5) 0/\H'.au=H.au+6/\Fr Em H H' /\ ∀o,dT H' (GB o H.au) (H.au+5) Sa (H.au+4) .nilf:=by
 refine xiy ?_;have h:∀x,Op.build [.nilp,.int .i64 0,.int .i64 0,.int .u64 0,.int .u64 0,.nilf,.bool B2,.bool B2,.bool B2,.int .u64 0,.int .u64 0,.int .i64 0,.int .i64 0] [(0,1)] [.ptr x 0]=B1 (.agg (dH Sa x .nilf)):=λ _=>rfl;simp only[aa,bc,xiz];refine C3.q (xek) λ v H1⟨i,L⟩=>?_;subst i;simp only[aa,bc,h];have n1:=L.n;obtain⟨g,e2⟩:∃Z,Z=H1.alloc (OR (dH Sa (H.au+4) .nilf) EP):=⟨_,rfl⟩
 have n2:g.au=H.au+6:=by rw[e2,xx,n1]
 have k:∀z,z<H1.au->g.get z=H1.get z:=λ z q=>by rw[e2,wn q]
 rw[<-e2];refine⟨by rw[n1],n2,L.f.em (e2▸(Fr.refl H1).alloc _),λ o=>⟨⟨by rw[e2,<-n1];exact xm ..,by omega⟩,⟨H.au+1,H.au+3,.nils,H.au,0,.nils,H.au+2,0,⟨by rw[k _ (by omega)];exact L.e,by omega⟩,?_,⟨⟨by rw[k _ (by omega)];exact L.b,by omega⟩,Own.nil ..,by rw[k _ (by omega)];exact L.a,by omega,xz _,?_,?_,λ z q=>(q.1 rfl).elim⟩,⟨⟨by rw[k _ (by omega)];exact L.d,by omega⟩,Own.nil ..,by rw[k _ (by omega)];exact L.c,by omega,xz _,?_,?_,λ z q=>(q.1 rfl).elim⟩⟩,rfl,?_,rfl,bI,λ y w=>(List.not_mem_nil w).elim,bI⟩⟩
 all_goals (unfold GB;simp<;>(intro;omega))
end Go.Am
namespace Go.Am
open Lang Go.Proofs
variable{M:ak}[MK M]
def u':∀(code:List iT),aL (code.flatMap fZ)=B4
 |[]=>rfl
 |i::l=>by rw[j9,vc,List.all_append,<-vc,<-vc,u' l];rfl
def xds{H:ar}{a:AV}{code:List iT}(ha:bV fZ 5 H a code)(hl:code.length<=1000000):zb M Z5 [a] H λ v H'=>aB v=B4/\bV fZ 5 H' v code/\(code≠[]->H.au<=aE v/\aE v<H'.au)/\Fr Em H H':=by
 refine qnn ?_
 by_cases hn:a=.nils
 .subst hn;simp only[aa,bc,_c,φ];have:code.length=0:=by
   have:=ha.len;have q:Op.db [AV.nils]=B1 (.int .i64 0):=rfl;rw[q]at this;injection this with this;injection this with _ this;omega
  exact⟨rfl,ha,λ q=>(q (ku.1 this)).elim,Fr.refl _⟩
 .simp only[aa,bc,_c,C' ha hn,Po];refine Pk ha (u' code) (by omega) λ h f hv' g e=>?_;simp only[aa,bc];have d:aT fZ AN 5 f h code:=hv';exact⟨Sl.one hv'.sl,aT.sl d,λ q=>⟨e _ (zG d q),Own.lt d _ (zG d q)⟩,g⟩
def VP(id:Int)(n:Nat)(f s o ln:Int):Prop:=okB f s o/\0<=id/\id<4/\n<=1024/\2<=ln/\ln<=64
instance(id:Int)(n:Nat)(f s o ln:Int):Decidable (VP id n f s o ln):=by unfold VP;infer_instance
def Lp(id ln:Int)(code:List iT)(f s o:Int):Co:=⟨id,ln,code,Nb,⟨[0,f,s,o,-1],0,La.kN⟩,Sa,0,im,0,[],0,B2,B2,B2,0,0,B2,B2⟩
def CoN(H:ar)(c:Co)(v:AV)(H':ar):Prop:=∃p f l sp cv,v=.tuple [.ptr p 0,.int .i64 0]/\H.au<=p /\ ∀o:Nat->Nat,∃o',(∀z,z<H.au->o' z=o z)/\dP H' o' p f l sp cv .nils .nils .nili c [] 0
def sS(ok:Prop)(H:ar)(c:Co)(v:AV)(H':ar):Prop:=(ok/\CoN H c v H')\/(¬ok/\v=.tuple [.nilp,.int .i64 2])
def xa7{H:ar}{id ln f s o:Int}{a:AV}{code:List iT}(ha:bV fZ 5 H a code) :
 zb M q7c [.int .i64 id,a,.agg [.int .i64 f,.int .i64 s,.int .i64 o],.int .i64 ln] H λ v H'=>sS (VP id code.length f s o ln) H (Lp id ln code f s o) v H'/\Fr Em H H':=by
 refine xhk ?_;have P:Fr Em H (H.alloc (OR [.int .i64 f,.int .i64 s,.int .i64 o] JJ)):=(Fr.refl H).alloc _;simp only[aa,bc,I0,O' H [.int .i64 f,.int .i64 s,.int .i64 o] _ _ _ 3 rfl];refine C3.q (q9j) λ v V⟨hq,E⟩=>?_;have d:=P.em E;rcases hq with⟨hk,l,rfl,l1,l2,l3⟩|⟨hk,rfl⟩
 .by_cases C:id<0
  .simp only[aa,bc,I0,xf,C];exact⟨.inr ⟨λ⟨_,q,_⟩=>by omega,rfl⟩,d⟩
  by_cases D:4<=id
  .simp only[aa,bc,I0,xf,C,D];exact⟨.inr ⟨λ⟨_,_,q,_⟩=>by omega,rfl⟩,d⟩
  by_cases I:(1024:Int)<(code.length:Nat)
  .simp only[aa,bc,I0,xf,C,D,ha.len,I];exact⟨.inr ⟨λ⟨_,_,_,q,_⟩=>by omega,rfl⟩,d⟩
  by_cases L:ln<2
  .simp only[aa,bc,I0,xf,C,D,ha.len,I,L];exact⟨.inr ⟨λ⟨_,_,_,_,q,_⟩=>by omega,rfl⟩,d⟩
  by_cases c5:64<ln
  .simp only[aa,bc,I0,xf,C,D,ha.len,I,L,c5];exact⟨.inr ⟨λ⟨_,_,_,_,_,q⟩=>by omega,rfl⟩,d⟩
  simp only[aa,bc,I0,xf,C,D,ha.len,I,L,c5];refine C3.q (xds (ha.em d) (by omega)) λ cv h⟨u,O,N,p⟩=>?_;refine C3.q (xcs) λ v e⟨U,m⟩=>?_;subst U;have t:Fr Em h e:=by rw[m];exact(Fr.refl h).alloc _
  have Q:e.get h.au=B1 (OR (ct Nb .nilp) HX):=by rw[m];exact xm ..
  have hn4:e.au=h.au+1:=by rw[m];rfl
  simp only[aa,bc];refine C3.q (xc1) λ v K⟨U,hn5,j,T⟩=>?_;subst U;have S:=E.au;rw[xx]at S l1;have Z:=p.au;have X:Op.build [.int .i64 0,.int .i64 0,.nils,.nilp,.nilp,.nilp,.int .i64 0,.int .i64 0,.int .i64 0,.int .i64 0,.int .u64 0,.int .u64 0,.int .u64 0,.nils,.int .i64 0,.bool B2,.bool B2,.bool B2,.int .i64 0,.int .i64 0,.bool B2,.bool B2,.nils,.nili] [(0,1),(1,1),(2,1),(3,1),(4,1),(5,1)] [.int .i64 id,.int .i64 ln,cv,.ptr h.au 0,.ptr l 0,.ptr (e.au+5) 0]=B1 (.agg (cH (Lp id ln code f s o) h.au l (e.au+5) cv .nils .nils .nili)):=by
   cases cv<;>first|rfl|cases u
  simp only[aa,bc,X];obtain⟨H6,W,g,n6,-⟩:=cD K (OR (cH (Lp id ln code f s o) h.au l (e.au+5) cv .nils .nils .nili) GV);rw[<-W];have fin:=(((d.em p).em t).em j).em g;refine⟨.inl ⟨⟨hk,by omega,by omega,by omega,by omega,by omega⟩,K.au,h.au,l,e.au+5,cv,rfl,by omega,λ o0=>?_⟩,fin⟩;obtain⟨F,k⟩:∃F,F=aO (aO (aO o0 H.au 3) V.au 7) h.au 2:=⟨_,rfl⟩
  obtain⟨J,A⟩:∃J,J=aO (GB F e.au) K.au 1:=⟨_,rfl⟩
  have G:∀z,z<e.au->J z=F z:=λ z q=>by rw[A,wq (by omega)];unfold GB;rw[xg q]
  refine⟨J,λ z q=>by rw[G z (by omega),k,wq (by omega),wq (by omega),wq q],?_⟩;have R:mf V l ⟨[0,f,s,o,-1],0,La.kN⟩:=⟨⟨rfl,rfl,xW _,(show(0:Int)<=4 by decide),(show(-1:Int)≠0 by decide)⟩,l3,l2⟩
  have Y:At e h.au HX (ct Nb .nilp):=⟨Q,by omega⟩
  refine⟨⟨by rw[W];exact xm ..,by omega⟩,⟨⟨by simp[Lp,Nb],λ v q=>by rw[vp q];exact bI,xW _⟩,.nilp,(Y.em j).em g,rfl⟩,((R.em p).em t |>.em j).em g,⟨e.au+4,.nilf,(T F).fr g (λ _ _ _ q=>q) λ z q=>by rw[A];exact wq q⟩,((O.em t).em j).em g,Own.nil ..,Own.nil ..,?_,?_,?_,λ z q=>(q.1 rfl).elim,λ z q=>(q.1 rfl).elim,λ q=>?_,rfl,⟨by show 0<=id;omega,by show 2<=ln;omega,by show ln<=64;omega,by show code.length<=1024;omega,λ y w=>(List.not_mem_nil w).elim,xz _,xW _,bI,λ i x w=>by simp[Lp]at w⟩⟩
  .rw [A];exact ng (qm _)
  .rw [G _ (by omega),k];exact ng (qm _)
  .rw [G _ (by omega),k,wq (by omega),wq (by omega)];exact ng (by omega)
  .have ⟨q1,q2⟩:=N q;exact⟨by omega,by rw[G _ (by omega),k,wq q2];exact ng q1⟩
 .simp only[aa,bc,I0,xf];exact⟨.inr ⟨λ q=>hk q.1,rfl⟩,d⟩
end Go.Am
namespace Go.Am
open Go.Proofs Ca
variable{M:ak}[MK M]
section
variable{H0 H:ar}{B:Nat}{s:Bs}{b:Bu}{own:Nat->Nat}
def eH.lj(h:eH H0 H B s b own){ws:List L8}{H':ar}(hm:AF H' s.mp s.lv ws)(hl:ws.length=b.m.length)(f:Fr (On (aE s.lv)) H H'):eH H0 H' B s {b with m:=ws} own:=by
 have j:s.dw (aE s.lv):=.inr (.inr (.inl rfl));have o1:=h.oD _ j;have g:∀{z k:Nat},own z=k->k≠1 -> ¬On (aE s.lv) z:=λ e1 e2(q:_=aE s.lv)=>e2 (by rw[<-e1,q];exact o1);have p:H0.au<=aE s.lv:=h.lo _ (.inr (.inl j));refine⟨by rw[f.ah _ h.lt (g h.oB (by decide))];exact h.row,qn h.lt f.au,⟨?_,qn h.d.lt f.au,hm,h.d.es.fr f λ(q:_=_)=>h.d.d1.2.2.2.2 q.symm,λ i x a o=>(h.d.wt i x a o).fr f λ z e(q:z=_)=>(h.d.d2 i x a o z e).2.2.1 q,h.d.d1,h.d.d2,h.d.d3,h.d.len.trans hl.symm⟩,h.dx,Own.fr h.nv f λ z e=>g (h.oN z e) (by decide),λ c n A hn l=>(h.no c n A hn l).off f λ z(q:z=_)=>⟨by rw[q];exact p,λ w=>g (h.oC c A l z w) (by omega) q⟩,h.al,h.fl.fr f λ z e=>g (h.oF z e) (by decide),h.oB,h.oD,h.oN,h.oF,h.oC,h.lo⟩;rw[f.ah _ h.d.lt λ q=>h.d.d1.2.1 q];exact h.d.row
end
def lj(m:List L8):List L8->Nat->List L8
 |[],_=>m
 |x::r,i=>lj (m.set i x) r (i+1)
def UT:∀(fs:List L8)(m:List L8)(i:Nat),(lj m fs i).length=m.length
 |[],m,i=>rfl
 |x::r,m,i=>by unfold lj;rw[UT r];exact zf
def z0:∀(fs:List L8)(m:List L8)(j i:Nat){x:L8},fs[i]? = B1 x->lj m (fs.take (i+1)) j=(lj m (fs.take i) j).set (j+i) x
 |y::r,m,j,0,x,h=>by cases h;rfl
 |y::r,m,j,i+1,x,h=>by
  show lj (m.set j y) (r.take (i+1)) (j+1)=(lj (m.set j y) (r.take i) (j+1)).set (j+(i+1)) x;rw[z0 r _ (j+1) i (show r[i]? = B1 x from h),show j+1+i=j+(i+1)by omega]
def jZ(l c s w:Int)(fs:List L8):Bu:={gj l c s w with m:=lj (gj l c s w).m fs 0}
def xdz{H:ar}{D mp:Nat}{lv ev:AV}{N:Int}{ws:List L8}{xs:List (De×AV)}(h:mM H D mp lv ev N ws xs){n:Int}(f:0<=n)(g:n<ws.length)(x:L8):zb M _y [.ptr D 0,.int .i64 n,.agg (cu x)] H λ v H'=>AF H' mp lv (ws.set n.toNat x)/\Fr (On (aE lv)) H H':=by
 refine q80 ?_;obtain⟨H1,e1,a,-,e⟩:=cD H (OR (cu x) zx);have ln:=eI e (kq x);have l0:Op.ae [.ptr D 0] H1=B1 (.ptr mp 0):=by rw[x9 (xb (h.em a).row)];rfl
 simp only[aa,bc,q81,<-e1,ye,qo,l0,ln];refine C3.q (Vk (h.em a).me f g x) λ v j⟨i,hm,d⟩=>?_;subst i;simp only[aa,bc];exact⟨hm,(a.mono λ _ _ q=>q.elim).trans d λ z q=>.inl q⟩
def Ia(H:ar)(l c s w:Int)(fs:List L8)(v:AV)(H':ar):Prop:=(¬(sE l c s w/\(fs.length:Int)<=l)/\v=.tuple [.nilp,.int .i64 2]/\Fr Em H H')\/(sE l c s w/\(fs.length:Int)<=l) /\ ∃B bs own,v=.tuple [.ptr B 0,.int .i64 0]/\eH H H' B bs (jZ l c s w fs) own/\Fr Em H H'
def xa0{H:ar}(l c s w:Int){fv:AV}{fs:List L8}(hF:bV cu 8 H fv fs)(hfb:fs≠[]->aE fv<H.au):zb M YD [.agg (eB l c s w),fv] H (Ia H l c s w fs):=by
 refine xj1 ?_;obtain⟨w0,w4,w12,w14,w41,R,w58,w46,w25,-,w40,S,-,w39⟩:=Ua M ⟨B5,YD⟩;have⟨H1,e1,Y,n1,g1⟩:=cD H (OR (eB l c s w) AB);have ls:∀{o:ar}(k:Nat),Fr Em H1 o->Op.ae [.ptr H.au k] o=(eB l c s w)[k]?:=λ k f=>x9 (xb (by rw[f.ah _ (by omega) id];exact g1)) k;have l0:Op.ae [.ptr H.au 0] H1=B1 (.int .i64 l):=ls 0 (Fr.refl _);have l1:Op.ae [.ptr H.au 1] H1=B1 (.int .i64 c):=ls 1 (Fr.refl _);simp only[aa,bc,w0,<-e1,l0,l1];refine C3.q (xdy l c) λ v j⟨F,hv⟩=>?_;rcases hv with⟨U,rfl⟩|⟨U,D,mp,lv,ev,rfl,dr,lod⟩
 .have t2:¬(2:Int)=0:=by decide
  simp only[aa,bc,xf,w4,t2];exact .inl ⟨λ q=>U q.1.1,rfl,Y.trans F λ _ q=>.inl q⟩
 have t0:=qy (show(0:Int)=0 from rfl);have hd':=U;have⟨⟨m1,m2⟩,T,c2⟩:=hd';have P:Op.ae [.ptr H.au 0] j=B1 (.int .i64 l):=ls 0 F;have t:=hF.len
 by_cases qf:l<((fs.length:Nat):Int)
 .simp only[aa,bc,xf,w4,t,P,qy qf];exact .inl ⟨λ q=>by have:=q.2;omega,rfl,Y.trans F λ _ q=>.inl q⟩
 have q0:=qf;have bd:Op.build [.nilp,.nils,.nils,.int .i64 0] [(0,1),(3,1)] [.ptr D 0,.int .i64 l]=B1 (.agg [.ptr D 0,.nils,.nils,.int .i64 l]):=rfl;have⟨C,e3,f3,n3,g3⟩:=cD j (OR [.ptr D 0,.nils,.nils,.int .i64 l] Kx);have p:Fr Em H1 C:=F.trans f3 λ _ q=>q.elim;have rS:Op.ae [.ptr H.au 1] C=B1 (.int .i64 c):=ls 1 p;have m12:=F.au;have d3:=dr.em f3;have i3:Ks H C j.au D mp lv ev .nils l c s w [] (λ z=>if z=j.au then 0 else 1) :=
  ⟨g3,by omega,d3,Own.nil ..,λ k A hA=>by simp at hA,xg rfl,λ z h=>by rw[qv (by have:=dr.low h;omega)],λ z h=>absurd rfl h.1,λ k A hA=>by simp at hA,by omega,λ z h=>by have:=lod z h;omega,λ z h=>absurd rfl h.1,Y.trans p λ _ q=>q.elim⟩
 simp only[aa,bc,xf,w4,t,P,q0,w12,bd,<-e3,w14,rS];obtain⟨a,rfl⟩:=jm (show 0<=c by omega)
 -- what the loop leaves of the message's box
 refine da.intro (λ k E o=>∃(ad:List Na)(nv:AV)(own:Nat->Nat),E=[(38,.int .i64 (ad.length:Int)),(37,.int .i64 ((a:Nat):Int)),(2,.ptr H.au 0),(8,.ptr j.au 0),(1,fv),(6,.ptr D 0)]/\k=a-ad.length/\ad.length<=a/\Ks H o j.au D mp lv ev nv l a s w ad own/\(0<ad.length->sN s w)/\o.get H.au=B1 (OR (eB l a s w) AB)/\C.au<=o.au /\ ∀z,aM nv z->C.au<=z) ?_ ?_
 .exact ⟨_,_,⟨[],.nils,_,rfl,rfl,xz _,i3,λ q=>absurd q (by simp),by rw[p.ah _ (by omega) id];exact g1,qm _,λ z h=>absurd rfl h.1⟩,by simp only[aa,bc];rfl⟩
 rintro k E o ⟨ad,nv,own,rfl,rfl,hi,hI,hok,hg,O,N⟩;rcases xy ad.length a with K|hge
 .have q1:(ad.length:Int)<((a:Nat):Int):=by omega
  have ldS:=eI (e:=AB) hg (show(eB l (a:Int) s w).length=4 from rfl);simp only[aa,bc,R,q1,w25,ldS];refine C3.q (xcf (ad.length:Int) l (a:Int) s w) λ v Ha hv=>?_;rcases hv with⟨u,rfl,fa⟩|⟨u,r,b,sv,rfl,L⟩
  .have t2:¬(2:Int)=0:=by decide
   simp only[aa,bc,xf,S,t2];refine .inl ⟨λ q=>u ⟨q.1.2,by omega,by omega,by omega,m1,m2⟩,rfl,hI.fr.trans fa λ _ q=>.inl q⟩
  .have lB:Op.ae [.ptr j.au 1] Ha=B1 nv:=by
    have fa:=L.bk.fr;rw[x9 (xb (by rw[fa.ah _ hI.lt id];exact hI.row))];rfl
   have wj:aj .i64 ((ad.length:Int)+1)=((ad.length+1:Nat):Int):=by rw[ji (by omega) (by omega)];omega
   simp only[aa,bc,xf,S,w39,qo,lB];refine hI.step (by omega) (A:=⟨r,b,sv,.nils,[]⟩) L λ v2 Hb⟨Hc,sc,⟨Q,hc⟩,fc,oc⟩=>?_;have hgc:Hc.get H.au=B1 (OR (eB l (a:Int) s w) AB):=by
    rw[fc.ah _ (by omega) (λ q=>q.elim (λ q=>by omega) λ q=>by have:=N _ q;omega)];exact hg
   simp only[aa,bc,sc,w40,wj];refine⟨_,_,⟨ad ++ [⟨r,b,sv,.nils,[]⟩],v2,Q,rfl,rfl,by rw[xr];simp;omega,hc,λ _=>u.1,hgc,xw O fc.au,λ z h=>(oc z h).elim (N z) λ q=>xw O q⟩,by simp only[aa,bc,xr,jd,kr],by rw[xr];simp;omega⟩
 .have hiw:ad.length=a:=by omega
  have q1:¬(ad.length:Int)<((a:Nat):Int):=by omega
  have y:=hI.done (by omega) (by omega) (by omega);have G:=hI.fr;have hfl:(fs.length:Int)<=l:=by omega
  have ml:(gj l (a:Int) s w).m.length=l.toNat:=by show(JK l.toNat _).length=_;rw[jc]
  simp only[aa,bc,R,q1,w41,t];refine da.intro (λ k E g=>∃i:Nat,E=[(62,.int .i64 (i:Int)),(61,.int .i64 ((fs.length:Nat):Int)),(60,fv),(8,.ptr j.au 0),(6,.ptr D 0)]/\k=fs.length-i/\i<=fs.length/\eH H g j.au ⟨D,mp,lv,ev,JK l.toNat (iG,.nils),nv,.nils,ad⟩ {gj l (a:Int) s w with m:=lj (gj l (a:Int) s w).m (fs.take i) 0} own/\Fr Em H g) ?_ ?_
  .exact ⟨_,_,⟨0,rfl,rfl,xz _,y,G⟩,by simp only[aa,bc]⟩
  rintro k E g ⟨i,rfl,rfl,hi,y,G⟩;rcases xy i fs.length with K|hge
  .have T:(i:Int)<((fs.length:Nat):Int):=by omega
   obtain⟨x,hx⟩:∃x,fs[i]? = B1 x:=⟨_,xe K⟩
   have sl:bV cu 8 g fv fs:=Sl.em hF G;have ix:=sl.idx hx (z:=(i:Int)) rfl .i64;have ld:=sl.aq kq (by decide) hx;obtain⟨V,X⟩:∃Z,Z=(g.alloc (OR [.int .u64 0,.int .u64 0,.int .u64 0,.int .u64 0,.int .u64 0,.int .u64 0,.int .u64 0,.int .u64 0] zx)).set g.au (OR (cu x) zx):=⟨_,rfl⟩
   have st:Op.store 8 [.ptr g.au 0,.agg (cu x)] (g.alloc (OR [.int .u64 0,.int .u64 0,.int .u64 0,.int .u64 0,.int .u64 0,.int .u64 0,.int .u64 0,.int .u64 0] zx))=B1 (.undef,V):=by
    rw[X];exact fE (xm g _) rfl (kq x) (tZ x)
   have fz:Fr Em g V:=by rw[X];exact((Fr.refl g).alloc _).set (.inr (qm _)) _
   have gz:V.get g.au=B1 (OR (cu x) zx):=by rw[X,xc]
   have lz:=eI gz (kq x);have I:=y.em fz;have wj:aj .i64 ((i:Int)+1)=((i+1:Nat):Int):=by rw[ji (by omega) (by omega)];omega
   have sml:(lj (gj l (a:Int) s w).m (fs.take i) 0).length=l.toNat:=by rw[UT,ml]
   simp only[aa,bc,Ua,T,ix,ld,st,lz];refine C3.q (xdz I.d (n:=(i:Int)) (by omega) (by show(i:Int)<((lj (gj l (a:Int) s w).m (fs.take i) 0).length:Int);rw[sml];omega) x) λ v Hw⟨hm,fw⟩=>?_;simp only[aa,bc,Ua,wj];have lz':H.au<=aE lv:=y.lo _ (.inr (.inl (.inr (.inr (.inl rfl)))));rw[GQ]at hm;have W:lj (gj l (a:Int) s w).m (fs.take (i+1)) 0=(lj (gj l (a:Int) s w).m (fs.take i) 0).set i x:=by rw[z0 fs _ 0 i hx,yu]
   have hB2:=I.lj hm (by rw[zf]) fw;refine⟨_,_,⟨i+1,rfl,rfl,by omega,by rw[W];exact hB2,(G.em fz).trans fw λ z(q:z=aE lv)=>.inr (by rw[q];exact lz')⟩,by simp only[aa,bc],by omega⟩
  .have J:i=fs.length:=by omega
   have T:¬(i:Int)<((fs.length:Nat):Int):=by omega
   simp only[aa,bc,Ua,T];rw[J,MG]at y;exact .inr ⟨⟨⟨U,hok (by omega)⟩,hfl⟩,_,_,own,rfl,y,G⟩
def xjz{l c s w:Int}(fs:List L8){V:Int->L8}(h:sE l c s w):BuI (jZ l c s w fs) V:=zQ h (by show(lj (JK l.toNat L8.zero) fs 0).length=_;rw[UT,jc])
def xjy{l c s w:Int}{fs:List L8}:BC (jZ l c s w fs) 0:=by
 have h:=DR (l:=l) (c:=c) (s:=s) (w:=w);exact⟨h.fl,h.no,h.wt⟩
def CB:∀(fs m:List L8)(i:Nat),(∀x∈m,x.u)->(∀x∈fs,x.u) -> ∀x∈lj m fs i,x.u
 |[],m,i,hm,_=>hm
 |y::r,m,i,hm,hf=>by
  unfold lj;exact CB r _ _ (λ x q=>(FU q).elim (hm x) λ e=>e▸hf y (J2 ..)) λ x q=>hf x (List.mem_cons_of_mem _ q)
def xj0{l c s w:Int}{fs:List L8}(a:∀x∈fs,x.u):zD (jZ l c s w fs):=by
 refine⟨CB fs _ 0 (λ x q=>?_) a,λ n q=>?_,.nil⟩
 .rw [vp (show x∈JK l.toNat L8.zero from q)];exact L8.iD
 .obtain ⟨k,hk,rfl⟩:=As.1 (show n∈pE l s w c.toNat from q);intro e he;rw[vp (show e∈JK (s.toNat*w.toNat) En.zero from he)];exact En.oQ
end Go.Am
namespace Go.Am
open Go.Proofs Ca
open Lang (ints)
variable{M:ak}[MK M]
def JQ(e0:Int)(H0 H:ar)(r b:Nat)(sv bv:AV)(a:No×List Mg)(v:AV)(H':ar):Prop:=(∃ov,v=.tuple [ov,.int .i64 e0]/\mG H H' ov a.2)/\si H0 H r b sv bv a.1 H'
def gK(n:No)(line:Int):Int:=if line<0\/n.lines<=line then 2 else match n.c.find line with
 |none=>20
 |some _=>0
section
variable{H0 H:ar}{r b:Nat}{sv bv:AV}{n:No}{ks:List Nat}
def xg2(h:dc H0 H r b sv bv n ks)(a:CI n.lines n.c)(hk:n.aQ.length<=900000)(line:Int):zb M Ok [.ptr r 0,.int .i64 line] H (JQ (gK n line) H0 H r b sv bv (n.cS line)):=by
 refine qz1 ?_;obtain⟨w0,w2,P,d,k,Q⟩:=qz2 M ⟨B5,Ok⟩
 by_cases f:line<0
 .have i:n.cS line=(n,[]):=by unfold No.cS;rw[xg (.inl f)]
  rw[i,show gK n line=2 from xg (.inl f)];simp only[aa,bc,w0,w2,ye,f];exact⟨⟨.nils,rfl,mG.nil ..⟩,h.same (Fr.refl _)⟩
 by_cases t:n.lines<=line
 .have i:n.cS line=(n,[]):=by unfold No.cS;rw[xg (.inr t)]
  rw[i,show gK n line=2 from xg (.inr t)];simp only[aa,bc,w0,w2,ye,f,qo,h.l1,t];exact⟨⟨.nils,rfl,mG.nil ..⟩,h.same (Fr.refl _)⟩
 have hn:¬(line<0\/n.lines<=line):=λ q=>q.elim f t;simp only[aa,bc,w0,w2,ye,f,qo,h.l1,t,P,h.l2];refine C3.q (O5 h.ca a line) λ v H1⟨N,C⟩=>?_;rw[N,fB];have n1:=C.au;cases A:n.c.find line with
 |none =>
  have i:n.cS line=(n,[]):=by unfold No.cS;rw[qv hn,A]
  rw[i,show gK n line=20 by unfold gK;rw[qv hn,A]];have U:Fr Em H ((H1.alloc (OR (av .zero) xj)).set H1.au (OR (av .zero) xj)):=C.trans (yT _ _) λ _ q=>q.elim;simp only[aa,bc,xf,Option.getD_none,Nr,eZ,jS,d];exact⟨⟨.nils,rfl,mG.nil ..⟩,h.same U⟩
 |some x =>
  obtain⟨n',en⟩:∃n',n'=(if x.r ||x.w then n.iJ 4 else n):=⟨_,rfl⟩
  have i:n.cS line=No.gone {n' with c:=(n'.c.drop line).1} (n'.c.drop line).2:=by
   unfold No.cS;rw[qv hn,A,en]
  rw[i,show gK n line=0 by unfold gK;rw[qv hn,A]];obtain⟨g,e2⟩:∃X,X=(H1.alloc (OR (av .zero) xj)).set H1.au (OR (av x) xj):=⟨_,rfl⟩
  have S:Fr Em H1 g:=by rw[e2];exact yT _ _
  have o:Fr Em H g:=C.trans S λ _ q=>q.elim;have n2:g.au=H1.au+1:=by rw[e2];rfl
  have F:g.get H1.au=B1 (OR (av x) xj):=by rw[e2,xc]
  have G:=h.em o;have lr:Op.ae [.ptr H1.au 2] g=B1 (.bool x.r):=x9 (xb F) 2;have lw:Op.ae [.ptr H1.au 3] g=B1 (.bool x.w):=x9 (xb F) 3;have hlr:=h.lt;have Z:=h.ca.lt;have hls:aE sv<H.au:=h.ca.sl.lt;have J:=h.bk.fresh;have off:∀y,H.au<=y -> ¬iE r b sv bv y:=λ y hy q=>by
   rcases q with q|q|q
   .omega
   .exact q.elim (λ q=>by omega) λ q=>by omega
   .have:=J _ q;omega
  -- behind the loss
  have fin:∀{m:ar},dc H0 m r b sv bv n' ks->CI n.lines n'.c->n'.aQ=n.aQ->Fr (iE r b sv bv) g m -> ∀{E:Env},lk E 0=B1 (.ptr r 0)->lk E 1=B1 (.int .i64 line)->lk E 6=B1 (.ptr H1.au 0) ->
   W M ⟨B5,Ok⟩ (qz0 33) B4 (fh M [.tmp 4,.tmp 5] (uI (JQ 0 H0 H r b sv bv (No.gone {n' with c:=(n'.c.drop line).1} (n'.c.drop line).2)))) E [] m:=by
   intro m z e hb j E q0 f q6;simp only[aa,bc,Q,q0,f,q6,qo,z.l2];refine C3.q (Yg z.ca e line) λ v l⟨N,Y,u⟩=>?_;rw[N];unfold zC;have n4:=u.au;have nc:=j.au;have gc:m.get H1.au=B1 (OR (av x) xj):=by rw[j.ah _ (by omega) (off _ (by omega))];exact F
   have V:l.get H1.au=B1 (OR (av x) xj):=by rw[u.ah _ (by omega) (λ q=>off H1.au (by omega) (.inr (.inl q)))];exact gc
   have s5:=fE V (zt _) (zt (n'.c.drop line).2) (tH _);have O:=eI (xc l H1.au (OR (av (n'.c.drop line).2) xj)) (zt _);have T:Fr (On H1.au) l (l.set H1.au (OR (av (n'.c.drop line).2) xj)):=(Fr.refl l).set (W:=On H1.au) (.inl rfl) _;have K:=z.iy Y u (by rw[(Nu ..).1];exact z.len);have L:=K.off T (λ x(hx:x=H1.au)=>by rw[hx];exact⟨by have:=h.bk.fr.au;omega,off _ (by omega)⟩);have p:Fr (iE r b sv bv) H (l.set H1.au (OR (av (n'.c.drop line).2) xj)):=(jL (jL (nC o) j) (vV u)).set (.inr (by omega)) _;simp only[aa,bc,xf,s5,O];refine C3.q (xbo L (by show n'.aQ.length<=_;rw[hb];exact hk) _ (ag4 e)) λ v H6⟨hm,ht⟩=>?_;simp only[aa,bc];exact⟨⟨_,rfl,(hm.from p.au).ms⟩,ht.from p⟩
  cases hr:x.r with
  |true =>
   rw[hr]at lr en;have en:n'=n.iJ 4:=en;simp only[aa,bc,xf,vj,vn,eZ,jS,<-e2,d,k,lr];refine C3.q (I1 G 4) λ _ R⟨I,D⟩=>?_;simp only[aa,bc];refine fin (by rw[en];exact I) (by rw[en];exact a.discard) (by rw[en];rfl) D ?_ ?_ ?_
   .rfl
   .rfl
   .rfl
  |false =>
   rw[hr]at lr;cases hw:x.w with
   |true =>
    rw[hr,hw]at en;rw[hw]at lw;have en:n'=n.iJ 4:=en;simp only[aa,bc,xf,vj,vn,eZ,jS,<-e2,d,k,lr,lw];refine C3.q (I1 G 4) λ _ R⟨I,D⟩=>?_;simp only[aa,bc];refine fin (by rw[en];exact I) (by rw[en];exact a.discard) (by rw[en];rfl) D ?_ ?_ ?_
    .rfl
    .rfl
    .rfl
   |false =>
    rw[hr,hw]at en;rw[hw]at lw;have en:n'=n:=en;simp only[aa,bc,xf,vj,vn,eZ,jS,<-e2,d,k,lr,lw];refine fin (by rw[en];exact G) (by rw[en];exact a) (by rw[en]) (Fr.refl _) ?_ ?_ ?_
    .rfl
    .rfl
    .rfl
end
section
variable{H0 H:ar}{B:Nat}{s:Bs}{b:Bu}{own:Nat->Nat}{c:Int}{n:No}
def ae2(h:eH H0 H B s b own)(hb:BB b)(g:0<=c)(hn:b.ns[c.toNat]? = B1 n)(l:Int):zb M QT [.ptr B 0,.int .i64 c,.int .i64 l] H λ v H'=>v=.int .i64 (gK n l)/\kB H0 H B s (b.put c.toNat (n.cS l)) H':=by
 refine qso ?_;obtain⟨w0,w4,e⟩:=qsp M ⟨B5,QT⟩;simp only[aa,bc,w0];refine C3.q (Ie h hb.N4 c) λ v H1⟨j,i,_⟩=>?_;have⟨A,f,m⟩:=i (Ak hn g);rw[m,j];have w:=qy (show(0:Int)=0 from rfl);have⟨ni,bk,us⟩:=hb.no _ n hn;have o:=h.no _ n A hn f;simp only[aa,bc,xf,w4,e];refine C3.q (xg2 o ni.ci bk l) λ v p⟨⟨u,d,a⟩,k⟩=>?_;rw[d];simp only[aa,bc,xf];refine C3.q (h.out hb hn f k a (by have:=xbc n l;omega) (Q:=λ _ H'=>kB H0 H B s (b.put c.toNat (n.cS l)) H') (r:=.nils) id) λ v t hp=>?_;simp only[aa,bc];exact hp
def ad3(h:eH H0 H B s b own)(hb:BB b)(d:¬(0<=c/\c<b.ns.length))(l:Int):zb M QT [.ptr B 0,.int .i64 c,.int .i64 l] H λ v H'=>v=.int .i64 2/\H'=H:=by
 refine qso ?_;obtain⟨w0,w4,g⟩:=qsp M ⟨B5,QT⟩;simp only[aa,bc,w0];refine C3.q (Ie h hb.N4 c) λ v H1⟨e,_,a⟩=>?_;rw[a d,e];have f:¬(2:Int)=0:=by decide
 simp only[aa,bc,xf,w4,f]
def xi9(h:eH H0 H B s b own)(hb:BB b)(d:¬(0<=c/\c<b.ns.length))(k:Int):zb M Nd [.ptr B 0,.int .i64 c,.int .i64 k] H λ v H'=>v=.int .i64 2/\Fr Em H H':=by
 refine Yy ?_;obtain⟨H1,e1,a,-,-⟩:=cD H (OR [.int .i64 k] cz);have ca:AV.cells (.int .i64 k)=[.int .i64 k]:=rfl;have mk:Op.bJ JE 0 [.ptr H.au 0]=B1 (.fn (.func JE) [] [.ptr H.au 0]):=rfl;simp only[aa,bc,Zb,ca,<-e1];refine C3.q (IG (h.em a) hb d _) λ v g⟨f,e⟩=>?_;rw[e];subst f;simp only[aa,bc];exact a
def xja(h:eH H0 H B s b own)(hb:BB b)(f:0<=c)(hn:b.ns[c.toNat]? = B1 n)(k:Int):zb M Nd [.ptr B 0,.int .i64 c,.int .i64 k] H λ v H'=>v=.int .i64 (n.abort k).2/\kB H0 H B s (b.put c.toNat ((n.abort k).1,[])) H':=by
 refine Yy ?_;obtain⟨H1,e1,a,-,g⟩:=cD H (OR [.int .i64 k] cz);have ca:AV.cells (.int .i64 k)=[.int .i64 k]:=rfl;have l1:Op.ae [.ptr H.au 0] H1=B1 (.int .i64 k):=x9 (xb g) 0;have mk:Op.bJ JE 0 [.ptr H.au 0]=B1 (.fn (.func JE) [] [.ptr H.au 0]):=rfl;simp only[aa,bc,Zb,ca,<-e1];have d:=h.em a;refine C3.q (RX (H1:=H1) (e:=.int .i64 (n.abort k).2) (n':=(n.abort k).1) d hb f hn (cap:=[.ptr H.au 0]) λ{A}i=>_B (d.no _ n A hn i) l1) λ v l⟨j,hp⟩=>?_;simp only[aa,bc];exact⟨j,kB.pre a hp⟩
end
end Go.Am
namespace Go.Am
open Lang Go.Proofs
structure Ck where
 p:Nat
 f:Nat
 l:Nat
 sp:Nat
 cv:AV
 rv:AV
 o:Nat->Nat
def wide(ks:List Ck)(n:Nat):List Ck:=ks.map λ A'=>{A' with o:=Go.Am.aO A'.o n 0}
def Ck.at(A:Ck)(Hb H:ar)(B:Nat)(bs:Bs)(k:Nat):SX:=⟨H,A.o,gE B bs,A.p,A.f,A.l,A.sp,B,A.cv,Hb,k⟩
def Hl{ks:List Ck}{n:Nat}{j:Nat}{b:Ck}(e:(wide ks n)[j]? = B1 b):∃a,ks[j]? = B1 a/\b = {a with o:=Go.Am.aO a.o n 0}:=by
 unfold wide at e;rw[xp]at e;have⟨a,e1,e2⟩:=xq.1 e;exact⟨a,e1,e2.symm⟩
def It(b:Bu)(i:Nat):(b.xC i).ns.length=b.ns.length:=by
 unfold Bu.xC
 repeat' split
 all_goals first|rfl|exact zf
def DT(b:Bu)(t:Bt):(b.step t).ns.length=b.ns.length:=by
 unfold Bu.step
 repeat' split
 all_goals first|rfl|exact It _ _|exact zf
def ar.low(H:ar)(n:Nat):ar:=⟨H.t,n⟩
def LB(H:ar){n:Nat}(h:n<=H.au):Fr Em (H.low n) H:=⟨h,λ _ _ _=>rfl⟩
def mQ.AH{e:Nat}{H0 H H':ar}{v:AV}{xs:List Nat}{W:Nat->Prop}(h:mQ e H0 H v xs)(f:Fr W H H')(hw:∀b,aM v b -> ¬W b):mQ e (H'.low H0.au) H' v xs:=by
 refine⟨?_,LB _ (xw h.fr.au f.au)⟩;rcases h.own with q|⟨b,m,rest,rfl,a,c,d,g⟩
 .exact .inl q
 .exact .inr ⟨b,m,rest,rfl,qn a f.au,c,d,by rw[f.ah b a (hw b ⟨by simp,rfl⟩)];exact g⟩
def dc.AH{H0 H H':ar}{r b:Nat}{sv bv:AV}{n:No}{ks:List Nat}{W:Nat->Prop}(h:dc H0 H r b sv bv n ks)(f:Fr W H H')(hw:∀x,W x -> ¬iE r b sv bv x):dc (H'.low H0.au) H' r b sv bv n ks :=
 ⟨by rw[f.ah _ h.lt λ q=>hw _ q (.inl rfl)];exact h.row,qn h.lt f.au,h.ca.fr f (λ q=>hw _ q (.inr (.inl (.inl rfl)))) (λ q=>hw _ q (.inr (.inl (.inr rfl)))),h.bk.AH f (λ x a q=>hw x q (.inr (.inr a))),h.eq,h.lr,h.lb,h.ls,h.n1,h.n2,h.o1,h.o2,h.o3,h.li,h.len⟩
def eH.AH{H0 H H':ar}{B:Nat}{s:Bs}{b:Bu}{own:Nat->Nat}{W:Nat->Prop}(h:eH H0 H B s b own)(f:Fr W H H')(hw:∀z,W z -> ¬gE B s z):eH (H'.low H0.au) H' B s b own :=
 ⟨by rw[f.ah _ h.lt (λ q=>hw _ q (.inl rfl))];exact h.row,qn h.lt f.au,h.d.fr f (λ z q w=>hw z q (.inr (.inl w))),h.dx,Own.fr h.nv f (λ z a q=>hw z q (.inr (.inr (.inl a)))),
  λ c n A hn e=>(h.no c n A hn e).AH f λ z q w=>hw z q (.inr (.inr (.inr (.inr ⟨c,A,e,w⟩)))),h.al,h.fl.fr f (λ z a q=>hw z q (.inr (.inr (.inr (.inl a))))),h.oB,h.oD,h.oN,h.oF,h.oC,h.lo⟩
end Go.Am
namespace Go.Am
open Lang
def xE(b:Bu):Nat×Nat:=(b.ns.length,b.l.length)
def Pu(b:Bu)(t:Bt):xE (b.step t)=xE b:=by
 unfold Bu.step Bu.xC
 repeat' split
 all_goals simp[xE,Bu.put]
structure KN(s t:CS):Prop where
 id:t.c.id=s.c.id
 ns:xE t.b=xE s.b
 cd:t.c.code=s.c.code
 ln:t.c.lines=s.c.lines
def KN.nl{s t:CS}(h:KN s t):t.b.ns.length=s.b.ns.length:=congrArg Prod.fst h.ns
def KN.ll{s t:CS}(h:KN s t):t.b.l.length=s.b.l.length:=congrArg CD h.ns
namespace CS
theorem KN.trans{s t u:CS}(h:KN s t)(a:KN t u):KN s u:=⟨a.id.trans h.id,a.ns.trans h.ns,a.cd.trans h.cd,a.ln.trans h.ln⟩
def KN.rf(s:CS):KN s s:=⟨rfl,rfl,rfl,rfl⟩
def eQ(s:CS)(k n v o:Int):KN s (s.lE k n v o):=⟨rfl,Pu _ _,rfl,rfl⟩
def WM(s:CS):KN s s.aA:=by unfold aA;simp only;split<;>exact⟨rfl,rfl,rfl,rfl⟩
def oP{s t u:CS}(h:KN s t)(e1:u.c.id=t.c.id)(e2:u.b=t.b)(a:u.c.code=t.c.code)(d:u.c.lines=t.c.lines):KN s u:=⟨e1.trans h.id,(congrArg xE e2).trans h.ns,a.trans h.cd,d.trans h.ln⟩
def Uc(s:CS):KN s s.cT:=by
 have h:=WM s;exact oP (t:=s.aA) h (by unfold cT leave fI;rfl) (by unfold cT leave fI;rfl) (by unfold cT leave fI;rfl) (by unfold cT leave fI;rfl)
def xk4(s:CS):KN s s.dD:=by
 unfold dD
 repeat' split
 all_goals first|exact⟨rfl,rfl,rfl,rfl⟩|exact oP (eQ s 5 7 0 0) rfl rfl rfl rfl
def IA(s:CS)(f:pH)(a:Int):KN s (s.nJ f a):=by
 unfold nJ;simp only
 repeat' split
 all_goals first|exact⟨rfl,rfl,rfl,rfl⟩|exact oP (eQ s 0 a 0 0) rfl rfl rfl rfl
def ah3(s:CS)(f:pH)(a:Int):KN s (s.jW f a):=by
 unfold jW;simp only
 repeat' split
 all_goals first|exact⟨rfl,rfl,rfl,rfl⟩|exact oP (eQ s 1 a f.value 0) rfl rfl rfl rfl
def Mn(s:CS):KN s s.ends:=by
 unfold ends;simp only
 repeat' split
 all_goals first|exact⟨rfl,rfl,rfl,rfl⟩|exact KN.trans (eQ s 4 0 0 0) (Uc _)
def Gd(s:CS):KN s s.ry:=by
 unfold ry;simp only
 repeat' split
 all_goals first|exact⟨rfl,rfl,rfl,rfl⟩|exact xk4 s|exact IA s _ _|exact ah3 s _ _|exact Mn s
def Dc(s:CS):KN s s.mg:=by
 unfold mg;simp only
 repeat' split
 all_goals first|exact⟨rfl,rfl,rfl,rfl⟩|exact⟨rfl,Pu _ _,rfl,rfl⟩
def G9(s:CS):KN s s.qW:=by
 unfold qW;simp only
 repeat' split
 all_goals exact oP (eQ s 2 0 _ _) rfl rfl rfl rfl
def ES(s:CS):KN s s.fO:=by
 unfold fO
 repeat' split
 all_goals first|exact⟨rfl,rfl,rfl,rfl⟩|exact Uc s
def fk{p:Prop}[Decidable p]{s a b:CS}(c:KN s a)(d:KN s b):KN s (if p then a else b):=by split;exact c;exact d
def P5(s:CS)(v:Int)(q:Bool):KN s (s.mW v q):=by
 unfold mW;simp only;have a:KN s {s with c:={s.c with so:=s.c.so.fH v q}}:=⟨rfl,rfl,rfl,rfl⟩
 generalize({s with c:={s.c with so:=s.c.so.fH v q}}:CS)=t at *;have hu:KN s (if s.c.so.aI=B4/\(s.c.so.fH v q).aI=B2 then t.aA else t):=fk (KN.trans a (WM _)) a;generalize(if s.c.so.aI=B4/\(s.c.so.fH v q).aI=B2 then t.aA else t)=u at *;have hw:KN s (if s.c.so.points<u.c.so.points then u.tell 4 0 0 0 else u):=fk (oP hu rfl rfl rfl rfl) hu;generalize(if s.c.so.points<u.c.so.points then u.tell 4 0 0 0 else u)=w at *;exact fk hw (KN.trans hw (ES _))
def GI(s:CS)(v:Int)(q:Bool):KN s (s.given v q):=by
 rw[Xc];have h:=P5 {s with c:={s.c with held:=s.c.held ||q && decide (s.c.so.want.a=0)}} v q;exact⟨h.id,h.ns,h.cd,h.ln⟩
def Hi(s:CS):KN s s.rj:=by
 unfold rj;simp only
 repeat' split
 all_goals first|exact KN.rf s|exact KN.trans (eQ s _ _ _ _) (GI _ _ _)|exact eQ s _ _ _ _
def GJ(s:CS):KN s s.aQ:=by
 unfold aQ hO;simp only
 repeat' split
 all_goals first|exact oP (eQ s _ _ _ _) rfl rfl rfl rfl|exact KN.trans (eQ s _ _ _ _) (Uc _)
def xh4(s:CS)(n:Int):KN s (s.hO (·.ph n)):=by
 unfold hO;exact fk (oP (eQ s 1 0 (aj .u64 (s.c.seq+2)) 0) rfl rfl rfl rfl) (eQ s 1 0 _ 0)
def xh3(s:CS):KN s (s.hO breaks):=by
 unfold hO;exact fk (oP (eQ s 1 0 (aj .u64 (s.c.seq+2)) 0) rfl rfl rfl rfl) (eQ s 1 0 _ 0)
def P7(s:CS):KN s s.act:=by
 unfold act;refine fk (Gd s) (fk (Dc s) (fk ?_ (fk ?_ (fk ?_ (fk (G9 s) (fk (Hi s) (fk (xh4 s 8) (fk (KN.trans (eQ s 4 0 0 0) (Uc _)) (fk (GJ s) (fk (xh3 s) (KN.rf s)))))))))))
 .refine fk (fk (oP (KN.trans (eQ s 0 1 0 0) (eQ _ 5 6 0 0)) rfl rfl rfl rfl) (oP (eQ s 0 1 0 0) rfl rfl rfl rfl)) (eQ s 0 1 0 0)
 .refine fk (fk ⟨rfl,(Pu _ _).trans (Pu _ _),rfl,rfl⟩ (oP (eQ s 0 0 0 0) rfl rfl rfl rfl)) (eQ s 0 0 0 0)
 .exact fk (oP (eQ s 0 0 0 0) rfl rfl rfl rfl) (eQ s 0 0 0 0)
def CN(s:CS):KN s s.step.1:=by
 unfold step;split
 .exact KN.rf s
 split
 .exact KN.rf s
 split
 .exact ⟨rfl,rfl,rfl,rfl⟩
 .exact P7 s
end CS
end Go.Am
namespace Go.Am
open Lang
def OL(n:Nat)(s t:CS):Prop:=∃l,t.o=s.o++l/\l.length<=n /\ ∀e∈l,e.core=s.c.id
def OL.same{n:Nat}{s t:CS}(e:t.o=s.o):OL n s t:=⟨[],by rw[e,zq],xz _,λ _ h=>by cases h⟩
def OL.one{n:Nat}{s t:CS}{x:eW}(e:t.o=s.o ++ [x])(h:x.core=s.c.id):OL (n+1) s t:=⟨[x],e,by rw[List.length_singleton];omega,λ y q=>by rw[yj.1 q];exact h⟩
def OL.of{n:Nat}{s t u:CS}(h:OL n s t)(e:u.o=t.o):OL n s u:=by unfold OL at *;rw[e];exact h
def OL.le{n m:Nat}{s t:CS}(h:OL n s t)(q:n<=m):OL m s t:=by have⟨l,a,b,c⟩:=h;exact⟨l,a,xw b q,c⟩
theorem OL.trans{n m:Nat}{s t u:CS}(h:OL n s t)(g:OL m t u)(i:t.c.id=s.c.id):OL (n+m) s u:=by
 have⟨l,a,b,c⟩:=h;have⟨j,d,k,f⟩:=g;exact⟨l++j,by rw[d,a,yf],by rw[xr];omega,λ e q=>(z6.1 q).elim (c e) λ q=>(f e q).trans i⟩
namespace CS
def FO(c:Co)(k a v d:Int):(K7 c k a v d).core=c.id:=by unfold K7;split<;>rfl
def U'(s:CS):OL 1 s s.aA:=by unfold aA;simp only;split;exact OL.same rfl;exact OL.one rfl (FO ..)
def Tv(s:CS):OL 1 s s.cT:=(U' s).of rfl
def S_(s:CS):OL 1 s s.breaks:=OL.one rfl (FO ..)
def xlo(s:CS):OL 1 s s.dD:=by
 unfold dD
 repeat' split
 all_goals first|exact OL.same rfl|exact OL.one rfl (FO ..)
def Hv(s:CS)(f:pH)(a:Int):OL 1 s (s.nJ f a):=by
 unfold nJ;simp only
 repeat' split
 all_goals first|exact OL.same rfl|exact OL.one rfl (FO ..)
def Da(s:CS)(f:pH)(a:Int):OL 1 s (s.jW f a):=by
 unfold jW;simp only
 repeat' split
 all_goals first|exact OL.same rfl|exact OL.one rfl (FO ..)
def Mm(s:CS):OL 1 s s.ends:=by
 unfold ends;simp only
 repeat' split
 all_goals first|exact OL.same rfl|exact Tv _
def G2(s:CS):OL 1 s s.ry:=by
 unfold ry;simp only
 repeat' split
 all_goals first|exact OL.same rfl|exact xlo s|exact Hv s _ _|exact Da s _ _|exact Mm s
def ag9(s:CS):OL 1 s s.mg:=by
 unfold mg;simp only
 repeat' split
 all_goals exact OL.one rfl (FO ..)
def G1(s:CS):OL 1 s s.qW:=by
 unfold qW;simp only
 repeat' split
 all_goals first|exact OL.same rfl|exact OL.one rfl (FO ..)
def ac5(s:CS):OL 1 s s.fO:=by
 unfold fO
 repeat' split
 all_goals first|exact OL.same rfl|exact OL.one rfl (FO ..)|exact Tv s|exact S_ s
def eY{p:Prop}[Decidable p]{n:Nat}{s a b:CS}(c:OL n s a)(d:OL n s b):OL n s (if p then a else b):=by split;exact c;exact d
def OT(s:CS)(v:Int)(q:Bool):OL 3 s (s.mW v q):=by
 unfold mW;simp only;have a:OL 0 s {s with c:={s.c with so:=s.c.so.fH v q}}:=OL.same rfl;have it:({s with c:={s.c with so:=s.c.so.fH v q}}:CS).c.id=s.c.id:=rfl;generalize({s with c:={s.c with so:=s.c.so.fH v q}}:CS)=t at *;have hu:OL 1 s (if s.c.so.aI=B4/\(s.c.so.fH v q).aI=B2 then t.aA else t):=eY (a.trans (U' _) it) (a.le (by decide));have b:(if s.c.so.aI=B4/\(s.c.so.fH v q).aI=B2 then t.aA else t).c.id=s.c.id:=by split;exact(WM t).id.trans it;exact it
 generalize(if s.c.so.aI=B4/\(s.c.so.fH v q).aI=B2 then t.aA else t)=u at *;have hw:OL 2 s (if s.c.so.points<u.c.so.points then u.tell 4 0 0 0 else u):=eY (hu.trans (OL.one (n:=0) rfl (FO ..)) b) (hu.le (by decide));have d:(if s.c.so.points<u.c.so.points then u.tell 4 0 0 0 else u).c.id=s.c.id:=by split<;>exact b
 generalize(if s.c.so.points<u.c.so.points then u.tell 4 0 0 0 else u)=w at *;exact eY (hw.le (by decide)) (hw.trans (ac5 _) d)
def GO(s:CS)(v:Int)(q:Bool):OL 3 s (s.given v q):=by
 rw[Xc];exact OT {s with c:={s.c with held:=s.c.held ||q && decide (s.c.so.want.a=0)}} v q
def HW(s:CS):OL 3 s s.rj:=by
 unfold rj;simp only
 repeat' split
 all_goals first|exact OL.same rfl|exact GO (s.lE _ _ _ _) _ _
def Iy(s:CS):OL 1 s s.aQ:=by
 unfold aQ hO;simp only
 repeat' split
 all_goals first|exact OL.same rfl|exact Tv (s.lE _ _ _ _)
def xik(s:CS)(n:Int):OL 1 s (s.hO (·.ph n)):=by
 unfold hO;exact eY (OL.same rfl) (OL.same rfl)
def xij(s:CS):OL 1 s (s.hO breaks):=by
 unfold hO;exact eY (S_ (s.lE 1 0 (aj .u64 (s.c.seq+2)) 0)) (OL.same rfl)
def OC(s:CS):OL 3 s s.act:=by
 unfold act;have d:∀{t:CS},OL 1 s t->OL 3 s t:=λ h=>h.le (by decide);refine eY (d (G2 s)) (eY (d (ag9 s)) (eY ?_ (eY ?_ (eY ?_ (eY (d (G1 s)) (eY (HW s) (eY (d (xik s 8)) (eY (d (Tv (s.lE 4 0 0 0))) (eY (d (Iy s)) (eY (d (xij s)) (OL.same rfl)))))))))))
 .exact eY (eY (OL.same rfl) (OL.same rfl)) (OL.same rfl)
 .exact eY (eY (OL.same rfl) (OL.same rfl)) (OL.same rfl)
 .exact eY (OL.same rfl) (OL.same rfl)
def Ba(s:CS):OL 3 s s.step.1:=by
 unfold step;split
 .exact OL.same rfl
 split
 .exact OL.same rfl
 split
 .exact OL.one rfl (FO ..)
 .exact OC s
end CS
end Go.Am
namespace Go.Am
open Lang Go.Proofs
variable{M:ak}[MK M]
def gR(b:Int):List AV:=[.int .u8 b]
def Um(b:Int):(gR b).length=1:=rfl
noncomputable def uV(v:AV):AV:=(Op.aD 1 [B1 0,B5,B5] [v,.int .i64 8]).getD .nils
noncomputable def pw(v:AV):AV:=(Op.aD 1 [B5,B1 0,B5] [v,.int .i64 8]).getD .nils
noncomputable def wV(v:AV):Nat->AV
 |0=>v
 |i+1=>uV (wV v i)
def yH{H:ar}{v:AV}{bs:List Int}(h:bV gR 1 H v bs):∀i,8*i<=bs.length->bV gR 1 H (wV v i) (bs.drop (8*i))/\(wV v i=.nils\/aE (wV v i)=aE v)
 |0,_=>⟨h,.inr rfl⟩
 |i+1,hi=>by
  have⟨a,d⟩:=yH h i (by omega);have⟨c,f,b,g⟩:=a.from Um (k:=8) (by rw[yw];omega) (z:=8) rfl .i64;have e:wV v (i+1)=c:=by show uV (wV v i)=c;unfold uV;rw[f];rfl
  rw[e];refine⟨by rw[Fv]at b;rw[show 8*(i+1)=8*i+8 by omega];exact b,g.imp id λ q=>?_⟩;rcases d with w|w
  .have:(bs.drop (8*i)).length=0:=by
    have:=a.len;rw[w]at this;have q:Op.db [AV.nils]=B1 (.int .i64 0):=rfl;rw[q]at this;injection this with this;injection this with _ this;omega
   rw[yw]at this;omega
  .rw [q];exact w
def IX{H:ar}{v:AV}{bs:List Int}(h:bV gR 1 H v bs){i:Nat}(j:8*(i+1)<=bs.length):Op.aD 1 [B5,B1 0,B5] [wV v i,.int .i64 8]=B1 (pw (wV v i))/\Op.aD 1 [B1 0,B5,B5] [wV v i,.int .i64 8]=B1 (wV v (i+1))/\bV gR 1 H (pw (wV v i)) ((bs.drop (8*i)).take 8):=by
 have⟨a,g⟩:=yH h i (by omega);have⟨f,c,e,n⟩:=a.upto Um (k:=8) (by rw[yw];omega) (z:=8) rfl .i64;have⟨d,b,l,m⟩:=a.from Um (k:=8) (by rw[yw];omega) (z:=8) rfl .i64;have e1:pw (wV v i)=f:=by unfold pw;rw[c];rfl
 have e2:wV v (i+1)=d:=by show uV (wV v i)=d;unfold uV;rw[b];rfl
 exact⟨by rw[e1];exact c,by rw[e2];exact b,by rw[e1];exact e⟩
def xck{H0:ar}{a:Nat}{sv:AV}{bs:List Int}(hs:bV gR 1 H0 sv bs)(J:H0.get a=B1 (OR [sv] sH))(hb:a<H0.au)(hl:bs.length<=1000000) :
 rk M Nl [] [.ptr a 0] (λ _=>False) (λ z=>z=a) H0 ((MT (bs.length / 8)).map λ i=>[pw (wV sv i)]):=by
 intro Y R S k H1 P L u x loc H step;have⟨p1,T,I⟩:=L a (.inr rfl)
 suffices h:zb M Nl [.fn (.yield Y) [] [],.ptr a 0] H1 (JO R S k (λ z=>z=a) H1 ((MT (bs.length / 8)).map λ i=>[pw (wV sv i)]).length)by
  have⟨v,H',N,W',U,W,X⟩:=h.elim;exact⟨v,H',W',N,U,W,X⟩
 refine q6k ?_;rw[xt,zy];simp only[aa,bc,SQ];refine da.intro (λ n E g=>∃(i:Nat)(V:Nat->Prop),E=[(0,.fn (.yield Y) [] []),(1,.ptr a 0)]/\n=bs.length / 8-i/\i<=bs.length / 8/\R i V g/\(∀b,V b->b<g.au/\(k b\/H1.au<=b))/\Fr (λ b=>k b\/b=a) H1 g/\g.get a=B1 (OR [wV sv i] sH)) ?_ ?_
 .exact ⟨_,_,⟨0,k,rfl,rfl,xz _,u,λ b hb=>⟨x b hb,.inl hb⟩,Fr.refl _,by rw[T];exact J⟩,by simp only[aa,bc]⟩
 rintro n E g ⟨i,V,rfl,rfl,hi,hR,hV,r,hg⟩;have K:8*i<=bs.length:=by omega
 have ll:=(yH hs i K).1.len;rw[yw]at ll;have lb:Op.ae [.ptr a 0] g=B1 (wV sv i):=x9 (xb hg) 0;have nF:=r.au;rcases xy i (bs.length / 8)with C|O
 .have s:(8:Int)<=((bs.length-8*i:Nat):Int):=by omega
  have⟨Z,u2,u3⟩:=IX hs (i:=i) (by omega);have⟨bb,f,o,hr,A,m,Q,j⟩:=step i [pw (wV sv i)] (by rw[xp,kj C];rfl) V g hR hV r;have nb:¬V a:=λ q=>(hV a q).2.elim I λ w=>by omega
  have F:f.get a=B1 (OR [wV sv i] sH):=by rw[A.ah a (by omega) nb];exact hg
  have nf:=A.au;have l3:Op.ae [.ptr a 0] f=B1 (wV sv i):=x9 (xb F) 0;have l:Fr (λ b=>k b\/b=a) H1 f:=r.trans A λ y q=>(hV y q).2.imp .inl id;have d:∀y,o y->y<f.au/\(k y\/H1.au<=y):=λ y q=>⟨(m y q).1,(m y q).2.elim (λ w=>(hV y w).2) λ w=>.inr (by omega)⟩
  simp only[aa,bc,SQ,lb,ll,qy s,Z];refine C3.uo hr ?_;cases bb with
  |true =>
   have one:aB (wV sv (i+1))=true:=Sl.one (yH hs (i+1) (by omega)).1;have st:=(At.st (c:=[wV sv i]) (t:=sH) ⟨F,by omega⟩ 0 one (by simp):Op.store 1 [.ptr a 0,wV sv (i+1)] f=_)
   simp only[aa,bc,SQ,l3,u2,st,List.set];have p:Fr (On a) f (f.set a (OR [wV sv (i+1)] sH)):=cm ..;have D:¬o a:=λ q=>(d a q).2.elim I λ w=>by omega
   exact⟨_,_,⟨i+1,o,rfl,rfl,by omega,loc _ _ _ _ (Q rfl) (λ y G=>p.ah y (d y G).1 λ(e:y=a)=>D (by rw[<-e];exact G)) p.au,λ y q=>⟨qn (d y q).1 p.au,(d y q).2⟩,l.trans p λ y(q:y=a)=>.inl (.inr q),xc ..⟩,by simp only[aa,bc],by omega⟩
  |false =>
   simp only[aa,bc];exact⟨o,l,d,.inr (j rfl)⟩
 .have B:i=bs.length / 8:=by omega
  have s:¬(8:Int)<=((bs.length-8*i:Nat):Int):=by omega
  simp only[aa,bc,SQ,lb,ll,s];exact⟨V,r,hV,.inl (by rw[<-B];exact hR)⟩
end Go.Am
namespace Go.Am
open Lang Go.Proofs
variable{M:ak}[MK M]
def IL(a b:Int):∃n,Op.bin .or [.int .u32 a,.int .u32 b]=B1 (.int .u32 n):=⟨_,rfl⟩
noncomputable def Tp(a b:Int):Int:=Classical.choose (IL a b)
def Rn(a b:Int):Op.bin .or [.int .u32 a,.int .u32 b]=B1 (.int .u32 (Tp a b)):=Classical.choose_spec (IL a b)
def wL(a:Int)(n:Nat):Int:=aj .u32 (aj .u32 a*2 ^ (min n (IntKind.bits .u32)))
def Vc(a:Int)(n:Nat):Op.bin .shl [.int .u32 (aj .u32 a),.int .u64 (n:Int)]=B1 (.int .u32 (wL a n)):=Js ..
def Ge(a:Int):Op.bin .shl [.int .u32 (aj .u32 a),.int .u64 24]=B1 (.int .u32 (wL a 24)):=Vc a 24
def Gp(a:Int):Op.bin .shl [.int .u32 (aj .u32 a),.int .u64 16]=B1 (.int .u32 (wL a 16)):=Vc a 16
def KT(a:Int):Op.bin .shl [.int .u32 (aj .u32 a),.int .u64 8]=B1 (.int .u32 (wL a 8)):=Vc a 8
noncomputable def xS(p:List Int):iT:=⟨aj .i64 (p.getD 0 0),aj .i64 (p.getD 1 0),aj .i64 (p.getD 2 0),aj .i64 (p.getD 3 0),aj .i64 (aj .i32 (Tp (Tp (Tp (wL (p.getD 4 0) 24) (wL (p.getD 5 0) 16)) (wL (p.getD 6 0) 8)) (aj .u32 (p.getD 7 0))))⟩
noncomputable def nU(bs:List Int):List iT:=(MT (bs.length / 8)).map λ i=>xS ((bs.drop (8*i)).take 8)
structure Pj(xs:List iT)(t:Nat)(i:Nat)(V:Nat->Prop)(Hx:ar):Prop where
 vt:V t
 lt:t<Hx.au
 ls:∃lv,Hx.get t=B1 (OR [lv] uy)/\aT fZ AN 5 Hx lv (xs.take i) /\ ∀a,aM lv a->V a/\t<a
def Pj.loc{ys:List iT}{t i:Nat}{V:Nat->Prop}{a Hb:ar}(h:Pj ys t i V a)(hs:∀x,V x->Hb.get x=a.get x)(hn:a.au<=Hb.au):Pj ys t i V Hb:=by
 have⟨lv,l1,l2,l3⟩:=h.ls;refine⟨h.vt,qn h.lt hn,lv,by rw[hs _ h.vt];exact l1,?_,l3⟩;exact Own.fr l2 (⟨hn,λ b _ hw=>hs b (vx.1 hw)⟩:Fr (λ b=>¬V b) a Hb) λ x c w=>w (l3 x c).1
def xdf{H:ar}{sv:AV}{bs:List Int}(hs:bV gR 1 H sv bs)(hb:bs≠[]->aE sv<H.au)(one:aB sv=B4)(hl:bs.length<=100000) :
 zb M Qq [sv] H λ v H'=>aT fZ AN 5 H' v ((nU bs).take 1024)/\(∀z,aM v z->H.au<=z)/\Fr Em H H':=by
 refine xbt ?_;obtain⟨H1,e1,f1,n1,-⟩:=cD H (OR [.nils] uy);obtain⟨J,e2,F,-,g2⟩:=cD H1 (OR [sv] sH);have n2:J.au=H.au+2:=by rw[e2,xx,n1]
 have Q:J.get H.au=B1 (OR [.nils] uy):=by rw[F.ah _ (by omega) id,e1,xm]
 have O:=f1.em F;have s2:bV gR 1 J sv bs:=Sl.em hs O;have cs:AV.cells sv=[sv]:=FL one;have al:zb M qyq [sv] H1 λ v H'=>v=.fn (.func Nl) [] [.ptr H1.au 0]/\H'=J:=by
  refine xbu ?_;have mk:Op.bJ Nl 0 [.ptr H1.au 0]=B1 (.fn (.func Nl) [] [.ptr H1.au 0]):=rfl;simp only[aa,bc,xbv,cs,<-e2];rfl
 simp only[aa,bc,Tl,<-e1];refine C3.q al λ v H'⟨hv,hh⟩=>?_;subst hv;subst hh;simp only[aa,bc];have xl:(nU bs).length=bs.length / 8:=by unfold nU;rw[xt,zy]
 refine iI.iter (fn:=TN) (lp:=PD) (pa:=VK 0) (pb:=Zn 0) q9c qsz.1 qsz.2 (by decide) q6i q6j
  (xck s2 g2 (by omega) (by omega)) (λ i V N=>i<=1024/\Pj (nU bs) H.au i V N) (λ e V N=>e=.exit 0/\Pj (nU bs) H.au 1024 V N) (λ x=>x=H.au) (qm _) ?_ ?_ ?_ ?_ ?_ ?_ ?_ ?_
 .rintro x (q|q)
  .exact q.elim
  .exact ⟨by omega,rfl,λ w=>by omega⟩
 .exact λ x T=>by omega
 .exact ⟨xz _,rfl,by omega,.nils,Q,Own.nil ..,λ x q=>(q.1 rfl).elim⟩
 .exact λ i V Ha Hb h hs hn=>⟨h.1,h.2.loc hs hn⟩
 .exact λ e V Ha Hb h hs hn=>⟨h.1,h.2.loc hs hn⟩
 .intro L i lr lb x T hL V o ⟨hi,s⟩ hV hf6 hnL hL6 hgL;rw[xp,xq]at T;obtain⟨j,S,rfl⟩:=T;have u:i<bs.length / 8:=by have:=(qt.1 S).1;rw[zy]at this;exact this
  rw[kj u]at S;cases S;refine⟨_,rfl,?_⟩;have w:=Tl M ⟨B1 L,Qq⟩;simp only[aa,bc,w,Fc];refine⟨hgL,?_⟩;have P:Fr (On L) o (o.set L lb):=(Fr.refl o).set (W:=On L) (.inl rfl) _;have gL:(o.set L lb).get L=B1 lb:=xc ..;have nL:(o.set L lb).au=o.au:=rfl;have nf6:=hf6.au;have bne:bs≠[]:=λ q=>by rw[q]at u;simp at u
  have s6:bV gR 1 (o.set L lb) sv bs:=by
   refine Sl.fr (Sl.fr s2 hf6 (.inr λ q=>?_)) P (.inr λ(q:aE sv=L)=>?_)
   .have:=hb bne;rcases q with(q:aE sv=H.au)|(q:aE sv=H1.au)<;>omega
   .have:=hb bne;omega
  have g:=s.loc (Hb:=o.set L lb) (λ y hy=>by rw[ki (λ q:L=y=>hnL (by rw[q];exact hy))]) (qm _);generalize o.set L lb=H8 at *;have⟨f,l1,l2,l3⟩:=g.ls;have D:Op.ae [.ptr H.au 0] H8=B1 f:=x9 (xb l1) 0;have ln:=(aT.sl l2).len;have nq:((nU bs).take i).length=i:=by rw[ya];omega
  rw[nq]at ln
  by_cases q:i=1024
  .have Y:(i:Int)=1024:=by omega
   simp only[aa,bc,D,ln,qy Y];refine⟨rfl,gL,V,λ z hz=>⟨by have:=(hV z hz).1;omega,.inl hz⟩,P.mono λ z _ q=>.inr q,.inr ⟨trivial,rfl,by rw[<-q];exact g⟩⟩
  .have Y:¬(i:Int)=1024:=by omega
   obtain⟨-,-,Z⟩:=IX s6 (i:=i) (by omega);obtain⟨p,hp⟩:∃p,p=(bs.drop (8*i)).take 8:=⟨_,rfl⟩
   rw[<-hp]at Z;have p8:p.length=8:=by rw[hp,ya,yw];omega
   have at':∀k:Nat,k<8 -> ∃z,p[k]? = B1 z/\p.getD k 0=z:=λ k hk=>⟨p[k],by rw[xe],by rw[zr,xe];rfl⟩
   have rd:∀k:Nat,k<8 -> ∀n:Int,n=(k:Int) -> ∃a,Op.aP 1 [pw (wV sv i),.int .i64 n]=B1 a/\Op.ae [a] H8=B1 (.int .u8 (p.getD k 0)):=λ k hk n hn=>by
    have⟨z,h1,h2⟩:=at' k hk;exact⟨_,Z.idx h1 hn .i64,by rw[Z.kW Um h1 (by decide),h2];rfl⟩
   have⟨a0,i0,r0⟩:=rd 0 (by omega) 0 rfl;have⟨a1,i1,r1⟩:=rd 1 (by omega) 1 rfl;have⟨a2,i2,r2⟩:=rd 2 (by omega) 2 rfl;have⟨a3,i3,r3⟩:=rd 3 (by omega) 3 rfl;have⟨a4,i4,r4⟩:=rd 4 (by omega) 4 rfl;have⟨a5,i5,r5⟩:=rd 5 (by omega) 5 rfl;have⟨a6,i6,r6⟩:=rd 6 (by omega) 6 rfl;have⟨a7,i7,r7⟩:=rd 7 (by omega) 7 rfl;have bd:∀a b c d m:Int,Op.build [.int .i64 0,.int .i64 0,.int .i64 0,.int .i64 0,.int .i64 0] [(0,1),(1,1),(2,1),(3,1),(4,1)] [.int .i64 a,.int .i64 b,.int .i64 c,.int .i64 d,.int .i64 m]=B1 (.agg (fZ ⟨a,b,c,d,m⟩)):=λ _ _ _ _ _=>rfl;have tk:(nU bs).take (i+1)=(nU bs).take i ++ [xS p]:=by
    rw[kc,show(nU bs)[i]? = B1 (xS p)by unfold nU;rw[xp,kj u,hp];rfl];rfl
   simp only[aa,bc,w,D,ln,Y,i0,i1,i2,i3,i4,i5,i6,i7,r0,r1,r2,r3,r4,r5,r6,r7,Ge,Gp,KT,Rn,bd];refine aT.rz (bytes:=40) l2 (a:=xS p) rfl rfl rfl rfl (by decide) (by omega) (by omega) λ l K C t G=>?_;have q9:At K H.au uy [f]:=⟨by rw[t.ah _ g.lt λ q=>by have:=(l3 _ q).2;omega];exact l1,qn g.lt t.au⟩
   have o1:aB l=true:=by have:=Sl.one (Own.sl C);exact this
   have st:=q9.st 0 o1 (by simp);obtain⟨E,r⟩:∃X,X=K.set H.au (OR ([f].set 0 l) uy):=⟨_,rfl⟩
   rw[<-r]at st;have B:Fr (On H.au) K E:=by rw[r];exact cm ..
   simp only[aa,bc,st];have I:∀y,aM l y->H.au<y:=λ y q=>(G y q).elim (λ q=>(l3 y q).2) λ q=>by have:=g.lt;omega
   have nf:=t.au;have U:E.au=K.au:=by rw[r];rfl
   refine⟨rfl,?_,λ y=>V y\/aM l y,?_,?_,.inl ⟨rfl,by omega,.inl s.vt,by have:=g.lt;omega,l,by rw[r,xc];rfl,?_,λ y q=>⟨.inr q,I y q⟩⟩⟩
   .rw [B.ah L (by omega) (λ(q:L=H.au)=>hnL (by rw[q];exact s.vt)),t.ah L (by omega) λ q=>hnL (l3 _ q).1];exact gL
   .rintro y (q|q)
    .exact ⟨by have:=(hV y q).1;omega,.inl q⟩
    .refine ⟨by rw[U];exact Own.lt C y q,?_⟩;rcases G y q with w|w
     .exact .inl (l3 y w).1
     .exact .inr (by omega)
   .exact (((P.mono λ z _ q=>.inr q).trans t λ y q=>.inl (.inl (l3 y q).1)).trans B λ y(q:y=H.au)=>.inl (.inl (by rw[q];exact s.vt)))
   .rw [tk];exact Own.fr C B λ y q(w:y=H.au)=>by have:=I y q;omega
 .rintro d V H' hd R hg t hV ⟨hi,s⟩;rw[xt,zy]at s hi;have⟨f,l1,l2,l3⟩:=s.ls;rw[<-xl,MG]at l2;have A:(nU bs).take 1024=nU bs:=ze (by omega);have fd:Fr (On d) H' (H'.set d (.deferred B5)):=(Fr.refl H').set (W:=On d) (.inl rfl) _;have D:Op.ae [.ptr H.au 0] H'=B1 f:=x9 (xb l1) 0;simp only[aa,bc,Tl,D];rw[A];refine⟨hg,Own.fr l2 fd λ z q(w:z=d)=>(hV z (l3 z q).1).2.2 w,λ z q=>?_,?_⟩
  .have:=(l3 z q).2;omega
  .exact (O.trans (t.mono λ z _ q=>q) λ z q=>.inr (by rcases q with(q:z=H.au)|(q:z=H1.au)<;>omega)).trans fd λ z(q:z=d)=>.inr (by omega)
 .rintro e d V H' he hd R hg t hV ⟨rfl,s⟩;have⟨f,l1,l2,l3⟩:=s.ls;have fd:Fr (On d) H' (H'.set d (.deferred B5)):=(Fr.refl H').set (W:=On d) (.inl rfl) _;have D:Op.ae [.ptr H.au 0] H'=B1 f:=x9 (xb l1) 0;simp only[aa,bc,Tl,D];refine⟨hg,Own.fr l2 fd λ z q(w:z=d)=>(hV z (l3 z q).1).2.2 w,λ z q=>?_,?_⟩
  .have:=(l3 z q).2;omega
  .exact (O.trans (t.mono λ z _ q=>q) λ z q=>.inr (by rcases q with(q:z=H.au)|(q:z=H1.au)<;>omega)).trans fd λ z(q:z=d)=>.inr (by omega)
end Go.Am
namespace Go.Am
open Lang Go.Proofs
variable{M:ak}[MK M]
structure Wo where
 b:Bu
 cs:List Co
 h:List eW
 n:Int
def lR(B:Nat)(cvs hv:AV)(n:Int):List AV:=[.ptr B 0,cvs,hv,.int .i64 n]
def t9(w:Nat)(cvs hv:AV)(z:Nat):Prop:=z=w\/aM cvs z\/aM hv z
structure fA(Hb H:ar)(w B:Nat)(cvs hv:AV)(bs:Bs)(own:Nat->Nat)(ks:List Ck)(V:Int->L8)(k:Nat)(x:Wo):Prop where
 row:At H w FV (lR B cvs hv x.n)
 cl:aT po AU 1 H cvs (ks.map Ck.p)
 hl:aT eW.enc jj 9 H hv x.h
 b:eH Hb H B bs x.b own
 I:BuI x.b V
 C:BC x.b k
 U:zD x.b
 co:∀(i:Nat)c A,x.cs[i]? = B1 c->ks[i]? = B1 A->dP H A.o A.p A.f A.l A.sp A.cv A.rv .nils .nili c [] k/\c.id=i
 kl:ks.length=x.cs.length
 nl:x.cs.length<=x.b.ns.length
 dj:∀(i:Nat)A,ks[i]? = B1 A -> ∀z,gE B bs z\/t9 w cvs hv z->A.o z=0
 d2:∀(i j:Nat)A A',ks[i]? = B1 A->ks[j]? = B1 A'->i≠j -> ∀z,z<H.au->A.o z≠0->A'.o z=0
 lo:∀(i:Nat)A,ks[i]? = B1 A -> ∀z,z<H.au->A.o z≠0->Hb.au<=z
 wb:∀z,t9 w cvs hv z -> ¬gE B bs z/\Hb.au<=z
 w1:¬aM cvs w /\ ¬aM hv w
 w2:∀z,aM cvs z -> ¬aM hv z
section
variable{Hb H H':ar}{w B k k' i:Nat}{cvs hv:AV}{bs:Bs}{own:Nat->Nat}{ks:List Ck}{V:Int->L8}{x:Wo}{c:Co}{A:Ck}
def fA.re(h:fA Hb H w B cvs hv bs own ks V k x)(d:x.cs[i]? = B1 c)(a:ks[i]? = B1 A):FE (A.at Hb H B bs k) 0 c x.b H A.o A.rv bs own V:=by
 have⟨f,g⟩:=h.co i c A d a;have j:=(qt.1 d).1;have hn:=h.nl;exact⟨f,h.b,h.I,h.C,h.U,by rw[g];omega,λ z q=>h.dj i A a z (.inl q),h.lo i A a,λ z q e=>.inl ⟨q,e⟩,λ z q=>.inl q,Fr.refl H⟩
def fA.low(h:fA Hb H w B cvs hv bs own ks V k x){z:Nat}(q:t9 w cvs hv z):z<H.au:=by
 rcases q with rfl|q|q
 .exact h.row.2
 .exact Own.lt h.cl z q
 .exact Own.lt h.hl z q
def ot{o:Nat->Nat}{n z:Nat}(e:aO o n 0 z≠0):z<n/\o z≠0:=by
 rcases xy z n with a|a
 .rw [wq a]at e;exact⟨a,e⟩
 .rw [ng a]at e;exact(e rfl).elim
theorem fA.back(h:fA Hb H w B cvs hv bs own ks V k x)(S:x.cs[i]? = B1 c)(s:ks[i]? = B1 A){u:Co}{F:Bu}{o':Nat->Nat}{rv':AV}{bs':Bs}{aO:Nat->Nat}{Q:Int->L8}(N:u.id=c.id)(O:F.ns.length=x.b.ns.length)
 (q:FE (A.at Hb H B bs k) k' u F H' o' rv' bs' aO Q):fA Hb H' w B cvs hv bs' aO ((ks.map λ f=>{f with o:=Go.Am.aO f.o H.au 0}).set i {A with rv:=rv',o:=o'}) Q (k+k') {x with b:=F,cs:=x.cs.set i u}:=by
 have Y:=(qt.1 S).1;have hk:=h.kl;have nx:H.au<=H'.au:=q.fr.au;have⟨X,L⟩:=h.co i c A S s;have ex:∀{j:Nat}{f:Ck},((ks.map λ f=>{f with o:=Go.Am.aO f.o H.au 0}).set i {A with rv:=rv',o:=o'})[j]? = B1 f->(j=i/\f = {A with rv:=rv',o:=o'})\/j≠i /\ ∃a,ks[j]? = B1 a/\f = {a with o:=Go.Am.aO a.o H.au 0}:=λ{j f}e=>by
  by_cases w:j=i
  .subst w;rw[zj (by rw[xt];omega)]at e;injection e with e;exact .inl ⟨rfl,e.symm⟩
  .rw [zn (λ e=>w e.symm),xp]at e;have⟨a,e1,e2⟩:=xq.1 e;exact .inr ⟨w,a,e1,e2.symm⟩
 -- what may have K is not the D own,Z v G
 have nw:∀z,t9 w cvs hv z -> ¬((A.at Hb H B bs k).o z≠0\/(A.at Hb H B bs k).W z):=λ z e r=>r.elim (λ r=>r (h.dj i A s z (.inr e))) (h.wb z e).1;have nc:∀{j:Nat}{a:Ck},ks[j]? = B1 a->j≠i -> ∀z,z<H.au->a.o z≠0 -> ¬((A.at Hb H B bs k).o z≠0\/(A.at Hb H B bs k).W z):=λ{j a}e ne z g r t=>t.elim (λ t=>r (h.d2 i j A a s e (λ e=>ne e.symm) z g t)) λ t=>r (h.dj j a e z (.inl t));have kp:((ks.map λ f=>{f with o:=Go.Am.aO f.o H.au 0}).set i {A with rv:=rv',o:=o'}).map Ck.p=ks.map Ck.p:=by
  apply kz;intro j;rw[xp,xp]
  by_cases w:j=i
  .subst w;rw[zj (by rw[xt];omega),s];rfl
  .rw [zn (λ e=>w e.symm),xp,Option.map_map];rfl
 refine⟨h.row.fr q.fr (nw w (.inl rfl)),by rw[kp];exact Own.fr h.cl q.fr λ z e=>nw z (.inr (.inl e)),Own.fr h.hl q.fr λ z e=>nw z (.inr (.inr e)),q.b,q.I,q.C,q.U,λ j d f n m=>?_,by rw[zf,xt,zf];exact hk,by show(x.cs.set i u).length<=F.ns.length;rw[zf,O];exact h.nl,λ j f m z e=>?_,λ j j2 A1 A2 T R ne z g e=>?_,λ j f m z g e=>?_,λ z e=>⟨λ r=>?_,(h.wb z e).2⟩,h.w1,h.w2⟩
 .rcases ex m with⟨rfl,rfl⟩|⟨w,a,e1,rfl⟩
  .have n:(x.cs.set j u)[j]? = B1 d:=n;rw[zj Y]at n;cases n;exact⟨q.c,N.trans L⟩
  .have n:(x.cs.set i u)[j]? = B1 d:=n;rw[zn (λ e=>w e.symm)]at n;have⟨r1,r2⟩:=h.co j d a n e1;exact⟨r1.fr q.fr (λ z g r=>nc e1 w z g r) (λ z g=>wq g) (by omega),r2⟩
 .rcases ex m with⟨rfl,rfl⟩|⟨w,a,e1,rfl⟩
  .rcases e with e|e
   .exact q.dj z e
   .have g:=h.low e;refine zu λ r=>?_;rcases q.go z (by omega) r with⟨_,t⟩|t
    .exact t (h.dj j A s z (.inr e))
    .have:H.au<=z:=t;omega
  .refine zu λ r=>?_;have⟨g,r⟩:=ot r;rcases e with e|e
   .exact (q.gb z e).elim (λ t=>r (h.dj j a e1 z (.inl t))) (Nat.not_le.2 g)
   .exact r (h.dj j a e1 z (.inr e))
 .rcases ex T with⟨rfl,rfl⟩|⟨w1,P,e1,rfl⟩
  .rcases ex R with⟨rfl,-⟩|⟨w2,E,e2,rfl⟩
   .exact (ne rfl).elim
   .show Go.Am.aO E.o H.au 0 z=0;rcases q.go z g e with⟨J,t⟩|t
    .have J:z<H.au:=J;rw[wq J];exact h.d2 _ _ A E s e2 ne z J t
    .have t:H.au<=z:=t;exact ng t
  .have ⟨l,e⟩:=ot e;rcases ex R with⟨rfl,rfl⟩|⟨w2,E,e2,rfl⟩
   .refine zu λ r=>?_;rcases q.go z g r with⟨_,t⟩|t
    .exact t (h.d2 _ _ P A e1 s w1 z l e)
    .exact Nat.not_le.2 l t
   .exact (wq l).trans (h.d2 _ _ P E e1 e2 ne z l e)
 .rcases ex m with⟨rfl,rfl⟩|⟨w,a,e1,rfl⟩
  .exact q.hb z g e
  .have ⟨l,e⟩:=ot e;exact h.lo j a e1 z l e
 .rcases q.gb z r with t|t
  .exact (h.wb z e).1 t
  .have:H.au<=z:=t;have:=h.low e;omega
def fA.turn(h:fA Hb H w B cvs hv bs own ks V k x){X:Nat->Prop}{hv':AV}{bs':Bs}{aO:Nat->Nat}{v:Int->L8}{m:Bu}{q:List eW}{n':Int}(f:Fr X H H')(J:∀z,X z->gE B bs z\/t9 w cvs hv z)(kk:k<=k')(nl:m.ns.length=x.b.ns.length)(row:At H' w FV (lR B cvs hv' n'))(hl:aT eW.enc jj 9 H' hv' q)(b:eH Hb H' B bs' m aO)(I:BuI m v)(C:BC m k')(U:zD m)(cl:∀z,aM cvs z -> ¬X z)(hb:∀z,gE B bs' z->gE B bs z\/H.au<=z)(u:∀z,aM hv' z->aM hv z\/H.au<=z)(nb:∀z,H.au<=z->aM hv' z -> ¬gE B bs' z):fA Hb H' w B cvs hv' bs' aO (wide ks H.au) v k' {x with b:=m,h:=q,n:=n'}:=by
 have nx:H.au<=H'.au:=f.au;have K:Hb.au<=H.au:=by have:=h.b.lo B (.inl rfl);have:=h.b.lt;omega
 have ex:∀{j:Nat}{p:Ck},(wide ks H.au)[j]? = B1 p -> ∃a,ks[j]? = B1 a/\p = {a with o:=Go.Am.aO a.o H.au 0}:=Hl;have hw:∀z,t9 w cvs hv' z->t9 w cvs hv z\/H.au<=z/\aM hv' z:=λ z e=>by
  rcases e with e|e|e
  .exact .inl (.inl e)
  .exact .inl (.inr (.inl e))
  .exact (u z e).imp (λ t=>.inr (.inr t)) λ t=>⟨t,e⟩
 refine⟨row,?_,hl,b,I,C,U,λ j d p L g=>?_,by unfold wide;rw[xt];exact h.kl,by rw[nl];exact h.nl,λ j p g z e=>?_,λ j S Q R e1 e2 ne z s e=>?_,λ j p g z s e=>?_,λ z e=>?_,⟨h.w1.1,λ e=>?_⟩,λ z e r=>?_⟩
 .unfold wide;rw[wg];exact Own.fr h.cl f cl
 .obtain ⟨a,e1,rfl⟩:=ex g;have⟨N,O⟩:=h.co j d a L e1;exact⟨N.fr f (λ z s r e=>r (h.dj j a e1 z (J z e))) (λ z s=>wq s) kk,O⟩
 .obtain ⟨a,e1,rfl⟩:=ex g;refine zu λ r=>?_;have⟨s,r⟩:=ot r;rcases e with e|e
  .exact (hb z e).elim (λ t=>r (h.dj j a e1 z (.inl t))) (by omega)
  .exact (hw z e).elim (λ t=>r (h.dj j a e1 z (.inr t))) λ t=>by omega
 .obtain ⟨D,F,rfl⟩:=ex e1;obtain⟨E,G,rfl⟩:=ex e2;have⟨l,e⟩:=ot e;exact(wq l).trans (h.d2 _ _ D E F G ne z l e)
 .obtain ⟨a,e1,rfl⟩:=ex g;have⟨l,e⟩:=ot e;exact h.lo j a e1 z l e
 .rcases hw z e with t|⟨t,P⟩
  .exact ⟨λ r=>(hb z r).elim (h.wb z t).1 λ r=>by have:=h.low t;omega,(h.wb z t).2⟩
  .exact ⟨nb z t P,by omega⟩
 .rcases u w e with t|t
  .exact h.w1.2 t
  .have:=h.row.2;omega
 .rcases u z r with t|t
  .exact h.w2 z e t
  .have:=Own.lt h.cl z e;omega
def fA.lE(h:fA Hb H w B cvs hv bs own ks V k x)(t:Bt)(hv':fF t.v)(hp:kB Hb H B bs (x.b.step t) H'):∃bs' aO j,fA Hb H' w B cvs hv bs' aO (wide ks H.au) j (k+1) {x with b:=x.b.step t}/\(∀z,gE B bs' z->gE B bs z\/H.au<=z)/\Fr (gE B bs) H H':=by
 have⟨a,d,l,g,f⟩:=hp;have nw:∀z,t9 w cvs hv z -> ¬gE B bs z:=λ z e=>(h.wb z e).1;exact⟨a,d,_,h.turn f (λ z e=>.inl e) (jy k) (DT ..) (h.row.fr f (nw w (.inl rfl))) (Own.fr h.hl f λ z e=>nw z (.inr (.inr e))) l (DB h.I t) (Cf h.C t) (h.U.step t hv') (λ z e=>nw z (.inr (.inl e))) g (λ z e=>.inl e) λ z q e=>by have:=Own.lt h.hl z e;omega,g,f⟩
def fA.MB(h:fA Hb H w B cvs hv bs own ks V k x){hv':AV}{a:List eW}{n':Int}(f:Fr (λ z=>z=w\/aM hv z) H H')(row:At H' w FV (lR B cvs hv' n'))(hl:aT eW.enc jj 9 H' hv' a)(g:∀z,aM hv' z->aM hv z\/H.au<=z):fA Hb H' w B cvs hv' bs own (wide ks H.au) V k {x with h:=a,n:=n'} :=
 have d:∀z,(z=w\/aM hv z)->t9 w cvs hv z:=λ z q=>q.imp id .inr
 h.turn f (λ z q=>.inr (d z q)) (qm k) rfl row hl (h.b.fr f λ z q=>⟨(h.wb z (d z q)).2,(h.wb z (d z q)).1⟩) h.I h.C h.U (λ z e q=>q.elim (λ q=>h.w1.1 (by rw[<-q];exact e)) λ q=>h.w2 z e q) (λ z q=>.inl q) g λ z q _ r=>by have:=h.b.low r;omega
def fA.em(h:fA Hb H w B cvs hv bs own ks V k x)(f:Fr Em H H'):fA Hb H' w B cvs hv bs own (wide ks H.au) V k x :=
 h.MB (f.mono λ _ _ q=>q.elim) (h.row.em f) (Own.em h.hl f) λ z q=>.inl q
structure kS(H:ar)(w B:Nat)(cvs hv:AV)(bs:Bs)(ks:List Ck)(z:Nat):Prop where
 lt:z<H.au
 nb:¬gE B bs z
 nw:¬t9 w cvs hv z
 nc:∀(i:Nat)A,ks[i]? = B1 A->A.o z=0
def kS.wide{z:Nat}{hv':AV}{bs':Bs}(h:kS H w B cvs hv bs ks z)(nx:H.au<=H'.au)(d:aM hv' z->aM hv z\/H.au<=z)(b:gE B bs' z->gE B bs z\/H.au<=z):kS H' w B cvs hv' bs' (wide ks H.au) z:=by
 have:=h.lt;refine⟨by omega,λ q=>(b q).elim h.nb (by omega),λ q=>?_,λ i A e=>?_⟩
 .rcases q with q|q|q
  .exact h.nw (.inl q)
  .exact h.nw (.inr (.inl q))
  .exact (d q).elim (λ q=>h.nw (.inr (.inr q))) (by omega)
 .obtain ⟨a,e1,rfl⟩:=Hl e;show Go.Am.aO a.o H.au 0 z=0;rw[wq h.lt];exact h.nc i a e1
def fA.new(h:fA Hb H w B cvs hv bs own ks V k x){z:Nat}(a:H.au<=z)(d:z<H'.au):kS H' w B cvs hv bs (wide ks H.au) z:=by
 refine⟨d,λ q=>by have:=h.b.low q;omega,λ q=>by have:=h.low q;omega,λ i A e=>?_⟩;obtain⟨f,e1,rfl⟩:=Hl e;exact ng a
def fA.Ot(h:fA Hb H w B cvs hv bs own ks V k x){z:Nat}(a:kS H w B cvs hv bs ks z)(hb:Hb.au<=z)(d:bD):fA Hb (H.set z d) w B cvs hv bs own ks V k x:=by
 have f:Fr (On z) H (H.set z d):=(Fr.refl H).set (W:=On z) (.inl rfl) _;have nw:∀y,t9 w cvs hv y -> ¬On z y:=λ y e(q:y=z)=>a.nw (by rw[<-q];exact e);exact{h with row:=h.row.fr f (nw w (.inl rfl)),cl:=Own.fr h.cl f λ y e=>nw y (.inr (.inl e)),hl:=Own.fr h.hl f λ y e=>nw y (.inr (.inr e)),b:=h.b.fr f λ y(q:y=z)=>by rw[q];exact⟨hb,a.nb⟩,co:=λ i c A e1 e2=>⟨(h.co i c A e1 e2).1.fr f (λ y yl r(q:y=z)=>r (by rw[q];exact a.nc i A e2)) (λ _ _=>rfl) (qm _),(h.co i c A e1 e2).2⟩}
end
end Go.Am
namespace Go.Am
open Lang Go.Proofs
variable{M:ak}[MK M]
section
variable{Hb H H':ar}{w B k k':Nat}{i:Int}{cvs hv:AV}{bs:Bs}{own:Nat->Nat}{ks:List Ck}{V:Int->L8}{x:Wo}{c:Co}{A:Ck}
def fA.bj(h:fA Hb H w B cvs hv bs own ks V k x):Op.ae [.ptr w 0] H=B1 (.ptr B 0)/\Op.ae [.ptr w 1] H=B1 cvs/\Op.ae [.ptr w 2] H=B1 hv/\Op.ae [.ptr w 3] H=B1 (.int .i64 x.n)/\Op.db [cvs]=B1 (.int .i64 ((x.cs.length:Nat):Int)) :=
 ⟨h.row.ld 0,h.row.ld 1,h.row.ld 2,h.row.ld 3,by have:=(aT.sl h.cl).len;rw[xt,h.kl]at this;exact this⟩
def GH(p:Nat):(po p).length=1:=rfl
def RK(h:fA Hb H w B cvs hv bs own ks V k x)(d:0<=i)(a:ks[i.toNat]? = B1 A):∀K,C3 M B4 (.func R6) [.ptr w 0,.int .i64 i] H K=K B4 (.ptr A.p 0) H:=by
 refine dv (hK ?_);have j:=(qt.1 a).1;have hk:=h.kl;have e:¬i<0:=IQ.2 d;have f:¬((x.cs.length:Nat):Int)<=i:=by omega
 have b:(ks.map Ck.p)[i.toNat]? = B1 A.p:=by rw[xp,a];rfl
 have ix:=(aT.sl h.cl).idx b (z:=i) (Md d).symm .i64;have ld:=(aT.sl h.cl).kW GH b (by decide);have g:(po A.p)[0]? = B1 (.ptr A.p 0):=rfl;rw[g]at ld;simp only[aa,bc,XV,aw,h.bj,e,f,ix,ld]
def _3(h:fA Hb H w B cvs hv bs own ks V k x)(d:¬(0<=i/\i<x.cs.length)):∀K,C3 M B4 (.func R6) [.ptr w 0,.int .i64 i] H K=K B4 .nilp H:=by
 refine dv (hK ?_)
 by_cases a:i<0
 .simp only[aa,bc,XV,aw,qy a]
 .have b:((x.cs.length:Nat):Int)<=i:=by omega
  simp only[aa,bc,XV,aw,h.bj,a,qy b]
end
structure To where
 e:Int
 m:Mg
 cd:Int
 co:Int
def gV(t:To):List AV:=.int .i64 t.e::(ao t.m ++ [.int .i64 t.cd,.int .i64 t.co])
def kI(e:Int):To:=⟨e,⟨0,0,0,.zero⟩,0,0⟩
def Nv:[AV.int .i64 0,.int .i64 0,.int .i64 0,.int .i64 0,.int .u64 0,.int .u64 0,.int .u64 0,.int .u64 0,.int .u64 0,.int .u64 0,.int .u64 0,.int .u64 0,.int .i64 0,.int .i64 0]=gV (kI 0):=rfl
def LU(e:Int):Op.build (gV (kI 0)) [(0,1)] [.int .i64 e]=B1 (.agg (gV (kI e))):=rfl
def CZ(t:To):(gV t).length=14:=by simp[gV,zg]
def Vn(t:To):aL (gV t)=true:=by
 unfold gV;rw[vc,List.all_cons,List.all_append,<-vc,qT];rfl
section
variable{Hb H H':ar}{w B k k':Nat}{cvs hv:AV}{bs:Bs}{own:Nat->Nat}{ks:List Ck}{V:Int->L8}{x y:Wo}
def tR(Hb H:ar)(w B:Nat)(cvs hv:AV)(bs:Bs)(ks:List Ck)(k:Nat)(y:Wo)(H':ar):Prop:=∃hv' bs' aO ks' V',fA Hb H' w B cvs hv' bs' aO ks' V' k y/\H.au<=H'.au /\ ∀z,kS H w B cvs hv bs ks z->kS H' w B cvs hv' bs' ks' z/\H'.get z=H.get z
def tR.then{H1:ar}{e:AV}{d:Bs}{f:List Ck}(n1:H.au<=H1.au)(a:∀z,kS H w B cvs hv bs ks z->kS H1 w B cvs e d f z/\H1.get z=H.get z)(b:tR Hb H1 w B cvs e d f k y H'):tR Hb H w B cvs hv bs ks k y H':=by
 have⟨hv',bs',aO,g,j,l,n2,h⟩:=b;exact⟨hv',bs',aO,g,j,l,by omega,λ z q=>⟨(h z (a z q).1).1,(h z (a z q).1).2.trans (a z q).2⟩⟩
def fA.mono(h:fA Hb H w B cvs hv bs own ks V k x)(hk:k<=k'):fA Hb H w B cvs hv bs own ks V k' x :=
 {h with C:=h.C.mono hk,co:=λ i c A e1 e2=>⟨(h.co i c A e1 e2).1.fr (Fr.refl H) (λ _ _ _ q=>q) (λ _ _=>rfl) hk,(h.co i c A e1 e2).2⟩}
def fA.Uu(h:fA Hb H w B cvs hv bs own ks V k x){z:Nat}(a:kS H w B cvs hv bs ks z)(hb:Hb.au<=z){b:To}(g:H.get z=B1 (OR (gV b) ww))(t:To):∃H',Op.store 14 [.ptr z 0,.agg (gV t)] H=B1 (.undef,H')/\Op.aq 14 [.ptr z 0] H'=B1 (.agg (gV t))/\fA Hb H' w B cvs hv bs own ks V k x/\Fr (On z) H H'/\kS H' w B cvs hv bs ks z/\H'.get z=B1 (OR (gV t) ww) :=
 ⟨_,fE g (CZ _) (CZ t) (Vn _),eI (xc ..) (CZ t),h.Ot a hb _,cm ..,⟨by rw[tV];exact a.lt,a.nb,a.nw,a.nc⟩,xc ..⟩
def Qe:Mg:=⟨0,0,0,.zero⟩
def Ai(b:Bu)(n:Int):To:=if 0<=n then match b.fl[n.toNat]? with
 |some m=>⟨0,m,0,0⟩
 |none=>kI 50
 else kI 50
def zMg:[AV.int .i64 0,.int .i64 0,.int .i64 0,.int .u64 0,.int .u64 0,.int .u64 0,.int .u64 0,.int .u64 0,.int .u64 0,.int .u64 0,.int .u64 0]=ao Qe:=rfl
def wc(e:Int)(m:Mg):Op.build (gV (kI 0)) [(0,1),(1,11)] [.int .i64 e,.agg (ao m)]=B1 (.agg (gV ⟨e,m,0,0⟩)):=by
 have hl:=zg m;show _=B1 (AV.agg (.int .i64 e::(ao m ++ [.int .i64 0,.int .i64 0])));generalize ao m=l at *
 match l,hl with
 |[_,_,_,_,_,_,_,_,_,_,_],_=>rfl
structure MM(Hb H:ar)(w B:Nat)(cvs hv:AV)(bs:Bs)(own:Nat->Nat)(ks:List Ck)(V:Int->L8)(k:Nat)(x:Wo)(c n kd:Int)(H1 H2:ar):Prop where
 e1:H.alloc (OR [.int .i64 kd,.int .i64 c,.int .i64 n] yD)=H1
 e2:H1.alloc (OR (gV (kI 0)) ww)=H2
 r:fA Hb H2 w B cvs hv bs own (wide ks H.au) V k x
 l1:Op.ae [.ptr H.au 1] H2=B1 (.int .i64 c)
 l2:Op.ae [.ptr H.au 2] H2=B1 (.int .i64 n)
 ga:H2.get H.au=B1 (OR [.int .i64 kd,.int .i64 c,.int .i64 n] yD)
 fa:kS H2 w B cvs hv bs (wide ks H.au) H.au
 hb:Hb.au<=H.au
 n1:H1.au=H.au+1
 n2:H2.au=H.au+2
 g:H2.get H1.au=B1 (OR (gV (kI 0)) ww)
 fo:kS H2 w B cvs hv bs (wide ks H.au) H1.au
 q:∀z,kS H w B cvs hv bs ks z->kS H2 w B cvs hv bs (wide ks H.au) z/\H2.get z=H.get z
def uf(h:fA Hb H w B cvs hv bs own ks V k x)(c n kd:Int):∃H1 d,MM Hb H w B cvs hv bs own ks V k x c n kd H1 d:=by
 obtain⟨H1,e1,f,n1,-⟩:=cD H (OR [.int .i64 kd,.int .i64 c,.int .i64 n] yD);obtain⟨d,e2,a,-,-⟩:=cD H1 (OR (gV (kI 0)) ww);have n2:d.au=H.au+2:=by rw[e2,xx,n1]
 have e:d.get H.au=B1 (OR [.int .i64 kd,.int .i64 c,.int .i64 n] yD):=by rw[a.ah _ (by omega) id,e1,xm]
 have g:=h.em (f.em a);refine⟨H1,d,e1.symm,e2.symm,g,yv e 1,yv e 2,e,h.new (by omega) (by omega),by have:=h.b.lo B (.inl rfl);have:=h.b.lt;omega,n1,n2,by rw[e2,xm],h.new (by omega) (by omega),λ z q=>⟨q.wide (by omega) (λ q=>.inl q) λ q=>.inl q,?_⟩⟩;have j:=q.lt;rw[a.ah _ (by omega) id,f.ah _ j id]
def MM.post{H1 m f:ar}{c n kd:Int}{d:AV}{b:Bs}{a:Nat->Nat}{l:List Ck}{V3:Int->L8}(p:MM Hb H w B cvs hv bs own ks V k x c n kd H1 m)(C:fA Hb f w B cvs d b a l V3 k' y)(L:m.au<=f.au)(r:∀z,kS m w B cvs hv bs (wide ks H.au) z->kS f w B cvs d b l z/\f.get z=m.get z)(t:To) :
 ∃h,Op.store 14 [.ptr H1.au 0,.agg (gV t)] f=B1 (.undef,h)/\Op.aq 14 [.ptr H1.au 0] h=B1 (.agg (gV t))/\tR Hb H w B cvs hv bs ks k' y h:=by
 have⟨I,J⟩:=r _ p.fo;have F:=p.n1;have G:=p.n2;have E:=p.hb;obtain⟨h,K,l4,D,o,-,-⟩:=C.Uu I (by omega) (J.trans p.g) t;refine⟨h,K,l4,d,b,a,_,V3,D,by have:=o.au;omega,λ z q=>?_⟩;have⟨s,u⟩:=p.q z q;have⟨j,v⟩:=r z s;have N:=q.lt;exact⟨⟨qn j.lt o.au,j.nb,j.nw,j.nc⟩,by rw[o.ah _ j.lt (λ e:z=H1.au=>by omega),v,u]⟩
def MM.lE{H1 e f:ar}{c n kd:Int}(p:MM Hb H w B cvs hv bs own ks V k x c n kd H1 e)(s:Bt)(hs:fF s.v)(hp:kB Hb e B bs (x.b.step s) f)(t:To) :
 ∃a,Op.store 14 [.ptr H1.au 0,.agg (gV t)] f=B1 (.undef,a)/\Op.aq 14 [.ptr H1.au 0] a=B1 (.agg (gV t))/\tR Hb H w B cvs hv bs ks (k+1) {x with b:=x.b.step s} a:=by
 have⟨h,g,V3,j,l,d⟩:=p.r.lE s hs hp;exact p.post j d.au (λ z q=>⟨q.wide d.au (λ q=>.inl q) (l z),d.ah z q.lt q.nb⟩) t
def MM.em{H1 d e:ar}{c n kd:Int}(p:MM Hb H w B cvs hv bs own ks V k x c n kd H1 d)(a:Fr Em d e)(t:To) :
 ∃b,Op.store 14 [.ptr H1.au 0,.agg (gV t)] e=B1 (.undef,b)/\Op.aq 14 [.ptr H1.au 0] b=B1 (.agg (gV t))/\tR Hb H w B cvs hv bs ks (k+1) x b :=
 p.post ((p.r.em a).mono (jy k)) a.au (λ z q=>⟨q.wide a.au (λ q=>.inl q) λ q=>.inl q,a.ah z q.lt id⟩) t
def Wo.nd(x:Wo)(c:Int):Option No:=if 0<=c then x.b.ns[c.toNat]? else B5
def Wo.Jk{c:Int}(h:x.nd c=B5):¬(0<=c/\c<x.b.ns.length):=λ q=>by
 unfold Wo.nd at h;rw[xg q.1,List.getElem?_eq_none_iff]at h;omega
def Wo.xR{c:Int}{nd:No}(h:x.nd c=B1 nd):0<=c/\x.b.ns[c.toNat]? = B1 nd:=by
 unfold Wo.nd at h;split at h
 .exact ⟨by assumption,h⟩
 .cases h
def Wo.fault(x:Wo)(c:Int):Wo×To:=match x.nd c with
 |none=>(x,kI 2)
 |some nd=>({x with b:=x.b.step ⟨5,c,5,0,0⟩},kI (nd.abort 5).2)
def Wo.qU(x:Wo)(c n:Int):Wo×To:=match x.nd c with
 |none=>(x,kI 2)
 |some nd=>({x with b:=x.b.step ⟨6,c,n,0,0⟩},kI (gK nd n))
def Gi(h:fA Hb H w B cvs hv bs own ks V k x)(hk:k<=90000)(c n kd:Int):zb M RF [.ptr w 0,.agg [.int .i64 kd,.int .i64 c,.int .i64 n]] H λ v H'=>v=.agg (gV (x.fault c).2)/\tR Hb H w B cvs hv bs ks (k+1) (x.fault c).1 H':=by
 refine quf ?_;have⟨H1,m,p⟩:=uf h c n kd;have bb:BB x.b:=h.C.bb h.I (by omega);simp only[aa,bc,qug,Nv,p.e1,p.e2,aw,p.r.bj,p.l1];unfold Wo.fault;cases hn:x.nd c with
 |none =>
  refine C3.q (xi9 p.r.b bb (Wo.Jk hn) 5) λ v g⟨a,l⟩=>?_;subst a;have⟨j,e,l4,d⟩:=p.em l (kI 2);simp only[aa,bc,LU,e,l4];exact d
 |some nd =>
  have⟨f,hn⟩:=Wo.xR hn;refine C3.q (xja p.r.b bb f hn 5) λ v g⟨a,hp⟩=>?_;subst a;have es:x.b.step ⟨5,c,5,0,0⟩=x.b.put c.toNat (nd.abort 5 |>.1,[]):=WQ (x:=⟨5,c,5,0,0⟩) (show(5:Int)≠7 by decide) f hn;obtain⟨j,e,l4,d⟩:=p.lE ⟨5,c,5,0,0⟩ bI (by rw[es];exact hp) (kI (nd.abort 5).2);simp only[aa,bc,LU,e,l4];exact d
def G0(h:fA Hb H w B cvs hv bs own ks V k x)(hk:k<=90000)(c n kd:Int):zb M O4 [.ptr w 0,.agg [.int .i64 kd,.int .i64 c,.int .i64 n]] H λ v H'=>v=.agg (gV (x.qU c n).2)/\tR Hb H w B cvs hv bs ks (k+1) (x.qU c n).1 H':=by
 refine qud ?_;have⟨H1,m,p⟩:=uf h c n kd;have bb:BB x.b:=h.C.bb h.I (by omega);simp only[aa,bc,que,Nv,p.e1,p.e2,aw,p.r.bj,p.l1,p.l2];unfold Wo.qU;cases hn:x.nd c with
 |none =>
  refine C3.q (ad3 p.r.b bb (Wo.Jk hn) n) λ v g⟨a,l⟩=>?_;subst a;subst l;have⟨j,e,l4,d⟩:=p.em (Fr.refl _) (kI 2);simp only[aa,bc,LU,e,l4];exact d
 |some nd =>
  have⟨f,hn⟩:=Wo.xR hn;refine C3.q (ae2 p.r.b bb f hn n) λ v g⟨a,hp⟩=>?_;subst a;have es:x.b.step ⟨6,c,n,0,0⟩=x.b.put c.toNat (nd.cS n):=WQ (x:=⟨6,c,n,0,0⟩) (show(6:Int)≠7 by decide) f hn;obtain⟨j,e,l4,d⟩:=p.lE ⟨6,c,n,0,0⟩ bI (by rw[es];exact hp) (kI (gK nd n));simp only[aa,bc,LU,e,l4];exact d
def xmm(h:fA Hb H w B cvs hv bs own ks V k x)(hk:k<=90000)(c n kd:Int):zb M Qb [.ptr w 0,.agg [.int .i64 kd,.int .i64 c,.int .i64 n]] H λ v H'=>v=.agg (gV (Ai x.b n))/\tR Hb H w B cvs hv bs ks (k+1) {x with b:=x.b.step ⟨7,c,n,0,0⟩} H':=by
 refine qrf ?_;have⟨H1,F,p⟩:=uf h c n kd;have bb:BB x.b:=h.C.bb h.I (by omega);simp only[aa,bc,qrg,Nv,zMg,p.e1,p.e2,aw,p.r.bj,p.l2]
 -- what is left to do
 have rest:∀{a:ar}{f:Bs}{d:Nat->Nat}{V3:Int->L8}{o:List Ck}{y:Wo}{m:Mg}{er:Int},fA Hb a w B cvs hv f d o V3 (k+1) y->F.au<=a.au->(∀z,kS F w B cvs hv bs (wide ks H.au) z->kS a w B cvs hv f o z/\a.get z=F.get z) -> ∃e j,Op.store 11 [.ptr a.au 0,.agg (ao m)] (a.alloc (OR (ao Qe) xk))=B1 (.undef,e)/\Op.aq 11 [.ptr a.au 0] e=B1 (.agg (ao m))/\Op.store 14 [.ptr H1.au 0,.agg (gV ⟨er,m,0,0⟩)] e=B1 (.undef,j)/\Op.aq 14 [.ptr H1.au 0] j=B1 (.agg (gV ⟨er,m,0,0⟩))/\tR Hb H w B cvs hv bs ks (k+1) y j:=λ{a f d V3 o y m er}L S D=>by
  obtain⟨e,G⟩:∃Z,Z=(a.alloc (OR (ao Qe) xk)).set a.au (OR (ao m) xk):=⟨_,rfl⟩
  have K:Fr Em a e:=G▸((Fr.refl a).alloc _).set (.inr (qm _)) _;have O:e.get a.au=B1 (OR (ao m) xk):=by rw[G,xc]
  have R:=K.au;have⟨j,E,Q,u⟩:=p.post (L.em K) (by omega) (λ z q=>⟨(D z q).1.wide R (λ q=>.inl q) λ q=>.inl q,(K.ah z (D z q).1.lt id).trans (D z q).2⟩) ⟨er,m,0,0⟩;exact⟨e,j,by rw[G];exact fE (xm a _) (zg _) (zg m) (qT _),eI O (zg m),E,Q,u⟩
 by_cases hn:0<=n/\n<x.b.fl.length
 .obtain ⟨i,rfl⟩:=jm hn.1;have P:i<x.b.fl.length:=by omega
  obtain⟨m,hm⟩:∃m,x.b.fl[i]? = B1 m:=⟨_,xe P⟩
  have J:Ai x.b (i:Int)=⟨0,m,0,0⟩:=by unfold Ai;rw[xg hn.1,GQ,hm]
  rw[J];have es:x.b.step ⟨7,c,(i:Int),0,0⟩=x.b.xC i:=by unfold Bu.step;rw[xg rfl,xg ⟨hn.1,hn.2⟩];rfl
  refine C3.q (xar p.r.b bb h.I (λ y q=>xw (h.C.wt y q) (by omega)) hm) λ v a⟨l,hp⟩=>?_;subst l;obtain⟨f,d,V3,L,D,g⟩:=p.r.lE ⟨7,c,(i:Int),0,0⟩ bI (by rw[es];exact hp);obtain⟨e,j,N,s,E,t,u⟩:=rest (m:=m) (er:=0) L g.au λ z q=>⟨q.wide g.au (λ q=>.inl q) (D z),g.ah z q.lt q.nb⟩
  simp only[aa,bc,aw,N,s,wc,E,t];exact u
 .have J:Ai x.b n=kI 50:=by
   unfold Ai
   by_cases q:0<=n
   .rw [xg q,jg (by omega)]
   .rw [qv q]
  have es:x.b.step ⟨7,c,n,0,0⟩=x.b:=by unfold Bu.step;rw[xg rfl,qv hn]
  rw[J,es];refine C3.q (xg0 p.r.b bb hn) λ v a⟨l,g⟩=>?_;subst l;have⟨e,j,N,s,E,t,u⟩:=rest (m:=Qe) (er:=50) ((p.r.em g).mono (jy k)) g.au λ z q=>⟨q.wide g.au (λ q=>.inl q) λ q=>.inl q,g.ah z q.lt id⟩
  simp only[aa,bc,aw,show ao ⟨0,0,0,.zero⟩=ao Qe from rfl,N,s,wc,E,t];exact⟨rfl,u⟩
end
end Go.Am
namespace Go.Am
open Lang Go.Proofs
variable{M:ak}[MK M]
section
variable{Hb H H':ar}{w B k k' i:Nat}{cvs hv:AV}{bs:Bs}{own:Nat->Nat}{ks:List Ck}{V:Int->L8}{x y:Wo}{c:Co}{A:Ck}
def Wo.Az(x:Wo)(i:Nat)(c:Co):Wo:={x with b:=(CS.step ⟨c,x.b,[]⟩).1.b,cs:=x.cs.set i (CS.step ⟨c,x.b,[]⟩).1.c}
end
end Go.Am
namespace Go.Am
open Lang
def lW(t:To)(e:eW):To:=if e.kind=6 then{t with cd:=e.code,co:=e.core}else t
namespace Wo
def at'(x:Wo)(c:Int):Option Co:=if 0<=c then x.cs[c.toNat]? else B5
def told(x:Wo)(l:List eW):Wo:={x with h:=x.h++l.map λ e=>{e with time:=x.n}}
def CL(x:Wo):x.told []=x:=by unfold told;rw[Fo,zq]
def qY(x:Wo)(c:Int):Wo×To:=match x.at' c with
 |none=>(x,kI 2)
 |some q=>((x.Az c.toNat q).told (CS.step ⟨q,x.b,[]⟩).1.o,(CS.step ⟨q,x.b,[]⟩).1.o.foldl lW (kI (CS.step ⟨q,x.b,[]⟩).2))
def jX(x:Wo)(a:Act):Wo×To :=
 if a.kind=1 then x.qY a.core
 else if a.kind=2 then({x with b:=x.b.step ⟨7,a.core,a.n,0,0⟩},Ai x.b a.n)
 else if a.kind=3 then x.qU a.core a.n
 else if a.kind=4 then x.fault a.core
 else(x,kI 140)
def L7(x:Wo)(a:Act):(x.jX a).1.n=x.n:=by
 unfold jX qY qU fault
 repeat' split
 all_goals rfl
def act(x:Wo)(a:Act):Wo×To:=({(x.jX a).1 with n:=x.n+1},(x.jX a).2)
def run(x:Wo):List Act->Wo×List To
 |[]=>(x,[])
 |a::l=>(((x.act a).1.run l).1,(x.act a).2::((x.act a).1.run l).2)
def xQ:∀(l m:List Act)(x:Wo),x.run (l++m)=(((x.run l).1.run m).1,(x.run l).2++((x.run l).1.run m).2)
 |[],m,x=>rfl
 |a::l,m,x=>by
  rw[I7,run,run,xQ l m];rfl
def Jj:∀(l:List Act)(x:Wo),(x.run l).1.n=x.n+l.length
 |[],x=>(Int.add_zero _).symm
 |a::l,x=>by
  rw[run,Jj l,jd];show x.n+1+(l.length:Int)=_;omega
def EL(x:Wo)(a:Act):∃l:List eW,(x.jX a).1.h=x.h++l.map (λ e=>{e with time:=x.n})/\l.length<=3:=by
 have d:∃l:List eW,x.h=x.h++l.map (λ e=>{e with time:=x.n})/\l.length<=3:=⟨[],by rw[Fo,zq],by decide⟩
 unfold jX;split
 .unfold qY;split
  .exact d
  .rename_i c _;have⟨l,e,n,_⟩:=CS.Ba ⟨c,x.b,[]⟩;exact⟨_,rfl,by rw[e];exact n⟩
 .unfold qU fault
  repeat' split
  all_goals exact d
def QD(x:Wo)(a:Act):(x.act a).1.h.length<=x.h.length+3:=by
 have⟨l,e,n⟩:=EL x a;show(x.jX a).1.h.length<=_;rw[e,xr,xt];omega
structure HT(x:Wo):Prop where
 n0:0<=x.n
 lt:∀e∈x.h,0<=e.time/\e.time<x.n
 up:x.h.Pairwise λ a b=>a.time<=b.time
def HT.act{x:Wo}(h:HT x)(a:Act):HT (x.act a).1:=by
 have⟨l,e,_⟩:=EL x a;have n0:=h.n0;have tm:∀y∈l.map (λ e:eW=>{e with time:=x.n}),y.time=x.n:=λ y q=>by
  obtain⟨z,_,rfl⟩:=As.1 q;rfl
 refine⟨by show(0:Int)<=x.n+1;omega,λ y q=>?_,?_⟩
 .show 0<=y.time/\y.time<x.n+1;have q:y∈(x.jX a).1.h:=q;rw[e]at q;rcases z6.1 q with q|q
  .have:=h.lt y q;omega
  .have:=tm y q;omega
 .show (x.jX a).1.h.Pairwise _;rw[e,List.pairwise_append];refine⟨h.up,?_,λ a ha b hb=>?_⟩
  .rw [List.pairwise_map];exact List.pairwise_of_forall λ _ _=>xW _
  .rw [tm b hb];exact Int.le_of_lt (h.lt a ha).2
def HT.run:∀(l:List Act){x:Wo},HT x->HT (x.run l).1
 |[],x,h=>h
 |a::l,x,h=>HT.run l (h.act a)
def BK:∀(l:List Act)(x:Wo),(x.run l).1.h.length<=x.h.length+3*l.length
 |[],x=>qm _
 |a::l,x=>by
  have:=BK l (x.act a).1;have:=QD x a;rw[jd];show((x.act a).1.run l).1.h.length<=_;omega
end Wo
end Go.Am
namespace Go.Am
open Lang Go.Proofs
variable{M:ak}[MK M]
section
variable{Hb H H':ar}{w B k k' i:Nat}{cvs hv:AV}{bs:Bs}{own:Nat->Nat}{ks:List Ck}{V:Int->L8}{x y:Wo}{c:Co}{A:Ck}
def fA.AH(h:fA Hb H w B cvs hv bs own ks V k x)(n:H.au<=H'.au)(f:∀z,z<H.au -> ¬kS H w B cvs hv bs ks z->H'.get z=H.get z):fA (H'.low Hb.au) H' w B cvs hv bs own (wide ks H.au) V k x:=by
 have F:Fr (kS H w B cvs hv bs ks) H H':=⟨n,f⟩
 have g:=h.em (H':=⟨H.t,H'.au⟩) ⟨n,λ _ _ _=>rfl⟩;refine⟨h.row.fr F λ q=>q.nw (.inl rfl),?_,Own.fr h.hl F λ z e q=>q.nw (.inr (.inr e)),h.b.AH F λ z q=>q.nb,h.I,h.C,h.U,λ j d u o a=>?_,g.kl,g.nl,g.dj,g.d2,g.lo,g.wb,g.w1,g.w2⟩
 .unfold wide;rw[wg];exact Own.fr h.cl F λ z e q=>q.nw (.inr (.inl e))
 .obtain ⟨l,e1,rfl⟩:=Hl a;have⟨p,s⟩:=h.co j d l o e1;exact⟨p.fr F (λ z m r q=>r (q.nc j l e1)) (λ z m=>wq m) (qm _),s⟩
def Eo(h:fA Hb H w B cvs hv bs own ks V k x)(hk:k+1<=90000)(m:p5 H)(J:yk<Hb.au)(s:x.cs[i]? = B1 c)(d:ks[i]? = B1 A):zb M LL [.ptr A.p 0,.iface wF (.ptr B 0)] H λ v H'=>∃a,v=.tuple [a,.int .i64 (CS.step ⟨c,x.b,[]⟩).2]/\aT eW.enc jj 9 H' a (CS.step ⟨c,x.b,[]⟩).1.o/\H.au<=H'.au /\
 ∃bs' aO f g,fA Hb H' w B cvs hv bs' aO f g (k+2) (x.Az i c)/\(∀z,aM a z -> ¬t9 w cvs hv z) /\ ∀z,kS H w B cvs hv bs ks z->kS H' w B cvs hv bs' f z/\H'.get z=H.get z /\ ¬aM a z:=by
 have G:A.o yk=0:=zu λ q=>by have:=h.lo i A d _ m.2 q;omega
 have C:=CS.CN ⟨c,x.b,[]⟩;refine(Mq (X:=A.at Hb H B bs k) (n:=0) (h.re s d) (show k+0+1<=90000 by omega) m G).mono λ v H' q=>?_;have⟨a,hv',o',rv',bs',aO,g,r,ow,D⟩:=q;have hw:=h.back s d C.id C.nl r;have u:i<ks.length:=(qt.1 d).1;have nx:H.au<=H'.au:=r.fr.au;refine⟨a,hv',ow,nx,bs',aO,_,g,hw,λ z q e=>?_,λ z q=>?_⟩
 .have:=hw.dj i {A with rv:=rv',o:=o'} (zj (by rw[xt];exact u)) z (.inr e);have t:=D z q;have this:o' z=0:=this;omega
 .have F:=q.lt;have E:A.o z=0:=q.nc i A d;have o0:o' z=0:=zu λ e=>by
   rcases r.go z (by omega) e with⟨_,t⟩|t
   .exact t E
   .have:H.au<=z:=t;omega
  refine⟨⟨by omega,λ e=>?_,q.nw,λ j I e=>?_⟩,r.fr.ah z F λ e=>e.elim (λ e=>e E) q.nb,λ e=>by have:=D z e;omega⟩
  .rcases r.gb z e with t|t
   .exact q.nb t
   .have:H.au<=z:=t;omega
  .by_cases w:j=i
   .subst w;rw[zj (by rw[xt];exact u)]at e;cases e;exact o0
   .rw [zn (λ e=>w e.symm),xp]at e;obtain⟨l,e1,rfl⟩:=xq.1 e;show Go.Am.aO l.o H.au 0 z=0;rw[wq F];exact q.nc j l e1
end
end Go.Am
namespace Go.Am
open Lang Go.Proofs
variable{M:ak}[MK M]
def Ec(H:ar)(b:Nat)(o o':bD):(H.set b o).set b o'=H.set b o':=by simp only[ar.set,T.set,T.put,T.tg]
def KV(t:To)(c:Int):(gV t).set 12 (.int .i64 c)=gV {t with cd:=c}:=by
 have hl:=zg t.m;show(AV.int .i64 t.e::(ao t.m ++ [.int .i64 t.cd,.int .i64 t.co])).set 12 _=AV.int .i64 t.e::(ao t.m ++ [.int .i64 c,.int .i64 t.co]);generalize ao t.m=l at *
 match l,hl with
 |[_,_,_,_,_,_,_,_,_,_,_],_=>rfl
def LG(t:To)(c:Int):(gV t).set 13 (.int .i64 c)=gV {t with co:=c}:=by
 have hl:=zg t.m;show(AV.int .i64 t.e::(ao t.m ++ [.int .i64 t.cd,.int .i64 t.co])).set 13 _=AV.int .i64 t.e::(ao t.m ++ [.int .i64 t.cd,.int .i64 c]);generalize ao t.m=l at *
 match l,hl with
 |[_,_,_,_,_,_,_,_,_,_,_],_=>rfl
section
variable{Hb H H':ar}{w B k k':Nat}{cvs hv ov:AV}{bs:Bs}{own:Nat->Nat}{ks:List Ck}{V:Int->L8}{x y:Wo}{c:Co}{A:Ck}
def tR.mono(h:tR Hb H w B cvs hv bs ks k y H')(hk:k<=k'):tR Hb H w B cvs hv bs ks k' y H':=by
 have⟨hv',bs',aO,e,f,a,b,d⟩:=h;exact⟨hv',bs',aO,e,f,a.mono hk,b,d⟩
def fA.push(r:fA Hb H w B cvs hv bs own ks V k x){b:AV}{d:ar}{e:eW}(m:aT eW.enc jj 9 d b (x.h ++ [e]))(j:Fr (aM hv) H d)(g:∀z,aM b z->aM hv z\/H.au<=z) :
 ∃a,Op.store 1 [.ptr w 2,b] d=B1 (.undef,a)/\fA Hb a w B cvs b bs own (wide ks H.au) V k {x with h:=x.h ++ [e]}/\Fr (λ z=>z=w\/aM hv z) H a /\ ∀z,kS H w B cvs hv bs ks z->kS a w B cvs b bs (wide ks H.au) z/\a.get z=H.get z:=by
 have i:At d w FV (lR B cvs hv x.n):=r.row.fr j r.w1.2;have one:aB b=true:=Sl.one (Own.sl m);have o:∀z,aM b z->z≠w:=λ z q e=>by
  rw[e]at q;rcases g w q with t|t
  .exact r.w1.2 t
  .have:=r.row.2;omega
 obtain⟨a,f⟩:∃Z,Z=d.set w (OR (lR B cvs b x.n) FV):=⟨_,rfl⟩
 have l:Fr (On w) d a:=f▸cm ..;have F:Fr (λ z=>z=w\/aM hv z) H a:=(j.mono λ z _ q=>.inr q).trans l λ z(q:z=w)=>.inl (.inl q);have st:Op.store 1 [.ptr w 2,b] d=B1 (.undef,a):=by rw[i.st 2 one (by show 2<4;decide),f];rfl
 refine⟨a,st,r.MB F (by rw[f];exact i.set _) (Own.fr m l λ z q(e:z=w)=>o z q e) g,F,λ z q=>⟨q.wide F.au (g z) λ q=>.inl q,F.ah z q.lt λ e=>q.nw (e.elim .inl λ e=>.inr (.inr e))⟩⟩
def _Q(Hb H0:ar)(w B:Nat)(cvs hv0:AV)(Po:Bs)(ks0:List Ck)(tb:Nat)(ov:AV)(y:Wo)(t0:To)(o:List eW)(k i:Nat)(H:ar):Prop:=∃hv bs own ks V,fA Hb H w B cvs hv bs own ks V k (y.told (o.take i))/\aT eW.enc jj 9 H ov o/\(∀z,aM ov z -> ¬t9 w cvs hv z)/\kS H w B cvs hv bs ks tb/\H.get tb=B1 (OR (gV ((o.take i).foldl lW t0)) ww) /\ ¬aM ov tb /\
 H0.au<=H.au /\ ∀z,kS H0 w B cvs hv0 Po ks0 z->z≠tb->kS H w B cvs hv bs ks z/\H.get z=H0.get z
def xme(h:fA Hb H w B cvs hv bs own ks V k x)(hk:k+1<=90000)(hS:p5 H)(hG:yk<Hb.au)(hh:x.h.length<=100000)(c n kd:Int):zb M O2 [.ptr w 0,.agg [.int .i64 kd,.int .i64 c,.int .i64 n]] H λ v H'=>v=.agg (gV (x.qY c).2)/\tR Hb H w B cvs hv bs ks (k+2) (x.qY c).1 H':=by
 refine qwi ?_;have⟨H1,H2,p⟩:=uf h c n kd;unfold Wo.qY;cases hc:x.at' c with
 |none =>
  have hi:¬(0<=c/\c<x.cs.length):=λ q=>by
   unfold Wo.at' at hc;rw[xg q.1,List.getElem?_eq_none_iff]at hc;omega
  have⟨W,s4,l4,hP⟩:=p.em (Fr.refl _) (kI 2);simp only[aa,bc,KX,Nv,p.e1,p.e2,aw,p.l1,_3 p.r hi,LU,s4,l4];exact hP.mono (jy _)
 |some q =>
  obtain⟨c0,hx⟩:0<=c/\x.cs[c.toNat]? = B1 q:=by
   unfold Wo.at' at hc;split at hc
   .exact ⟨by assumption,hc⟩
   .cases hc
  have hl:=(qt.1 hx).1;obtain⟨A,hA⟩:∃A,(wide ks H.au)[c.toNat]? = B1 A:=⟨_,xe (by rw[p.r.kl];exact hl)⟩
  have p2:=p.n2;have p1:=p.n1;have phb:=p.hb;have ft:Fr Em H H2:=by rw[<-p.e2,<-p.e1];exact((Fr.refl H).alloc _).alloc _
  simp only[aa,bc,KX,Nv,p.e1,p.e2,aw,p.l1,RK p.r c0 hA,p.r.bj];refine C3.q (Eo p.r hk (hS.em ft) hG hx hA) λ v j⟨ov,hv3,ow,nx,u,own3,ks3,V3,r3,nov,kp3⟩=>?_;subst hv3;have ob:=CS.Ba ⟨q,x.b,[]⟩;have yh:(x.Az c.toNat q).h=x.h:=rfl;have yn:(x.Az c.toNat q).n=x.n:=rfl;generalize x.Az c.toNat q=y at *;generalize CS.step ⟨q,x.b,[]⟩=R at *;have⟨S,er⟩:=R;have⟨l,ol,o3,_⟩:=ob;have on:S.o.length<=3:=by rw[show S.o=l from ol];exact o3
  simp only at *;generalize S.o=o at *;have⟨W,e4,X,n4,g4⟩:=cD j (OR (gV (kI er)) ww);have s4:Op.store 14 [.ptr j.au 0,.agg (gV (kI er))] (j.alloc (OR (gV (kI 0)) ww))=B1 (.undef,W):=by rw[fE (xm j _) (CZ _) (CZ _) (Vn _),Np,e4]
  have ln:=(aT.sl ow).len;have r4:=r3.em X;have ow4:=Own.em ow X;have ovl:∀z,aM ov z->z<j.au:=λ z q=>Own.lt ow z q;simp only[aa,bc,KX,aw,LU,s4,ln];refine da.intro (λ nn E f=>∃i:Nat,E=[(32,.int .i64 (i:Int)),(31,.int .i64 (o.length:Int)),(30,ov),(8,.ptr j.au 0),(4,.ptr H1.au 0),(0,.ptr w 0)]/\nn=o.length-i/\i<=o.length/\_Q Hb W w B cvs hv u (wide ks3 j.au) j.au ov y (kI er) o (k+2) i f) ?_ ?_
  .refine ⟨_,_,⟨0,rfl,rfl,xz _,hv,u,own3,_,V3,?_,ow4,nov,r3.new (qm _) (by omega),g4,λ q=>by have:=ovl _ q;omega,qm _,λ z q _=>⟨q,rfl⟩⟩,by simp only[aa,bc]⟩;rw[yq,Wo.CL];exact r4
  rintro nn E f ⟨i,rfl,rfl,hi,N,C,F,ks5,V5,Q,P,m,L,g5,no5,n5,O⟩;have yl:(y.told (o.take i)).h.length<=100003:=by
   show(y.h++(o.take i).map _).length<=_;rw[xr,xt,ya,yh];omega
  rcases xy i o.length with hlt|hge
  .obtain ⟨e,he⟩:∃e,o[i]? = B1 e:=⟨_,xe hlt⟩
   have c1:(i:Int)<((o.length:Nat):Int):=by omega
   have ix:=(aT.sl P).idx he (z:=(i:Int)) rfl .i64;have ld:=(aT.sl P).aq eW.len (by decide) he;obtain⟨H6,e6,f6,-,-⟩:=cD f (OR e.enc jj);have s6:Op.store 9 [.ptr f.au 0,.agg e.enc] (f.alloc (OR LX.enc jj))=B1 (.undef,H6):=by rw[fE (xm f _) (eW.len _) (eW.len _) rfl,Np,e6]
   have r6:=Q.em f6;have⟨H7,e7,Y,n7,g7⟩:=cD f (OR ({e with time:=y.n}:eW).enc jj);have a6:At H6 f.au jj e.enc:=⟨by rw[e6,xm],by rw[e6,xx];omega⟩
   have s7:Op.store 1 [.ptr f.au 1,.int .i64 (y.told (o.take i)).n] H6=B1 (.undef,H7):=by rw[a6.st 1 rfl (by show 1<9;decide),e6,Np,e7];rfl
   have l7:=eI g7 (eW.len _);have r7:=Q.em Y;have fb7:=Q.new (H':=H7) (qm f.au) (by omega);have hb5:Hb.au<=f.au:=by have:=Q.b.lo B (.inl rfl);have:=Q.b.lt;omega
   simp only[aa,bc,KX,aw,qy c1,ix,ld,WH,s6,r6.bj,s7,r7.bj,l7];refine aT.rz (bytes:=72) r7.hl (x:=.agg ({e with time:=y.n}:eW).enc) (a:={e with time:=y.n}) rfl rfl rfl rfl (by decide) (by omega) (by omega) λ v' H8 o8 f8 hz8=>?_;have⟨G,s9,r9,F9,k9⟩:=r7.push o8 f8 hz8;have n9:=F9.au;have fo7:=L.wide (hv':=N) (bs':=C) Y.au (λ q=>.inl q) λ q=>.inl q;have⟨s,gt9⟩:=k9 _ fo7;have g9:G.get j.au=B1 (OR (gV ((o.take i).foldl lW (kI er))) ww):=by rw[gt9,Y.ah _ L.lt id];exact g5
   have I:G.get f.au=B1 (OR ({e with time:=y.n}:eW).enc jj):=by rw[(k9 _ fb7).2];exact g7
   have J:=yv I 0;have J:Op.ae [.ptr f.au 0] G=B1 (.int .i64 e.kind):=J;have lb8:Op.ae [.ptr f.au 8] G=B1 (.int .i64 e.code):=yv I 8;have lb2:Op.ae [.ptr f.au 2] G=B1 (.int .i64 e.core):=yv I 2;have wi:aj .i64 ((i:Int)+1)=((i+1:Nat):Int):=by rw[ji (by omega) (by omega)];omega
   have tk:o.take (i+1)=o.take i ++ [e]:=by rw[kc,he];rfl
   have ow9:aT eW.enc jj 9 G ov o:=Own.fr (Own.em P Y) F9 λ z q t=>m z q (t.elim .inl λ t=>.inr (.inr t));have th:y.told (o.take (i+1)) = {y.told (o.take i)with h:=(y.told (o.take i)).h ++ [{e with time:=y.n}]}:=by
    rw[tk];unfold Wo.told;simp only[HB,j6,Fo,yf]
   have nov9:∀z,aM ov z -> ¬t9 w cvs v' z:=λ z q t=>by
    have zl:=ovl z q;rcases t with t|t|t
    .exact m z q (.inl t)
    .exact m z q (.inr (.inl t))
    .rcases hz8 z t with t|t
     .exact m z q (.inr (.inr t))
     .omega
   -- behind a round
   have fin:∀{t:To}{d:ar},t=(o.take (i+1)).foldl lW (kI er)->Fr (On j.au) G d->d.get j.au=B1 (OR (gV t) ww)->fA Hb d w B cvs v' C F (wide (wide ks5 f.au) H7.au) V5 (k+2) {y.told (o.take i)with h:=(y.told (o.take i)).h ++ [{e with time:=y.n}]}->_Q Hb W w B cvs hv u (wide ks3 j.au) j.au ov y (kI er) o (k+2) (i+1) d:=λ{t d}et K g10 r10=>by
    have n10:=K.au;refine⟨v',C,F,_,V5,by rw[th];exact r10,Own.fr ow9 K λ z q(e:z=j.au)=>no5 (by rw[<-e];exact q),nov9,⟨qn s.lt n10,s.nb,s.nw,s.nc⟩,by rw[g10,et],no5,by omega,λ z q ne=>?_⟩;have⟨q5,e5⟩:=O z q ne;have⟨q9,e9⟩:=k9 z (q5.wide (hv':=N) (bs':=C) Y.au (λ q=>.inl q) λ q=>.inl q);exact⟨⟨qn q9.lt n10,q9.nb,q9.nw,q9.nc⟩,by rw[K.ah z q9.lt ne,e9,Y.ah _ q5.lt id,e5]⟩
   have ft:(o.take (i+1)).foldl lW (kI er)=lW ((o.take i).foldl lW (kI er)) e:=by rw[tk,List.foldl_append];rfl
   generalize(o.take i).foldl lW (kI er)=t at *
   by_cases q:e.kind=6
   .have a9:At G j.au ww (gV t):=⟨g9,s.lt⟩
    have T:=a9.st 12 (v:=.int .i64 e.code) rfl (by rw[CZ];decide);rw[KV]at T;obtain⟨d,D⟩:∃Z,Z=G.set j.au (OR (gV {t with cd:=e.code}) ww):=⟨_,rfl⟩
    rw[<-D]at T;have a10:At d j.au ww (gV {t with cd:=e.code}):=D▸a9.set _;have U:=a10.st 13 (v:=.int .i64 e.core) rfl (by rw[CZ];decide);rw[LG,D,Ec]at U;have gb10:d.get f.au=B1 (OR ({e with time:=y.n}:eW).enc jj):=by rw[D,ki (λ w=>by have:=L.lt;omega)];exact I
    have lb2':Op.ae [.ptr f.au 2] d=B1 (.int .i64 e.core):=yv gb10 2;rw[<-D]at U;simp only[aa,bc,KX,s9,J,lb8,lb2,qy q,T,lb2',U,wi];exact⟨_,_,⟨i+1,rfl,rfl,by omega,fin (by rw[ft];unfold lW;rw[xg q]) (cm ..) (xc ..) (r9.Ot s (by omega) _)⟩,by simp only[aa,bc],by omega⟩
   .simp only[aa,bc,KX,s9,J,q,wi];exact⟨_,_,⟨i+1,rfl,rfl,by omega,fin (by rw[ft];unfold lW;rw[qv q]) (Fr.refl _) g9 r9⟩,by simp only[aa,bc],by omega⟩
  .have ie:i=o.length:=by omega
   rw[ie,MG]at Q g5;have c1:¬(i:Int)<((o.length:Nat):Int):=by omega
   have l5:=eI g5 (CZ _);have⟨q3,e3⟩:=kp3 _ p.fo;have q4:=q3.wide (H':=W) (hv':=hv) (bs':=u) X.au (λ q=>.inl q) λ q=>.inl q;have⟨q5,e5⟩:=O _ q4 (by have:=q3.lt;omega);have g1:f.get H1.au=B1 (OR (gV (kI 0)) ww):=by rw[e5,X.ah _ q3.lt id,e3.1];exact p.g
   obtain⟨H6,s6,l6,r6,f6,q6,-⟩:=Q.Uu q5 (by omega) g1 (o.foldl lW (kI er));simp only[aa,bc,KX,c1,l5,s6,l6];refine⟨N,C,F,ks5,V5,r6,by have:=f6.au;omega,λ z q=>?_⟩;have zl:=q.lt;have⟨a2,b2⟩:=p.q z q;have⟨a3,b3⟩:=kp3 z a2;have a4:=a3.wide (H':=W) (hv':=hv) (bs':=u) X.au (λ q=>.inl q) λ q=>.inl q;have⟨a5,b5⟩:=O z a4 (by omega);exact⟨⟨qn a5.lt f6.au,a5.nb,a5.nw,a5.nc⟩,by rw[f6.ah _ a5.lt (λ e:z=H1.au=>by omega),b5,X.ah _ a3.lt id,b3.1,b2]⟩
end
end Go.Am
namespace Go.Am
open Lang Go.Proofs
variable{M:ak}[MK M]
def qA{H:ar}{b:Nat}{es:List (AV×AV×Nat)}{k:Nat}(h:H.get b=B1 (.map es k)){key:Int}{v:AV}(hk:findKey .int (.int .i64 key) es 0=B1 B5):Op.mapUpdate .int [.map b,.int .i64 key,v] H=B1 (.undef,H.set b (.map (es ++ [(.int .i64 key,v,k)]) (k+1))):=by
 have hm:H.eX b=B1 (es,k):=by simp[ar.eX,h]
 simp only[Op.mapUpdate,cZ,xu,hm,qr,hk]
abbrev xH(n:Nat):AV:=.fn (.func n) [] []
def OY:List (AV×AV×Nat):=[(.int .i64 1,xH O2,0),(.int .i64 2,xH Qb,1),(.int .i64 3,xH O4,2),(.int .i64 4,xH RF,3)]
def xkj{H:ar}:zb M J_ [] H λ v H'=>v=.map H.au/\Fr Em H H'/\H'.get H.au=B1 (.map OY 4):=by
 refine xc8 ?_;have h:Fr Em H (H.alloc (.map [] 0)):=(Fr.refl H).alloc _;have s:∀{e:ar}(o:bD),Fr Em H e->Fr Em H (e.set H.au o):=λ o f=>f.set (.inr (qm _)) o;obtain⟨H1,i,b,j,d,l,a,m,f,g⟩:∃H1,Op.mapUpdate .int [.map H.au,.int .i64 1,xH O2] (H.alloc (.map [] 0))=B1 (.undef,H1) /\ ∃b,Op.mapUpdate .int [.map H.au,.int .i64 2,xH Qb] H1=B1 (.undef,b) /\ ∃d,Op.mapUpdate .int [.map H.au,.int .i64 3,xH O4] b=B1 (.undef,d) /\ ∃a,Op.mapUpdate .int [.map H.au,.int .i64 4,xH RF] d=B1 (.undef,a)/\Fr Em H a/\a.get H.au=B1 (.map OY 4) :=
  ⟨_,qA (xm ..) rfl,_,qA (xc ..) rfl,_,qA (xc ..) rfl,_,qA (xc ..) rfl,s _ (s _ (s _ (s _ h))),xc ..⟩
 simp only[aa,bc,xc9,N_,i,j,l,m];exact⟨f,g⟩
section
variable{Hb H H':ar}{w B k k':Nat}{cvs hv ov:AV}{bs:Bs}{own:Nat->Nat}{ks:List Ck}{V:Int->L8}{x y:Wo}{c:Co}{A:Ck}
def Jb(kd:Int):AV:=if kd=1 then xH O2 else if kd=2 then xH Qb else if kd=3 then xH O4 else if kd=4 then xH RF else .nilf
def HQ{b:Nat}(h:H.get b=B1 (.map OY 4))(kd:Int):Op.lookup .int .nilf B2 [.map b,.int .i64 kd] H=B1 (Jb kd):=by
 have hm:H.eX b=B1 (OY,4):=by simp[ar.eX,h]
 simp only[Op.lookup,cZ,xu,hm,qr];unfold OY Jb;simp only[findKey,bm,Xj]
 by_cases a:kd=1
 .subst a;rfl
 by_cases d:kd=2
 .subst d;rfl
 by_cases e:kd=3
 .subst e;rfl
 by_cases f:kd=4
 .subst f;rfl
 simp only[a,d,e,f,J1,zo,wh,qr,show tf .i64 .i64=B4 from rfl,xu]
def xjo(h:fA Hb H w B cvs hv bs own ks V k x)(hk:k+1<=90000)(m:p5 H)(l:yk<Hb.au)(o:x.h.length<=100000)(a:Act){f:Nat}(b:Jb a.kind=xH f):zb M f [.ptr w 0,.agg a.enc] H λ v H'=>v=.agg (gV (x.jX a).2)/\tR Hb H w B cvs hv bs ks (k+2) (x.jX a).1 H':=by
 have⟨kd,co,n⟩:=a;have d:=λ{y:Wo}{H':ar}(h:tR Hb H w B cvs hv bs ks (k+1) y H')=>h.mono (jy (k+1));unfold Jb at b;unfold Wo.jX;simp only at b⊢
 by_cases e:kd=1
 .rw [xg e]at b⊢;injection b with b;cases b
  exact xme h hk m l o co n kd
 rw[qv e]at b⊢
 by_cases g:kd=2
 .rw [xg g]at b⊢;injection b with b;cases b
  exact(xmm h (by omega) co n kd).mono λ v H' q=>⟨q.1,d q.2⟩
 rw[qv g]at b⊢
 by_cases i:kd=3
 .rw [xg i]at b⊢;injection b with b;cases b
  exact(G0 h (by omega) co n kd).mono λ v H' q=>⟨q.1,d q.2⟩
 rw[qv i]at b⊢
 by_cases j:kd=4
 .rw [xg j]at b⊢;injection b with b;cases b
  exact(Gi h (by omega) co n kd).mono λ v H' q=>⟨q.1,d q.2⟩
 rw[qv j]at b;cases b
def EZ(h:fA Hb H w B cvs hv bs own ks V k x)(hk:k+1<=90000)(hS:p5 H)(hG:yk<Hb.au)(hh:x.h.length<=100000)(n0:0<=x.n)(n1:x.n<=1000000)(a:Act):zb M Ue [.ptr w 0,.agg a.enc] H λ v H'=>v=.agg (gV (x.act a).2)/\tR Hb H w B cvs hv bs ks (k+2) (x.act a).1 H':=by
 refine q07 ?_;have⟨kd,co,n⟩:=a;have⟨H1,b,p⟩:=uf h co n kd;have p2:=p.n2;have p1:=p.n1;have phb:=p.hb;have⟨T,e3,f3,n3,g3⟩:=cD b (OR (gV (kI 140)) ww);have s3:Op.store 14 [.ptr b.au 0,.agg (gV (kI 140))] (b.alloc (OR (gV (kI 0)) ww))=B1 (.undef,T):=by rw[fE (xm b _) (CZ _) (CZ _) (Vn _),Np,e3]
 have ga3:T.get H.au=B1 (OR [.int .i64 kd,.int .i64 co,.int .i64 n] yD):=by rw[f3.ah _ p.fa.lt id];exact p.ga
 have l3:Op.ae [.ptr H.au 0] T=B1 (.int .i64 kd):=yv ga3 0;simp only[aa,bc,US,Act.enc,Nv,p.e1,p.e2,aw,LU,s3,l3];refine C3.q xkj λ v s⟨hv4,X,gm⟩=>?_;subst hv4;have l:Fr Em b s:=f3.em X;have r4:=p.r.em l;have n4:=X.au;have F:=λ z(q:kS b w B cvs hv bs (wide ks H.au) z)=>show kS s w B cvs hv bs (wide (wide ks H.au) b.au) z/\s.get z=b.get z from⟨q.wide l.au (λ q=>.inl q) λ q=>.inl q,l.ah z q.lt id⟩
 have O:s.get H.au=B1 (OR [.int .i64 kd,.int .i64 co,.int .i64 n] yD):=by rw[(F _ p.fa).2];exact p.ga
 have l4:Op.ae [.ptr H.au 0] s=B1 (.int .i64 kd):=yv O 0;have lA:Op.aq 3 [.ptr H.au 0] s=B1 (.agg [.int .i64 kd,.int .i64 co,.int .i64 n]):=eI O rfl;have N:kS s w B cvs hv bs (wide (wide ks H.au) b.au) b.au:=p.r.new (qm _) (by omega);have g5:s.get b.au=B1 (OR (gV (kI 140)) ww):=by rw[X.ah _ (by omega) id];exact g3
 have lk:=HQ gm kd;have yn:=x.L7 ⟨kd,co,n⟩;have wi:aj .i64 (x.n+1)=x.n+1:=ji (by omega) (by omega);have et:(x.act ⟨kd,co,n⟩).2=(x.jX ⟨kd,co,n⟩).2:=rfl;have ey:(x.act ⟨kd,co,n⟩).1 = {(x.jX ⟨kd,co,n⟩).1 with n:=x.n+1}:=rfl;rw[et,ey]
 -- the act is counted,and its answer answered
 have rest:∀{t:To}{y:Wo}{g:ar}{i:AV}{j:Bs}{u:Nat->Nat}{m:List Ck}{V6:Int->L8},y.n=x.n->fA Hb g w B cvs i j u m V6 (k+2) y->b.au<=g.au->(∀z,kS b w B cvs hv bs (wide ks H.au) z->kS g w B cvs i j m z/\g.get z=b.get z)->kS g w B cvs i j m b.au->g.get b.au=B1 (OR (gV t) ww) ->
  ∃o D,Op.ae [.ptr w 3] g=B1 (.int .i64 x.n)/\Op.store 1 [.ptr w 3,.int .i64 (x.n+1)] g=B1 (.undef,o)/\Op.aq 14 [.ptr b.au 0] o=B1 (.agg (gV t))/\Op.store 14 [.ptr H1.au 0,.agg (gV t)] o=B1 (.undef,D)/\Op.aq 14 [.ptr H1.au 0] D=B1 (.agg (gV t))/\tR Hb H w B cvs hv bs ks (k+2) {y with n:=x.n+1} D:=λ{t y g i j u m V6}yn C n6 G E g6=>by
  obtain⟨o,U⟩:∃Z,Z=g.set w (OR (lR B cvs i (x.n+1)) FV):=⟨_,rfl⟩
  have L:Fr (On w) g o:=U▸cm ..;have s7:Op.store 1 [.ptr w 3,.int .i64 (x.n+1)] g=B1 (.undef,o):=by rw[C.row.st 3 rfl (by show 3<4;decide),U];rfl
  have r7:=C.MB (n':=x.n+1) (L.mono λ z _ q=>.inl q) (by rw[U];exact C.row.set _) (Own.fr C.hl L λ z q(e:z=w)=>C.w1.2 (by rw[<-e];exact q)) λ z q=>.inl q;have k7:=λ z(q:kS g w B cvs i j m z)=>show kS o w B cvs i j (wide m g.au) z/\o.get z=g.get z from⟨q.wide L.au (λ q=>.inl q) λ q=>.inl q,L.ah z q.lt λ e=>q.nw (.inl e)⟩
  have⟨D,s8,l8,P⟩:=p.post r7 (xw n6 L.au) (λ z q=>⟨(k7 z (G z q).1).1,(k7 z (G z q).1).2.trans (G z q).2⟩) t;exact⟨o,D,by rw[<-yn];exact C.bj.2.2.2.1,s7,eI (by rw[(k7 _ E).2];exact g6) (CZ _),s8,l8,P⟩
 by_cases d:Jb kd=.nilf
 .have e0:x.jX ⟨kd,co,n⟩=(x,kI 140):=by
   unfold Jb at d;unfold Wo.jX;simp only at d⊢
   by_cases I:kd=1
   .rw [xg I]at d;cases d
   by_cases J:kd=2
   .rw [qv I,xg J]at d;cases d
   by_cases R:kd=3
   .rw [qv I,qv J,xg R]at d;cases d
   by_cases S:kd=4
   .rw [qv I,qv J,qv R,xg S]at d;cases d
   rw[qv I,qv J,qv R,qv S]
  rw[e0];have W:Op.eq .func B4 [.nilf,.nilf] s=B1 (.bool B2):=rfl;have⟨o,D,w1,w2,w3,w4,w5,P⟩:=rest rfl (r4.mono (NS k 2)) l.au F N g5;simp only[aa,bc,US,aw,l4,lk,d,W,w1,wi,w2,w3,w4,w5];exact P
 .obtain ⟨f,d⟩:∃f,Jb kd=xH f:=by
   unfold Jb at d⊢
   repeat' split
   all_goals first|exact⟨_,rfl⟩|(rename_i I J R S;rw[qv I,qv J,qv R,qv S]at d;exact(d rfl).elim)
  have W:Op.eq .func B4 [xH f,.nilf] s=B1 (.bool B4):=rfl;simp only[aa,bc,l4,lk,d,W,lA,zq];refine C3.q (xjo r4 hk (hS.em ((show Fr Em H b by rw[<-p.e2,<-p.e1];exact((Fr.refl H).alloc _).alloc _).em l)) hG hh ⟨kd,co,n⟩ d) λ v H5⟨hv5,hv',bs',aO,ks',V',r5,n5,Q⟩=>?_;subst hv5;have⟨fo5,g6⟩:=Q _ N;obtain⟨g,s6,-,C,Y,E,g7⟩:=r5.Uu fo5 (by omega) (g6.trans g5) (x.jX ⟨kd,co,n⟩).2;have⟨o,D,w1,w2,w3,w4,w5,P⟩:=rest yn C (by have:=Y.au;have:=l.au;omega) (λ z q=>by
   have zl:=q.lt;have⟨a4,b4⟩:=F z q;have⟨K,b5⟩:=Q z a4;exact⟨⟨qn K.lt Y.au,K.nb,K.nw,K.nc⟩,by rw[Y.ah z K.lt (λ e:z=b.au=>by omega),b5,b4]⟩) E g7
  simp only[aa,bc,US,aw,s6,w1,wi,w2,w3,w4,w5];exact P
end
end Go.Am
