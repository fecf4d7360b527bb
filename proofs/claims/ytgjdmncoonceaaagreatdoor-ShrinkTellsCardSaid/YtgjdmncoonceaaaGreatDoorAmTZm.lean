import Derived.Test.YtgjdmncoonceaaaGreatDoorAmTZl
import Derived.Test.YtgjdmncoonceaaaGreatDoorAmTZj
import Derived.Test.YtgjdmncoonceaaaGreatDoorAmTZf
import Derived.Test.YtgjdmncoonceaaaGreatDoorAmTZg
set_option linter.defProp false
set_option linter.unusedVariables false
set_option linter.unusedSimpArgs false
set_option linter.unusedSectionVars false
set_option maxRecDepth 100000
open Bool renaming false→B2,true→B4
open Go renaming IntKind→OM
open List renaming range→MX,replicate→Ji
open Option renaming none→B5,some→B1
open Prod renaming snd→C4
open Nat renaming reduceEqDiff→bc
namespace Go.Am
open Lang Go.Proofs
variable{M:ak}[MK M]
def xg7:Op.mkMap []=B1 (.map [] 0,.map):=rfl
def Vf{H:ar}{b e n:Nat}{z l:List AV}(g:H.get b=B1 (OR z e))(d:z.length=n)(hl:l.length=n)(a:aL l=B4):∃H',Op.store n [.ptr b 0,.agg l] H=B1 (.undef,H')/\Op.aq n [.ptr b 0] H'=B1 (.agg l)/\Fr (On b) H H'/\H'.get b=B1 (OR l e) :=
 ⟨_,fK g d hl a,eJ (xc ..) hl,cI ..,xc ..⟩
def okB(f s o:Int):Prop:=(0<=f/\f<=16)/\(0<=s/\s<=16)/\0<=o/\o<=16
instance(f s o:Int):Decidable (okB f s o):=by unfold okB;infer_instance
def xf2(b o:Nat):Op.cT 5 1 [(B1 0),(B1 1),B5] [.ptr b o,.int .i64 1,.int .i64 4]=B1 (.slice b (o+1) 3 4):=by
 rfl
def Vj{b o n c i:Nat}{k:OM}(h:i<n):Op.aR 1 [.slice b o n c,.int k (i:Int)]=B1 (.ptr b (o+i)):=by
 have a:=AK h;simp[Op.aR,eN,J7 (z:=(i:Int)) rfl h,elemAt,a]
def xbn{H:ar}{f s o:Int}:zb M ξ [.agg [.int .i64 f,.int .i64 s,.int .i64 o]] H λ v H'=>v=.tuple [.agg [.int .i64 0,.int .i64 f,.int .i64 s,.int .i64 o,.int .i64 (-1)],.bool (decide (okB f s o))]/\Fr Em H H':=by
 refine q46 ?_;have l1:∀b,Op.cG [.slice b 1 3 4]=B1 (.int .i64 3):=λ _=>rfl;have⟨H1,e1,P,n1,R⟩:=bZ H (OR [.int .i64 f,.int .i64 s,.int .i64 o] I5);have⟨e,e2,F,n2,S⟩:=bZ H1 (OR [.int .i64 0,.int .i64 0,.int .i64 0,.int .i64 0,.int .i64 0] Of);have⟨Hz,N,G,n3,T⟩:=bZ e (OR [.int .i64 0,.int .i64 0,.int .i64 0,.int .i64 0,.int .i64 0] Of);have w:e.get H.au=B1 (OR [.int .i64 f,.int .i64 s,.int .i64 o] I5):=(F.ah _ (by omega) id).trans R;have W:Op.ae [.ptr H.au 0] e=B1 (.int .i64 f):=x9 (xb w) 0;have X:Op.ae [.ptr H.au 1] e=B1 (.int .i64 s):=x9 (xb w) 1;have Y:Op.ae [.ptr H.au 2] e=B1 (.int .i64 o):=x9 (xb w) 2;have L:Op.build [.int .i64 0,.int .i64 0,.int .i64 0,.int .i64 0,.int .i64 0] [(1,1),(2,1),(3,1),(4,1)] [.int .i64 f,.int .i64 s,.int .i64 o,.int .i64 (-1)]=B1 (.agg [.int .i64 0,.int .i64 f,.int .i64 s,.int .i64 o,.int .i64 (-1)]):=rfl;have⟨p,Z,l4,x,U⟩:=Vf (n:=5) (l:=[.int .i64 0,.int .i64 f,.int .i64 s,.int .i64 o,.int .i64 (-1)]) T rfl rfl rfl;have n4:=x.au;have J:Fr Em H p:=((P.em F).em G).trans x λ z(q:z=e.au)=>.inr (by omega);have z3:p.get H1.au=B1 (OR [.int .i64 0,.int .i64 0,.int .i64 0,.int .i64 0,.int .i64 0] Of):=(x.ah _ (by omega) λ q:H1.au=e.au=>by omega).trans ((G.ah _ (by omega) id).trans S);obtain⟨K,C,A,Q,-⟩:=Vf (n:=5) (l:=[.int .i64 0,.int .i64 f,.int .i64 s,.int .i64 o,.int .i64 (-1)]) z3 rfl rfl rfl;have u:Fr Em H K:=J.trans Q λ z(q:z=H1.au)=>.inr (by omega);simp only[aa,bc,PY,<-e1,<-e2,<-N,W,X,Y,L,Z,xf2,l1]
 let g:Nat->Int:=λ i=>if i=0 then f else if i=1 then s else o
 have a:∀i,i<3->Op.ae [.ptr e.au (1+i)] p=B1 (.int .i64 (g i)):=λ i V=>by
  rw[x9 (xb U)];have:i=0\/i=1\/i=2:=by omega
  rcases this with rfl|rfl|rfl<;>rfl
 refine cu.intro (λ n E D=>∃i,D=p/\E=[(14,.slice e.au 1 3 4),(15,.int .i64 3),(16,.int .i64 (i:Nat)),(4,.ptr e.au 0),(2,.ptr H1.au 0)]/\n=3-i/\i<=3 /\ ∀j,j<i->0<=g j/\g j<=16) ?_ ?_
 .exact ⟨_,_,⟨0,rfl,rfl,rfl,by omega,λ j I=>by omega⟩,by simp only[aa,bc]⟩
 rintro n E D ⟨i,rfl,rfl,rfl,V,k⟩
 by_cases d:i<3
 .have e1:(i:Int)<3:=by omega
  have O:aj .i64 ((i:Int)+1)=((i+1:Nat):Int):=by rw[jc (by omega) (by omega)];omega
  have xV:¬(0<=g i/\g i<=16)->decide (okB f s o)=false:=λ h=>by
   refine ju λ⟨m,t,h3⟩=>h ?_;have:i=0\/i=1\/i=2:=by omega
   rcases this with rfl|rfl|rfl
   .exact m
   .exact t
   .exact h3
  by_cases m:g i<0
  .simp only[aa,bc,PY,e1,Vj d,a i d,m,l4,C,A];exact⟨by rw[xV (by omega)],u⟩
  .by_cases t:16<g i
   .simp only[aa,bc,PY,e1,Vj d,a i d,m,t,l4,C,A];exact⟨by rw[xV (by omega)],u⟩
   .simp only[aa,bc,PY,e1,Vj d,a i d,m,t,O];refine⟨_,_,⟨i+1,rfl,rfl,by omega,λ j I=>?_⟩,by simp only[aa,bc],by omega⟩;rcases Nat.lt_succ_iff_lt_or_eq.1 I with q|rfl
    .exact k j q
    .omega
 .have y:i=3:=by omega
  subst y;have e1:¬((3:Nat):Int)<3:=by omega
  have hk:decide (okB f s o)=true:=ke ⟨k 0 (by omega),k 1 (by omega),k 2 (by omega)⟩;simp only[aa,bc,PY,e1,l4,C,A];exact⟨by rw[hk],u⟩
def xcm(f s o:Int):List AV:=[.int .i64 0,.int .i64 f,.int .i64 s,.int .i64 o,.int .i64 (-1),.int .i64 0,.int .i64 0,.int .i64 0,.int .i64 0,.int .i64 0,.int .i64 0,.bool B4]
def QF(H:ar)(f s o:Int)(v:AV)(H':ar):Prop:=(okB f s o /\ ∃b,v=.tuple [.ptr b 0,.int .i64 0]/\H.au<=b/\b<H'.au/\H'.get b=B1 (OR (xcm f s o) vc))\/(¬okB f s o/\v=.tuple [.nilp,.int .i64 2])
def q96{H:ar}{f s o:Int}:zb M wo [.agg [.int .i64 f,.int .i64 s,.int .i64 o]] H λ v H'=>QF H f s o v H'/\Fr Em H H':=by
 refine xfc ?_;have a:Fr Em H (H.alloc (OR [.int .i64 f,.int .i64 s,.int .i64 o] I5)):=(Fr.refl H).alloc _;simp only[aa,bc,X0,F1 H [.int .i64 f,.int .i64 s,.int .i64 o] _ _ _ 3 rfl];refine C3.q (xbn) λ v i⟨x,d⟩=>?_;subst x;have g:=d.au;rw[xy]at g;have⟨y,j,u,A,w⟩:=bZ i (OR [.int .i64 0,.int .i64 0,.int .i64 0,.int .i64 0,.int .i64 0] Of);obtain⟨p,m,l4,k,-⟩:=Vf (n:=5) (l:=[.int .i64 0,.int .i64 f,.int .i64 s,.int .i64 o,.int .i64 (-1)]) w rfl rfl rfl;have h:Fr Em H p:=(a.em (d.em u)).trans k λ z(q:z=i.au)=>.inr (by have:=a.au;omega);have C:=k.au;have t:Op.build [.int .i64 0,.int .i64 0,.int .i64 0,.int .i64 0,.int .i64 0,.int .i64 0,.int .i64 0,.int .i64 0,.int .i64 0,.int .i64 0,.int .i64 0,.bool B2] [(0,5),(11,1)] [.agg [.int .i64 0,.int .i64 f,.int .i64 s,.int .i64 o,.int .i64 (-1)],.bool B4]=B1 (.agg (xcm f s o)):=rfl
 by_cases hk:okB f s o
 .have e:decide (okB f s o)=true:=ke hk;simp only[aa,bc,X0,aw,e,<-j,m,l4,t];exact⟨.inl ⟨hk,_,rfl,by omega,by rw[xy];omega,xp ..⟩,h.alloc _⟩
 .have e:decide (okB f s o)=false:=ju hk;simp only[aa,bc,X0,aw,e,<-j,m];exact⟨.inr ⟨hk,rfl⟩,h⟩
def RQ(e:Nat)(zero:List AV):Op.buildSlice e 0 zero [] []=B1 (.row [] e (0,0) B4,Op.sliceTo 0 0):=rfl
def WM(H:ar):Op.eq .slice B2 [.nils,.nils] H=B1 (.bool B4):=rfl
def Ym{H:ar}{size:Nat}{v:AV}{n:Nat}{cells:List AV}(h:Sl H size v n cells)(a:v≠ .nils)(H':ar):Op.eq .slice B2 [v,.nils] H'=B1 (.bool B2):=by
 have⟨_,h⟩:=h;cases v<;>first|exact(a rfl).elim|rfl|exact h.elim
def Qd{H:ar}{a:AV}{n:Nat}{cells:List AV}(ha:Sl H 5 a n cells)(f:aL cells=B4)(hl:n*40<=140737488355328){K:Bool->AV->ar->Prop}{m:Bool}
 (hk:∀g H',Own H' AR 5 g n cells->Fr Em H H'->(∀b,aM g b->H.au<=b)->K m g H'):jF m (Op.append AR 5 40 [Op.sliceTo 0 0 H.au,a] (H.alloc (.row [] AR (0,0) B4))) K:=by
 have d:Fr Em H (H.alloc (.row [] AR (0,0) B4)):=(Fr.refl H).alloc _;refine K3 (e:=AR) (n:=0) (cells:=[]) ⟨rfl,.inl ⟨rfl,.inr ⟨H.au,rfl,by rw[xy];omega⟩⟩⟩ (ha.em d) f (by omega) (by omega) (by omega) λ g i hv' j h=>hk g i ?_ ?_ λ b hb=>?_
 .rw [yg,jo]at hv';exact hv'
 .exact d.trans j λ x k=>.inr (by rw[k.2];exact qm _)
 .exact (h b hb).elim (λ q=>by rw[q.2];exact qm _) λ q=>xx d.au q
def N7:Fi:=⟨Ji 8 0,0,B5⟩
def TX:So:=⟨[],[],⟨0,0,0,0⟩,B5,B2,B2,B2,0,0,0,0⟩
def xdk{H:ar}:zb M q71 [] H λ v H'=>v=.ptr H.au 0/\H'=H.alloc (OR (cE N7 .nilp) IG):=by
 refine xjj ?_;have a:Op.build [.int .u64 0,.int .u64 0,.int .u64 0,.int .u64 0,.int .u64 0,.int .u64 0,.int .u64 0,.int .u64 0,.int .i64 0,.nilp,.bool B2] [(10,1)] [.bool B4]=B1 (.agg (cE N7 .nilp)):=rfl;simp only[aa,bc,xjk,a]
structure XF(H H':ar):Prop where
 n:H'.au=H.au+5
 a:H'.get H.au=B1 (.map [] 0)
 b:H'.get (H.au+1)=B1 (OR [.nils,.map H.au] IX)
 c:H'.get (H.au+2)=B1 (.map [] 0)
 d:H'.get (H.au+3)=B1 (OR [.nils,.map (H.au+2)] IX)
 e:H'.get (H.au+4)=B1 (OR [.ptr (H.au+1) 0,.ptr (H.au+3) 0] TL)
 f:Fr Em H H'
def xfe{H:ar}:zb M lL [] H λ v H'=>v=.ptr (H.au+4) 0/\XF H H':=by
 refine xl8 ?_;have a:∀b,Op.build [.nils,.nM] [(1,1)] [.map b]=B1 (.agg [.nils,.map b]):=λ _=>rfl;have d:∀x y,Op.build [.nilp,.nilp] [(0,1),(1,1)] [.ptr x 0,.ptr y 0]=B1 (.agg [.ptr x 0,.ptr y 0]):=λ _ _=>rfl;simp only[aa,bc,xl9,xg7,a,d];refine⟨rfl,rfl,?_,?_,?_,?_,?_,(((((Fr.refl H).alloc _).alloc _).alloc _).alloc _).alloc _⟩
 .exact (((wq (by simp only[xy];omega) _).trans (wq (by simp only[xy];omega) _)).trans (wq (by simp only[xy];omega) _)).trans ((wq (by simp only[xy];omega) _).trans (xp ..))
 .exact ((wq (by simp only[xy];omega) _).trans (wq (by simp only[xy];omega) _)).trans ((wq (by simp only[xy];omega) _).trans (xp ..))
 .exact (wq (by simp only[xy];omega) _).trans ((wq (by simp only[xy];omega) _).trans (xp ..))
 .exact (wq (by simp only[xy];omega) _).trans (xp ..)
 .exact xp ..
def HQ(o:Nat->Nat)(n:Nat)(z:Nat):Nat:=if z<n then o z else if z=n then 11 else if z=n+1 then 10 else if z=n+2 then 21 else if z=n+3 then 20 else if z=n+4 then 9 else 8
def xdu{H:ar}:zb M q72 [] H λ v H'=>v=.ptr (H.au+5) 0/\H'.au=H.au+6/\Fr Em H H' /\ ∀o,dY H' (HQ o H.au) (H.au+5) TX (H.au+4) .nilf:=by
 refine xjq ?_;have h:∀x,Op.build [.nilp,.int .i64 0,.int .i64 0,.int .u64 0,.int .u64 0,.nilf,.bool B2,.bool B2,.bool B2,.int .u64 0,.int .u64 0,.int .i64 0,.int .i64 0] [(0,1)] [.ptr x 0]=B1 (.agg (dO TX x .nilf)):=λ _=>rfl;simp only[aa,bc,xjr];refine C3.q (xfe) λ v H1⟨i,L⟩=>?_;subst i;simp only[aa,bc,h];have n1:=L.n;obtain⟨g,e2⟩:∃Z,Z=H1.alloc (OR (dO TX (H.au+4) .nilf) BS):=⟨_,rfl⟩
 have n2:g.au=H.au+6:=by rw[e2,xy,n1]
 have k:∀z,z<H1.au->g.get z=H1.get z:=λ z q=>by rw[e2,wq q]
 rw[<-e2];refine⟨by rw[n1],n2,L.f.em (e2▸(Fr.refl H1).alloc _),λ o=>⟨⟨by rw[e2,<-n1];exact xp ..,by omega⟩,⟨H.au+1,H.au+3,.nils,H.au,0,.nils,H.au+2,0,⟨by rw[k _ (by omega)];exact L.e,by omega⟩,?_,⟨⟨by rw[k _ (by omega)];exact L.b,by omega⟩,Own.nil ..,by rw[k _ (by omega)];exact L.a,by omega,xw _,?_,?_,λ z q=>(q.1 rfl).elim⟩,⟨⟨by rw[k _ (by omega)];exact L.d,by omega⟩,Own.nil ..,by rw[k _ (by omega)];exact L.c,by omega,xw _,?_,?_,λ z q=>(q.1 rfl).elim⟩⟩,rfl,?_,rfl,bJ,λ y w=>(List.not_mem_nil w).elim,bJ⟩⟩
 all_goals (unfold HQ;simp<;>(intro;omega))
end Go.Am
namespace Go.Am
open Lang Go.Proofs
variable{M:ak}[MK M]
def wz:∀(code:List iV),aL (code.flatMap gn)=B4
 |[]=>rfl
 |i::l=>by rw[j6,vd,List.all_append,<-vd,<-vd,wz l];rfl
def xen{H:ar}{a:AV}{code:List iV}(ha:bI gn 5 H a code)(hl:code.length<=1000000):zb M _A [a] H λ v H'=>aD v=B4/\bI gn 5 H' v code/\(code≠[]->H.au<=aE v/\aE v<H'.au)/\Fr Em H H':=by
 refine qnw ?_
 by_cases hn:a=.nils
 .subst hn;simp only[aa,bc,qgx,WM];have:code.length=0:=by
   have:=ha.len;have q:Op.cG [AV.nils]=B1 (.int .i64 0):=rfl;rw[q]at this;injection this with this;injection this with _ this;omega
  exact⟨rfl,ha,λ q=>(q (jz.1 this)).elim,Fr.refl _⟩
 .simp only[aa,bc,qgx,Ym ha hn,RQ];refine Qd ha (wz code) (by omega) λ h f hv' g e=>?_;simp only[aa,bc];have d:aO gn AR 5 f h code:=hv';exact⟨Sl.one hv'.sl,aO.sl d,λ q=>⟨e _ (zK d q),Own.lt d _ (zK d q)⟩,g⟩
def UE(id:Int)(n:Nat)(f s o ln:Int):Prop:=okB f s o/\0<=id/\id<4/\n<=1024/\2<=ln/\ln<=64
instance(id:Int)(n:Nat)(f s o ln:Int):Decidable (UE id n f s o ln):=by unfold UE;infer_instance
def Mn(id ln:Int)(code:List iV)(f s o:Int):Co:=⟨id,ln,code,N7,⟨[0,f,s,o,-1],0,La.kZ⟩,TX,0,iy,0,[],0,B2,B2,B2,0,0,B2,B2⟩
def CoN(H:ar)(c:Co)(v:AV)(H':ar):Prop:=∃p f l sp cv,v=.tuple [.ptr p 0,.int .i64 0]/\H.au<=p /\ ∀o:Nat->Nat,∃o',(∀z,z<H.au->o' z=o z)/\dU H' o' p f l sp cv .nils .nils .nili c [] 0
def k_(ok:Prop)(H:ar)(c:Co)(v:AV)(H':ar):Prop:=(ok/\CoN H c v H')\/(¬ok/\v=.tuple [.nilp,.int .i64 2])
def xbv{H:ar}{id ln f s o:Int}{a:AV}{code:List iV}(ha:bI gn 5 H a code) :
 zb M q70 [.int .i64 id,a,.agg [.int .i64 f,.int .i64 s,.int .i64 o],.int .i64 ln] H λ v H'=>k_ (UE id code.length f s o ln) H (Mn id ln code f s o) v H'/\Fr Em H H':=by
 refine xib ?_;have P:Fr Em H (H.alloc (OR [.int .i64 f,.int .i64 s,.int .i64 o] I5)):=(Fr.refl H).alloc _;simp only[aa,bc,IL,F1 H [.int .i64 f,.int .i64 s,.int .i64 o] _ _ _ 3 rfl];refine C3.q (q96) λ v V⟨hq,E⟩=>?_;have d:=P.em E;rcases hq with⟨hk,l,rfl,l1,l2,l3⟩|⟨hk,rfl⟩
 .by_cases C:id<0
  .simp only[aa,bc,IL,xj,C];exact⟨.inr ⟨λ⟨_,q,_⟩=>by omega,rfl⟩,d⟩
  by_cases D:4<=id
  .simp only[aa,bc,IL,xj,C,D];exact⟨.inr ⟨λ⟨_,_,q,_⟩=>by omega,rfl⟩,d⟩
  by_cases I:(1024:Int)<(code.length:Nat)
  .simp only[aa,bc,IL,xj,C,D,ha.len,I];exact⟨.inr ⟨λ⟨_,_,_,q,_⟩=>by omega,rfl⟩,d⟩
  by_cases L:ln<2
  .simp only[aa,bc,IL,xj,C,D,ha.len,I,L];exact⟨.inr ⟨λ⟨_,_,_,_,q,_⟩=>by omega,rfl⟩,d⟩
  by_cases c5:64<ln
  .simp only[aa,bc,IL,xj,C,D,ha.len,I,L,c5];exact⟨.inr ⟨λ⟨_,_,_,_,_,q⟩=>by omega,rfl⟩,d⟩
  simp only[aa,bc,IL,xj,C,D,ha.len,I,L,c5];refine C3.q (xen (ha.em d) (by omega)) λ cv h⟨u,O,N,p⟩=>?_;refine C3.q (xdk) λ v e⟨U,m⟩=>?_;subst U;have t:Fr Em h e:=by rw[m];exact(Fr.refl h).alloc _
  have Q:e.get h.au=B1 (OR (cE N7 .nilp) IG):=by rw[m];exact xp ..
  have hn4:e.au=h.au+1:=by rw[m];rfl
  simp only[aa,bc];refine C3.q (xdu) λ v K⟨U,hn5,j,T⟩=>?_;subst U;have S:=E.au;rw[xy]at S l1;have Z:=p.au;have X:Op.build [.int .i64 0,.int .i64 0,.nils,.nilp,.nilp,.nilp,.int .i64 0,.int .i64 0,.int .i64 0,.int .i64 0,.int .u64 0,.int .u64 0,.int .u64 0,.nils,.int .i64 0,.bool B2,.bool B2,.bool B2,.int .i64 0,.int .i64 0,.bool B2,.bool B2,.nils,.nili] [(0,1),(1,1),(2,1),(3,1),(4,1),(5,1)] [.int .i64 id,.int .i64 ln,cv,.ptr h.au 0,.ptr l 0,.ptr (e.au+5) 0]=B1 (.agg (cQ (Mn id ln code f s o) h.au l (e.au+5) cv .nils .nils .nili)):=by
   cases cv<;>first|rfl|cases u
  simp only[aa,bc,X];obtain⟨H6,W,g,n6,-⟩:=bZ K (OR (cQ (Mn id ln code f s o) h.au l (e.au+5) cv .nils .nils .nili) Gl);rw[<-W];have fin:=(((d.em p).em t).em j).em g;refine⟨.inl ⟨⟨hk,by omega,by omega,by omega,by omega,by omega⟩,K.au,h.au,l,e.au+5,cv,rfl,by omega,λ o0=>?_⟩,fin⟩;obtain⟨F,k⟩:∃F,F=aQ (aQ (aQ o0 H.au 3) V.au 7) h.au 2:=⟨_,rfl⟩
  obtain⟨J,A⟩:∃J,J=aQ (HQ F e.au) K.au 1:=⟨_,rfl⟩
  have G:∀z,z<e.au->J z=F z:=λ z q=>by rw[A,ww (by omega)];unfold HQ;rw[xg q]
  refine⟨J,λ z q=>by rw[G z (by omega),k,ww (by omega),ww (by omega),ww q],?_⟩;have R:lX V l ⟨[0,f,s,o,-1],0,La.kZ⟩:=⟨⟨rfl,rfl,yP _,(show(0:Int)<=4 by decide),(show(-1:Int)≠0 by decide)⟩,l3,l2⟩
  have Y:At e h.au IG (cE N7 .nilp):=⟨Q,by omega⟩
  refine⟨⟨by rw[W];exact xp ..,by omega⟩,⟨⟨by simp[Mn,N7],λ v q=>by rw[vr q];exact bJ,yP _⟩,.nilp,(Y.em j).em g,rfl⟩,((R.em p).em t |>.em j).em g,⟨e.au+4,.nilf,(T F).fr g (λ _ _ _ q=>q) λ z q=>by rw[A];exact ww q⟩,((O.em t).em j).em g,Own.nil ..,Own.nil ..,?_,?_,?_,λ z q=>(q.1 rfl).elim,λ z q=>(q.1 rfl).elim,λ q=>?_,rfl,⟨by show 0<=id;omega,by show 2<=ln;omega,by show ln<=64;omega,by show code.length<=1024;omega,λ y w=>(List.not_mem_nil w).elim,xw _,yP _,bJ,λ i x w=>by simp[Mn]at w⟩⟩
  .rw [A];exact ny (qm _)
  .rw [G _ (by omega),k];exact ny (qm _)
  .rw [G _ (by omega),k,ww (by omega),ww (by omega)];exact ny (by omega)
  .have ⟨q1,q2⟩:=N q;exact⟨by omega,by rw[G _ (by omega),k,ww q2];exact ny q1⟩
 .simp only[aa,bc,IL,xj];exact⟨.inr ⟨λ q=>hk q.1,rfl⟩,d⟩
end Go.Am
namespace Go.Am
open Go.Proofs Ca
variable{M:ak}[MK M]
section
variable{H0 H:ar}{B:Nat}{s:Bs}{b:Bu}{own:Nat->Nat}
def eL.lF(h:eL H0 H B s b own){ws:List L8}{H':ar}(hm:Ba H' s.mp s.lv ws)(hl:ws.length=b.m.length)(f:Fr (On (aE s.lv)) H H'):eL H0 H' B s {b with m:=ws} own:=by
 have j:s.dw (aE s.lv):=.inr (.inr (.inl rfl));have o1:=h.oD _ j;have g:∀{z k:Nat},own z=k->k≠1 -> ¬On (aE s.lv) z:=λ e1 e2(q:_=aE s.lv)=>e2 (by rw[<-e1,q];exact o1);have p:H0.au<=aE s.lv:=h.lo _ (.inr (.inl j));refine⟨by rw[f.ah _ h.lt (g h.oB (by decide))];exact h.row,qn h.lt f.au,⟨?_,qn h.d.lt f.au,hm,h.d.es.fr f λ(q:_=_)=>h.d.d1.2.2.2.2 q.symm,λ i x a o=>(h.d.wt i x a o).fr f λ z e(q:z=_)=>(h.d.d2 i x a o z e).2.2.1 q,h.d.d1,h.d.d2,h.d.d3,h.d.len.trans hl.symm⟩,h.dx,Own.fr h.nv f λ z e=>g (h.oN z e) (by decide),λ c n A hn l=>(h.no c n A hn l).off f λ z(q:z=_)=>⟨by rw[q];exact p,λ w=>g (h.oC c A l z w) (by omega) q⟩,h.al,h.fl.fr f λ z e=>g (h.oF z e) (by decide),h.oB,h.oD,h.oN,h.oF,h.oC,h.lo⟩;rw[f.ah _ h.d.lt λ q=>h.d.d1.2.1 q];exact h.d.row
end
def lF(m:List L8):List L8->Nat->List L8
 |[],_=>m
 |x::r,i=>lF (m.set i x) r (i+1)
def Ya:∀(fs:List L8)(m:List L8)(i:Nat),(lF m fs i).length=m.length
 |[],m,i=>rfl
 |x::r,m,i=>by unfold lF;rw[Ya r];exact ze
def _F:∀(fs:List L8)(m:List L8)(j i:Nat){x:L8},fs[i]? = B1 x->lF m (fs.take (i+1)) j=(lF m (fs.take i) j).set (j+i) x
 |y::r,m,j,0,x,h=>by cases h;rfl
 |y::r,m,j,i+1,x,h=>by
  show lF (m.set j y) (r.take (i+1)) (j+1)=(lF (m.set j y) (r.take i) (j+1)).set (j+(i+1)) x;rw[_F r _ (j+1) i (show r[i]? = B1 x from h),show j+1+i=j+(i+1)by omega]
def kH(l c s w:Int)(fs:List L8):Bu:={gD l c s w with m:=lF (gD l c s w).m fs 0}
def xeu{H:ar}{D mp:Nat}{lv ev:AV}{N:Int}{ws:List L8}{xs:List (De×AV)}(h:mT H D mp lv ev N ws xs){n:Int}(f:0<=n)(g:n<ws.length)(x:L8):zb M _V [.ptr D 0,.int .i64 n,.agg (cD x)] H λ v H'=>Ba H' mp lv (ws.set n.toNat x)/\Fr (On (aE lv)) H H':=by
 refine q9k ?_;obtain⟨H1,e1,a,-,e⟩:=bZ H (OR (cD x) z7);have ln:=eJ e (ye x);have l0:Op.ae [.ptr D 0] H1=B1 (.ptr mp 0):=by rw[x9 (xb (h.em a).row)];rfl
 simp only[aa,bc,q9l,<-e1,yp,qo,l0,ln];refine C3.q (Uy (h.em a).me f g x) λ v j⟨i,hm,d⟩=>?_;subst i;simp only[aa,bc];exact⟨hm,(a.mono λ _ _ q=>q.elim).trans d λ z q=>.inl q⟩
def G2(H:ar)(l c s w:Int)(fs:List L8)(v:AV)(H':ar):Prop:=(¬(sT l c s w/\(fs.length:Int)<=l)/\v=.tuple [.nilp,.int .i64 2]/\Fr Em H H')\/(sT l c s w/\(fs.length:Int)<=l) /\ ∃B bs own,v=.tuple [.ptr B 0,.int .i64 0]/\eL H H' B bs (kH l c s w fs) own/\Fr Em H H'
def xbo{H:ar}(l c s w:Int){fv:AV}{fs:List L8}(hF:bI cD 8 H fv fs)(hfb:fs≠[]->aE fv<H.au):zb M Va [.agg (eH l c s w),fv] H (G2 H l c s w fs):=by
 refine xku ?_;obtain⟨w0,w4,w12,w14,w41,R,w58,w46,w25,-,w40,S,-,w39⟩:=Tw M ⟨B5,Va⟩;have⟨H1,e1,Y,n1,g1⟩:=bZ H (OR (eH l c s w) AL);have ls:∀{o:ar}(k:Nat),Fr Em H1 o->Op.ae [.ptr H.au k] o=(eH l c s w)[k]?:=λ k f=>x9 (xb (by rw[f.ah _ (by omega) id];exact g1)) k;have l0:Op.ae [.ptr H.au 0] H1=B1 (.int .i64 l):=ls 0 (Fr.refl _);have l1:Op.ae [.ptr H.au 1] H1=B1 (.int .i64 c):=ls 1 (Fr.refl _);simp only[aa,bc,w0,<-e1,l0,l1];refine C3.q (xet l c) λ v j⟨F,hv⟩=>?_;rcases hv with⟨U,rfl⟩|⟨U,D,mp,lv,ev,rfl,dr,lod⟩
 .have t2:¬(2:Int)=0:=by decide
  simp only[aa,bc,xj,w4,t2];exact .inl ⟨λ q=>U q.1.1,rfl,Y.trans F λ _ q=>.inl q⟩
 have t0:=qv (show(0:Int)=0 from rfl);have hd':=U;have⟨⟨m1,m2⟩,T,c2⟩:=hd';have P:Op.ae [.ptr H.au 0] j=B1 (.int .i64 l):=ls 0 F;have t:=hF.len
 by_cases qf:l<((fs.length:Nat):Int)
 .simp only[aa,bc,xj,w4,t,P,qv qf];exact .inl ⟨λ q=>by have:=q.2;omega,rfl,Y.trans F λ _ q=>.inl q⟩
 have q0:=qf;have bd:Op.build [.nilp,.nils,.nils,.int .i64 0] [(0,1),(3,1)] [.ptr D 0,.int .i64 l]=B1 (.agg [.ptr D 0,.nils,.nils,.int .i64 l]):=rfl;have⟨C,e3,f3,n3,g3⟩:=bZ j (OR [.ptr D 0,.nils,.nils,.int .i64 l] Kn);have p:Fr Em H1 C:=F.trans f3 λ _ q=>q.elim;have rU:Op.ae [.ptr H.au 1] C=B1 (.int .i64 c):=ls 1 p;have m12:=F.au;have d3:=dr.em f3;have i3:J9 H C j.au D mp lv ev .nils l c s w [] (λ z=>if z=j.au then 0 else 1) :=
  ⟨g3,by omega,d3,Own.nil ..,λ k A hA=>by simp at hA,xg rfl,λ z h=>by rw[qy (by have:=dr.low h;omega)],λ z h=>absurd rfl h.1,λ k A hA=>by simp at hA,by omega,λ z h=>by have:=lod z h;omega,λ z h=>absurd rfl h.1,Y.trans p λ _ q=>q.elim⟩
 simp only[aa,bc,xj,w4,t,P,q0,w12,bd,<-e3,w14,rU];obtain⟨a,rfl⟩:=ji (show 0<=c by omega)
 -- what the loop leaves of the message's box
 refine cu.intro (λ k E o=>∃(ad:List Na)(nv:AV)(own:Nat->Nat),E=[(38,.int .i64 (ad.length:Int)),(37,.int .i64 ((a:Nat):Int)),(2,.ptr H.au 0),(8,.ptr j.au 0),(1,fv),(6,.ptr D 0)]/\k=a-ad.length/\ad.length<=a/\J9 H o j.au D mp lv ev nv l a s w ad own/\(0<ad.length->ta s w)/\o.get H.au=B1 (OR (eH l a s w) AL)/\C.au<=o.au /\ ∀z,aM nv z->C.au<=z) ?_ ?_
 .exact ⟨_,_,⟨[],.nils,_,rfl,rfl,xw _,i3,λ q=>absurd q (by simp),by rw[p.ah _ (by omega) id];exact g1,qm _,λ z h=>absurd rfl h.1⟩,by simp only[aa,bc];rfl⟩
 rintro k E o ⟨ad,nv,own,rfl,rfl,hi,hI,hok,hg,O,N⟩;rcases xz ad.length a with K|hge
 .have q1:(ad.length:Int)<((a:Nat):Int):=by omega
  have ldS:=eJ (e:=AL) hg (show(eH l (a:Int) s w).length=4 from rfl);simp only[aa,bc,R,q1,w25,ldS];refine C3.q (xc4 (ad.length:Int) l (a:Int) s w) λ v Ha hv=>?_;rcases hv with⟨u,rfl,fa⟩|⟨u,r,b,sv,rfl,L⟩
  .have t2:¬(2:Int)=0:=by decide
   simp only[aa,bc,xj,S,t2];refine .inl ⟨λ q=>u ⟨q.1.2,by omega,by omega,by omega,m1,m2⟩,rfl,hI.fr.trans fa λ _ q=>.inl q⟩
  .have lB:Op.ae [.ptr j.au 1] Ha=B1 nv:=by
    have fa:=L.bk.fr;rw[x9 (xb (by rw[fa.ah _ hI.lt id];exact hI.row))];rfl
   have wj:aj .i64 ((ad.length:Int)+1)=((ad.length+1:Nat):Int):=by rw[jc (by omega) (by omega)];omega
   simp only[aa,bc,xj,S,w39,qo,lB];refine hI.step (by omega) (A:=⟨r,b,sv,.nils,[]⟩) L λ v2 Hb⟨Hc,sc,⟨Q,hc⟩,fc,oc⟩=>?_;have hgc:Hc.get H.au=B1 (OR (eH l (a:Int) s w) AL):=by
    rw[fc.ah _ (by omega) (λ q=>q.elim (λ q=>by omega) λ q=>by have:=N _ q;omega)];exact hg
   simp only[aa,bc,sc,w40,wj];refine⟨_,_,⟨ad ++ [⟨r,b,sv,.nils,[]⟩],v2,Q,rfl,rfl,by rw[xe];simp;omega,hc,λ _=>u.1,hgc,xx O fc.au,λ z h=>(oc z h).elim (N z) λ q=>xx O q⟩,by simp only[aa,bc,xe,zu,jq],by rw[xe];simp;omega⟩
 .have hiw:ad.length=a:=by omega
  have q1:¬(ad.length:Int)<((a:Nat):Int):=by omega
  have y:=hI.done (by omega) (by omega) (by omega);have G:=hI.fr;have hfl:(fs.length:Int)<=l:=by omega
  have ml:(gD l (a:Int) s w).m.length=l.toNat:=by show(Ji l.toNat _).length=_;rw[jg]
  simp only[aa,bc,R,q1,w41,t];refine cu.intro (λ k E g=>∃i:Nat,E=[(62,.int .i64 (i:Int)),(61,.int .i64 ((fs.length:Nat):Int)),(60,fv),(8,.ptr j.au 0),(6,.ptr D 0)]/\k=fs.length-i/\i<=fs.length/\eL H g j.au ⟨D,mp,lv,ev,Ji l.toNat (iL,.nils),nv,.nils,ad⟩ {gD l (a:Int) s w with m:=lF (gD l (a:Int) s w).m (fs.take i) 0} own/\Fr Em H g) ?_ ?_
  .exact ⟨_,_,⟨0,rfl,rfl,xw _,y,G⟩,by simp only[aa,bc]⟩
  rintro k E g ⟨i,rfl,rfl,hi,y,G⟩;rcases xz i fs.length with K|hge
  .have T:(i:Int)<((fs.length:Nat):Int):=by omega
   obtain⟨x,hx⟩:∃x,fs[i]? = B1 x:=⟨_,xf K⟩
   have sl:bI cD 8 g fv fs:=Sl.em hF G;have ix:=sl.idx hx (z:=(i:Int)) rfl .i64;have ld:=sl.aq ye (by decide) hx;obtain⟨V,X⟩:∃Z,Z=(g.alloc (OR [.int .u64 0,.int .u64 0,.int .u64 0,.int .u64 0,.int .u64 0,.int .u64 0,.int .u64 0,.int .u64 0] z7)).set g.au (OR (cD x) z7):=⟨_,rfl⟩
   have st:Op.store 8 [.ptr g.au 0,.agg (cD x)] (g.alloc (OR [.int .u64 0,.int .u64 0,.int .u64 0,.int .u64 0,.int .u64 0,.int .u64 0,.int .u64 0,.int .u64 0] z7))=B1 (.undef,V):=by
    rw[X];exact fK (xp g _) rfl (ye x) (ug x)
   have fz:Fr Em g V:=by rw[X];exact((Fr.refl g).alloc _).set (.inr (qm _)) _
   have gz:V.get g.au=B1 (OR (cD x) z7):=by rw[X,xc]
   have lz:=eJ gz (ye x);have I:=y.em fz;have wj:aj .i64 ((i:Int)+1)=((i+1:Nat):Int):=by rw[jc (by omega) (by omega)];omega
   have sml:(lF (gD l (a:Int) s w).m (fs.take i) 0).length=l.toNat:=by rw[Ya,ml]
   simp only[aa,bc,Tw,T,ix,ld,st,lz];refine C3.q (xeu I.d (n:=(i:Int)) (by omega) (by show(i:Int)<((lF (gD l (a:Int) s w).m (fs.take i) 0).length:Int);rw[sml];omega) x) λ v Hw⟨hm,fw⟩=>?_;simp only[aa,bc,Tw,wj];have lz':H.au<=aE lv:=y.lo _ (.inr (.inl (.inr (.inr (.inl rfl)))));rw[Ho]at hm;have W:lF (gD l (a:Int) s w).m (fs.take (i+1)) 0=(lF (gD l (a:Int) s w).m (fs.take i) 0).set i x:=by rw[_F fs _ 0 i hx,yg]
   have hB2:=I.lF hm (by rw[ze]) fw;refine⟨_,_,⟨i+1,rfl,rfl,by omega,by rw[W];exact hB2,(G.em fz).trans fw λ z(q:z=aE lv)=>.inr (by rw[q];exact lz')⟩,by simp only[aa,bc],by omega⟩
  .have J:i=fs.length:=by omega
   have T:¬(i:Int)<((fs.length:Nat):Int):=by omega
   simp only[aa,bc,Tw,T];rw[J,LU]at y;exact .inr ⟨⟨⟨U,hok (by omega)⟩,hfl⟩,_,_,own,rfl,y,G⟩
def xks{l c s w:Int}(fs:List L8){V:Int->L8}(h:sT l c s w):BuI (kH l c s w fs) V:=zQ h (by show(lF (Ji l.toNat L8.zero) fs 0).length=_;rw[Ya,jg])
def xkr{l c s w:Int}{fs:List L8}:BC (kH l c s w fs) 0:=by
 have h:=ag9 (l:=l) (c:=c) (s:=s) (w:=w);exact⟨h.fl,h.no,h.wt⟩
def DJ:∀(fs m:List L8)(i:Nat),(∀x∈m,x.u)->(∀x∈fs,x.u) -> ∀x∈lF m fs i,x.u
 |[],m,i,hm,_=>hm
 |y::r,m,i,hm,hf=>by
  unfold lF;exact DJ r _ _ (λ x q=>(FV q).elim (hm x) λ e=>e▸hf y (I7 ..)) λ x q=>hf x (List.mem_cons_of_mem _ q)
def xkt{l c s w:Int}{fs:List L8}(a:∀x∈fs,x.u):yK (kH l c s w fs):=by
 refine⟨DJ fs _ 0 (λ x q=>?_) a,λ n q=>?_,.nil⟩
 .rw [vr (show x∈Ji l.toNat L8.zero from q)];exact L8.iH
 .obtain ⟨k,hk,rfl⟩:=Fx.1 (show n∈pH l s w c.toNat from q);intro e he;rw[vr (show e∈Ji (s.toNat*w.toNat) En.zero from he)];exact En.oY
end Go.Am
namespace Go.Am
open Go.Proofs Ca
open Lang (ints)
variable{M:ak}[MK M]
def Jh(e0:Int)(H0 H:ar)(r b:Nat)(sv bv:AV)(a:No×List Mg)(v:AV)(H':ar):Prop:=(∃ov,v=.tuple [ov,.int .i64 e0]/\mU H H' ov a.2)/\rZ H0 H r b sv bv a.1 H'
def gR(n:No)(line:Int):Int:=if line<0\/n.lines<=line then 2 else match n.c.find line with
 |none=>20
 |some _=>0
section
variable{H0 H:ar}{r b:Nat}{sv bv:AV}{n:No}{ks:List Nat}
def xhu(h:di H0 H r b sv bv n ks)(a:CI n.lines n.c)(hk:n.aS.length<=900000)(line:Int):zb M RI [.ptr r 0,.int .i64 line] H (Jh (gR n line) H0 H r b sv bv (n.db line)):=by
 refine q0n ?_;obtain⟨w0,w2,P,d,k,Q⟩:=q0o M ⟨B5,RI⟩
 by_cases f:line<0
 .have i:n.db line=(n,[]):=by unfold No.db;rw[xg (.inl f)]
  rw[i,show gR n line=2 from xg (.inl f)];simp only[aa,bc,w0,w2,yp,f];exact⟨⟨.nils,rfl,mU.nil ..⟩,h.same (Fr.refl _)⟩
 by_cases t:n.lines<=line
 .have i:n.db line=(n,[]):=by unfold No.db;rw[xg (.inr t)]
  rw[i,show gR n line=2 from xg (.inr t)];simp only[aa,bc,w0,w2,yp,f,qo,h.l1,t];exact⟨⟨.nils,rfl,mU.nil ..⟩,h.same (Fr.refl _)⟩
 have hn:¬(line<0\/n.lines<=line):=λ q=>q.elim f t;simp only[aa,bc,w0,w2,yp,f,qo,h.l1,t,P,h.l2];refine C3.q (P2 h.ca a line) λ v H1⟨N,C⟩=>?_;rw[N,μ];have n1:=C.au;cases A:n.c.find line with
 |none =>
  have i:n.db line=(n,[]):=by unfold No.db;rw[qy hn,A]
  rw[i,show gR n line=20 by unfold gR;rw[qy hn,A]];have U:Fr Em H ((H1.alloc (OR (az .zero) xk)).set H1.au (OR (az .zero) xk)):=C.trans (yU _ _) λ _ q=>q.elim;simp only[aa,bc,xj,Option.getD_none,Nn,eZ,jZ,d];exact⟨⟨.nils,rfl,mU.nil ..⟩,h.same U⟩
 |some x =>
  obtain⟨n',en⟩:∃n',n'=(if x.r ||x.w then n.iN 4 else n):=⟨_,rfl⟩
  have i:n.db line=No.gone {n' with c:=(n'.c.drop line).1} (n'.c.drop line).2:=by
   unfold No.db;rw[qy hn,A,en]
  rw[i,show gR n line=0 by unfold gR;rw[qy hn,A]];obtain⟨g,e2⟩:∃X,X=(H1.alloc (OR (az .zero) xk)).set H1.au (OR (az x) xk):=⟨_,rfl⟩
  have S:Fr Em H1 g:=by rw[e2];exact yU _ _
  have o:Fr Em H g:=C.trans S λ _ q=>q.elim;have n2:g.au=H1.au+1:=by rw[e2];rfl
  have F:g.get H1.au=B1 (OR (az x) xk):=by rw[e2,xc]
  have G:=h.em o;have lr:Op.ae [.ptr H1.au 2] g=B1 (.bool x.r):=x9 (xb F) 2;have lw:Op.ae [.ptr H1.au 3] g=B1 (.bool x.w):=x9 (xb F) 3;have hlr:=h.lt;have Z:=h.ca.lt;have hls:aE sv<H.au:=h.ca.sl.lt;have J:=h.bk.fresh;have off:∀y,H.au<=y -> ¬iK r b sv bv y:=λ y hy q=>by
   rcases q with q|q|q
   .omega
   .exact q.elim (λ q=>by omega) λ q=>by omega
   .have:=J _ q;omega
  -- behind the loss
  have fin:∀{m:ar},di H0 m r b sv bv n' ks->CI n.lines n'.c->n'.aS=n.aS->Fr (iK r b sv bv) g m -> ∀{E:Env},lk E 0=B1 (.ptr r 0)->lk E 1=B1 (.int .i64 line)->lk E 6=B1 (.ptr H1.au 0) ->
   W M ⟨B5,RI⟩ (q0m 33) B4 (eS M [.tmp 4,.tmp 5] (tq (Jh 0 H0 H r b sv bv (No.gone {n' with c:=(n'.c.drop line).1} (n'.c.drop line).2)))) E [] m:=by
   intro m z e hb j E q0 f q6;simp only[aa,bc,Q,q0,f,q6,qo,z.l2];refine C3.q (X6 z.ca e line) λ v l⟨N,Y,u⟩=>?_;rw[N];unfold zF;have n4:=u.au;have nc:=j.au;have gc:m.get H1.au=B1 (OR (az x) xk):=by rw[j.ah _ (by omega) (off _ (by omega))];exact F
   have V:l.get H1.au=B1 (OR (az x) xk):=by rw[u.ah _ (by omega) (λ q=>off H1.au (by omega) (.inr (.inl q)))];exact gc
   have s5:=fK V (zw _) (zw (n'.c.drop line).2) (ud _);have O:=eJ (xc l H1.au (OR (az (n'.c.drop line).2) xk)) (zw _);have T:Fr (On H1.au) l (l.set H1.au (OR (az (n'.c.drop line).2) xk)):=(Fr.refl l).set (W:=On H1.au) (.inl rfl) _;have K:=z.iF Y u (by rw[(MT ..).1];exact z.len);have L:=K.off T (λ x(hx:x=H1.au)=>by rw[hx];exact⟨by have:=h.bk.fr.au;omega,off _ (by omega)⟩);have p:Fr (iK r b sv bv) H (l.set H1.au (OR (az (n'.c.drop line).2) xk)):=(jR (jR (nD o) j) (xL u)).set (.inr (by omega)) _;simp only[aa,bc,xj,s5,O];refine C3.q (z6 L (by show n'.aS.length<=_;rw[hb];exact hk) _ (ad1 e)) λ v H6⟨hm,ht⟩=>?_;simp only[aa,bc];exact⟨⟨_,rfl,(hm.from p.au).ms⟩,ht.from p⟩
  cases hr:x.r with
  |true =>
   rw[hr]at lr en;have en:n'=n.iN 4:=en;simp only[aa,bc,xj,vk,vq,eZ,jZ,<-e2,d,k,lr];refine C3.q (IW G 4) λ _ R⟨I,D⟩=>?_;simp only[aa,bc];refine fin (by rw[en];exact I) (by rw[en];exact a.discard) (by rw[en];rfl) D ?_ ?_ ?_
   .rfl
   .rfl
   .rfl
  |false =>
   rw[hr]at lr;cases hw:x.w with
   |true =>
    rw[hr,hw]at en;rw[hw]at lw;have en:n'=n.iN 4:=en;simp only[aa,bc,xj,vk,vq,eZ,jZ,<-e2,d,k,lr,lw];refine C3.q (IW G 4) λ _ R⟨I,D⟩=>?_;simp only[aa,bc];refine fin (by rw[en];exact I) (by rw[en];exact a.discard) (by rw[en];rfl) D ?_ ?_ ?_
    .rfl
    .rfl
    .rfl
   |false =>
    rw[hr,hw]at en;rw[hw]at lw;have en:n'=n:=en;simp only[aa,bc,xj,vk,vq,eZ,jZ,<-e2,d,k,lr,lw];refine fin (by rw[en];exact G) (by rw[en];exact a) (by rw[en]) (Fr.refl _) ?_ ?_ ?_
    .rfl
    .rfl
    .rfl
end
section
variable{H0 H:ar}{B:Nat}{s:Bs}{b:Bu}{own:Nat->Nat}{c:Int}{n:No}
def Ep(h:eL H0 H B s b own)(hb:BB b)(g:0<=c)(hn:b.ns[c.toNat]? = B1 n)(l:Int):zb M RO [.ptr B 0,.int .i64 c,.int .i64 l] H λ v H'=>v=.int .i64 (gR n l)/\kC H0 H B s (b.put c.toNat (n.db l)) H':=by
 refine qs8 ?_;obtain⟨w0,w4,e⟩:=qs9 M ⟨B5,RO⟩;simp only[aa,bc,w0];refine C3.q (Gu h hb.N4 c) λ v H1⟨j,i,_⟩=>?_;have⟨A,f,m⟩:=i (Ai hn g);rw[m,j];have w:=qv (show(0:Int)=0 from rfl);have⟨ni,bk,us⟩:=hb.no _ n hn;have o:=h.no _ n A hn f;simp only[aa,bc,xj,w4,e];refine C3.q (xhu o ni.ci bk l) λ v p⟨⟨u,d,a⟩,k⟩=>?_;rw[d];simp only[aa,bc,xj];refine C3.q (h.out hb hn f k a (by have:=D1 n l;omega) (Q:=λ _ H'=>kC H0 H B s (b.put c.toNat (n.db l)) H') (r:=.nils) id) λ v t hp=>?_;simp only[aa,bc];exact hp
def Dm(h:eL H0 H B s b own)(hb:BB b)(d:¬(0<=c/\c<b.ns.length))(l:Int):zb M RO [.ptr B 0,.int .i64 c,.int .i64 l] H λ v H'=>v=.int .i64 2/\H'=H:=by
 refine qs8 ?_;obtain⟨w0,w4,g⟩:=qs9 M ⟨B5,RO⟩;simp only[aa,bc,w0];refine C3.q (Gu h hb.N4 c) λ v H1⟨e,_,a⟩=>?_;rw[a d,e];have f:¬(2:Int)=0:=by decide
 simp only[aa,bc,xj,w4,f]
def xj1(h:eL H0 H B s b own)(hb:BB b)(d:¬(0<=c/\c<b.ns.length))(k:Int):zb M NL [.ptr B 0,.int .i64 c,.int .i64 k] H λ v H'=>v=.int .i64 2/\Fr Em H H':=by
 refine Y7 ?_;obtain⟨H1,e1,a,-,-⟩:=bZ H (OR [.int .i64 k] cH);have ca:AV.cells (.int .i64 k)=[.int .i64 k]:=rfl;have mk:Op.bK Jv 0 [.ptr H.au 0]=B1 (.fn (.func Jv) [] [.ptr H.au 0]):=rfl;simp only[aa,bc,X5,ca,<-e1];refine C3.q (G7 (h.em a) hb d _) λ v g⟨f,e⟩=>?_;rw[e];subst f;simp only[aa,bc];exact a
def xj2(h:eL H0 H B s b own)(hb:BB b)(f:0<=c)(hn:b.ns[c.toNat]? = B1 n)(k:Int):zb M NL [.ptr B 0,.int .i64 c,.int .i64 k] H λ v H'=>v=.int .i64 (n.abort k).2/\kC H0 H B s (b.put c.toNat ((n.abort k).1,[])) H':=by
 refine Y7 ?_;obtain⟨H1,e1,a,-,g⟩:=bZ H (OR [.int .i64 k] cH);have ca:AV.cells (.int .i64 k)=[.int .i64 k]:=rfl;have l1:Op.ae [.ptr H.au 0] H1=B1 (.int .i64 k):=x9 (xb g) 0;have mk:Op.bK Jv 0 [.ptr H.au 0]=B1 (.fn (.func Jv) [] [.ptr H.au 0]):=rfl;simp only[aa,bc,X5,ca,<-e1];have d:=h.em a;refine C3.q (Uc (H1:=H1) (e:=.int .i64 (n.abort k).2) (n':=(n.abort k).1) d hb f hn (cap:=[.ptr H.au 0]) λ{A}i=>a_ (d.no _ n A hn i) l1) λ v l⟨j,hp⟩=>?_;simp only[aa,bc];exact⟨j,kC.pre a hp⟩
end
end Go.Am
namespace Go.Am
open Lang Go.Proofs
structure Ck where
 p:Nat
 f:Nat
 l:Nat
 sp:Nat
 cv:AV
 rv:AV
 o:Nat->Nat
def wide(ks:List Ck)(n:Nat):List Ck:=ks.map λ A'=>{A' with o:=Go.Am.aQ A'.o n 0}
def Ck.at(A:Ck)(Hb H:ar)(B:Nat)(bs:Bs)(k:Nat):SX:=⟨H,A.o,gJ B bs,A.p,A.f,A.l,A.sp,B,A.cv,Hb,k⟩
def Gr{ks:List Ck}{n:Nat}{j:Nat}{b:Ck}(e:(wide ks n)[j]? = B1 b):∃a,ks[j]? = B1 a/\b = {a with o:=Go.Am.aQ a.o n 0}:=by
 unfold wide at e;rw[xq]at e;have⟨a,e1,e2⟩:=xr.1 e;exact⟨a,e1,e2.symm⟩
def GS(b:Bu)(i:Nat):(b.wQ i).ns.length=b.ns.length:=by
 unfold Bu.wQ
 repeat' split
 all_goals first|rfl|exact ze
def ac9(b:Bu)(t:Bt):(b.step t).ns.length=b.ns.length:=by
 unfold Bu.step
 repeat' split
 all_goals first|rfl|exact GS _ _|exact ze
def ar.low(H:ar)(n:Nat):ar:=⟨H.t,n⟩
def Ma(H:ar){n:Nat}(h:n<=H.au):Fr Em (H.low n) H:=⟨h,λ _ _ _=>rfl⟩
def mJ.Bb{e:Nat}{H0 H H':ar}{v:AV}{xs:List Nat}{W:Nat->Prop}(h:mJ e H0 H v xs)(f:Fr W H H')(hw:∀b,aM v b -> ¬W b):mJ e (H'.low H0.au) H' v xs:=by
 refine⟨?_,Ma _ (xx h.fr.au f.au)⟩;rcases h.own with q|⟨b,m,rest,rfl,a,c,d,g⟩
 .exact .inl q
 .exact .inr ⟨b,m,rest,rfl,qn a f.au,c,d,by rw[f.ah b a (hw b ⟨by simp,rfl⟩)];exact g⟩
def di.Bb{H0 H H':ar}{r b:Nat}{sv bv:AV}{n:No}{ks:List Nat}{W:Nat->Prop}(h:di H0 H r b sv bv n ks)(f:Fr W H H')(hw:∀x,W x -> ¬iK r b sv bv x):di (H'.low H0.au) H' r b sv bv n ks :=
 ⟨by rw[f.ah _ h.lt λ q=>hw _ q (.inl rfl)];exact h.row,qn h.lt f.au,h.ca.fr f (λ q=>hw _ q (.inr (.inl (.inl rfl)))) (λ q=>hw _ q (.inr (.inl (.inr rfl)))),h.bk.Bb f (λ x a q=>hw x q (.inr (.inr a))),h.eq,h.lr,h.lb,h.ls,h.n1,h.n2,h.o1,h.o2,h.o3,h.li,h.len⟩
def eL.Bb{H0 H H':ar}{B:Nat}{s:Bs}{b:Bu}{own:Nat->Nat}{W:Nat->Prop}(h:eL H0 H B s b own)(f:Fr W H H')(hw:∀z,W z -> ¬gJ B s z):eL (H'.low H0.au) H' B s b own :=
 ⟨by rw[f.ah _ h.lt (λ q=>hw _ q (.inl rfl))];exact h.row,qn h.lt f.au,h.d.fr f (λ z q w=>hw z q (.inr (.inl w))),h.dx,Own.fr h.nv f (λ z a q=>hw z q (.inr (.inr (.inl a)))),
  λ c n A hn e=>(h.no c n A hn e).Bb f λ z q w=>hw z q (.inr (.inr (.inr (.inr ⟨c,A,e,w⟩)))),h.al,h.fl.fr f (λ z a q=>hw z q (.inr (.inr (.inr (.inl a))))),h.oB,h.oD,h.oN,h.oF,h.oC,h.lo⟩
end Go.Am
namespace Go.Am
open Lang
def yW(b:Bu):Nat×Nat:=(b.ns.length,b.l.length)
def RV(b:Bu)(t:Bt):yW (b.step t)=yW b:=by
 unfold Bu.step Bu.wQ
 repeat' split
 all_goals simp[yW,Bu.put]
structure KN(s t:CS):Prop where
 id:t.c.id=s.c.id
 ns:yW t.b=yW s.b
 cd:t.c.code=s.c.code
 ln:t.c.lines=s.c.lines
def KN.nl{s t:CS}(h:KN s t):t.b.ns.length=s.b.ns.length:=congrArg Prod.fst h.ns
def KN.ll{s t:CS}(h:KN s t):t.b.l.length=s.b.l.length:=congrArg C4 h.ns
namespace CS
theorem KN.trans{s t u:CS}(h:KN s t)(a:KN t u):KN s u:=⟨a.id.trans h.id,a.ns.trans h.ns,a.cd.trans h.cd,a.ln.trans h.ln⟩
def KN.rf(s:CS):KN s s:=⟨rfl,rfl,rfl,rfl⟩
def eX(s:CS)(k n v o:Int):KN s (s.lG k n v o):=⟨rfl,RV _ _,rfl,rfl⟩
def Za(s:CS):KN s s.aC:=by unfold aC;simp only;split<;>exact⟨rfl,rfl,rfl,rfl⟩
def oZ{s t u:CS}(h:KN s t)(e1:u.c.id=t.c.id)(e2:u.b=t.b)(a:u.c.code=t.c.code)(d:u.c.lines=t.c.lines):KN s u:=⟨e1.trans h.id,(congrArg yW e2).trans h.ns,a.trans h.cd,d.trans h.ln⟩
def TC(s:CS):KN s s.dc:=by
 have h:=Za s;exact oZ (t:=s.aC) h (by unfold dc leave fN;rfl) (by unfold dc leave fN;rfl) (by unfold dc leave fN;rfl) (by unfold dc leave fN;rfl)
def xly(s:CS):KN s s.dI:=by
 unfold dI
 repeat' split
 all_goals first|exact⟨rfl,rfl,rfl,rfl⟩|exact oZ (eX s 5 7 0 0) rfl rfl rfl rfl
def Hi(s:CS)(f:pI)(a:Int):KN s (s.oh f a):=by
 unfold oh;simp only
 repeat' split
 all_goals first|exact⟨rfl,rfl,rfl,rfl⟩|exact oZ (eX s 0 a 0 0) rfl rfl rfl rfl
def EH(s:CS)(f:pI)(a:Int):KN s (s.kK f a):=by
 unfold kK;simp only
 repeat' split
 all_goals first|exact⟨rfl,rfl,rfl,rfl⟩|exact oZ (eX s 1 a f.value 0) rfl rfl rfl rfl
def Kj(s:CS):KN s s.ends:=by
 unfold ends;simp only
 repeat' split
 all_goals first|exact⟨rfl,rfl,rfl,rfl⟩|exact KN.trans (eX s 4 0 0 0) (TC _)
def Iz(s:CS):KN s s.rK:=by
 unfold rK;simp only
 repeat' split
 all_goals first|exact⟨rfl,rfl,rfl,rfl⟩|exact xly s|exact Hi s _ _|exact EH s _ _|exact Kj s
def ah0(s:CS):KN s s.lV:=by
 unfold lV;simp only
 repeat' split
 all_goals first|exact⟨rfl,rfl,rfl,rfl⟩|exact⟨rfl,RV _ _,rfl,rfl⟩
def GZ(s:CS):KN s s.rp:=by
 unfold rp;simp only
 repeat' split
 all_goals exact oZ (eX s 2 0 _ _) rfl rfl rfl rfl
def DT(s:CS):KN s s.fM:=by
 unfold fM
 repeat' split
 all_goals first|exact⟨rfl,rfl,rfl,rfl⟩|exact TC s
def fm{p:Prop}[Decidable p]{s a b:CS}(c:KN s a)(d:KN s b):KN s (if p then a else b):=by split;exact c;exact d
def Ou(s:CS)(v:Int)(q:Bool):KN s (s.nj v q):=by
 unfold nj;simp only;have a:KN s {s with c:={s.c with so:=s.c.so.fX v q}}:=⟨rfl,rfl,rfl,rfl⟩
 generalize({s with c:={s.c with so:=s.c.so.fX v q}}:CS)=t at *;have hu:KN s (if s.c.so.aH=B4/\(s.c.so.fX v q).aH=B2 then t.aC else t):=fm (KN.trans a (Za _)) a;generalize(if s.c.so.aH=B4/\(s.c.so.fX v q).aH=B2 then t.aC else t)=u at *;have hw:KN s (if s.c.so.points<u.c.so.points then u.tell 4 0 0 0 else u):=fm (oZ hu rfl rfl rfl rfl) hu;generalize(if s.c.so.points<u.c.so.points then u.tell 4 0 0 0 else u)=w at *;exact fm hw (KN.trans hw (DT _))
def Ic(s:CS)(v:Int)(q:Bool):KN s (s.given v q):=by
 rw[Vu];have h:=Ou {s with c:={s.c with held:=s.c.held ||q && decide (s.c.so.want.a=0)}} v q;exact⟨h.id,h.ns,h.cd,h.ln⟩
def GK(s:CS):KN s s.qM:=by
 unfold qM;simp only
 repeat' split
 all_goals first|exact KN.rf s|exact KN.trans (eX s _ _ _ _) (Ic _ _ _)|exact eX s _ _ _ _
def Gw(s:CS):KN s s.aS:=by
 unfold aS iv;simp only
 repeat' split
 all_goals first|exact oZ (eX s _ _ _ _) rfl rfl rfl rfl|exact KN.trans (eX s _ _ _ _) (TC _)
def xiw(s:CS)(n:Int):KN s (s.iv (·.ph n)):=by
 unfold iv;exact fm (oZ (eX s 1 0 (aj .u64 (s.c.seq+2)) 0) rfl rfl rfl rfl) (eX s 1 0 _ 0)
def xiv(s:CS):KN s (s.iv breaks):=by
 unfold iv;exact fm (oZ (eX s 1 0 (aj .u64 (s.c.seq+2)) 0) rfl rfl rfl rfl) (eX s 1 0 _ 0)
def Oq(s:CS):KN s s.act:=by
 unfold act;refine fm (Iz s) (fm (ah0 s) (fm ?_ (fm ?_ (fm ?_ (fm (GZ s) (fm (GK s) (fm (xiw s 8) (fm (KN.trans (eX s 4 0 0 0) (TC _)) (fm (Gw s) (fm (xiv s) (KN.rf s)))))))))))
 .refine fm (fm (oZ (KN.trans (eX s 0 1 0 0) (eX _ 5 6 0 0)) rfl rfl rfl rfl) (oZ (eX s 0 1 0 0) rfl rfl rfl rfl)) (eX s 0 1 0 0)
 .refine fm (fm ⟨rfl,(RV _ _).trans (RV _ _),rfl,rfl⟩ (oZ (eX s 0 0 0 0) rfl rfl rfl rfl)) (eX s 0 0 0 0)
 .exact fm (oZ (eX s 0 0 0 0) rfl rfl rfl rfl) (eX s 0 0 0 0)
def CU(s:CS):KN s s.step.1:=by
 unfold step;split
 .exact KN.rf s
 split
 .exact KN.rf s
 split
 .exact ⟨rfl,rfl,rfl,rfl⟩
 .exact Oq s
end CS
end Go.Am
namespace Go.Am
open Lang
def OL(n:Nat)(s t:CS):Prop:=∃l,t.o=s.o++l/\l.length<=n /\ ∀e∈l,e.core=s.c.id
def OL.same{n:Nat}{s t:CS}(e:t.o=s.o):OL n s t:=⟨[],by rw[e,zp],xw _,λ _ h=>by cases h⟩
def OL.one{n:Nat}{s t:CS}{x:fk}(e:t.o=s.o ++ [x])(h:x.core=s.c.id):OL (n+1) s t:=⟨[x],e,by rw[List.length_singleton];omega,λ y q=>by rw[ve.1 q];exact h⟩
def OL.of{n:Nat}{s t u:CS}(h:OL n s t)(e:u.o=t.o):OL n s u:=by unfold OL at *;rw[e];exact h
def OL.le{n m:Nat}{s t:CS}(h:OL n s t)(q:n<=m):OL m s t:=by have⟨l,a,b,c⟩:=h;exact⟨l,a,xx b q,c⟩
theorem OL.trans{n m:Nat}{s t u:CS}(h:OL n s t)(g:OL m t u)(i:t.c.id=s.c.id):OL (n+m) s u:=by
 have⟨l,a,b,c⟩:=h;have⟨j,d,k,f⟩:=g;exact⟨l++j,by rw[d,a,ku],by rw[xe];omega,λ e q=>(jm.1 q).elim (c e) λ q=>(f e q).trans i⟩
namespace CS
def Fw(c:Co)(k a v d:Int):(Mz c k a v d).core=c.id:=by unfold Mz;split<;>rfl
def nB(s:CS):OL 1 s s.aC:=by unfold aC;simp only;split;exact OL.same rfl;exact OL.one rfl (Fw ..)
def T9(s:CS):OL 1 s s.dc:=(nB s).of rfl
def S5(s:CS):OL 1 s s.breaks:=OL.one rfl (Fw ..)
def xmk(s:CS):OL 1 s s.dI:=by
 unfold dI
 repeat' split
 all_goals first|exact OL.same rfl|exact OL.one rfl (Fw ..)
def Is(s:CS)(f:pI)(a:Int):OL 1 s (s.oh f a):=by
 unfold oh;simp only
 repeat' split
 all_goals first|exact OL.same rfl|exact OL.one rfl (Fw ..)
def DB(s:CS)(f:pI)(a:Int):OL 1 s (s.kK f a):=by
 unfold kK;simp only
 repeat' split
 all_goals first|exact OL.same rfl|exact OL.one rfl (Fw ..)
def KE(s:CS):OL 1 s s.ends:=by
 unfold ends;simp only
 repeat' split
 all_goals first|exact OL.same rfl|exact T9 _
def GX(s:CS):OL 1 s s.rK:=by
 unfold rK;simp only
 repeat' split
 all_goals first|exact OL.same rfl|exact xmk s|exact Is s _ _|exact DB s _ _|exact KE s
def DG(s:CS):OL 1 s s.lV:=by
 unfold lV;simp only
 repeat' split
 all_goals exact OL.one rfl (Fw ..)
def Gd(s:CS):OL 1 s s.rp:=by
 unfold rp;simp only
 repeat' split
 all_goals first|exact OL.same rfl|exact OL.one rfl (Fw ..)
def Ej(s:CS):OL 1 s s.fM:=by
 unfold fM
 repeat' split
 all_goals first|exact OL.same rfl|exact OL.one rfl (Fw ..)|exact T9 s|exact S5 s
def fA{p:Prop}[Decidable p]{n:Nat}{s a b:CS}(c:OL n s a)(d:OL n s b):OL n s (if p then a else b):=by split;exact c;exact d
def RH(s:CS)(v:Int)(q:Bool):OL 3 s (s.nj v q):=by
 unfold nj;simp only;have a:OL 0 s {s with c:={s.c with so:=s.c.so.fX v q}}:=OL.same rfl;have it:({s with c:={s.c with so:=s.c.so.fX v q}}:CS).c.id=s.c.id:=rfl;generalize({s with c:={s.c with so:=s.c.so.fX v q}}:CS)=t at *;have hu:OL 1 s (if s.c.so.aH=B4/\(s.c.so.fX v q).aH=B2 then t.aC else t):=fA (a.trans (nB _) it) (a.le (by decide));have b:(if s.c.so.aH=B4/\(s.c.so.fX v q).aH=B2 then t.aC else t).c.id=s.c.id:=by split;exact(Za t).id.trans it;exact it
 generalize(if s.c.so.aH=B4/\(s.c.so.fX v q).aH=B2 then t.aC else t)=u at *;have hw:OL 2 s (if s.c.so.points<u.c.so.points then u.tell 4 0 0 0 else u):=fA (hu.trans (OL.one (n:=0) rfl (Fw ..)) b) (hu.le (by decide));have d:(if s.c.so.points<u.c.so.points then u.tell 4 0 0 0 else u).c.id=s.c.id:=by split<;>exact b
 generalize(if s.c.so.points<u.c.so.points then u.tell 4 0 0 0 else u)=w at *;exact fA (hw.le (by decide)) (hw.trans (Ej _) d)
def GH(s:CS)(v:Int)(q:Bool):OL 3 s (s.given v q):=by
 rw[Vu];exact RH {s with c:={s.c with held:=s.c.held ||q && decide (s.c.so.want.a=0)}} v q
def Hl(s:CS):OL 3 s s.qM:=by
 unfold qM;simp only
 repeat' split
 all_goals first|exact OL.same rfl|exact GH (s.lG _ _ _ _) _ _
def HJ(s:CS):OL 1 s s.aS:=by
 unfold aS iv;simp only
 repeat' split
 all_goals first|exact OL.same rfl|exact T9 (s.lG _ _ _ _)
def xjc(s:CS)(n:Int):OL 1 s (s.iv (·.ph n)):=by
 unfold iv;exact fA (OL.same rfl) (OL.same rfl)
def xjb(s:CS):OL 1 s (s.iv breaks):=by
 unfold iv;exact fA (S5 (s.lG 1 0 (aj .u64 (s.c.seq+2)) 0)) (OL.same rfl)
def OQ(s:CS):OL 3 s s.act:=by
 unfold act;have d:∀{t:CS},OL 1 s t->OL 3 s t:=λ h=>h.le (by decide);refine fA (d (GX s)) (fA (d (DG s)) (fA ?_ (fA ?_ (fA ?_ (fA (d (Gd s)) (fA (Hl s) (fA (d (xjc s 8)) (fA (d (T9 (s.lG 4 0 0 0))) (fA (d (HJ s)) (fA (d (xjb s)) (OL.same rfl)))))))))))
 .exact fA (fA (OL.same rfl) (OL.same rfl)) (OL.same rfl)
 .exact fA (fA (OL.same rfl) (OL.same rfl)) (OL.same rfl)
 .exact fA (OL.same rfl) (OL.same rfl)
def Bk(s:CS):OL 3 s s.step.1:=by
 unfold step;split
 .exact OL.same rfl
 split
 .exact OL.same rfl
 split
 .exact OL.one rfl (Fw ..)
 .exact OQ s
end CS
end Go.Am
namespace Go.Am
open Lang Go.Proofs
variable{M:ak}[MK M]
def gU(b:Int):List AV:=[.int .u8 b]
def TI(b:Int):(gU b).length=1:=rfl
noncomputable def uD(v:AV):AV:=(Op.aA 1 [B1 0,B5,B5] [v,.int .i64 8]).getD .nils
noncomputable def pz(v:AV):AV:=(Op.aA 1 [B5,B1 0,B5] [v,.int .i64 8]).getD .nils
noncomputable def wV(v:AV):Nat->AV
 |0=>v
 |i+1=>uD (wV v i)
def yE{H:ar}{v:AV}{bs:List Int}(h:bI gU 1 H v bs):∀i,8*i<=bs.length->bI gU 1 H (wV v i) (bs.drop (8*i))/\(wV v i=.nils\/aE (wV v i)=aE v)
 |0,_=>⟨h,.inr rfl⟩
 |i+1,hi=>by
  have⟨a,d⟩:=yE h i (by omega);have⟨c,f,b,g⟩:=a.from TI (k:=8) (by rw[yk];omega) (z:=8) rfl .i64;have e:wV v (i+1)=c:=by show uD (wV v i)=c;unfold uD;rw[f];rfl
  rw[e];refine⟨by rw[FU]at b;rw[show 8*(i+1)=8*i+8 by omega];exact b,g.imp id λ q=>?_⟩;rcases d with w|w
  .have:(bs.drop (8*i)).length=0:=by
    have:=a.len;rw[w]at this;have q:Op.cG [AV.nils]=B1 (.int .i64 0):=rfl;rw[q]at this;injection this with this;injection this with _ this;omega
   rw[yk]at this;omega
  .rw [q];exact w
def Jc{H:ar}{v:AV}{bs:List Int}(h:bI gU 1 H v bs){i:Nat}(j:8*(i+1)<=bs.length):Op.aA 1 [B5,B1 0,B5] [wV v i,.int .i64 8]=B1 (pz (wV v i))/\Op.aA 1 [B1 0,B5,B5] [wV v i,.int .i64 8]=B1 (wV v (i+1))/\bI gU 1 H (pz (wV v i)) ((bs.drop (8*i)).take 8):=by
 have⟨a,g⟩:=yE h i (by omega);have⟨f,c,e,n⟩:=a.upto TI (k:=8) (by rw[yk];omega) (z:=8) rfl .i64;have⟨d,b,l,m⟩:=a.from TI (k:=8) (by rw[yk];omega) (z:=8) rfl .i64;have e1:pz (wV v i)=f:=by unfold pz;rw[c];rfl
 have e2:wV v (i+1)=d:=by show uD (wV v i)=d;unfold uD;rw[b];rfl
 exact⟨by rw[e1];exact c,by rw[e2];exact b,by rw[e1];exact e⟩
def xc9{H0:ar}{a:Nat}{sv:AV}{bs:List Int}(hs:bI gU 1 H0 sv bs)(J:H0.get a=B1 (OR [sv] sL))(hb:a<H0.au)(hl:bs.length<=1000000) :
 qQ M NY [] [.ptr a 0] (λ _=>False) (λ z=>z=a) H0 ((MX (bs.length / 8)).map λ i=>[pz (wV sv i)]):=by
 intro Y R S k H1 P L u x loc H step;have⟨p1,T,I⟩:=L a (.inr rfl)
 suffices h:zb M NY [.fn (.yield Y) [] [],.ptr a 0] H1 (I4 R S k (λ z=>z=a) H1 ((MX (bs.length / 8)).map λ i=>[pz (wV sv i)]).length)by
  have⟨v,H',N,W',U,W,X⟩:=h.elim;exact⟨v,H',W',N,U,W,X⟩
 refine q68 ?_;rw[xu,jj];simp only[aa,bc,Ti];refine cu.intro (λ n E g=>∃(i:Nat)(V:Nat->Prop),E=[(0,.fn (.yield Y) [] []),(1,.ptr a 0)]/\n=bs.length / 8-i/\i<=bs.length / 8/\R i V g/\(∀b,V b->b<g.au/\(k b\/H1.au<=b))/\Fr (λ b=>k b\/b=a) H1 g/\g.get a=B1 (OR [wV sv i] sL)) ?_ ?_
 .exact ⟨_,_,⟨0,k,rfl,rfl,xw _,u,λ b hb=>⟨x b hb,.inl hb⟩,Fr.refl _,by rw[T];exact J⟩,by simp only[aa,bc]⟩
 rintro n E g ⟨i,V,rfl,rfl,hi,hR,hV,r,hg⟩;have K:8*i<=bs.length:=by omega
 have ll:=(yE hs i K).1.len;rw[yk]at ll;have lb:Op.ae [.ptr a 0] g=B1 (wV sv i):=x9 (xb hg) 0;have nF:=r.au;rcases xz i (bs.length / 8)with C|O
 .have s:(8:Int)<=((bs.length-8*i:Nat):Int):=by omega
  have⟨Z,u2,u3⟩:=Jc hs (i:=i) (by omega);have⟨bb,f,o,hr,A,m,Q,j⟩:=step i [pz (wV sv i)] (by rw[xq,kj C];rfl) V g hR hV r;have nb:¬V a:=λ q=>(hV a q).2.elim I λ w=>by omega
  have F:f.get a=B1 (OR [wV sv i] sL):=by rw[A.ah a (by omega) nb];exact hg
  have nf:=A.au;have l3:Op.ae [.ptr a 0] f=B1 (wV sv i):=x9 (xb F) 0;have l:Fr (λ b=>k b\/b=a) H1 f:=r.trans A λ y q=>(hV y q).2.imp .inl id;have d:∀y,o y->y<f.au/\(k y\/H1.au<=y):=λ y q=>⟨(m y q).1,(m y q).2.elim (λ w=>(hV y w).2) λ w=>.inr (by omega)⟩
  simp only[aa,bc,Ti,lb,ll,qv s,Z];refine C3.uZ hr ?_;cases bb with
  |true =>
   have one:aD (wV sv (i+1))=true:=Sl.one (yE hs (i+1) (by omega)).1;have st:=(At.st (c:=[wV sv i]) (t:=sL) ⟨F,by omega⟩ 0 one (by simp):Op.store 1 [.ptr a 0,wV sv (i+1)] f=_)
   simp only[aa,bc,Ti,l3,u2,st,List.set];have p:Fr (On a) f (f.set a (OR [wV sv (i+1)] sL)):=cI ..;have D:¬o a:=λ q=>(d a q).2.elim I λ w=>by omega
   exact⟨_,_,⟨i+1,o,rfl,rfl,by omega,loc _ _ _ _ (Q rfl) (λ y G=>p.ah y (d y G).1 λ(e:y=a)=>D (by rw[<-e];exact G)) p.au,λ y q=>⟨qn (d y q).1 p.au,(d y q).2⟩,l.trans p λ y(q:y=a)=>.inl (.inr q),xc ..⟩,by simp only[aa,bc],by omega⟩
  |false =>
   simp only[aa,bc];exact⟨o,l,d,.inr (j rfl)⟩
 .have B:i=bs.length / 8:=by omega
  have s:¬(8:Int)<=((bs.length-8*i:Nat):Int):=by omega
  simp only[aa,bc,Ti,lb,ll,s];exact⟨V,r,hV,.inl (by rw[<-B];exact hR)⟩
end Go.Am
namespace Go.Am
open Lang Go.Proofs
variable{M:ak}[MK M]
def JM(a b:Int):∃n,Op.bin .or [.int .u32 a,.int .u32 b]=B1 (.int .u32 n):=⟨_,rfl⟩
noncomputable def Tr(a b:Int):Int:=Classical.choose (JM a b)
def Qy(a b:Int):Op.bin .or [.int .u32 a,.int .u32 b]=B1 (.int .u32 (Tr a b)):=Classical.choose_spec (JM a b)
def xN(a:Int)(n:Nat):Int:=aj .u32 (aj .u32 a*2 ^ (min n (IntKind.bits .u32)))
def Yo(a:Int)(n:Nat):Op.bin .shl [.int .u32 (aj .u32 a),.int .u64 (n:Int)]=B1 (.int .u32 (xN a n)):=J6 ..
def G6(a:Int):Op.bin .shl [.int .u32 (aj .u32 a),.int .u64 24]=B1 (.int .u32 (xN a 24)):=Yo a 24
def HK(a:Int):Op.bin .shl [.int .u32 (aj .u32 a),.int .u64 16]=B1 (.int .u32 (xN a 16)):=Yo a 16
def Kd(a:Int):Op.bin .shl [.int .u32 (aj .u32 a),.int .u64 8]=B1 (.int .u32 (xN a 8)):=Yo a 8
noncomputable def zM(p:List Int):iV:=⟨aj .i64 (p.getD 0 0),aj .i64 (p.getD 1 0),aj .i64 (p.getD 2 0),aj .i64 (p.getD 3 0),aj .i64 (aj .i32 (Tr (Tr (Tr (xN (p.getD 4 0) 24) (xN (p.getD 5 0) 16)) (xN (p.getD 6 0) 8)) (aj .u32 (p.getD 7 0))))⟩
noncomputable def nI(bs:List Int):List iV:=(MX (bs.length / 8)).map λ i=>zM ((bs.drop (8*i)).take 8)
structure P4(xs:List iV)(t:Nat)(i:Nat)(V:Nat->Prop)(Hx:ar):Prop where
 vt:V t
 lt:t<Hx.au
 ls:∃lv,Hx.get t=B1 (OR [lv] vC)/\aO gn AR 5 Hx lv (xs.take i) /\ ∀a,aM lv a->V a/\t<a
def P4.loc{ys:List iV}{t i:Nat}{V:Nat->Prop}{a Hb:ar}(h:P4 ys t i V a)(hs:∀x,V x->Hb.get x=a.get x)(hn:a.au<=Hb.au):P4 ys t i V Hb:=by
 have⟨lv,l1,l2,l3⟩:=h.ls;refine⟨h.vt,qn h.lt hn,lv,by rw[hs _ h.vt];exact l1,?_,l3⟩;exact Own.fr l2 (⟨hn,λ b _ hw=>hs b (we.1 hw)⟩:Fr (λ b=>¬V b) a Hb) λ x c w=>w (l3 x c).1
def xea{H:ar}{sv:AV}{bs:List Int}(hs:bI gU 1 H sv bs)(hb:bs≠[]->aE sv<H.au)(one:aD sv=B4)(hl:bs.length<=100000) :
 zb M Re [sv] H λ v H'=>aO gn AR 5 H' v ((nI bs).take 1024)/\(∀z,aM v z->H.au<=z)/\Fr Em H H':=by
 refine xcg ?_;obtain⟨H1,e1,f1,n1,-⟩:=bZ H (OR [.nils] vC);obtain⟨J,e2,F,-,g2⟩:=bZ H1 (OR [sv] sL);have n2:J.au=H.au+2:=by rw[e2,xy,n1]
 have Q:J.get H.au=B1 (OR [.nils] vC):=by rw[F.ah _ (by omega) id,e1,xp]
 have O:=f1.em F;have s2:bI gU 1 J sv bs:=Sl.em hs O;have cs:AV.cells sv=[sv]:=FL one;have al:zb M qza [sv] H1 λ v H'=>v=.fn (.func NY) [] [.ptr H1.au 0]/\H'=J:=by
  refine xch ?_;have mk:Op.bK NY 0 [.ptr H1.au 0]=B1 (.fn (.func NY) [] [.ptr H1.au 0]):=rfl;simp only[aa,bc,xci,cs,<-e2];rfl
 simp only[aa,bc,SK,<-e1];refine C3.q al λ v H'⟨hv,hh⟩=>?_;subst hv;subst hh;simp only[aa,bc];have xl:(nI bs).length=bs.length / 8:=by unfold nI;rw[xu,jj]
 refine iP.iter (fn:=Tt) (lp:=QW) (pa:=X7 0) (pb:=Zc 0) q9z qtj.1 qtj.2 (by decide) q66 q67
  (xc9 s2 g2 (by omega) (by omega)) (λ i V N=>i<=1024/\P4 (nI bs) H.au i V N) (λ e V N=>e=.exit 0/\P4 (nI bs) H.au 1024 V N) (λ x=>x=H.au) (qm _) ?_ ?_ ?_ ?_ ?_ ?_ ?_ ?_
 .rintro x (q|q)
  .exact q.elim
  .exact ⟨by omega,rfl,λ w=>by omega⟩
 .exact λ x T=>by omega
 .exact ⟨xw _,rfl,by omega,.nils,Q,Own.nil ..,λ x q=>(q.1 rfl).elim⟩
 .exact λ i V Ha Hb h hs hn=>⟨h.1,h.2.loc hs hn⟩
 .exact λ e V Ha Hb h hs hn=>⟨h.1,h.2.loc hs hn⟩
 .intro L i lr lb x T hL V o ⟨hi,s⟩ hV hf6 hnL hL6 hgL;rw[xq,xr]at T;obtain⟨j,S,rfl⟩:=T;have u:i<bs.length / 8:=by have:=(qt.1 S).1;rw[jj]at this;exact this
  rw[kj u]at S;cases S;refine⟨_,rfl,?_⟩;have w:=SK M ⟨B1 L,Re⟩;simp only[aa,bc,w,Ct];refine⟨hgL,?_⟩;have P:Fr (On L) o (o.set L lb):=(Fr.refl o).set (W:=On L) (.inl rfl) _;have gL:(o.set L lb).get L=B1 lb:=xc ..;have nL:(o.set L lb).au=o.au:=rfl;have nf6:=hf6.au;have bne:bs≠[]:=λ q=>by rw[q]at u;simp at u
  have s6:bI gU 1 (o.set L lb) sv bs:=by
   refine Sl.fr (Sl.fr s2 hf6 (.inr λ q=>?_)) P (.inr λ(q:aE sv=L)=>?_)
   .have:=hb bne;rcases q with(q:aE sv=H.au)|(q:aE sv=H1.au)<;>omega
   .have:=hb bne;omega
  have g:=s.loc (Hb:=o.set L lb) (λ y hy=>by rw[yd (λ q:L=y=>hnL (by rw[q];exact hy))]) (qm _);generalize o.set L lb=H8 at *;have⟨f,l1,l2,l3⟩:=g.ls;have D:Op.ae [.ptr H.au 0] H8=B1 f:=x9 (xb l1) 0;have ln:=(aO.sl l2).len;have mX:((nI bs).take i).length=i:=by rw[js];omega
  rw[mX]at ln
  by_cases q:i=1024
  .have Y:(i:Int)=1024:=by omega
   simp only[aa,bc,D,ln,qv Y];refine⟨rfl,gL,V,λ z hz=>⟨by have:=(hV z hz).1;omega,.inl hz⟩,P.mono λ z _ q=>.inr q,.inr ⟨trivial,rfl,by rw[<-q];exact g⟩⟩
  .have Y:¬(i:Int)=1024:=by omega
   obtain⟨-,-,Z⟩:=Jc s6 (i:=i) (by omega);obtain⟨p,hp⟩:∃p,p=(bs.drop (8*i)).take 8:=⟨_,rfl⟩
   rw[<-hp]at Z;have p8:p.length=8:=by rw[hp,js,yk];omega
   have at':∀k:Nat,k<8 -> ∃z,p[k]? = B1 z/\p.getD k 0=z:=λ k hk=>⟨p[k],by rw[xf],by rw[zt,xf];rfl⟩
   have rd:∀k:Nat,k<8 -> ∀n:Int,n=(k:Int) -> ∃a,Op.aR 1 [pz (wV sv i),.int .i64 n]=B1 a/\Op.ae [a] H8=B1 (.int .u8 (p.getD k 0)):=λ k hk n hn=>by
    have⟨z,h1,h2⟩:=at' k hk;exact⟨_,Z.idx h1 hn .i64,by rw[Z.ig TI h1 (by decide),h2];rfl⟩
   have⟨a0,i0,r0⟩:=rd 0 (by omega) 0 rfl;have⟨a1,i1,r1⟩:=rd 1 (by omega) 1 rfl;have⟨a2,i2,r2⟩:=rd 2 (by omega) 2 rfl;have⟨a3,i3,r3⟩:=rd 3 (by omega) 3 rfl;have⟨a4,i4,r4⟩:=rd 4 (by omega) 4 rfl;have⟨a5,i5,r5⟩:=rd 5 (by omega) 5 rfl;have⟨a6,i6,r6⟩:=rd 6 (by omega) 6 rfl;have⟨a7,i7,r7⟩:=rd 7 (by omega) 7 rfl;have bd:∀a b c d m:Int,Op.build [.int .i64 0,.int .i64 0,.int .i64 0,.int .i64 0,.int .i64 0] [(0,1),(1,1),(2,1),(3,1),(4,1)] [.int .i64 a,.int .i64 b,.int .i64 c,.int .i64 d,.int .i64 m]=B1 (.agg (gn ⟨a,b,c,d,m⟩)):=λ _ _ _ _ _=>rfl;have tk:(nI bs).take (i+1)=(nI bs).take i ++ [zM p]:=by
    rw[j7,show(nI bs)[i]? = B1 (zM p)by unfold nI;rw[xq,kj u,hp];rfl];rfl
   simp only[aa,bc,w,D,ln,Y,i0,i1,i2,i3,i4,i5,i6,i7,r0,r1,r2,r3,r4,r5,r6,r7,G6,HK,Kd,Qy,bd];refine aO.oi (bytes:=40) l2 (a:=zM p) rfl rfl rfl rfl (by decide) (by omega) (by omega) λ l K C t G=>?_;have q9:At K H.au vC [f]:=⟨by rw[t.ah _ g.lt λ q=>by have:=(l3 _ q).2;omega];exact l1,qn g.lt t.au⟩
   have o1:aD l=true:=by have:=Sl.one (Own.sl C);exact this
   have st:=q9.st 0 o1 (by simp);obtain⟨E,r⟩:∃X,X=K.set H.au (OR ([f].set 0 l) vC):=⟨_,rfl⟩
   rw[<-r]at st;have B:Fr (On H.au) K E:=by rw[r];exact cI ..
   simp only[aa,bc,st];have I:∀y,aM l y->H.au<y:=λ y q=>(G y q).elim (λ q=>(l3 y q).2) λ q=>by have:=g.lt;omega
   have nf:=t.au;have U:E.au=K.au:=by rw[r];rfl
   refine⟨rfl,?_,λ y=>V y\/aM l y,?_,?_,.inl ⟨rfl,by omega,.inl s.vt,by have:=g.lt;omega,l,by rw[r,xc];rfl,?_,λ y q=>⟨.inr q,I y q⟩⟩⟩
   .rw [B.ah L (by omega) (λ(q:L=H.au)=>hnL (by rw[q];exact s.vt)),t.ah L (by omega) λ q=>hnL (l3 _ q).1];exact gL
   .rintro y (q|q)
    .exact ⟨by have:=(hV y q).1;omega,.inl q⟩
    .refine ⟨by rw[U];exact Own.lt C y q,?_⟩;rcases G y q with w|w
     .exact .inl (l3 y w).1
     .exact .inr (by omega)
   .exact (((P.mono λ z _ q=>.inr q).trans t λ y q=>.inl (.inl (l3 y q).1)).trans B λ y(q:y=H.au)=>.inl (.inl (by rw[q];exact s.vt)))
   .rw [tk];exact Own.fr C B λ y q(w:y=H.au)=>by have:=I y q;omega
 .rintro d V H' hd R hg t hV ⟨hi,s⟩;rw[xu,jj]at s hi;have⟨f,l1,l2,l3⟩:=s.ls;rw[<-xl,LU]at l2;have A:(nI bs).take 1024=nI bs:=za (by omega);have fd:Fr (On d) H' (H'.set d (.deferred B5)):=(Fr.refl H').set (W:=On d) (.inl rfl) _;have D:Op.ae [.ptr H.au 0] H'=B1 f:=x9 (xb l1) 0;simp only[aa,bc,SK,D];rw[A];refine⟨hg,Own.fr l2 fd λ z q(w:z=d)=>(hV z (l3 z q).1).2.2 w,λ z q=>?_,?_⟩
  .have:=(l3 z q).2;omega
  .exact (O.trans (t.mono λ z _ q=>q) λ z q=>.inr (by rcases q with(q:z=H.au)|(q:z=H1.au)<;>omega)).trans fd λ z(q:z=d)=>.inr (by omega)
 .rintro e d V H' he hd R hg t hV ⟨rfl,s⟩;have⟨f,l1,l2,l3⟩:=s.ls;have fd:Fr (On d) H' (H'.set d (.deferred B5)):=(Fr.refl H').set (W:=On d) (.inl rfl) _;have D:Op.ae [.ptr H.au 0] H'=B1 f:=x9 (xb l1) 0;simp only[aa,bc,SK,D];refine⟨hg,Own.fr l2 fd λ z q(w:z=d)=>(hV z (l3 z q).1).2.2 w,λ z q=>?_,?_⟩
  .have:=(l3 z q).2;omega
  .exact (O.trans (t.mono λ z _ q=>q) λ z q=>.inr (by rcases q with(q:z=H.au)|(q:z=H1.au)<;>omega)).trans fd λ z(q:z=d)=>.inr (by omega)
end Go.Am
namespace Go.Am
open Lang Go.Proofs
variable{M:ak}[MK M]
structure Wo where
 b:Bu
 cs:List Co
 h:List fk
 n:Int
def lY(B:Nat)(cvs hv:AV)(n:Int):List AV:=[.ptr B 0,cvs,hv,.int .i64 n]
def uf(w:Nat)(cvs hv:AV)(z:Nat):Prop:=z=w\/aM cvs z\/aM hv z
structure fH(Hb H:ar)(w B:Nat)(cvs hv:AV)(bs:Bs)(own:Nat->Nat)(ks:List Ck)(V:Int->L8)(k:Nat)(x:Wo):Prop where
 row:At H w FT (lY B cvs hv x.n)
 cl:aO pA AU 1 H cvs (ks.map Ck.p)
 hl:aO fk.enc jr 9 H hv x.h
 b:eL Hb H B bs x.b own
 I:BuI x.b V
 C:BC x.b k
 U:yK x.b
 co:∀(i:Nat)c A,x.cs[i]? = B1 c->ks[i]? = B1 A->dU H A.o A.p A.f A.l A.sp A.cv A.rv .nils .nili c [] k/\c.id=i
 kl:ks.length=x.cs.length
 nl:x.cs.length<=x.b.ns.length
 dj:∀(i:Nat)A,ks[i]? = B1 A -> ∀z,gJ B bs z\/uf w cvs hv z->A.o z=0
 d2:∀(i j:Nat)A A',ks[i]? = B1 A->ks[j]? = B1 A'->i≠j -> ∀z,z<H.au->A.o z≠0->A'.o z=0
 lo:∀(i:Nat)A,ks[i]? = B1 A -> ∀z,z<H.au->A.o z≠0->Hb.au<=z
 wb:∀z,uf w cvs hv z -> ¬gJ B bs z/\Hb.au<=z
 w1:¬aM cvs w /\ ¬aM hv w
 w2:∀z,aM cvs z -> ¬aM hv z
section
variable{Hb H H':ar}{w B k k' i:Nat}{cvs hv:AV}{bs:Bs}{own:Nat->Nat}{ks:List Ck}{V:Int->L8}{x:Wo}{c:Co}{A:Ck}
def fH.re(h:fH Hb H w B cvs hv bs own ks V k x)(d:x.cs[i]? = B1 c)(a:ks[i]? = B1 A):FG (A.at Hb H B bs k) 0 c x.b H A.o A.rv bs own V:=by
 have⟨f,g⟩:=h.co i c A d a;have j:=(qt.1 d).1;have hn:=h.nl;exact⟨f,h.b,h.I,h.C,h.U,by rw[g];omega,λ z q=>h.dj i A a z (.inl q),h.lo i A a,λ z q e=>.inl ⟨q,e⟩,λ z q=>.inl q,Fr.refl H⟩
def fH.low(h:fH Hb H w B cvs hv bs own ks V k x){z:Nat}(q:uf w cvs hv z):z<H.au:=by
 rcases q with rfl|q|q
 .exact h.row.2
 .exact Own.lt h.cl z q
 .exact Own.lt h.hl z q
def ot{o:Nat->Nat}{n z:Nat}(e:aQ o n 0 z≠0):z<n/\o z≠0:=by
 rcases xz z n with a|a
 .rw [ww a]at e;exact⟨a,e⟩
 .rw [ny a]at e;exact(e rfl).elim
theorem fH.back(h:fH Hb H w B cvs hv bs own ks V k x)(S:x.cs[i]? = B1 c)(s:ks[i]? = B1 A){u:Co}{F:Bu}{o':Nat->Nat}{rv':AV}{bs':Bs}{aQ:Nat->Nat}{Q:Int->L8}(N:u.id=c.id)(O:F.ns.length=x.b.ns.length)
 (q:FG (A.at Hb H B bs k) k' u F H' o' rv' bs' aQ Q):fH Hb H' w B cvs hv bs' aQ ((ks.map λ f=>{f with o:=Go.Am.aQ f.o H.au 0}).set i {A with rv:=rv',o:=o'}) Q (k+k') {x with b:=F,cs:=x.cs.set i u}:=by
 have Y:=(qt.1 S).1;have hk:=h.kl;have nx:H.au<=H'.au:=q.fr.au;have⟨X,L⟩:=h.co i c A S s;have ex:∀{j:Nat}{f:Ck},((ks.map λ f=>{f with o:=Go.Am.aQ f.o H.au 0}).set i {A with rv:=rv',o:=o'})[j]? = B1 f->(j=i/\f = {A with rv:=rv',o:=o'})\/j≠i /\ ∃a,ks[j]? = B1 a/\f = {a with o:=Go.Am.aQ a.o H.au 0}:=λ{j f}e=>by
  by_cases w:j=i
  .subst w;rw[zk (by rw[xu];omega)]at e;injection e with e;exact .inl ⟨rfl,e.symm⟩
  .rw [zq (λ e=>w e.symm),xq]at e;have⟨a,e1,e2⟩:=xr.1 e;exact .inr ⟨w,a,e1,e2.symm⟩
 -- what may have K is not the D own,Z v G
 have nw:∀z,uf w cvs hv z -> ¬((A.at Hb H B bs k).o z≠0\/(A.at Hb H B bs k).W z):=λ z e r=>r.elim (λ r=>r (h.dj i A s z (.inr e))) (h.wb z e).1;have nc:∀{j:Nat}{a:Ck},ks[j]? = B1 a->j≠i -> ∀z,z<H.au->a.o z≠0 -> ¬((A.at Hb H B bs k).o z≠0\/(A.at Hb H B bs k).W z):=λ{j a}e ne z g r t=>t.elim (λ t=>r (h.d2 i j A a s e (λ e=>ne e.symm) z g t)) λ t=>r (h.dj j a e z (.inl t));have kp:((ks.map λ f=>{f with o:=Go.Am.aQ f.o H.au 0}).set i {A with rv:=rv',o:=o'}).map Ck.p=ks.map Ck.p:=by
  apply yj;intro j;rw[xq,xq]
  by_cases w:j=i
  .subst w;rw[zk (by rw[xu];omega),s];rfl
  .rw [zq (λ e=>w e.symm),xq,Option.map_map];rfl
 refine⟨h.row.fr q.fr (nw w (.inl rfl)),by rw[kp];exact Own.fr h.cl q.fr λ z e=>nw z (.inr (.inl e)),Own.fr h.hl q.fr λ z e=>nw z (.inr (.inr e)),q.b,q.I,q.C,q.U,λ j d f n m=>?_,by rw[ze,xu,ze];exact hk,by show(x.cs.set i u).length<=F.ns.length;rw[ze,O];exact h.nl,λ j f m z e=>?_,λ j j2 A1 A2 T R ne z g e=>?_,λ j f m z g e=>?_,λ z e=>⟨λ r=>?_,(h.wb z e).2⟩,h.w1,h.w2⟩
 .rcases ex m with⟨rfl,rfl⟩|⟨w,a,e1,rfl⟩
  .have n:(x.cs.set j u)[j]? = B1 d:=n;rw[zk Y]at n;cases n;exact⟨q.c,N.trans L⟩
  .have n:(x.cs.set i u)[j]? = B1 d:=n;rw[zq (λ e=>w e.symm)]at n;have⟨r1,r2⟩:=h.co j d a n e1;exact⟨r1.fr q.fr (λ z g r=>nc e1 w z g r) (λ z g=>ww g) (by omega),r2⟩
 .rcases ex m with⟨rfl,rfl⟩|⟨w,a,e1,rfl⟩
  .rcases e with e|e
   .exact q.dj z e
   .have g:=h.low e;refine zy λ r=>?_;rcases q.go z (by omega) r with⟨_,t⟩|t
    .exact t (h.dj j A s z (.inr e))
    .have:H.au<=z:=t;omega
  .refine zy λ r=>?_;have⟨g,r⟩:=ot r;rcases e with e|e
   .exact (q.gb z e).elim (λ t=>r (h.dj j a e1 z (.inl t))) (Nat.not_le.2 g)
   .exact r (h.dj j a e1 z (.inr e))
 .rcases ex T with⟨rfl,rfl⟩|⟨w1,P,e1,rfl⟩
  .rcases ex R with⟨rfl,-⟩|⟨w2,E,e2,rfl⟩
   .exact (ne rfl).elim
   .show Go.Am.aQ E.o H.au 0 z=0;rcases q.go z g e with⟨J,t⟩|t
    .have J:z<H.au:=J;rw[ww J];exact h.d2 _ _ A E s e2 ne z J t
    .have t:H.au<=z:=t;exact ny t
  .have ⟨l,e⟩:=ot e;rcases ex R with⟨rfl,rfl⟩|⟨w2,E,e2,rfl⟩
   .refine zy λ r=>?_;rcases q.go z g r with⟨_,t⟩|t
    .exact t (h.d2 _ _ P A e1 s w1 z l e)
    .exact Nat.not_le.2 l t
   .exact (ww l).trans (h.d2 _ _ P E e1 e2 ne z l e)
 .rcases ex m with⟨rfl,rfl⟩|⟨w,a,e1,rfl⟩
  .exact q.hb z g e
  .have ⟨l,e⟩:=ot e;exact h.lo j a e1 z l e
 .rcases q.gb z r with t|t
  .exact (h.wb z e).1 t
  .have:H.au<=z:=t;have:=h.low e;omega
def fH.turn(h:fH Hb H w B cvs hv bs own ks V k x){X:Nat->Prop}{hv':AV}{bs':Bs}{aQ:Nat->Nat}{v:Int->L8}{m:Bu}{q:List fk}{n':Int}(f:Fr X H H')(J:∀z,X z->gJ B bs z\/uf w cvs hv z)(kk:k<=k')(nl:m.ns.length=x.b.ns.length)(row:At H' w FT (lY B cvs hv' n'))(hl:aO fk.enc jr 9 H' hv' q)(b:eL Hb H' B bs' m aQ)(I:BuI m v)(C:BC m k')(U:yK m)(cl:∀z,aM cvs z -> ¬X z)(hb:∀z,gJ B bs' z->gJ B bs z\/H.au<=z)(u:∀z,aM hv' z->aM hv z\/H.au<=z)(nb:∀z,H.au<=z->aM hv' z -> ¬gJ B bs' z):fH Hb H' w B cvs hv' bs' aQ (wide ks H.au) v k' {x with b:=m,h:=q,n:=n'}:=by
 have nx:H.au<=H'.au:=f.au;have K:Hb.au<=H.au:=by have:=h.b.lo B (.inl rfl);have:=h.b.lt;omega
 have ex:∀{j:Nat}{p:Ck},(wide ks H.au)[j]? = B1 p -> ∃a,ks[j]? = B1 a/\p = {a with o:=Go.Am.aQ a.o H.au 0}:=Gr;have hw:∀z,uf w cvs hv' z->uf w cvs hv z\/H.au<=z/\aM hv' z:=λ z e=>by
  rcases e with e|e|e
  .exact .inl (.inl e)
  .exact .inl (.inr (.inl e))
  .exact (u z e).imp (λ t=>.inr (.inr t)) λ t=>⟨t,e⟩
 refine⟨row,?_,hl,b,I,C,U,λ j d p L g=>?_,by unfold wide;rw[xu];exact h.kl,by rw[nl];exact h.nl,λ j p g z e=>?_,λ j S Q R e1 e2 ne z s e=>?_,λ j p g z s e=>?_,λ z e=>?_,⟨h.w1.1,λ e=>?_⟩,λ z e r=>?_⟩
 .unfold wide;rw[AF];exact Own.fr h.cl f cl
 .obtain ⟨a,e1,rfl⟩:=ex g;have⟨N,O⟩:=h.co j d a L e1;exact⟨N.fr f (λ z s r e=>r (h.dj j a e1 z (J z e))) (λ z s=>ww s) kk,O⟩
 .obtain ⟨a,e1,rfl⟩:=ex g;refine zy λ r=>?_;have⟨s,r⟩:=ot r;rcases e with e|e
  .exact (hb z e).elim (λ t=>r (h.dj j a e1 z (.inl t))) (by omega)
  .exact (hw z e).elim (λ t=>r (h.dj j a e1 z (.inr t))) λ t=>by omega
 .obtain ⟨D,F,rfl⟩:=ex e1;obtain⟨E,G,rfl⟩:=ex e2;have⟨l,e⟩:=ot e;exact(ww l).trans (h.d2 _ _ D E F G ne z l e)
 .obtain ⟨a,e1,rfl⟩:=ex g;have⟨l,e⟩:=ot e;exact h.lo j a e1 z l e
 .rcases hw z e with t|⟨t,P⟩
  .exact ⟨λ r=>(hb z r).elim (h.wb z t).1 λ r=>by have:=h.low t;omega,(h.wb z t).2⟩
  .exact ⟨nb z t P,by omega⟩
 .rcases u w e with t|t
  .exact h.w1.2 t
  .have:=h.row.2;omega
 .rcases u z r with t|t
  .exact h.w2 z e t
  .have:=Own.lt h.cl z e;omega
def fH.lG(h:fH Hb H w B cvs hv bs own ks V k x)(t:Bt)(hv':fL t.v)(hp:kC Hb H B bs (x.b.step t) H'):∃bs' aQ j,fH Hb H' w B cvs hv bs' aQ (wide ks H.au) j (k+1) {x with b:=x.b.step t}/\(∀z,gJ B bs' z->gJ B bs z\/H.au<=z)/\Fr (gJ B bs) H H':=by
 have⟨a,d,l,g,f⟩:=hp;have nw:∀z,uf w cvs hv z -> ¬gJ B bs z:=λ z e=>(h.wb z e).1;exact⟨a,d,_,h.turn f (λ z e=>.inl e) (kc k) (ac9 ..) (h.row.fr f (nw w (.inl rfl))) (Own.fr h.hl f λ z e=>nw z (.inr (.inr e))) l (EC h.I t) (Bc h.C t) (h.U.step t hv') (λ z e=>nw z (.inr (.inl e))) g (λ z e=>.inl e) λ z q e=>by have:=Own.lt h.hl z e;omega,g,f⟩
def fH.Mx(h:fH Hb H w B cvs hv bs own ks V k x){hv':AV}{a:List fk}{n':Int}(f:Fr (λ z=>z=w\/aM hv z) H H')(row:At H' w FT (lY B cvs hv' n'))(hl:aO fk.enc jr 9 H' hv' a)(g:∀z,aM hv' z->aM hv z\/H.au<=z):fH Hb H' w B cvs hv' bs own (wide ks H.au) V k {x with h:=a,n:=n'} :=
 have d:∀z,(z=w\/aM hv z)->uf w cvs hv z:=λ z q=>q.imp id .inr
 h.turn f (λ z q=>.inr (d z q)) (qm k) rfl row hl (h.b.fr f λ z q=>⟨(h.wb z (d z q)).2,(h.wb z (d z q)).1⟩) h.I h.C h.U (λ z e q=>q.elim (λ q=>h.w1.1 (by rw[<-q];exact e)) λ q=>h.w2 z e q) (λ z q=>.inl q) g λ z q _ r=>by have:=h.b.low r;omega
def fH.em(h:fH Hb H w B cvs hv bs own ks V k x)(f:Fr Em H H'):fH Hb H' w B cvs hv bs own (wide ks H.au) V k x :=
 h.Mx (f.mono λ _ _ q=>q.elim) (h.row.em f) (Own.em h.hl f) λ z q=>.inl q
structure kR(H:ar)(w B:Nat)(cvs hv:AV)(bs:Bs)(ks:List Ck)(z:Nat):Prop where
 lt:z<H.au
 nb:¬gJ B bs z
 nw:¬uf w cvs hv z
 nc:∀(i:Nat)A,ks[i]? = B1 A->A.o z=0
def kR.wide{z:Nat}{hv':AV}{bs':Bs}(h:kR H w B cvs hv bs ks z)(nx:H.au<=H'.au)(d:aM hv' z->aM hv z\/H.au<=z)(b:gJ B bs' z->gJ B bs z\/H.au<=z):kR H' w B cvs hv' bs' (wide ks H.au) z:=by
 have:=h.lt;refine⟨by omega,λ q=>(b q).elim h.nb (by omega),λ q=>?_,λ i A e=>?_⟩
 .rcases q with q|q|q
  .exact h.nw (.inl q)
  .exact h.nw (.inr (.inl q))
  .exact (d q).elim (λ q=>h.nw (.inr (.inr q))) (by omega)
 .obtain ⟨a,e1,rfl⟩:=Gr e;show Go.Am.aQ a.o H.au 0 z=0;rw[ww h.lt];exact h.nc i a e1
def fH.new(h:fH Hb H w B cvs hv bs own ks V k x){z:Nat}(a:H.au<=z)(d:z<H'.au):kR H' w B cvs hv bs (wide ks H.au) z:=by
 refine⟨d,λ q=>by have:=h.b.low q;omega,λ q=>by have:=h.low q;omega,λ i A e=>?_⟩;obtain⟨f,e1,rfl⟩:=Gr e;exact ny a
def fH.Q2(h:fH Hb H w B cvs hv bs own ks V k x){z:Nat}(a:kR H w B cvs hv bs ks z)(hb:Hb.au<=z)(d:bE):fH Hb (H.set z d) w B cvs hv bs own ks V k x:=by
 have f:Fr (On z) H (H.set z d):=(Fr.refl H).set (W:=On z) (.inl rfl) _;have nw:∀y,uf w cvs hv y -> ¬On z y:=λ y e(q:y=z)=>a.nw (by rw[<-q];exact e);exact{h with row:=h.row.fr f (nw w (.inl rfl)),cl:=Own.fr h.cl f λ y e=>nw y (.inr (.inl e)),hl:=Own.fr h.hl f λ y e=>nw y (.inr (.inr e)),b:=h.b.fr f λ y(q:y=z)=>by rw[q];exact⟨hb,a.nb⟩,co:=λ i c A e1 e2=>⟨(h.co i c A e1 e2).1.fr f (λ y yl r(q:y=z)=>r (by rw[q];exact a.nc i A e2)) (λ _ _=>rfl) (qm _),(h.co i c A e1 e2).2⟩}
end
end Go.Am
namespace Go.Am
open Lang Go.Proofs
variable{M:ak}[MK M]
section
variable{Hb H H':ar}{w B k k':Nat}{i:Int}{cvs hv:AV}{bs:Bs}{own:Nat->Nat}{ks:List Ck}{V:Int->L8}{x:Wo}{c:Co}{A:Ck}
def fH.bm(h:fH Hb H w B cvs hv bs own ks V k x):Op.ae [.ptr w 0] H=B1 (.ptr B 0)/\Op.ae [.ptr w 1] H=B1 cvs/\Op.ae [.ptr w 2] H=B1 hv/\Op.ae [.ptr w 3] H=B1 (.int .i64 x.n)/\Op.cG [cvs]=B1 (.int .i64 ((x.cs.length:Nat):Int)) :=
 ⟨h.row.ld 0,h.row.ld 1,h.row.ld 2,h.row.ld 3,by have:=(aO.sl h.cl).len;rw[xu,h.kl]at this;exact this⟩
def GG(p:Nat):(pA p).length=1:=rfl
def Ri(h:fH Hb H w B cvs hv bs own ks V k x)(d:0<=i)(a:ks[i.toNat]? = B1 A):∀K,C3 M B4 (.func Uf) [.ptr w 0,.int .i64 i] H K=K B4 (.ptr A.p 0) H:=by
 refine dC (qpu ?_);have j:=(qt.1 a).1;have hk:=h.kl;have e:¬i<0:=I3.2 d;have f:¬((x.cs.length:Nat):Int)<=i:=by omega
 have b:(ks.map Ck.p)[i.toNat]? = B1 A.p:=by rw[xq,a];rfl
 have ix:=(aO.sl h.cl).idx b (z:=i) (LW d).symm .i64;have ld:=(aO.sl h.cl).ig GG b (by decide);have g:(pA A.p)[0]? = B1 (.ptr A.p 0):=rfl;rw[g]at ld;simp only[aa,bc,UD,aw,h.bm,e,f,ix,ld]
def Λ(h:fH Hb H w B cvs hv bs own ks V k x)(d:¬(0<=i/\i<x.cs.length)):∀K,C3 M B4 (.func Uf) [.ptr w 0,.int .i64 i] H K=K B4 .nilp H:=by
 refine dC (qpu ?_)
 by_cases a:i<0
 .simp only[aa,bc,UD,aw,qv a]
 .have b:((x.cs.length:Nat):Int)<=i:=by omega
  simp only[aa,bc,UD,aw,h.bm,a,qv b]
end
structure To where
 e:Int
 m:Mg
 cd:Int
 co:Int
def hJ(t:To):List AV:=.int .i64 t.e::(ao t.m ++ [.int .i64 t.cd,.int .i64 t.co])
def kN(e:Int):To:=⟨e,⟨0,0,0,.zero⟩,0,0⟩
def Oi:[AV.int .i64 0,.int .i64 0,.int .i64 0,.int .i64 0,.int .u64 0,.int .u64 0,.int .u64 0,.int .u64 0,.int .u64 0,.int .u64 0,.int .u64 0,.int .u64 0,.int .i64 0,.int .i64 0]=hJ (kN 0):=rfl
def LJ(e:Int):Op.build (hJ (kN 0)) [(0,1)] [.int .i64 e]=B1 (.agg (hJ (kN e))):=rfl
def Ef(t:To):(hJ t).length=14:=by simp[hJ,zf]
def Zu(t:To):aL (hJ t)=true:=by
 unfold hJ;rw[vd,List.all_cons,List.all_append,<-vd,rh];rfl
section
variable{Hb H H':ar}{w B k k':Nat}{cvs hv:AV}{bs:Bs}{own:Nat->Nat}{ks:List Ck}{V:Int->L8}{x y:Wo}
def tV(Hb H:ar)(w B:Nat)(cvs hv:AV)(bs:Bs)(ks:List Ck)(k:Nat)(y:Wo)(H':ar):Prop:=∃hv' bs' aQ ks' V',fH Hb H' w B cvs hv' bs' aQ ks' V' k y/\H.au<=H'.au /\ ∀z,kR H w B cvs hv bs ks z->kR H' w B cvs hv' bs' ks' z/\H'.get z=H.get z
def tV.then{H1:ar}{e:AV}{d:Bs}{f:List Ck}(n1:H.au<=H1.au)(a:∀z,kR H w B cvs hv bs ks z->kR H1 w B cvs e d f z/\H1.get z=H.get z)(b:tV Hb H1 w B cvs e d f k y H'):tV Hb H w B cvs hv bs ks k y H':=by
 have⟨hv',bs',aQ,g,j,l,n2,h⟩:=b;exact⟨hv',bs',aQ,g,j,l,by omega,λ z q=>⟨(h z (a z q).1).1,(h z (a z q).1).2.trans (a z q).2⟩⟩
def fH.mono(h:fH Hb H w B cvs hv bs own ks V k x)(hk:k<=k'):fH Hb H w B cvs hv bs own ks V k' x :=
 {h with C:=h.C.mono hk,co:=λ i c A e1 e2=>⟨(h.co i c A e1 e2).1.fr (Fr.refl H) (λ _ _ _ q=>q) (λ _ _=>rfl) hk,(h.co i c A e1 e2).2⟩}
def fH.Xp(h:fH Hb H w B cvs hv bs own ks V k x){z:Nat}(a:kR H w B cvs hv bs ks z)(hb:Hb.au<=z){b:To}(g:H.get z=B1 (OR (hJ b) tX))(t:To):∃H',Op.store 14 [.ptr z 0,.agg (hJ t)] H=B1 (.undef,H')/\Op.aq 14 [.ptr z 0] H'=B1 (.agg (hJ t))/\fH Hb H' w B cvs hv bs own ks V k x/\Fr (On z) H H'/\kR H' w B cvs hv bs ks z/\H'.get z=B1 (OR (hJ t) tX) :=
 ⟨_,fK g (Ef _) (Ef t) (Zu _),eJ (xc ..) (Ef t),h.Q2 a hb _,cI ..,⟨by rw[t9];exact a.lt,a.nb,a.nw,a.nc⟩,xc ..⟩
def OI:Mg:=⟨0,0,0,.zero⟩
def Al(b:Bu)(n:Int):To:=if 0<=n then match b.fl[n.toNat]? with
 |some m=>⟨0,m,0,0⟩
 |none=>kN 50
 else kN 50
def zMg:[AV.int .i64 0,.int .i64 0,.int .i64 0,.int .u64 0,.int .u64 0,.int .u64 0,.int .u64 0,.int .u64 0,.int .u64 0,.int .u64 0,.int .u64 0]=ao OI:=rfl
def bTm(e:Int)(m:Mg):Op.build (hJ (kN 0)) [(0,1),(1,11)] [.int .i64 e,.agg (ao m)]=B1 (.agg (hJ ⟨e,m,0,0⟩)):=by
 have hl:=zf m;show _=B1 (AV.agg (.int .i64 e::(ao m ++ [.int .i64 0,.int .i64 0])));generalize ao m=l at *
 match l,hl with
 |[_,_,_,_,_,_,_,_,_,_,_],_=>rfl
structure MQ(Hb H:ar)(w B:Nat)(cvs hv:AV)(bs:Bs)(own:Nat->Nat)(ks:List Ck)(V:Int->L8)(k:Nat)(x:Wo)(c n kd:Int)(H1 H2:ar):Prop where
 e1:H.alloc (OR [.int .i64 kd,.int .i64 c,.int .i64 n] vp)=H1
 e2:H1.alloc (OR (hJ (kN 0)) tX)=H2
 r:fH Hb H2 w B cvs hv bs own (wide ks H.au) V k x
 l1:Op.ae [.ptr H.au 1] H2=B1 (.int .i64 c)
 l2:Op.ae [.ptr H.au 2] H2=B1 (.int .i64 n)
 ga:H2.get H.au=B1 (OR [.int .i64 kd,.int .i64 c,.int .i64 n] vp)
 fa:kR H2 w B cvs hv bs (wide ks H.au) H.au
 hb:Hb.au<=H.au
 n1:H1.au=H.au+1
 n2:H2.au=H.au+2
 g:H2.get H1.au=B1 (OR (hJ (kN 0)) tX)
 fo:kR H2 w B cvs hv bs (wide ks H.au) H1.au
 q:∀z,kR H w B cvs hv bs ks z->kR H2 w B cvs hv bs (wide ks H.au) z/\H2.get z=H.get z
def uy(h:fH Hb H w B cvs hv bs own ks V k x)(c n kd:Int):∃H1 d,MQ Hb H w B cvs hv bs own ks V k x c n kd H1 d:=by
 obtain⟨H1,e1,f,n1,-⟩:=bZ H (OR [.int .i64 kd,.int .i64 c,.int .i64 n] vp);obtain⟨d,e2,a,-,-⟩:=bZ H1 (OR (hJ (kN 0)) tX);have n2:d.au=H.au+2:=by rw[e2,xy,n1]
 have e:d.get H.au=B1 (OR [.int .i64 kd,.int .i64 c,.int .i64 n] vp):=by rw[a.ah _ (by omega) id,e1,xp]
 have g:=h.em (f.em a);refine⟨H1,d,e1.symm,e2.symm,g,vg e 1,vg e 2,e,h.new (by omega) (by omega),by have:=h.b.lo B (.inl rfl);have:=h.b.lt;omega,n1,n2,by rw[e2,xp],h.new (by omega) (by omega),λ z q=>⟨q.wide (by omega) (λ q=>.inl q) λ q=>.inl q,?_⟩⟩;have j:=q.lt;rw[a.ah _ (by omega) id,f.ah _ j id]
def MQ.post{H1 m f:ar}{c n kd:Int}{d:AV}{b:Bs}{a:Nat->Nat}{l:List Ck}{V3:Int->L8}(p:MQ Hb H w B cvs hv bs own ks V k x c n kd H1 m)(C:fH Hb f w B cvs d b a l V3 k' y)(L:m.au<=f.au)(r:∀z,kR m w B cvs hv bs (wide ks H.au) z->kR f w B cvs d b l z/\f.get z=m.get z)(t:To) :
 ∃h,Op.store 14 [.ptr H1.au 0,.agg (hJ t)] f=B1 (.undef,h)/\Op.aq 14 [.ptr H1.au 0] h=B1 (.agg (hJ t))/\tV Hb H w B cvs hv bs ks k' y h:=by
 have⟨I,J⟩:=r _ p.fo;have F:=p.n1;have G:=p.n2;have E:=p.hb;obtain⟨h,K,l4,D,o,-,-⟩:=C.Xp I (by omega) (J.trans p.g) t;refine⟨h,K,l4,d,b,a,_,V3,D,by have:=o.au;omega,λ z q=>?_⟩;have⟨s,u⟩:=p.q z q;have⟨j,v⟩:=r z s;have N:=q.lt;exact⟨⟨qn j.lt o.au,j.nb,j.nw,j.nc⟩,by rw[o.ah _ j.lt (λ e:z=H1.au=>by omega),v,u]⟩
def MQ.lG{H1 e f:ar}{c n kd:Int}(p:MQ Hb H w B cvs hv bs own ks V k x c n kd H1 e)(s:Bt)(hs:fL s.v)(hp:kC Hb e B bs (x.b.step s) f)(t:To) :
 ∃a,Op.store 14 [.ptr H1.au 0,.agg (hJ t)] f=B1 (.undef,a)/\Op.aq 14 [.ptr H1.au 0] a=B1 (.agg (hJ t))/\tV Hb H w B cvs hv bs ks (k+1) {x with b:=x.b.step s} a:=by
 have⟨h,g,V3,j,l,d⟩:=p.r.lG s hs hp;exact p.post j d.au (λ z q=>⟨q.wide d.au (λ q=>.inl q) (l z),d.ah z q.lt q.nb⟩) t
def MQ.em{H1 d e:ar}{c n kd:Int}(p:MQ Hb H w B cvs hv bs own ks V k x c n kd H1 d)(a:Fr Em d e)(t:To) :
 ∃b,Op.store 14 [.ptr H1.au 0,.agg (hJ t)] e=B1 (.undef,b)/\Op.aq 14 [.ptr H1.au 0] b=B1 (.agg (hJ t))/\tV Hb H w B cvs hv bs ks (k+1) x b :=
 p.post ((p.r.em a).mono (kc k)) a.au (λ z q=>⟨q.wide a.au (λ q=>.inl q) λ q=>.inl q,a.ah z q.lt id⟩) t
def Wo.nd(x:Wo)(c:Int):Option No:=if 0<=c then x.b.ns[c.toNat]? else B5
def Wo.Jw{c:Int}(h:x.nd c=B5):¬(0<=c/\c<x.b.ns.length):=λ q=>by
 unfold Wo.nd at h;rw[xg q.1,List.getElem?_eq_none_iff]at h;omega
def Wo.yN{c:Int}{nd:No}(h:x.nd c=B1 nd):0<=c/\x.b.ns[c.toNat]? = B1 nd:=by
 unfold Wo.nd at h;split at h
 .exact ⟨by assumption,h⟩
 .cases h
def Wo.fault(x:Wo)(c:Int):Wo×To:=match x.nd c with
 |none=>(x,kN 2)
 |some nd=>({x with b:=x.b.step ⟨5,c,5,0,0⟩},kN (nd.abort 5).2)
def Wo.ry(x:Wo)(c n:Int):Wo×To:=match x.nd c with
 |none=>(x,kN 2)
 |some nd=>({x with b:=x.b.step ⟨6,c,n,0,0⟩},kN (gR nd n))
def GR(h:fH Hb H w B cvs hv bs own ks V k x)(hk:k<=90000)(c n kd:Int):zb M PV [.ptr w 0,.agg [.int .i64 kd,.int .i64 c,.int .i64 n]] H λ v H'=>v=.agg (hJ (x.fault c).2)/\tV Hb H w B cvs hv bs ks (k+1) (x.fault c).1 H':=by
 refine qu2 ?_;have⟨H1,m,p⟩:=uy h c n kd;have bb:BB x.b:=h.C.bb h.I (by omega);simp only[aa,bc,qu3,Oi,p.e1,p.e2,aw,p.r.bm,p.l1];unfold Wo.fault;cases hn:x.nd c with
 |none =>
  refine C3.q (xj1 p.r.b bb (Wo.Jw hn) 5) λ v g⟨a,l⟩=>?_;subst a;have⟨j,e,l4,d⟩:=p.em l (kN 2);simp only[aa,bc,LJ,e,l4];exact d
 |some nd =>
  have⟨f,hn⟩:=Wo.yN hn;refine C3.q (xj2 p.r.b bb f hn 5) λ v g⟨a,hp⟩=>?_;subst a;have es:x.b.step ⟨5,c,5,0,0⟩=x.b.put c.toNat (nd.abort 5 |>.1,[]):=Yc (x:=⟨5,c,5,0,0⟩) (show(5:Int)≠7 by decide) f hn;obtain⟨j,e,l4,d⟩:=p.lG ⟨5,c,5,0,0⟩ bJ (by rw[es];exact hp) (kN (nd.abort 5).2);simp only[aa,bc,LJ,e,l4];exact d
def IB(h:fH Hb H w B cvs hv bs own ks V k x)(hk:k<=90000)(c n kd:Int):zb M QD [.ptr w 0,.agg [.int .i64 kd,.int .i64 c,.int .i64 n]] H λ v H'=>v=.agg (hJ (x.ry c n).2)/\tV Hb H w B cvs hv bs ks (k+1) (x.ry c n).1 H':=by
 refine qu0 ?_;have⟨H1,m,p⟩:=uy h c n kd;have bb:BB x.b:=h.C.bb h.I (by omega);simp only[aa,bc,qu1,Oi,p.e1,p.e2,aw,p.r.bm,p.l1,p.l2];unfold Wo.ry;cases hn:x.nd c with
 |none =>
  refine C3.q (Dm p.r.b bb (Wo.Jw hn) n) λ v g⟨a,l⟩=>?_;subst a;subst l;have⟨j,e,l4,d⟩:=p.em (Fr.refl _) (kN 2);simp only[aa,bc,LJ,e,l4];exact d
 |some nd =>
  have⟨f,hn⟩:=Wo.yN hn;refine C3.q (Ep p.r.b bb f hn n) λ v g⟨a,hp⟩=>?_;subst a;have es:x.b.step ⟨6,c,n,0,0⟩=x.b.put c.toNat (nd.db n):=Yc (x:=⟨6,c,n,0,0⟩) (show(6:Int)≠7 by decide) f hn;obtain⟨j,e,l4,d⟩:=p.lG ⟨6,c,n,0,0⟩ bJ (by rw[es];exact hp) (kN (gR nd n));simp only[aa,bc,LJ,e,l4];exact d
def xnj(h:fH Hb H w B cvs hv bs own ks V k x)(hk:k<=90000)(c n kd:Int):zb M Q3 [.ptr w 0,.agg [.int .i64 kd,.int .i64 c,.int .i64 n]] H λ v H'=>v=.agg (hJ (Al x.b n))/\tV Hb H w B cvs hv bs ks (k+1) {x with b:=x.b.step ⟨7,c,n,0,0⟩} H':=by
 refine qry ?_;have⟨H1,F,p⟩:=uy h c n kd;have bb:BB x.b:=h.C.bb h.I (by omega);simp only[aa,bc,qrz,Oi,zMg,p.e1,p.e2,aw,p.r.bm,p.l2]
 -- what is left to do
 have rest:∀{a:ar}{f:Bs}{d:Nat->Nat}{V3:Int->L8}{o:List Ck}{y:Wo}{m:Mg}{er:Int},fH Hb a w B cvs hv f d o V3 (k+1) y->F.au<=a.au->(∀z,kR F w B cvs hv bs (wide ks H.au) z->kR a w B cvs hv f o z/\a.get z=F.get z) -> ∃e j,Op.store 11 [.ptr a.au 0,.agg (ao m)] (a.alloc (OR (ao OI) xm))=B1 (.undef,e)/\Op.aq 11 [.ptr a.au 0] e=B1 (.agg (ao m))/\Op.store 14 [.ptr H1.au 0,.agg (hJ ⟨er,m,0,0⟩)] e=B1 (.undef,j)/\Op.aq 14 [.ptr H1.au 0] j=B1 (.agg (hJ ⟨er,m,0,0⟩))/\tV Hb H w B cvs hv bs ks (k+1) y j:=λ{a f d V3 o y m er}L S D=>by
  obtain⟨e,G⟩:∃Z,Z=(a.alloc (OR (ao OI) xm)).set a.au (OR (ao m) xm):=⟨_,rfl⟩
  have K:Fr Em a e:=G▸((Fr.refl a).alloc _).set (.inr (qm _)) _;have O:e.get a.au=B1 (OR (ao m) xm):=by rw[G,xc]
  have R:=K.au;have⟨j,E,Q,u⟩:=p.post (L.em K) (by omega) (λ z q=>⟨(D z q).1.wide R (λ q=>.inl q) λ q=>.inl q,(K.ah z (D z q).1.lt id).trans (D z q).2⟩) ⟨er,m,0,0⟩;exact⟨e,j,by rw[G];exact fK (xp a _) (zf _) (zf m) (rh _),eJ O (zf m),E,Q,u⟩
 by_cases hn:0<=n/\n<x.b.fl.length
 .obtain ⟨i,rfl⟩:=ji hn.1;have P:i<x.b.fl.length:=by omega
  obtain⟨m,hm⟩:∃m,x.b.fl[i]? = B1 m:=⟨_,xf P⟩
  have J:Al x.b (i:Int)=⟨0,m,0,0⟩:=by unfold Al;rw[xg hn.1,Ho,hm]
  rw[J];have es:x.b.step ⟨7,c,(i:Int),0,0⟩=x.b.wQ i:=by unfold Bu.step;rw[xg rfl,xg ⟨hn.1,hn.2⟩];rfl
  refine C3.q (xbe p.r.b bb h.I (λ y q=>xx (h.C.wt y q) (by omega)) hm) λ v a⟨l,hp⟩=>?_;subst l;obtain⟨f,d,V3,L,D,g⟩:=p.r.lG ⟨7,c,(i:Int),0,0⟩ bJ (by rw[es];exact hp);obtain⟨e,j,N,s,E,t,u⟩:=rest (m:=m) (er:=0) L g.au λ z q=>⟨q.wide g.au (λ q=>.inl q) (D z),g.ah z q.lt q.nb⟩
  simp only[aa,bc,aw,N,s,bTm,E,t];exact u
 .have J:Al x.b n=kN 50:=by
   unfold Al
   by_cases q:0<=n
   .rw [xg q,jp (by omega)]
   .rw [qy q]
  have es:x.b.step ⟨7,c,n,0,0⟩=x.b:=by unfold Bu.step;rw[xg rfl,qy hn]
  rw[J,es];refine C3.q (xhs p.r.b bb hn) λ v a⟨l,g⟩=>?_;subst l;have⟨e,j,N,s,E,t,u⟩:=rest (m:=OI) (er:=50) ((p.r.em g).mono (kc k)) g.au λ z q=>⟨q.wide g.au (λ q=>.inl q) λ q=>.inl q,g.ah z q.lt id⟩
  simp only[aa,bc,aw,show ao ⟨0,0,0,.zero⟩=ao OI from rfl,N,s,bTm,E,t];exact⟨rfl,u⟩
end
end Go.Am
namespace Go.Am
open Lang Go.Proofs
variable{M:ak}[MK M]
section
variable{Hb H H':ar}{w B k k' i:Nat}{cvs hv:AV}{bs:Bs}{own:Nat->Nat}{ks:List Ck}{V:Int->L8}{x y:Wo}{c:Co}{A:Ck}
def Wo.AH(x:Wo)(i:Nat)(c:Co):Wo:={x with b:=(CS.step ⟨c,x.b,[]⟩).1.b,cs:=x.cs.set i (CS.step ⟨c,x.b,[]⟩).1.c}
end
end Go.Am
namespace Go.Am
open Lang
def lP(t:To)(e:fk):To:=if e.kind=6 then{t with cd:=e.code,co:=e.core}else t
namespace Wo
def at'(x:Wo)(c:Int):Option Co:=if 0<=c then x.cs[c.toNat]? else B5
def told(x:Wo)(l:List fk):Wo:={x with h:=x.h++l.map λ e=>{e with time:=x.n}}
def Dh(x:Wo):x.told []=x:=by unfold told;rw[FN,zp]
def qX(x:Wo)(c:Int):Wo×To:=match x.at' c with
 |none=>(x,kN 2)
 |some q=>((x.AH c.toNat q).told (CS.step ⟨q,x.b,[]⟩).1.o,(CS.step ⟨q,x.b,[]⟩).1.o.foldl lP (kN (CS.step ⟨q,x.b,[]⟩).2))
def kG(x:Wo)(a:Act):Wo×To :=
 if a.kind=1 then x.qX a.core
 else if a.kind=2 then({x with b:=x.b.step ⟨7,a.core,a.n,0,0⟩},Al x.b a.n)
 else if a.kind=3 then x.ry a.core a.n
 else if a.kind=4 then x.fault a.core
 else(x,kN 140)
def Mm(x:Wo)(a:Act):(x.kG a).1.n=x.n:=by
 unfold kG qX ry fault
 repeat' split
 all_goals rfl
def act(x:Wo)(a:Act):Wo×To:=({(x.kG a).1 with n:=x.n+1},(x.kG a).2)
def run(x:Wo):List Act->Wo×List To
 |[]=>(x,[])
 |a::l=>(((x.act a).1.run l).1,(x.act a).2::((x.act a).1.run l).2)
def yF:∀(l m:List Act)(x:Wo),x.run (l++m)=(((x.run l).1.run m).1,(x.run l).2++((x.run l).1.run m).2)
 |[],m,x=>rfl
 |a::l,m,x=>by
  rw[Jo,run,run,yF l m];rfl
def JY:∀(l:List Act)(x:Wo),(x.run l).1.n=x.n+l.length
 |[],x=>(Int.add_zero _).symm
 |a::l,x=>by
  rw[run,JY l,zu];show x.n+1+(l.length:Int)=_;omega
def Cv(x:Wo)(a:Act):∃l:List fk,(x.kG a).1.h=x.h++l.map (λ e=>{e with time:=x.n})/\l.length<=3:=by
 have d:∃l:List fk,x.h=x.h++l.map (λ e=>{e with time:=x.n})/\l.length<=3:=⟨[],by rw[FN,zp],by decide⟩
 unfold kG;split
 .unfold qX;split
  .exact d
  .rename_i c _;have⟨l,e,n,_⟩:=CS.Bk ⟨c,x.b,[]⟩;exact⟨_,rfl,by rw[e];exact n⟩
 .unfold ry fault
  repeat' split
  all_goals exact d
def QA(x:Wo)(a:Act):(x.act a).1.h.length<=x.h.length+3:=by
 have⟨l,e,n⟩:=Cv x a;show(x.kG a).1.h.length<=_;rw[e,xe,xu];omega
structure HT(x:Wo):Prop where
 n0:0<=x.n
 lt:∀e∈x.h,0<=e.time/\e.time<x.n
 up:x.h.Pairwise λ a b=>a.time<=b.time
def HT.act{x:Wo}(h:HT x)(a:Act):HT (x.act a).1:=by
 have⟨l,e,_⟩:=Cv x a;have n0:=h.n0;have tm:∀y∈l.map (λ e:fk=>{e with time:=x.n}),y.time=x.n:=λ y q=>by
  obtain⟨z,_,rfl⟩:=Fx.1 q;rfl
 refine⟨by show(0:Int)<=x.n+1;omega,λ y q=>?_,?_⟩
 .show 0<=y.time/\y.time<x.n+1;have q:y∈(x.kG a).1.h:=q;rw[e]at q;rcases jm.1 q with q|q
  .have:=h.lt y q;omega
  .have:=tm y q;omega
 .show (x.kG a).1.h.Pairwise _;rw[e,List.pairwise_append];refine⟨h.up,?_,λ a ha b hb=>?_⟩
  .rw [List.pairwise_map];exact List.pairwise_of_forall λ _ _=>yP _
  .rw [tm b hb];exact Int.le_of_lt (h.lt a ha).2
def HT.run:∀(l:List Act){x:Wo},HT x->HT (x.run l).1
 |[],x,h=>h
 |a::l,x,h=>HT.run l (h.act a)
def xU:∀(l:List Act)(x:Wo),(x.run l).1.h.length<=x.h.length+3*l.length
 |[],x=>qm _
 |a::l,x=>by
  have:=xU l (x.act a).1;have:=QA x a;rw[zu];show((x.act a).1.run l).1.h.length<=_;omega
end Wo
end Go.Am
namespace Go.Am
open Lang Go.Proofs
variable{M:ak}[MK M]
section
variable{Hb H H':ar}{w B k k' i:Nat}{cvs hv:AV}{bs:Bs}{own:Nat->Nat}{ks:List Ck}{V:Int->L8}{x y:Wo}{c:Co}{A:Ck}
def fH.Bb(h:fH Hb H w B cvs hv bs own ks V k x)(n:H.au<=H'.au)(f:∀z,z<H.au -> ¬kR H w B cvs hv bs ks z->H'.get z=H.get z):fH (H'.low Hb.au) H' w B cvs hv bs own (wide ks H.au) V k x:=by
 have F:Fr (kR H w B cvs hv bs ks) H H':=⟨n,f⟩
 have g:=h.em (H':=⟨H.t,H'.au⟩) ⟨n,λ _ _ _=>rfl⟩;refine⟨h.row.fr F λ q=>q.nw (.inl rfl),?_,Own.fr h.hl F λ z e q=>q.nw (.inr (.inr e)),h.b.Bb F λ z q=>q.nb,h.I,h.C,h.U,λ j d u o a=>?_,g.kl,g.nl,g.dj,g.d2,g.lo,g.wb,g.w1,g.w2⟩
 .unfold wide;rw[AF];exact Own.fr h.cl F λ z e q=>q.nw (.inr (.inl e))
 .obtain ⟨l,e1,rfl⟩:=Gr a;have⟨p,s⟩:=h.co j d l o e1;exact⟨p.fr F (λ z m r q=>r (q.nc j l e1)) (λ z m=>ww m) (qm _),s⟩
def ae4(h:fH Hb H w B cvs hv bs own ks V k x)(hk:k+1<=90000)(m:oJ H)(J:yt<Hb.au)(s:x.cs[i]? = B1 c)(d:ks[i]? = B1 A):zb M L9 [.ptr A.p 0,.iface wN (.ptr B 0)] H λ v H'=>∃a,v=.tuple [a,.int .i64 (CS.step ⟨c,x.b,[]⟩).2]/\aO fk.enc jr 9 H' a (CS.step ⟨c,x.b,[]⟩).1.o/\H.au<=H'.au /\
 ∃bs' aQ f g,fH Hb H' w B cvs hv bs' aQ f g (k+2) (x.AH i c)/\(∀z,aM a z -> ¬uf w cvs hv z) /\ ∀z,kR H w B cvs hv bs ks z->kR H' w B cvs hv bs' f z/\H'.get z=H.get z /\ ¬aM a z:=by
 have G:A.o yt=0:=zy λ q=>by have:=h.lo i A d _ m.2 q;omega
 have C:=CS.CU ⟨c,x.b,[]⟩;refine(KL (X:=A.at Hb H B bs k) (n:=0) (h.re s d) (show k+0+1<=90000 by omega) m G).mono λ v H' q=>?_;have⟨a,hv',o',rv',bs',aQ,g,r,ow,D⟩:=q;have hw:=h.back s d C.id C.nl r;have u:i<ks.length:=(qt.1 d).1;have nx:H.au<=H'.au:=r.fr.au;refine⟨a,hv',ow,nx,bs',aQ,_,g,hw,λ z q e=>?_,λ z q=>?_⟩
 .have:=hw.dj i {A with rv:=rv',o:=o'} (zk (by rw[xu];exact u)) z (.inr e);have t:=D z q;have this:o' z=0:=this;omega
 .have F:=q.lt;have E:A.o z=0:=q.nc i A d;have o0:o' z=0:=zy λ e=>by
   rcases r.go z (by omega) e with⟨_,t⟩|t
   .exact t E
   .have:H.au<=z:=t;omega
  refine⟨⟨by omega,λ e=>?_,q.nw,λ j I e=>?_⟩,r.fr.ah z F λ e=>e.elim (λ e=>e E) q.nb,λ e=>by have:=D z e;omega⟩
  .rcases r.gb z e with t|t
   .exact q.nb t
   .have:H.au<=z:=t;omega
  .by_cases w:j=i
   .subst w;rw[zk (by rw[xu];exact u)]at e;cases e;exact o0
   .rw [zq (λ e=>w e.symm),xq]at e;obtain⟨l,e1,rfl⟩:=xr.1 e;show Go.Am.aQ l.o H.au 0 z=0;rw[ww F];exact q.nc j l e1
end
end Go.Am
namespace Go.Am
open Lang Go.Proofs
variable{M:ak}[MK M]
def af7(H:ar)(b:Nat)(o o':bE):(H.set b o).set b o'=H.set b o':=by simp only[ar.set,T.set,T.put,T.tf]
def Lm(t:To)(c:Int):(hJ t).set 12 (.int .i64 c)=hJ {t with cd:=c}:=by
 have hl:=zf t.m;show(AV.int .i64 t.e::(ao t.m ++ [.int .i64 t.cd,.int .i64 t.co])).set 12 _=AV.int .i64 t.e::(ao t.m ++ [.int .i64 c,.int .i64 t.co]);generalize ao t.m=l at *
 match l,hl with
 |[_,_,_,_,_,_,_,_,_,_,_],_=>rfl
def L7(t:To)(c:Int):(hJ t).set 13 (.int .i64 c)=hJ {t with co:=c}:=by
 have hl:=zf t.m;show(AV.int .i64 t.e::(ao t.m ++ [.int .i64 t.cd,.int .i64 t.co])).set 13 _=AV.int .i64 t.e::(ao t.m ++ [.int .i64 t.cd,.int .i64 c]);generalize ao t.m=l at *
 match l,hl with
 |[_,_,_,_,_,_,_,_,_,_,_],_=>rfl
section
variable{Hb H H':ar}{w B k k':Nat}{cvs hv ov:AV}{bs:Bs}{own:Nat->Nat}{ks:List Ck}{V:Int->L8}{x y:Wo}{c:Co}{A:Ck}
def tV.mono(h:tV Hb H w B cvs hv bs ks k y H')(hk:k<=k'):tV Hb H w B cvs hv bs ks k' y H':=by
 have⟨hv',bs',aQ,e,f,a,b,d⟩:=h;exact⟨hv',bs',aQ,e,f,a.mono hk,b,d⟩
def fH.push(r:fH Hb H w B cvs hv bs own ks V k x){b:AV}{d:ar}{e:fk}(m:aO fk.enc jr 9 d b (x.h ++ [e]))(j:Fr (aM hv) H d)(g:∀z,aM b z->aM hv z\/H.au<=z) :
 ∃a,Op.store 1 [.ptr w 2,b] d=B1 (.undef,a)/\fH Hb a w B cvs b bs own (wide ks H.au) V k {x with h:=x.h ++ [e]}/\Fr (λ z=>z=w\/aM hv z) H a /\ ∀z,kR H w B cvs hv bs ks z->kR a w B cvs b bs (wide ks H.au) z/\a.get z=H.get z:=by
 have i:At d w FT (lY B cvs hv x.n):=r.row.fr j r.w1.2;have one:aD b=true:=Sl.one (Own.sl m);have o:∀z,aM b z->z≠w:=λ z q e=>by
  rw[e]at q;rcases g w q with t|t
  .exact r.w1.2 t
  .have:=r.row.2;omega
 obtain⟨a,f⟩:∃Z,Z=d.set w (OR (lY B cvs b x.n) FT):=⟨_,rfl⟩
 have l:Fr (On w) d a:=f▸cI ..;have F:Fr (λ z=>z=w\/aM hv z) H a:=(j.mono λ z _ q=>.inr q).trans l λ z(q:z=w)=>.inl (.inl q);have st:Op.store 1 [.ptr w 2,b] d=B1 (.undef,a):=by rw[i.st 2 one (by show 2<4;decide),f];rfl
 refine⟨a,st,r.Mx F (by rw[f];exact i.set _) (Own.fr m l λ z q(e:z=w)=>o z q e) g,F,λ z q=>⟨q.wide F.au (g z) λ q=>.inl q,F.ah z q.lt λ e=>q.nw (e.elim .inl λ e=>.inr (.inr e))⟩⟩
def m8(Hb H0:ar)(w B:Nat)(cvs hv0:AV)(RQ:Bs)(ks0:List Ck)(tb:Nat)(ov:AV)(y:Wo)(t0:To)(o:List fk)(k i:Nat)(H:ar):Prop:=∃hv bs own ks V,fH Hb H w B cvs hv bs own ks V k (y.told (o.take i))/\aO fk.enc jr 9 H ov o/\(∀z,aM ov z -> ¬uf w cvs hv z)/\kR H w B cvs hv bs ks tb/\H.get tb=B1 (OR (hJ ((o.take i).foldl lP t0)) tX) /\ ¬aM ov tb /\
 H0.au<=H.au /\ ∀z,kR H0 w B cvs hv0 RQ ks0 z->z≠tb->kR H w B cvs hv bs ks z/\H.get z=H0.get z
def xna(h:fH Hb H w B cvs hv bs own ks V k x)(hk:k+1<=90000)(hS:oJ H)(hG:yt<Hb.au)(hh:x.h.length<=100000)(c n kd:Int):zb M O2 [.ptr w 0,.agg [.int .i64 kd,.int .i64 c,.int .i64 n]] H λ v H'=>v=.agg (hJ (x.qX c).2)/\tV Hb H w B cvs hv bs ks (k+2) (x.qX c).1 H':=by
 refine qw0 ?_;have⟨H1,H2,p⟩:=uy h c n kd;unfold Wo.qX;cases hc:x.at' c with
 |none =>
  have hi:¬(0<=c/\c<x.cs.length):=λ q=>by
   unfold Wo.at' at hc;rw[xg q.1,List.getElem?_eq_none_iff]at hc;omega
  have⟨W,s4,l4,hP⟩:=p.em (Fr.refl _) (kN 2);simp only[aa,bc,Ll,Oi,p.e1,p.e2,aw,p.l1,Λ p.r hi,LJ,s4,l4];exact hP.mono (kc _)
 |some q =>
  obtain⟨c0,hx⟩:0<=c/\x.cs[c.toNat]? = B1 q:=by
   unfold Wo.at' at hc;split at hc
   .exact ⟨by assumption,hc⟩
   .cases hc
  have hl:=(qt.1 hx).1;obtain⟨A,hA⟩:∃A,(wide ks H.au)[c.toNat]? = B1 A:=⟨_,xf (by rw[p.r.kl];exact hl)⟩
  have p2:=p.n2;have p1:=p.n1;have phb:=p.hb;have ft:Fr Em H H2:=by rw[<-p.e2,<-p.e1];exact((Fr.refl H).alloc _).alloc _
  simp only[aa,bc,Ll,Oi,p.e1,p.e2,aw,p.l1,Ri p.r c0 hA,p.r.bm];refine C3.q (ae4 p.r hk (hS.em ft) hG hx hA) λ v j⟨ov,hv3,ow,nx,u,own3,ks3,V3,r3,nov,kp3⟩=>?_;subst hv3;have ob:=CS.Bk ⟨q,x.b,[]⟩;have yh:(x.AH c.toNat q).h=x.h:=rfl;have yn:(x.AH c.toNat q).n=x.n:=rfl;generalize x.AH c.toNat q=y at *;generalize CS.step ⟨q,x.b,[]⟩=R at *;have⟨S,er⟩:=R;have⟨l,ol,o3,_⟩:=ob;have on:S.o.length<=3:=by rw[show S.o=l from ol];exact o3
  simp only at *;generalize S.o=o at *;have⟨W,e4,X,n4,g4⟩:=bZ j (OR (hJ (kN er)) tX);have s4:Op.store 14 [.ptr j.au 0,.agg (hJ (kN er))] (j.alloc (OR (hJ (kN 0)) tX))=B1 (.undef,W):=by rw[fK (xp j _) (Ef _) (Ef _) (Zu _),Oh,e4]
  have ln:=(aO.sl ow).len;have r4:=r3.em X;have ow4:=Own.em ow X;have ovl:∀z,aM ov z->z<j.au:=λ z q=>Own.lt ow z q;simp only[aa,bc,Ll,aw,LJ,s4,ln];refine cu.intro (λ nn E f=>∃i:Nat,E=[(32,.int .i64 (i:Int)),(31,.int .i64 (o.length:Int)),(30,ov),(8,.ptr j.au 0),(4,.ptr H1.au 0),(0,.ptr w 0)]/\nn=o.length-i/\i<=o.length/\m8 Hb W w B cvs hv u (wide ks3 j.au) j.au ov y (kN er) o (k+2) i f) ?_ ?_
  .refine ⟨_,_,⟨0,rfl,rfl,xw _,hv,u,own3,_,V3,?_,ow4,nov,r3.new (qm _) (by omega),g4,λ q=>by have:=ovl _ q;omega,qm _,λ z q _=>⟨q,rfl⟩⟩,by simp only[aa,bc]⟩;rw[yf,Wo.Dh];exact r4
  rintro nn E f ⟨i,rfl,rfl,hi,N,C,F,ks5,V5,Q,P,m,L,g5,no5,n5,O⟩;have yl:(y.told (o.take i)).h.length<=100003:=by
   show(y.h++(o.take i).map _).length<=_;rw[xe,xu,js,yh];omega
  rcases xz i o.length with hlt|hge
  .obtain ⟨e,he⟩:∃e,o[i]? = B1 e:=⟨_,xf hlt⟩
   have c1:(i:Int)<((o.length:Nat):Int):=by omega
   have ix:=(aO.sl P).idx he (z:=(i:Int)) rfl .i64;have ld:=(aO.sl P).aq fk.len (by decide) he;obtain⟨H6,e6,f6,-,-⟩:=bZ f (OR e.enc jr);have s6:Op.store 9 [.ptr f.au 0,.agg e.enc] (f.alloc (OR Mb.enc jr))=B1 (.undef,H6):=by rw[fK (xp f _) (fk.len _) (fk.len _) rfl,Oh,e6]
   have r6:=Q.em f6;have⟨H7,e7,Y,n7,g7⟩:=bZ f (OR ({e with time:=y.n}:fk).enc jr);have a6:At H6 f.au jr e.enc:=⟨by rw[e6,xp],by rw[e6,xy];omega⟩
   have s7:Op.store 1 [.ptr f.au 1,.int .i64 (y.told (o.take i)).n] H6=B1 (.undef,H7):=by rw[a6.st 1 rfl (by show 1<9;decide),e6,Oh,e7];rfl
   have l7:=eJ g7 (fk.len _);have r7:=Q.em Y;have fb7:=Q.new (H':=H7) (qm f.au) (by omega);have hb5:Hb.au<=f.au:=by have:=Q.b.lo B (.inl rfl);have:=Q.b.lt;omega
   simp only[aa,bc,Ll,aw,qv c1,ix,ld,Vv,s6,r6.bm,s7,r7.bm,l7];refine aO.oi (bytes:=72) r7.hl (x:=.agg ({e with time:=y.n}:fk).enc) (a:={e with time:=y.n}) rfl rfl rfl rfl (by decide) (by omega) (by omega) λ v' H8 o8 f8 hz8=>?_;have⟨G,s9,r9,F9,k9⟩:=r7.push o8 f8 hz8;have n9:=F9.au;have fo7:=L.wide (hv':=N) (bs':=C) Y.au (λ q=>.inl q) λ q=>.inl q;have⟨s,gt9⟩:=k9 _ fo7;have g9:G.get j.au=B1 (OR (hJ ((o.take i).foldl lP (kN er))) tX):=by rw[gt9,Y.ah _ L.lt id];exact g5
   have I:G.get f.au=B1 (OR ({e with time:=y.n}:fk).enc jr):=by rw[(k9 _ fb7).2];exact g7
   have J:=vg I 0;have J:Op.ae [.ptr f.au 0] G=B1 (.int .i64 e.kind):=J;have lb8:Op.ae [.ptr f.au 8] G=B1 (.int .i64 e.code):=vg I 8;have lb2:Op.ae [.ptr f.au 2] G=B1 (.int .i64 e.core):=vg I 2;have wi:aj .i64 ((i:Int)+1)=((i+1:Nat):Int):=by rw[jc (by omega) (by omega)];omega
   have tk:o.take (i+1)=o.take i ++ [e]:=by rw[j7,he];rfl
   have ow9:aO fk.enc jr 9 G ov o:=Own.fr (Own.em P Y) F9 λ z q t=>m z q (t.elim .inl λ t=>.inr (.inr t));have th:y.told (o.take (i+1)) = {y.told (o.take i)with h:=(y.told (o.take i)).h ++ [{e with time:=y.n}]}:=by
    rw[tk];unfold Wo.told;simp only[Jz,kh,FN,ku]
   have nov9:∀z,aM ov z -> ¬uf w cvs v' z:=λ z q t=>by
    have zl:=ovl z q;rcases t with t|t|t
    .exact m z q (.inl t)
    .exact m z q (.inr (.inl t))
    .rcases hz8 z t with t|t
     .exact m z q (.inr (.inr t))
     .omega
   -- behind a round
   have fin:∀{t:To}{d:ar},t=(o.take (i+1)).foldl lP (kN er)->Fr (On j.au) G d->d.get j.au=B1 (OR (hJ t) tX)->fH Hb d w B cvs v' C F (wide (wide ks5 f.au) H7.au) V5 (k+2) {y.told (o.take i)with h:=(y.told (o.take i)).h ++ [{e with time:=y.n}]}->m8 Hb W w B cvs hv u (wide ks3 j.au) j.au ov y (kN er) o (k+2) (i+1) d:=λ{t d}et K g10 r10=>by
    have n10:=K.au;refine⟨v',C,F,_,V5,by rw[th];exact r10,Own.fr ow9 K λ z q(e:z=j.au)=>no5 (by rw[<-e];exact q),nov9,⟨qn s.lt n10,s.nb,s.nw,s.nc⟩,by rw[g10,et],no5,by omega,λ z q ne=>?_⟩;have⟨q5,e5⟩:=O z q ne;have⟨q9,e9⟩:=k9 z (q5.wide (hv':=N) (bs':=C) Y.au (λ q=>.inl q) λ q=>.inl q);exact⟨⟨qn q9.lt n10,q9.nb,q9.nw,q9.nc⟩,by rw[K.ah z q9.lt ne,e9,Y.ah _ q5.lt id,e5]⟩
   have ft:(o.take (i+1)).foldl lP (kN er)=lP ((o.take i).foldl lP (kN er)) e:=by rw[tk,List.foldl_append];rfl
   generalize(o.take i).foldl lP (kN er)=t at *
   by_cases q:e.kind=6
   .have a9:At G j.au tX (hJ t):=⟨g9,s.lt⟩
    have T:=a9.st 12 (v:=.int .i64 e.code) rfl (by rw[Ef];decide);rw[Lm]at T;obtain⟨d,D⟩:∃Z,Z=G.set j.au (OR (hJ {t with cd:=e.code}) tX):=⟨_,rfl⟩
    rw[<-D]at T;have a10:At d j.au tX (hJ {t with cd:=e.code}):=D▸a9.set _;have U:=a10.st 13 (v:=.int .i64 e.core) rfl (by rw[Ef];decide);rw[L7,D,af7]at U;have gb10:d.get f.au=B1 (OR ({e with time:=y.n}:fk).enc jr):=by rw[D,yd (λ w=>by have:=L.lt;omega)];exact I
    have lb2':Op.ae [.ptr f.au 2] d=B1 (.int .i64 e.core):=vg gb10 2;rw[<-D]at U;simp only[aa,bc,Ll,s9,J,lb8,lb2,qv q,T,lb2',U,wi];exact⟨_,_,⟨i+1,rfl,rfl,by omega,fin (by rw[ft];unfold lP;rw[xg q]) (cI ..) (xc ..) (r9.Q2 s (by omega) _)⟩,by simp only[aa,bc],by omega⟩
   .simp only[aa,bc,Ll,s9,J,q,wi];exact⟨_,_,⟨i+1,rfl,rfl,by omega,fin (by rw[ft];unfold lP;rw[qy q]) (Fr.refl _) g9 r9⟩,by simp only[aa,bc],by omega⟩
  .have ie:i=o.length:=by omega
   rw[ie,LU]at Q g5;have c1:¬(i:Int)<((o.length:Nat):Int):=by omega
   have l5:=eJ g5 (Ef _);have⟨q3,e3⟩:=kp3 _ p.fo;have q4:=q3.wide (H':=W) (hv':=hv) (bs':=u) X.au (λ q=>.inl q) λ q=>.inl q;have⟨q5,e5⟩:=O _ q4 (by have:=q3.lt;omega);have g1:f.get H1.au=B1 (OR (hJ (kN 0)) tX):=by rw[e5,X.ah _ q3.lt id,e3.1];exact p.g
   obtain⟨H6,s6,l6,r6,f6,q6,-⟩:=Q.Xp q5 (by omega) g1 (o.foldl lP (kN er));simp only[aa,bc,Ll,c1,l5,s6,l6];refine⟨N,C,F,ks5,V5,r6,by have:=f6.au;omega,λ z q=>?_⟩;have zl:=q.lt;have⟨a2,b2⟩:=p.q z q;have⟨a3,b3⟩:=kp3 z a2;have a4:=a3.wide (H':=W) (hv':=hv) (bs':=u) X.au (λ q=>.inl q) λ q=>.inl q;have⟨a5,b5⟩:=O z a4 (by omega);exact⟨⟨qn a5.lt f6.au,a5.nb,a5.nw,a5.nc⟩,by rw[f6.ah _ a5.lt (λ e:z=H1.au=>by omega),b5,X.ah _ a3.lt id,b3.1,b2]⟩
end
end Go.Am
namespace Go.Am
open Lang Go.Proofs
variable{M:ak}[MK M]
def qE{H:ar}{b:Nat}{es:List (AV×AV×Nat)}{k:Nat}(h:H.get b=B1 (.map es k)){key:Int}{v:AV}(hk:findKey .int (.int .i64 key) es 0=B1 B5):Op.mapUpdate .int [.map b,.int .i64 key,v] H=B1 (.undef,H.set b (.map (es ++ [(.int .i64 key,v,k)]) (k+1))):=by
 have hm:H.fC b=B1 (es,k):=by simp[ar.fC,h]
 simp only[Op.mapUpdate,dh,xt,hm,qr,hk]
abbrev wY(n:Nat):AV:=.fn (.func n) [] []
def P6:List (AV×AV×Nat):=[(.int .i64 1,wY O2,0),(.int .i64 2,wY Q3,1),(.int .i64 3,wY QD,2),(.int .i64 4,wY PV,3)]
def xlc{H:ar}:zb M _K [] H λ v H'=>v=.map H.au/\Fr Em H H'/\H'.get H.au=B1 (.map P6 4):=by
 refine xd3 ?_;have h:Fr Em H (H.alloc (.map [] 0)):=(Fr.refl H).alloc _;have s:∀{e:ar}(o:bE),Fr Em H e->Fr Em H (e.set H.au o):=λ o f=>f.set (.inr (qm _)) o;obtain⟨H1,i,b,j,d,l,a,m,f,g⟩:∃H1,Op.mapUpdate .int [.map H.au,.int .i64 1,wY O2] (H.alloc (.map [] 0))=B1 (.undef,H1) /\ ∃b,Op.mapUpdate .int [.map H.au,.int .i64 2,wY Q3] H1=B1 (.undef,b) /\ ∃d,Op.mapUpdate .int [.map H.au,.int .i64 3,wY QD] b=B1 (.undef,d) /\ ∃a,Op.mapUpdate .int [.map H.au,.int .i64 4,wY PV] d=B1 (.undef,a)/\Fr Em H a/\a.get H.au=B1 (.map P6 4) :=
  ⟨_,qE (xp ..) rfl,_,qE (xc ..) rfl,_,qE (xc ..) rfl,_,qE (xc ..) rfl,s _ (s _ (s _ (s _ h))),xc ..⟩
 simp only[aa,bc,xd4,xg7,i,j,l,m];exact⟨f,g⟩
section
variable{Hb H H':ar}{w B k k':Nat}{cvs hv ov:AV}{bs:Bs}{own:Nat->Nat}{ks:List Ck}{V:Int->L8}{x y:Wo}{c:Co}{A:Ck}
def JV(kd:Int):AV:=if kd=1 then wY O2 else if kd=2 then wY Q3 else if kd=3 then wY QD else if kd=4 then wY PV else .nilf
def Io{b:Nat}(h:H.get b=B1 (.map P6 4))(kd:Int):Op.lookup .int .nilf B2 [.map b,.int .i64 kd] H=B1 (JV kd):=by
 have hm:H.fC b=B1 (P6,4):=by simp[ar.fC,h]
 simp only[Op.lookup,dh,xt,hm,qr];unfold P6 JV;simp only[findKey,aY,Sc]
 by_cases a:kd=1
 .subst a;rfl
 by_cases d:kd=2
 .subst d;rfl
 by_cases e:kd=3
 .subst e;rfl
 by_cases f:kd=4
 .subst f;rfl
 simp only[a,d,e,f,JJ,zn,wn,qr,show sJ .i64 .i64=B4 from rfl,xt]
def xkg(h:fH Hb H w B cvs hv bs own ks V k x)(hk:k+1<=90000)(m:oJ H)(l:yt<Hb.au)(o:x.h.length<=100000)(a:Act){f:Nat}(b:JV a.kind=wY f):zb M f [.ptr w 0,.agg a.enc] H λ v H'=>v=.agg (hJ (x.kG a).2)/\tV Hb H w B cvs hv bs ks (k+2) (x.kG a).1 H':=by
 have⟨kd,co,n⟩:=a;have d:=λ{y:Wo}{H':ar}(h:tV Hb H w B cvs hv bs ks (k+1) y H')=>h.mono (kc (k+1));unfold JV at b;unfold Wo.kG;simp only at b⊢
 by_cases e:kd=1
 .rw [xg e]at b⊢;injection b with b;cases b
  exact xna h hk m l o co n kd
 rw[qy e]at b⊢
 by_cases g:kd=2
 .rw [xg g]at b⊢;injection b with b;cases b
  exact(xnj h (by omega) co n kd).mono λ v H' q=>⟨q.1,d q.2⟩
 rw[qy g]at b⊢
 by_cases i:kd=3
 .rw [xg i]at b⊢;injection b with b;cases b
  exact(IB h (by omega) co n kd).mono λ v H' q=>⟨q.1,d q.2⟩
 rw[qy i]at b⊢
 by_cases j:kd=4
 .rw [xg j]at b⊢;injection b with b;cases b
  exact(GR h (by omega) co n kd).mono λ v H' q=>⟨q.1,d q.2⟩
 rw[qy j]at b;cases b
def Di(h:fH Hb H w B cvs hv bs own ks V k x)(hk:k+1<=90000)(hS:oJ H)(hG:yt<Hb.au)(hh:x.h.length<=100000)(n0:0<=x.n)(n1:x.n<=1000000)(a:Act):zb M SH [.ptr w 0,.agg a.enc] H λ v H'=>v=.agg (hJ (x.act a).2)/\tV Hb H w B cvs hv bs ks (k+2) (x.act a).1 H':=by
 refine q1v ?_;have⟨kd,co,n⟩:=a;have⟨H1,b,p⟩:=uy h co n kd;have p2:=p.n2;have p1:=p.n1;have phb:=p.hb;have⟨T,e3,f3,n3,g3⟩:=bZ b (OR (hJ (kN 140)) tX);have s3:Op.store 14 [.ptr b.au 0,.agg (hJ (kN 140))] (b.alloc (OR (hJ (kN 0)) tX))=B1 (.undef,T):=by rw[fK (xp b _) (Ef _) (Ef _) (Zu _),Oh,e3]
 have ga3:T.get H.au=B1 (OR [.int .i64 kd,.int .i64 co,.int .i64 n] vp):=by rw[f3.ah _ p.fa.lt id];exact p.ga
 have l3:Op.ae [.ptr H.au 0] T=B1 (.int .i64 kd):=vg ga3 0;simp only[aa,bc,Wz,Act.enc,Oi,p.e1,p.e2,aw,LJ,s3,l3];refine C3.q xlc λ v s⟨hv4,X,gm⟩=>?_;subst hv4;have l:Fr Em b s:=f3.em X;have r4:=p.r.em l;have n4:=X.au;have F:=λ z(q:kR b w B cvs hv bs (wide ks H.au) z)=>show kR s w B cvs hv bs (wide (wide ks H.au) b.au) z/\s.get z=b.get z from⟨q.wide l.au (λ q=>.inl q) λ q=>.inl q,l.ah z q.lt id⟩
 have O:s.get H.au=B1 (OR [.int .i64 kd,.int .i64 co,.int .i64 n] vp):=by rw[(F _ p.fa).2];exact p.ga
 have l4:Op.ae [.ptr H.au 0] s=B1 (.int .i64 kd):=vg O 0;have lA:Op.aq 3 [.ptr H.au 0] s=B1 (.agg [.int .i64 kd,.int .i64 co,.int .i64 n]):=eJ O rfl;have N:kR s w B cvs hv bs (wide (wide ks H.au) b.au) b.au:=p.r.new (qm _) (by omega);have g5:s.get b.au=B1 (OR (hJ (kN 140)) tX):=by rw[X.ah _ (by omega) id];exact g3
 have lk:=Io gm kd;have yn:=x.Mm ⟨kd,co,n⟩;have wi:aj .i64 (x.n+1)=x.n+1:=jc (by omega) (by omega);have et:(x.act ⟨kd,co,n⟩).2=(x.kG ⟨kd,co,n⟩).2:=rfl;have ey:(x.act ⟨kd,co,n⟩).1 = {(x.kG ⟨kd,co,n⟩).1 with n:=x.n+1}:=rfl;rw[et,ey]
 -- the act is counted,and its answer answered
 have rest:∀{t:To}{y:Wo}{g:ar}{i:AV}{j:Bs}{u:Nat->Nat}{m:List Ck}{V6:Int->L8},y.n=x.n->fH Hb g w B cvs i j u m V6 (k+2) y->b.au<=g.au->(∀z,kR b w B cvs hv bs (wide ks H.au) z->kR g w B cvs i j m z/\g.get z=b.get z)->kR g w B cvs i j m b.au->g.get b.au=B1 (OR (hJ t) tX) ->
  ∃o D,Op.ae [.ptr w 3] g=B1 (.int .i64 x.n)/\Op.store 1 [.ptr w 3,.int .i64 (x.n+1)] g=B1 (.undef,o)/\Op.aq 14 [.ptr b.au 0] o=B1 (.agg (hJ t))/\Op.store 14 [.ptr H1.au 0,.agg (hJ t)] o=B1 (.undef,D)/\Op.aq 14 [.ptr H1.au 0] D=B1 (.agg (hJ t))/\tV Hb H w B cvs hv bs ks (k+2) {y with n:=x.n+1} D:=λ{t y g i j u m V6}yn C n6 G E g6=>by
  obtain⟨o,U⟩:∃Z,Z=g.set w (OR (lY B cvs i (x.n+1)) FT):=⟨_,rfl⟩
  have L:Fr (On w) g o:=U▸cI ..;have s7:Op.store 1 [.ptr w 3,.int .i64 (x.n+1)] g=B1 (.undef,o):=by rw[C.row.st 3 rfl (by show 3<4;decide),U];rfl
  have r7:=C.Mx (n':=x.n+1) (L.mono λ z _ q=>.inl q) (by rw[U];exact C.row.set _) (Own.fr C.hl L λ z q(e:z=w)=>C.w1.2 (by rw[<-e];exact q)) λ z q=>.inl q;have k7:=λ z(q:kR g w B cvs i j m z)=>show kR o w B cvs i j (wide m g.au) z/\o.get z=g.get z from⟨q.wide L.au (λ q=>.inl q) λ q=>.inl q,L.ah z q.lt λ e=>q.nw (.inl e)⟩
  have⟨D,s8,l8,P⟩:=p.post r7 (xx n6 L.au) (λ z q=>⟨(k7 z (G z q).1).1,(k7 z (G z q).1).2.trans (G z q).2⟩) t;exact⟨o,D,by rw[<-yn];exact C.bm.2.2.2.1,s7,eJ (by rw[(k7 _ E).2];exact g6) (Ef _),s8,l8,P⟩
 by_cases d:JV kd=.nilf
 .have e0:x.kG ⟨kd,co,n⟩=(x,kN 140):=by
   unfold JV at d;unfold Wo.kG;simp only at d⊢
   by_cases I:kd=1
   .rw [xg I]at d;cases d
   by_cases J:kd=2
   .rw [qy I,xg J]at d;cases d
   by_cases R:kd=3
   .rw [qy I,qy J,xg R]at d;cases d
   by_cases S:kd=4
   .rw [qy I,qy J,qy R,xg S]at d;cases d
   rw[qy I,qy J,qy R,qy S]
  rw[e0];have W:Op.eq .func B4 [.nilf,.nilf] s=B1 (.bool B2):=rfl;have⟨o,D,w1,w2,w3,w4,w5,P⟩:=rest rfl (r4.mono (Nat.le_add_right k 2)) l.au F N g5;simp only[aa,bc,Wz,aw,l4,lk,d,W,w1,wi,w2,w3,w4,w5];exact P
 .obtain ⟨f,d⟩:∃f,JV kd=wY f:=by
   unfold JV at d⊢
   repeat' split
   all_goals first|exact⟨_,rfl⟩|(rename_i I J R S;rw[qy I,qy J,qy R,qy S]at d;exact(d rfl).elim)
  have W:Op.eq .func B4 [wY f,.nilf] s=B1 (.bool B4):=rfl;simp only[aa,bc,l4,lk,d,W,lA,zp];refine C3.q (xkg r4 hk (hS.em ((show Fr Em H b by rw[<-p.e2,<-p.e1];exact((Fr.refl H).alloc _).alloc _).em l)) hG hh ⟨kd,co,n⟩ d) λ v H5⟨hv5,hv',bs',aQ,ks',V',r5,n5,Q⟩=>?_;subst hv5;have⟨fo5,g6⟩:=Q _ N;obtain⟨g,s6,-,C,Y,E,g7⟩:=r5.Xp fo5 (by omega) (g6.trans g5) (x.kG ⟨kd,co,n⟩).2;have⟨o,D,w1,w2,w3,w4,w5,P⟩:=rest yn C (by have:=Y.au;have:=l.au;omega) (λ z q=>by
   have zl:=q.lt;have⟨a4,b4⟩:=F z q;have⟨K,b5⟩:=Q z a4;exact⟨⟨qn K.lt Y.au,K.nb,K.nw,K.nc⟩,by rw[Y.ah z K.lt (λ e:z=b.au=>by omega),b5,b4]⟩) E g7
  simp only[aa,bc,Wz,aw,s6,w1,wi,w2,w3,w4,w5];exact P
end
end Go.Am
