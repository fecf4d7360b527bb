import Derived.Test.YtlepagkkolnmoaaGreatDoorAmVZl
import Derived.Test.YtlepagkkolnmoaaGreatDoorAmVZj
import Derived.Test.YtlepagkkolnmoaaGreatDoorAmVZf
import Derived.Test.YtlepagkkolnmoaaGreatDoorAmVZg
set_option linter.defProp false
set_option linter.unusedVariables false
set_option linter.unusedSimpArgs false
set_option linter.unusedSectionVars false
set_option maxRecDepth 100000
open Bool renaming false→B2,true→B4
open Go renaming IntKind→PD
open List renaming range→N7,replicate→Jv
open Option renaming none→B5,some→B1
open Prod renaming snd→Bk
open Nat renaming reduceEqDiff→bc
namespace Go.Am
open Lang Go.Proofs
variable{M:ao}[MK M]
def K_:Op.mkMap []=B1 (.map [] 0,.map):=rfl
def VA{H:ar}{b e n:Nat}{z l:List AV}(g:H.get b=B1 (OR z e))(d:z.length=n)(hl:l.length=n)(a:aS l=B4):∃H',Op.store n [.ptr b 0,.agg l] H=B1 (.undef,H')/\Op.aw n [.ptr b 0] H'=B1 (.agg l)/\Fr (On b) H H'/\H'.get b=B1 (OR l e) :=
 ⟨_,ij g d hl a,fC (xg ..) hl,cm ..,xg ..⟩
def okB(f s o:Int):Prop:=(0<=f/\f<=16)/\(0<=s/\s<=16)/\0<=o/\o<=16
instance(f s o:Int):Decidable (okB f s o):=by unfold okB;infer_instance
def xf0(b o:Nat):Op.cJ 5 1 [(B1 0),(B1 1),B5] [.ptr b o,.int .i64 1,.int .i64 4]=B1 (.slice b (o+1) 3 4):=by
 rfl
def Z9{b o n c i:Nat}{k:PD}(h:i<n):Op.aT 1 [.slice b o n c,.int k (i:Int)]=B1 (.ptr b (o+i)):=by
 have a:=Fz h;simp[Op.aT,fI,Mc (z:=(i:Int)) rfl h,elemAt,a]
def xbs{H:ar}{f s o:Int}:zj M sg [.agg [.int .i64 f,.int .i64 s,.int .i64 o]] H λ v H'=>v=.tuple [.agg [.int .i64 0,.int .i64 f,.int .i64 s,.int .i64 o,.int .i64 (-1)],.bool (decide (okB f s o))]/\Fr Em H H':=by
 refine q44 ?_;have l1:∀b,Op.dp [.slice b 1 3 4]=B1 (.int .i64 3):=λ _=>rfl;have⟨H1,e1,P,n1,R⟩:=cI H (OR [.int .i64 f,.int .i64 s,.int .i64 o] I8);have⟨e,e2,F,n2,S⟩:=cI H1 (OR [.int .i64 0,.int .i64 0,.int .i64 0,.int .i64 0,.int .i64 0] sR);have⟨Hz,N,G,n3,T⟩:=cI e (OR [.int .i64 0,.int .i64 0,.int .i64 0,.int .i64 0,.int .i64 0] sR);have w:e.get H.au=B1 (OR [.int .i64 f,.int .i64 s,.int .i64 o] I8):=(F.ai _ (by omega) id).trans R;have W:Op.ah [.ptr H.au 0] e=B1 (.int .i64 f):=zg (xe w) 0;have X:Op.ah [.ptr H.au 1] e=B1 (.int .i64 s):=zg (xe w) 1;have Y:Op.ah [.ptr H.au 2] e=B1 (.int .i64 o):=zg (xe w) 2;have L:Op.build [.int .i64 0,.int .i64 0,.int .i64 0,.int .i64 0,.int .i64 0] [(1,1),(2,1),(3,1),(4,1)] [.int .i64 f,.int .i64 s,.int .i64 o,.int .i64 (-1)]=B1 (.agg [.int .i64 0,.int .i64 f,.int .i64 s,.int .i64 o,.int .i64 (-1)]):=rfl;have⟨p,Z,l4,x,U⟩:=VA (n:=5) (l:=[.int .i64 0,.int .i64 f,.int .i64 s,.int .i64 o,.int .i64 (-1)]) T rfl rfl rfl;have n4:=x.au;have J:Fr Em H p:=((P.em F).em G).trans x λ z(q:z=e.au)=>.inr (by omega);have z3:p.get H1.au=B1 (OR [.int .i64 0,.int .i64 0,.int .i64 0,.int .i64 0,.int .i64 0] sR):=(x.ai _ (by omega) λ q:H1.au=e.au=>by omega).trans ((G.ai _ (by omega) id).trans S);obtain⟨K,C,A,Q,-⟩:=VA (n:=5) (l:=[.int .i64 0,.int .i64 f,.int .i64 s,.int .i64 o,.int .i64 (-1)]) z3 rfl rfl rfl;have u:Fr Em H K:=J.trans Q λ z(q:z=H1.au)=>.inr (by omega);simp only[ae,bc,R5,<-e1,<-e2,<-N,W,X,Y,L,Z,xf0,l1]
 let g:Nat->Int:=λ i=>if i=0 then f else if i=1 then s else o
 have a:∀i,i<3->Op.ah [.ptr e.au (1+i)] p=B1 (.int .i64 (g i)):=λ i V=>by
  rw[zg (xe U)];have:i=0\/i=1\/i=2:=by omega
  rcases this with rfl|rfl|rfl<;>rfl
 refine dm.intro (λ n E D=>∃i,D=p/\E=[(14,.slice e.au 1 3 4),(15,.int .i64 3),(16,.int .i64 (i:Nat)),(4,.ptr e.au 0),(2,.ptr H1.au 0)]/\n=3-i/\i<=3 /\ ∀j,j<i->0<=g j/\g j<=16) ?_ ?_
 .exact ⟨_,_,⟨0,rfl,rfl,rfl,by omega,λ j I=>by omega⟩,by simp only[ae,bc]⟩
 rintro n E D ⟨i,rfl,rfl,rfl,V,k⟩
 by_cases d:i<3
 .have e1:(i:Int)<3:=by omega
  have O:ak .i64 ((i:Int)+1)=((i+1:Nat):Int):=by rw[ju (by omega) (by omega)];omega
  have Cl:¬(0<=g i/\g i<=16)->decide (okB f s o)=false:=λ h=>by
   refine yo λ⟨m,t,h3⟩=>h ?_;have:i=0\/i=1\/i=2:=by omega
   rcases this with rfl|rfl|rfl
   .exact m
   .exact t
   .exact h3
  by_cases m:g i<0
  .simp only[ae,bc,R5,e1,Z9 d,a i d,m,l4,C,A];exact⟨by rw[Cl (by omega)],u⟩
  .by_cases t:16<g i
   .simp only[ae,bc,R5,e1,Z9 d,a i d,m,t,l4,C,A];exact⟨by rw[Cl (by omega)],u⟩
   .simp only[ae,bc,R5,e1,Z9 d,a i d,m,t,O];refine⟨_,_,⟨i+1,rfl,rfl,by omega,λ j I=>?_⟩,by simp only[ae,bc],by omega⟩;rcases Nat.lt_succ_iff_lt_or_eq.1 I with q|rfl
    .exact k j q
    .omega
 .have y:i=3:=by omega
  subst y;have e1:¬((3:Nat):Int)<3:=by omega
  have hk:decide (okB f s o)=true:=yq ⟨k 0 (by omega),k 1 (by omega),k 2 (by omega)⟩;simp only[ae,bc,R5,e1,l4,C,A];exact⟨by rw[hk],u⟩
def S2(f s o:Int):List AV:=[.int .i64 0,.int .i64 f,.int .i64 s,.int .i64 o,.int .i64 (-1),.int .i64 0,.int .i64 0,.int .i64 0,.int .i64 0,.int .i64 0,.int .i64 0,.bool B4]
def Pf(H:ar)(f s o:Int)(v:AV)(H':ar):Prop:=(okB f s o /\ ∃b,v=.tuple [.ptr b 0,.int .i64 0]/\H.au<=b/\b<H'.au/\H'.get b=B1 (OR (S2 f s o) vj))\/(¬okB f s o/\v=.tuple [.nilp,.int .i64 2])
def q96{H:ar}{f s o:Int}:zj M t6 [.agg [.int .i64 f,.int .i64 s,.int .i64 o]] H λ v H'=>Pf H f s o v H'/\Fr Em H H':=by
 refine xfa ?_;have a:Fr Em H (H.alloc (OR [.int .i64 f,.int .i64 s,.int .i64 o] I8)):=(Fr.refl H).alloc _;simp only[ae,bc,Xi,mn H [.int .i64 f,.int .i64 s,.int .i64 o] _ _ _ 3 rfl];refine C3.q (xbs) λ v i⟨x,d⟩=>?_;subst x;have g:=d.au;rw[xz]at g;have⟨y,j,u,A,w⟩:=cI i (OR [.int .i64 0,.int .i64 0,.int .i64 0,.int .i64 0,.int .i64 0] sR);obtain⟨p,m,l4,k,-⟩:=VA (n:=5) (l:=[.int .i64 0,.int .i64 f,.int .i64 s,.int .i64 o,.int .i64 (-1)]) w rfl rfl rfl;have h:Fr Em H p:=(a.em (d.em u)).trans k λ z(q:z=i.au)=>.inr (by have:=a.au;omega);have C:=k.au;have t:Op.build [.int .i64 0,.int .i64 0,.int .i64 0,.int .i64 0,.int .i64 0,.int .i64 0,.int .i64 0,.int .i64 0,.int .i64 0,.int .i64 0,.int .i64 0,.bool B2] [(0,5),(11,1)] [.agg [.int .i64 0,.int .i64 f,.int .i64 s,.int .i64 o,.int .i64 (-1)],.bool B4]=B1 (.agg (S2 f s o)):=rfl
 by_cases hk:okB f s o
 .have e:decide (okB f s o)=true:=yq hk;simp only[ae,bc,Xi,aB,e,<-j,m,l4,t];exact⟨.inl ⟨hk,_,rfl,by omega,by rw[xz];omega,xr ..⟩,h.alloc _⟩
 .have e:decide (okB f s o)=false:=yo hk;simp only[ae,bc,Xi,aB,e,<-j,m];exact⟨.inr ⟨hk,rfl⟩,h⟩
def QC(e:Nat)(zero:List AV):Op.buildSlice e 0 zero [] []=B1 (.row [] e (0,0) B4,Op.sliceTo 0 0):=rfl
def j'(H:ar):Op.eq .slice B2 [.nils,.nils] H=B1 (.bool B4):=rfl
def xgo{H:ar}{size:Nat}{v:AV}{n:Nat}{cells:List AV}(h:Sl H size v n cells)(a:v≠ .nils)(H':ar):Op.eq .slice B2 [v,.nils] H'=B1 (.bool B2):=by
 have⟨_,h⟩:=h;cases v<;>first|exact(a rfl).elim|rfl|exact h.elim
def OS{H:ar}{a:AV}{n:Nat}{cells:List AV}(ha:Sl H 5 a n cells)(f:aS cells=B4)(hl:n*40<=140737488355328){K:Bool->AV->ar->Prop}{m:Bool}
 (hk:∀g H',Own H' AO 5 g n cells->Fr Em H H'->(∀b,aM g b->H.au<=b)->K m g H'):jN m (Op.append AO 5 40 [Op.sliceTo 0 0 H.au,a] (H.alloc (.row [] AO (0,0) B4))) K:=by
 have d:Fr Em H (H.alloc (.row [] AO (0,0) B4)):=(Fr.refl H).alloc _;refine QY (e:=AO) (n:=0) (cells:=[]) ⟨rfl,.inl ⟨rfl,.inr ⟨H.au,rfl,by rw[xz];omega⟩⟩⟩ (ha.em d) f (by omega) (by omega) (by omega) λ g i hv' j h=>hk g i ?_ ?_ λ b hb=>?_
 .rw [yf,z7]at hv';exact hv'
 .exact d.trans j λ x k=>.inr (by rw[k.2];exact qm _)
 .exact (h b hb).elim (λ q=>by rw[q.2];exact qm _) λ q=>zd d.au q
def M9:Fi:=⟨Jv 8 0,0,B5⟩
def T9:So:=⟨[],[],⟨0,0,0,0⟩,B5,B2,B2,B2,0,0,0,0⟩
def xdn{H:ar}:zj M q7u [] H λ v H'=>v=.ptr H.au 0/\H'=H.alloc (OR (cz M9 .nilp) IZ):=by
 refine xjm ?_;have a:Op.build [.int .u64 0,.int .u64 0,.int .u64 0,.int .u64 0,.int .u64 0,.int .u64 0,.int .u64 0,.int .u64 0,.int .i64 0,.nilp,.bool B2] [(10,1)] [.bool B4]=B1 (.agg (cz M9 .nilp)):=rfl;simp only[ae,bc,xjn,a]
structure Za(H H':ar):Prop where
 n:H'.au=H.au+5
 a:H'.get H.au=B1 (.map [] 0)
 b:H'.get (H.au+1)=B1 (OR [.nils,.map H.au] Jq)
 c:H'.get (H.au+2)=B1 (.map [] 0)
 d:H'.get (H.au+3)=B1 (OR [.nils,.map (H.au+2)] Jq)
 e:H'.get (H.au+4)=B1 (OR [.ptr (H.au+1) 0,.ptr (H.au+3) 0] TD)
 f:Fr Em H H'
def xfb{H:ar}:zj M xbm [] H λ v H'=>v=.ptr (H.au+4) 0/\Za H H':=by
 refine xmb ?_;have a:∀b,Op.build [.nils,.mE] [(1,1)] [.map b]=B1 (.agg [.nils,.map b]):=λ _=>rfl;have d:∀x y,Op.build [.nilp,.nilp] [(0,1),(1,1)] [.ptr x 0,.ptr y 0]=B1 (.agg [.ptr x 0,.ptr y 0]):=λ _ _=>rfl;simp only[ae,bc,xmc,K_,a,d];refine⟨rfl,rfl,?_,?_,?_,?_,?_,(((((Fr.refl H).alloc _).alloc _).alloc _).alloc _).alloc _⟩
 .exact (((xF (by simp only[xz];omega) _).trans (xF (by simp only[xz];omega) _)).trans (xF (by simp only[xz];omega) _)).trans ((xF (by simp only[xz];omega) _).trans (xr ..))
 .exact ((xF (by simp only[xz];omega) _).trans (xF (by simp only[xz];omega) _)).trans ((xF (by simp only[xz];omega) _).trans (xr ..))
 .exact (xF (by simp only[xz];omega) _).trans ((xF (by simp only[xz];omega) _).trans (xr ..))
 .exact (xF (by simp only[xz];omega) _).trans (xr ..)
 .exact xr ..
def IQ(o:Nat->Nat)(n:Nat)(z:Nat):Nat:=if z<n then o z else if z=n then 11 else if z=n+1 then 10 else if z=n+2 then 21 else if z=n+3 then 20 else if z=n+4 then 9 else 8
def xdv{H:ar}:zj M S_ [] H λ v H'=>v=.ptr (H.au+5) 0/\H'.au=H.au+6/\Fr Em H H' /\ ∀o,dV H' (IQ o H.au) (H.au+5) T9 (H.au+4) .nilf:=by
 refine xjt ?_;have h:∀x,Op.build [.nilp,.int .i64 0,.int .i64 0,.int .u64 0,.int .u64 0,.nilf,.bool B2,.bool B2,.bool B2,.int .u64 0,.int .u64 0,.int .i64 0,.int .i64 0] [(0,1)] [.ptr x 0]=B1 (.agg (dK T9 x .nilf)):=λ _=>rfl;simp only[ae,bc,xju];refine C3.q (xfb) λ v H1⟨i,L⟩=>?_;subst i;simp only[ae,bc,h];have n1:=L.n;obtain⟨g,e2⟩:∃Z,Z=H1.alloc (OR (dK T9 (H.au+4) .nilf) Dr):=⟨_,rfl⟩
 have n2:g.au=H.au+6:=by rw[e2,xz,n1]
 have k:∀z,z<H1.au->g.get z=H1.get z:=λ z q=>by rw[e2,xF q]
 rw[<-e2];refine⟨by rw[n1],n2,L.f.em (e2▸(Fr.refl H1).alloc _),λ o=>⟨⟨by rw[e2,<-n1];exact xr ..,by omega⟩,⟨H.au+1,H.au+3,.nils,H.au,0,.nils,H.au+2,0,⟨by rw[k _ (by omega)];exact L.e,by omega⟩,?_,⟨⟨by rw[k _ (by omega)];exact L.b,by omega⟩,Own.nil ..,by rw[k _ (by omega)];exact L.a,by omega,x9 _,?_,?_,λ z q=>(q.1 rfl).elim⟩,⟨⟨by rw[k _ (by omega)];exact L.d,by omega⟩,Own.nil ..,by rw[k _ (by omega)];exact L.c,by omega,x9 _,?_,?_,λ z q=>(q.1 rfl).elim⟩⟩,rfl,?_,rfl,bK,λ y w=>(List.not_mem_nil w).elim,bK⟩⟩
 all_goals (unfold IQ;simp<;>(intro;omega))
end Go.Am
namespace Go.Am
open Lang Go.Proofs
variable{M:ao}[MK M]
def xly:∀(code:List i9),aS (code.flatMap fZ)=B4
 |[]=>rfl
 |i::l=>by rw[j0,vk,List.all_append,<-vk,<-vk,xly l];rfl
def xel{H:ar}{a:AV}{code:List i9}(ha:bM fZ 5 H a code)(hl:code.length<=1000000):zj M _H [a] H λ v H'=>aA v=B4/\bM fZ 5 H' v code/\(code≠[]->H.au<=aD v/\aD v<H'.au)/\Fr Em H H':=by
 refine qn7 ?_
 by_cases hn:a=.nils
 .subst hn;simp only[ae,bc,qhb,j'];have:code.length=0:=by
   have:=ha.len;have q:Op.dp [AV.nils]=B1 (.int .i64 0):=rfl;rw[q]at this;injection this with this;injection this with _ this;omega
  exact⟨rfl,ha,λ q=>(q (jf.1 this)).elim,Fr.refl _⟩
 .simp only[ae,bc,qhb,xgo ha hn,QC];refine OS ha (xly code) (by omega) λ h f hv' g e=>?_;simp only[ae,bc];have d:aL fZ AO 5 f h code:=hv';exact⟨Sl.one hv'.sl,aL.sl d,λ q=>⟨e _ (yP d q),Own.lt d _ (yP d q)⟩,g⟩
def Z3(id:Int)(n:Nat)(f s o ln:Int):Prop:=okB f s o/\0<=id/\id<4/\n<=1024/\2<=ln/\ln<=64
instance(id:Int)(n:Nat)(f s o ln:Int):Decidable (Z3 id n f s o ln):=by unfold Z3;infer_instance
def KP(id ln:Int)(code:List i9)(f s o:Int):Co:=⟨id,ln,code,M9,⟨[0,f,s,o,-1],0,La.kW⟩,T9,0,iD,0,[],0,B2,B2,B2,0,0,B2,B2⟩
def CoN(H:ar)(c:Co)(v:AV)(H':ar):Prop:=∃p f l sp cv,v=.tuple [.ptr p 0,.int .i64 0]/\H.au<=p /\ ∀o:Nat->Nat,∃o',(∀z,z<H.au->o' z=o z)/\dW H' o' p f l sp cv .nils .nils .nili c [] 0
def sM(ok:Prop)(H:ar)(c:Co)(v:AV)(H':ar):Prop:=(ok/\CoN H c v H')\/(¬ok/\v=.tuple [.nilp,.int .i64 2])
def xb1{H:ar}{id ln f s o:Int}{a:AV}{code:List i9}(ha:bM fZ 5 H a code) :
 zj M q7t [.int .i64 id,a,.agg [.int .i64 f,.int .i64 s,.int .i64 o],.int .i64 ln] H λ v H'=>sM (Z3 id code.length f s o ln) H (KP id ln code f s o) v H'/\Fr Em H H':=by
 refine xif ?_;have P:Fr Em H (H.alloc (OR [.int .i64 f,.int .i64 s,.int .i64 o] I8)):=(Fr.refl H).alloc _;simp only[ae,bc,JD,mn H [.int .i64 f,.int .i64 s,.int .i64 o] _ _ _ 3 rfl];refine C3.q (q96) λ v V⟨hq,E⟩=>?_;have d:=P.em E;rcases hq with⟨hk,l,rfl,l1,l2,l3⟩|⟨hk,rfl⟩
 .by_cases C:id<0
  .simp only[ae,bc,JD,xm,C];exact⟨.inr ⟨λ⟨_,q,_⟩=>by omega,rfl⟩,d⟩
  by_cases D:4<=id
  .simp only[ae,bc,JD,xm,C,D];exact⟨.inr ⟨λ⟨_,_,q,_⟩=>by omega,rfl⟩,d⟩
  by_cases I:(1024:Int)<(code.length:Nat)
  .simp only[ae,bc,JD,xm,C,D,ha.len,I];exact⟨.inr ⟨λ⟨_,_,_,q,_⟩=>by omega,rfl⟩,d⟩
  by_cases L:ln<2
  .simp only[ae,bc,JD,xm,C,D,ha.len,I,L];exact⟨.inr ⟨λ⟨_,_,_,_,q,_⟩=>by omega,rfl⟩,d⟩
  by_cases c5:64<ln
  .simp only[ae,bc,JD,xm,C,D,ha.len,I,L,c5];exact⟨.inr ⟨λ⟨_,_,_,_,_,q⟩=>by omega,rfl⟩,d⟩
  simp only[ae,bc,JD,xm,C,D,ha.len,I,L,c5];refine C3.q (xel (ha.em d) (by omega)) λ cv h⟨u,O,N,p⟩=>?_;refine C3.q (xdn) λ v e⟨U,m⟩=>?_;subst U;have t:Fr Em h e:=by rw[m];exact(Fr.refl h).alloc _
  have Q:e.get h.au=B1 (OR (cz M9 .nilp) IZ):=by rw[m];exact xr ..
  have hn4:e.au=h.au+1:=by rw[m];rfl
  simp only[ae,bc];refine C3.q (xdv) λ v K⟨U,hn5,j,T⟩=>?_;subst U;have S:=E.au;rw[xz]at S l1;have Z:=p.au;have X:Op.build [.int .i64 0,.int .i64 0,.nils,.nilp,.nilp,.nilp,.int .i64 0,.int .i64 0,.int .i64 0,.int .i64 0,.int .u64 0,.int .u64 0,.int .u64 0,.nils,.int .i64 0,.bool B2,.bool B2,.bool B2,.int .i64 0,.int .i64 0,.bool B2,.bool B2,.nils,.nili] [(0,1),(1,1),(2,1),(3,1),(4,1),(5,1)] [.int .i64 id,.int .i64 ln,cv,.ptr h.au 0,.ptr l 0,.ptr (e.au+5) 0]=B1 (.agg (cE (KP id ln code f s o) h.au l (e.au+5) cv .nils .nils .nili)):=by
   cases cv<;>first|rfl|cases u
  simp only[ae,bc,X];obtain⟨H6,W,g,n6,-⟩:=cI K (OR (cE (KP id ln code f s o) h.au l (e.au+5) cv .nils .nils .nili) Gv);rw[<-W];have fin:=(((d.em p).em t).em j).em g;refine⟨.inl ⟨⟨hk,by omega,by omega,by omega,by omega,by omega⟩,K.au,h.au,l,e.au+5,cv,rfl,by omega,λ o0=>?_⟩,fin⟩;obtain⟨F,k⟩:∃F,F=aP (aP (aP o0 H.au 3) V.au 7) h.au 2:=⟨_,rfl⟩
  obtain⟨J,A⟩:∃J,J=aP (IQ F e.au) K.au 1:=⟨_,rfl⟩
  have G:∀z,z<e.au->J z=F z:=λ z q=>by rw[A,iZ (by omega)];unfold IQ;rw[xb q]
  refine⟨J,λ z q=>by rw[G z (by omega),k,iZ (by omega),iZ (by omega),iZ q],?_⟩;have R:lV V l ⟨[0,f,s,o,-1],0,La.kW⟩:=⟨⟨rfl,rfl,uj _,(show(0:Int)<=4 by decide),(show(-1:Int)≠0 by decide)⟩,l3,l2⟩
  have Y:At e h.au IZ (cz M9 .nilp):=⟨Q,by omega⟩
  refine⟨⟨by rw[W];exact xr ..,by omega⟩,⟨⟨by simp[KP,M9],λ v q=>by rw[ww q];exact bK,uj _⟩,.nilp,(Y.em j).em g,rfl⟩,((R.em p).em t |>.em j).em g,⟨e.au+4,.nilf,(T F).fr g (λ _ _ _ q=>q) λ z q=>by rw[A];exact iZ q⟩,((O.em t).em j).em g,Own.nil ..,Own.nil ..,?_,?_,?_,λ z q=>(q.1 rfl).elim,λ z q=>(q.1 rfl).elim,λ q=>?_,rfl,⟨by show 0<=id;omega,by show 2<=ln;omega,by show ln<=64;omega,by show code.length<=1024;omega,λ y w=>(List.not_mem_nil w).elim,x9 _,uj _,bK,λ i x w=>by simp[KP]at w⟩⟩
  .rw [A];exact nj (qm _)
  .rw [G _ (by omega),k];exact nj (qm _)
  .rw [G _ (by omega),k,iZ (by omega),iZ (by omega)];exact nj (by omega)
  .have ⟨q1,q2⟩:=N q;exact⟨by omega,by rw[G _ (by omega),k,iZ q2];exact nj q1⟩
 .simp only[ae,bc,JD,xm];exact⟨.inr ⟨λ q=>hk q.1,rfl⟩,d⟩
end Go.Am
namespace Go.Am
open Go.Proofs Ca
variable{M:ao}[MK M]
section
variable{H0 H:ar}{B:Nat}{s:Bs}{b:Bu}{own:Nat->Nat}
def fD.lH(h:fD H0 H B s b own){ws:List L8}{H':ar}(hm:AM H' s.mp s.lv ws)(hl:ws.length=b.m.length)(f:Fr (On (aD s.lv)) H H'):fD H0 H' B s {b with m:=ws} own:=by
 have j:s.dw (aD s.lv):=.inr (.inr (.inl rfl));have o1:=h.oD _ j;have g:∀{z k:Nat},own z=k->k≠1 -> ¬On (aD s.lv) z:=λ e1 e2(q:_=aD s.lv)=>e2 (by rw[<-e1,q];exact o1);have p:H0.au<=aD s.lv:=h.lo _ (.inr (.inl j));refine⟨by rw[f.ai _ h.lt (g h.oB (by decide))];exact h.row,qn h.lt f.au,⟨?_,qn h.d.lt f.au,hm,h.d.es.fr f λ(q:_=_)=>h.d.d1.2.2.2.2 q.symm,λ i x a o=>(h.d.wt i x a o).fr f λ z e(q:z=_)=>(h.d.d2 i x a o z e).2.2.1 q,h.d.d1,h.d.d2,h.d.d3,h.d.len.trans hl.symm⟩,h.dx,Own.fr h.nv f λ z e=>g (h.oN z e) (by decide),λ c n A hn l=>(h.no c n A hn l).off f λ z(q:z=_)=>⟨by rw[q];exact p,λ w=>g (h.oC c A l z w) (by omega) q⟩,h.al,h.fl.fr f λ z e=>g (h.oF z e) (by decide),h.oB,h.oD,h.oN,h.oF,h.oC,h.lo⟩;rw[f.ai _ h.d.lt λ q=>h.d.d1.2.1 q];exact h.d.row
end
def lH(m:List L8):List L8->Nat->List L8
 |[],_=>m
 |x::r,i=>lH (m.set i x) r (i+1)
def YJ:∀(fs:List L8)(m:List L8)(i:Nat),(lH m fs i).length=m.length
 |[],m,i=>rfl
 |x::r,m,i=>by unfold lH;rw[YJ r];exact xq
def xdu:∀(fs:List L8)(m:List L8)(j i:Nat){x:L8},fs[i]? = B1 x->lH m (fs.take (i+1)) j=(lH m (fs.take i) j).set (j+i) x
 |y::r,m,j,0,x,h=>by cases h;rfl
 |y::r,m,j,i+1,x,h=>by
  show lH (m.set j y) (r.take (i+1)) (j+1)=(lH (m.set j y) (r.take i) (j+1)).set (j+(i+1)) x;rw[xdu r _ (j+1) i (show r[i]? = B1 x from h),show j+1+i=j+(i+1)by omega]
def kH(l c s w:Int)(fs:List L8):Bu:={gA l c s w with m:=lH (gA l c s w).m fs 0}
def xes{H:ar}{D mp:Nat}{lv ev:AV}{N:Int}{ws:List L8}{xs:List (De×AV)}(h:mJ H D mp lv ev N ws xs){n:Int}(f:0<=n)(g:n<ws.length)(x:L8):zj M a_ [.ptr D 0,.int .i64 n,.agg (dE x)] H λ v H'=>AM H' mp lv (ws.set n.toNat x)/\Fr (On (aD lv)) H H':=by
 refine q9l ?_;obtain⟨H1,e1,a,-,e⟩:=cI H (OR (dE x) yp);have ln:=fC e (wl x);have l0:Op.ah [.ptr D 0] H1=B1 (.ptr mp 0):=by rw[zg (xe (h.em a).row)];rfl
 simp only[ae,bc,q9m,<-e1,y9,qt,l0,ln];refine C3.q (Ye (h.em a).me f g x) λ v j⟨i,hm,d⟩=>?_;subst i;simp only[ae,bc];exact⟨hm,(a.mono λ _ _ q=>q.elim).trans d λ z q=>.inl q⟩
def GQ(H:ar)(l c s w:Int)(fs:List L8)(v:AV)(H':ar):Prop:=(¬(sW l c s w/\(fs.length:Int)<=l)/\v=.tuple [.nilp,.int .i64 2]/\Fr Em H H')\/(sW l c s w/\(fs.length:Int)<=l) /\ ∃B bs own,v=.tuple [.ptr B 0,.int .i64 0]/\fD H H' B bs (kH l c s w fs) own/\Fr Em H H'
def xbt{H:ar}(l c s w:Int){fv:AV}{fs:List L8}(hF:bM dE 8 H fv fs)(hfb:fs≠[]->aD fv<H.au):zj M Vb [.agg (eH l c s w),fv] H (GQ H l c s w fs):=by
 refine xkw ?_;obtain⟨w0,w4,w12,w14,w41,R,w58,w46,w25,-,w40,S,-,w39⟩:=T7 M ⟨B5,Vb⟩;have⟨H1,e1,Y,n1,g1⟩:=cI H (OR (eH l c s w) AH);have ls:∀{o:ar}(k:Nat),Fr Em H1 o->Op.ah [.ptr H.au k] o=(eH l c s w)[k]?:=λ k f=>zg (xe (by rw[f.ai _ (by omega) id];exact g1)) k;have l0:Op.ah [.ptr H.au 0] H1=B1 (.int .i64 l):=ls 0 (Fr.refl _);have l1:Op.ah [.ptr H.au 1] H1=B1 (.int .i64 c):=ls 1 (Fr.refl _);simp only[ae,bc,w0,<-e1,l0,l1];refine C3.q (xer l c) λ v j⟨F,hv⟩=>?_;rcases hv with⟨U,rfl⟩|⟨U,D,mp,lv,ev,rfl,dr,lod⟩
 .have t2:¬(2:Int)=0:=by decide
  simp only[ae,bc,xm,w4,t2];exact .inl ⟨λ q=>U q.1.1,rfl,Y.trans F λ _ q=>.inl q⟩
 have t0:=xf (show(0:Int)=0 from rfl);have hd':=U;have⟨⟨m1,m2⟩,T,c2⟩:=hd';have P:Op.ah [.ptr H.au 0] j=B1 (.int .i64 l):=ls 0 F;have t:=hF.len
 by_cases qf:l<((fs.length:Nat):Int)
 .simp only[ae,bc,xm,w4,t,P,xf qf];exact .inl ⟨λ q=>by have:=q.2;omega,rfl,Y.trans F λ _ q=>.inl q⟩
 have q0:=qf;have bd:Op.build [.nilp,.nils,.nils,.int .i64 0] [(0,1),(3,1)] [.ptr D 0,.int .i64 l]=B1 (.agg [.ptr D 0,.nils,.nils,.int .i64 l]):=rfl;have⟨C,e3,f3,n3,g3⟩:=cI j (OR [.ptr D 0,.nils,.nils,.int .i64 l] Ky);have p:Fr Em H1 C:=F.trans f3 λ _ q=>q.elim;have rY:Op.ah [.ptr H.au 1] C=B1 (.int .i64 c):=ls 1 p;have m12:=F.au;have d3:=dr.em f3;have i3:Lq H C j.au D mp lv ev .nils l c s w [] (λ z=>if z=j.au then 0 else 1) :=
  ⟨g3,by omega,d3,Own.nil ..,λ k A hA=>by simp at hA,xb rfl,λ z h=>by rw[qv (by have:=dr.low h;omega)],λ z h=>absurd rfl h.1,λ k A hA=>by simp at hA,by omega,λ z h=>by have:=lod z h;omega,λ z h=>absurd rfl h.1,Y.trans p λ _ q=>q.elim⟩
 simp only[ae,bc,xm,w4,t,P,q0,w12,bd,<-e3,w14,rY];obtain⟨a,rfl⟩:=jx (show 0<=c by omega)
 -- what the loop leaves of the message's box
 refine dm.intro (λ k E o=>∃(ad:List Na)(nv:AV)(own:Nat->Nat),E=[(38,.int .i64 (ad.length:Int)),(37,.int .i64 ((a:Nat):Int)),(2,.ptr H.au 0),(8,.ptr j.au 0),(1,fv),(6,.ptr D 0)]/\k=a-ad.length/\ad.length<=a/\Lq H o j.au D mp lv ev nv l a s w ad own/\(0<ad.length->sG s w)/\o.get H.au=B1 (OR (eH l a s w) AH)/\C.au<=o.au /\ ∀z,aM nv z->C.au<=z) ?_ ?_
 .exact ⟨_,_,⟨[],.nils,_,rfl,rfl,x9 _,i3,λ q=>absurd q (by simp),by rw[p.ai _ (by omega) id];exact g1,qm _,λ z h=>absurd rfl h.1⟩,by simp only[ae,bc];rfl⟩
 rintro k E o ⟨ad,nv,own,rfl,rfl,hi,hI,hok,hg,O,N⟩;rcases xw ad.length a with K|hge
 .have q1:(ad.length:Int)<((a:Nat):Int):=by omega
  have ldS:=fC (e:=AH) hg (show(eH l (a:Int) s w).length=4 from rfl);simp only[ae,bc,R,q1,w25,ldS];refine C3.q (xc8 (ad.length:Int) l (a:Int) s w) λ v Ha hv=>?_;rcases hv with⟨u,rfl,fa⟩|⟨u,r,b,sv,rfl,L⟩
  .have t2:¬(2:Int)=0:=by decide
   simp only[ae,bc,xm,S,t2];refine .inl ⟨λ q=>u ⟨q.1.2,by omega,by omega,by omega,m1,m2⟩,rfl,hI.fr.trans fa λ _ q=>.inl q⟩
  .have lB:Op.ah [.ptr j.au 1] Ha=B1 nv:=by
    have fa:=L.bk.fr;rw[zg (xe (by rw[fa.ai _ hI.lt id];exact hI.row))];rfl
   have wj:ak .i64 ((ad.length:Int)+1)=((ad.length+1:Nat):Int):=by rw[ju (by omega) (by omega)];omega
   simp only[ae,bc,xm,S,w39,qt,lB];refine hI.step (by omega) (A:=⟨r,b,sv,.nils,[]⟩) L λ v2 Hb⟨Hc,sc,⟨Q,hc⟩,fc,oc⟩=>?_;have hgc:Hc.get H.au=B1 (OR (eH l (a:Int) s w) AH):=by
    rw[fc.ai _ (by omega) (λ q=>q.elim (λ q=>by omega) λ q=>by have:=N _ q;omega)];exact hg
   simp only[ae,bc,sc,w40,wj];refine⟨_,_,⟨ad ++ [⟨r,b,sv,.nils,[]⟩],v2,Q,rfl,rfl,by rw[xc];simp;omega,hc,λ _=>u.1,hgc,zd O fc.au,λ z h=>(oc z h).elim (N z) λ q=>zd O q⟩,by simp only[ae,bc,xc,zr,yw],by rw[xc];simp;omega⟩
 .have hiw:ad.length=a:=by omega
  have q1:¬(ad.length:Int)<((a:Nat):Int):=by omega
  have y:=hI.done (by omega) (by omega) (by omega);have G:=hI.fr;have hfl:(fs.length:Int)<=l:=by omega
  have ml:(gA l (a:Int) s w).m.length=l.toNat:=by show(Jv l.toNat _).length=_;rw[jc]
  simp only[ae,bc,R,q1,w41,t];refine dm.intro (λ k E g=>∃i:Nat,E=[(62,.int .i64 (i:Int)),(61,.int .i64 ((fs.length:Nat):Int)),(60,fv),(8,.ptr j.au 0),(6,.ptr D 0)]/\k=fs.length-i/\i<=fs.length/\fD H g j.au ⟨D,mp,lv,ev,Jv l.toNat (jI,.nils),nv,.nils,ad⟩ {gA l (a:Int) s w with m:=lH (gA l (a:Int) s w).m (fs.take i) 0} own/\Fr Em H g) ?_ ?_
  .exact ⟨_,_,⟨0,rfl,rfl,x9 _,y,G⟩,by simp only[ae,bc]⟩
  rintro k E g ⟨i,rfl,rfl,hi,y,G⟩;rcases xw i fs.length with K|hge
  .have T:(i:Int)<((fs.length:Nat):Int):=by omega
   obtain⟨x,hx⟩:∃x,fs[i]? = B1 x:=⟨_,qy K⟩
   have sl:bM dE 8 g fv fs:=Sl.em hF G;have ix:=sl.idx hx (z:=(i:Int)) rfl .i64;have ld:=sl.aw wl (by decide) hx;obtain⟨V,X⟩:∃Z,Z=(g.alloc (OR [.int .u64 0,.int .u64 0,.int .u64 0,.int .u64 0,.int .u64 0,.int .u64 0,.int .u64 0,.int .u64 0] yp)).set g.au (OR (dE x) yp):=⟨_,rfl⟩
   have st:Op.store 8 [.ptr g.au 0,.agg (dE x)] (g.alloc (OR [.int .u64 0,.int .u64 0,.int .u64 0,.int .u64 0,.int .u64 0,.int .u64 0,.int .u64 0,.int .u64 0] yp))=B1 (.undef,V):=by
    rw[X];exact ij (xr g _) rfl (wl x) (Az x)
   have fz:Fr Em g V:=by rw[X];exact((Fr.refl g).alloc _).set (.inr (qm _)) _
   have gz:V.get g.au=B1 (OR (dE x) yp):=by rw[X,xg]
   have lz:=fC gz (wl x);have I:=y.em fz;have wj:ak .i64 ((i:Int)+1)=((i+1:Nat):Int):=by rw[ju (by omega) (by omega)];omega
   have sml:(lH (gA l (a:Int) s w).m (fs.take i) 0).length=l.toNat:=by rw[YJ,ml]
   simp only[ae,bc,T7,T,ix,ld,st,lz];refine C3.q (xes I.d (n:=(i:Int)) (by omega) (by show(i:Int)<((lH (gA l (a:Int) s w).m (fs.take i) 0).length:Int);rw[sml];omega) x) λ v Hw⟨hm,fw⟩=>?_;simp only[ae,bc,T7,wj];have lz':H.au<=aD lv:=y.lo _ (.inr (.inl (.inr (.inr (.inl rfl)))));rw[FB]at hm;have W:lH (gA l (a:Int) s w).m (fs.take (i+1)) 0=(lH (gA l (a:Int) s w).m (fs.take i) 0).set i x:=by rw[xdu fs _ 0 i hx,yf]
   have hB2:=I.lH hm (by rw[xq]) fw;refine⟨_,_,⟨i+1,rfl,rfl,by omega,by rw[W];exact hB2,(G.em fz).trans fw λ z(q:z=aD lv)=>.inr (by rw[q];exact lz')⟩,by simp only[ae,bc],by omega⟩
  .have J:i=fs.length:=by omega
   have T:¬(i:Int)<((fs.length:Nat):Int):=by omega
   simp only[ae,bc,T7,T];rw[J,GJ]at y;exact .inr ⟨⟨⟨U,hok (by omega)⟩,hfl⟩,_,_,own,rfl,y,G⟩
def xku{l c s w:Int}(fs:List L8){V:Int->L8}(h:sW l c s w):BuI (kH l c s w fs) V:=ad2 h (by show(lH (Jv l.toNat L8.zero) fs 0).length=_;rw[YJ,jc])
def xkt{l c s w:Int}{fs:List L8}:BC (kH l c s w fs) 0:=by
 have h:=Fh (l:=l) (c:=c) (s:=s) (w:=w);exact⟨h.fl,h.no,h.wt⟩
def BS:∀(fs m:List L8)(i:Nat),(∀x∈m,x.u)->(∀x∈fs,x.u) -> ∀x∈lH m fs i,x.u
 |[],m,i,hm,_=>hm
 |y::r,m,i,hm,hf=>by
  unfold lH;exact BS r _ _ (λ x q=>(FU q).elim (hm x) λ e=>e▸hf y (Je ..)) λ x q=>hf x (wg _ q)
def xkv{l c s w:Int}{fs:List L8}(a:∀x∈fs,x.u):yG (kH l c s w fs):=by
 refine⟨BS fs _ 0 (λ x q=>?_) a,λ n q=>?_,.nil⟩
 .rw [ww (show x∈Jv l.toNat L8.zero from q)];exact L8.iH
 .obtain ⟨k,hk,rfl⟩:=CN.1 (show n∈pP l s w c.toNat from q);intro e he;rw[ww (show e∈Jv (s.toNat*w.toNat) En.zero from he)];exact En.oW
end Go.Am
namespace Go.Am
open Go.Proofs Ca
open Lang (ints)
variable{M:ao}[MK M]
def JP(e0:Int)(H0 H:ar)(r b:Nat)(sv bv:AV)(a:No×List Mg)(v:AV)(H':ar):Prop:=(∃ov,v=.tuple [ov,.int .i64 e0]/\mN H H' ov a.2)/\rU H0 H r b sv bv a.1 H'
def gP(n:No)(line:Int):Int:=if line<0\/n.lines<=line then 2 else match n.c.find line with
 |none=>20
 |some _=>0
section
variable{H0 H:ar}{r b:Nat}{sv bv:AV}{n:No}{ks:List Nat}
def xhx(h:dc H0 H r b sv bv n ks)(a:CI n.lines n.c)(hk:n.aN.length<=900000)(line:Int):zj M O0 [.ptr r 0,.int .i64 line] H (JP (gP n line) H0 H r b sv bv (n.da line)):=by
 refine q0k ?_;obtain⟨w0,w2,P,d,k,Q⟩:=q0l M ⟨B5,O0⟩
 by_cases f:line<0
 .have i:n.da line=(n,[]):=by unfold No.da;rw[xb (.inl f)]
  rw[i,show gP n line=2 from xb (.inl f)];simp only[ae,bc,w0,w2,y9,f];exact⟨⟨.nils,rfl,mN.nil ..⟩,h.same (Fr.refl _)⟩
 by_cases t:n.lines<=line
 .have i:n.da line=(n,[]):=by unfold No.da;rw[xb (.inr t)]
  rw[i,show gP n line=2 from xb (.inr t)];simp only[ae,bc,w0,w2,y9,f,qt,h.l1,t];exact⟨⟨.nils,rfl,mN.nil ..⟩,h.same (Fr.refl _)⟩
 have hn:¬(line<0\/n.lines<=line):=λ q=>q.elim f t;simp only[ae,bc,w0,w2,y9,f,qt,h.l1,t,P,h.l2];refine C3.q (TO h.ca a line) λ v H1⟨N,C⟩=>?_;rw[N,E3];have n1:=C.au;cases A:n.c.find line with
 |none =>
  have i:n.da line=(n,[]):=by unfold No.da;rw[qv hn,A]
  rw[i,show gP n line=20 by unfold gP;rw[qv hn,A]];have U:Fr Em H ((H1.alloc (OR (aE .zero) xt)).set H1.au (OR (aE .zero) xt)):=C.trans (yB _ _) λ _ q=>q.elim;simp only[ae,bc,xm,Option.getD_none,Lb,eZ,jR,d];exact⟨⟨.nils,rfl,mN.nil ..⟩,h.same U⟩
 |some x =>
  obtain⟨n',en⟩:∃n',n'=(if x.r ||x.w then n.iT 4 else n):=⟨_,rfl⟩
  have i:n.da line=No.gone {n' with c:=(n'.c.drop line).1} (n'.c.drop line).2:=by
   unfold No.da;rw[qv hn,A,en]
  rw[i,show gP n line=0 by unfold gP;rw[qv hn,A]];obtain⟨g,e2⟩:∃X,X=(H1.alloc (OR (aE .zero) xt)).set H1.au (OR (aE x) xt):=⟨_,rfl⟩
  have S:Fr Em H1 g:=by rw[e2];exact yB _ _
  have o:Fr Em H g:=C.trans S λ _ q=>q.elim;have n2:g.au=H1.au+1:=by rw[e2];rfl
  have F:g.get H1.au=B1 (OR (aE x) xt):=by rw[e2,xg]
  have G:=h.em o;have lr:Op.ah [.ptr H1.au 2] g=B1 (.bool x.r):=zg (xe F) 2;have lw:Op.ah [.ptr H1.au 3] g=B1 (.bool x.w):=zg (xe F) 3;have hlr:=h.lt;have Z:=h.ca.lt;have hls:aD sv<H.au:=h.ca.sl.lt;have J:=h.bk.fresh;have off:∀y,H.au<=y -> ¬iK r b sv bv y:=λ y hy q=>by
   rcases q with q|q|q
   .omega
   .exact q.elim (λ q=>by omega) λ q=>by omega
   .have:=J _ q;omega
  -- behind the loss
  have fin:∀{m:ar},dc H0 m r b sv bv n' ks->CI n.lines n'.c->n'.aN=n.aN->Fr (iK r b sv bv) g m -> ∀{E:Env},lk E 0=B1 (.ptr r 0)->lk E 1=B1 (.int .i64 line)->lk E 6=B1 (.ptr H1.au 0) ->
   W M ⟨B5,O0⟩ (q0j 33) B4 (eU M [.tmp 4,.tmp 5] (uI (JP 0 H0 H r b sv bv (No.gone {n' with c:=(n'.c.drop line).1} (n'.c.drop line).2)))) E [] m:=by
   intro m z e hb j E q0 f q6;simp only[ae,bc,Q,q0,f,q6,qt,z.l2];refine C3.q (Zp z.ca e line) λ v l⟨N,Y,u⟩=>?_;rw[N];unfold yL;have n4:=u.au;have nc:=j.au;have gc:m.get H1.au=B1 (OR (aE x) xt):=by rw[j.ai _ (by omega) (off _ (by omega))];exact F
   have V:l.get H1.au=B1 (OR (aE x) xt):=by rw[u.ai _ (by omega) (λ q=>off H1.au (by omega) (.inr (.inl q)))];exact gc
   have s5:=ij V (jt _) (jt (n'.c.drop line).2) (Aj _);have O:=fC (xg l H1.au (OR (aE (n'.c.drop line).2) xt)) (jt _);have T:Fr (On H1.au) l (l.set H1.au (OR (aE (n'.c.drop line).2) xt)):=(Fr.refl l).set (W:=On H1.au) (.inl rfl) _;have K:=z.iI Y u (by rw[(Nl ..).1];exact z.len);have L:=K.off T (λ x(hx:x=H1.au)=>by rw[hx];exact⟨by have:=h.bk.fr.au;omega,off _ (by omega)⟩);have p:Fr (iK r b sv bv) H (l.set H1.au (OR (aE (n'.c.drop line).2) xt)):=(kA (kA (nE o) j) (xC u)).set (.inr (by omega)) _;simp only[ae,bc,xm,s5,O];refine C3.q (_b L (by show n'.aN.length<=_;rw[hb];exact hk) _ (Ft e)) λ v H6⟨hm,ht⟩=>?_;simp only[ae,bc];exact⟨⟨_,rfl,(hm.from p.au).ms⟩,ht.from p⟩
  cases hr:x.r with
  |true =>
   rw[hr]at lr en;have en:n'=n.iT 4:=en;simp only[ae,bc,xm,vz,vn,eZ,jR,<-e2,d,k,lr];refine C3.q (JV G 4) λ _ R⟨I,D⟩=>?_;simp only[ae,bc];refine fin (by rw[en];exact I) (by rw[en];exact a.discard) (by rw[en];rfl) D ?_ ?_ ?_
   .rfl
   .rfl
   .rfl
  |false =>
   rw[hr]at lr;cases hw:x.w with
   |true =>
    rw[hr,hw]at en;rw[hw]at lw;have en:n'=n.iT 4:=en;simp only[ae,bc,xm,vz,vn,eZ,jR,<-e2,d,k,lr,lw];refine C3.q (JV G 4) λ _ R⟨I,D⟩=>?_;simp only[ae,bc];refine fin (by rw[en];exact I) (by rw[en];exact a.discard) (by rw[en];rfl) D ?_ ?_ ?_
    .rfl
    .rfl
    .rfl
   |false =>
    rw[hr,hw]at en;rw[hw]at lw;have en:n'=n:=en;simp only[ae,bc,xm,vz,vn,eZ,jR,<-e2,d,k,lr,lw];refine fin (by rw[en];exact G) (by rw[en];exact a) (by rw[en]) (Fr.refl _) ?_ ?_ ?_
    .rfl
    .rfl
    .rfl
end
section
variable{H0 H:ar}{B:Nat}{s:Bs}{b:Bu}{own:Nat->Nat}{c:Int}{n:No}
def Dy(h:fD H0 H B s b own)(hb:BB b)(g:0<=c)(hn:b.ns[c.toNat]? = B1 n)(l:Int):zj M Rh [.ptr B 0,.int .i64 c,.int .i64 l] H λ v H'=>v=.int .i64 (gP n l)/\lj H0 H B s (b.put c.toNat (n.da l)) H':=by
 refine qs9 ?_;obtain⟨w0,w4,e⟩:=qta M ⟨B5,Rh⟩;simp only[ae,bc,w0];refine C3.q (IX h hb.N4 c) λ v H1⟨j,i,_⟩=>?_;have⟨A,f,m⟩:=i (Ah hn g);rw[m,j];have w:=xf (show(0:Int)=0 from rfl);have⟨ni,bk,us⟩:=hb.no _ n hn;have o:=h.no _ n A hn f;simp only[ae,bc,xm,w4,e];refine C3.q (xhx o ni.ci bk l) λ v p⟨⟨u,d,a⟩,k⟩=>?_;rw[d];simp only[ae,bc,xm];refine C3.q (h.out hb hn f k a (by have:=xb6 n l;omega) (Q:=λ _ H'=>lj H0 H B s (b.put c.toNat (n.da l)) H') (r:=.nils) id) λ v t hp=>?_;simp only[ae,bc];exact hp
def Dx(h:fD H0 H B s b own)(hb:BB b)(d:¬(0<=c/\c<b.ns.length))(l:Int):zj M Rh [.ptr B 0,.int .i64 c,.int .i64 l] H λ v H'=>v=.int .i64 2/\H'=H:=by
 refine qs9 ?_;obtain⟨w0,w4,g⟩:=qta M ⟨B5,Rh⟩;simp only[ae,bc,w0];refine C3.q (IX h hb.N4 c) λ v H1⟨e,_,a⟩=>?_;rw[a d,e];have f:¬(2:Int)=0:=by decide
 simp only[ae,bc,xm,w4,f]
def xj4(h:fD H0 H B s b own)(hb:BB b)(d:¬(0<=c/\c<b.ns.length))(k:Int):zj M NX [.ptr B 0,.int .i64 c,.int .i64 k] H λ v H'=>v=.int .i64 2/\Fr Em H H':=by
 refine Zt ?_;obtain⟨H1,e1,a,-,-⟩:=cI H (OR [.int .i64 k] bY);have ca:AV.cells (.int .i64 k)=[.int .i64 k]:=rfl;have mk:Op.bB I7 0 [.ptr H.au 0]=B1 (.fn (.func I7) [] [.ptr H.au 0]):=rfl;simp only[ae,bc,YS,ca,<-e1];refine C3.q (Gy (h.em a) hb d _) λ v g⟨f,e⟩=>?_;rw[e];subst f;simp only[ae,bc];exact a
def xj5(h:fD H0 H B s b own)(hb:BB b)(f:0<=c)(hn:b.ns[c.toNat]? = B1 n)(k:Int):zj M NX [.ptr B 0,.int .i64 c,.int .i64 k] H λ v H'=>v=.int .i64 (n.abort k).2/\lj H0 H B s (b.put c.toNat ((n.abort k).1,[])) H':=by
 refine Zt ?_;obtain⟨H1,e1,a,-,g⟩:=cI H (OR [.int .i64 k] bY);have ca:AV.cells (.int .i64 k)=[.int .i64 k]:=rfl;have l1:Op.ah [.ptr H.au 0] H1=B1 (.int .i64 k):=zg (xe g) 0;have mk:Op.bB I7 0 [.ptr H.au 0]=B1 (.fn (.func I7) [] [.ptr H.au 0]):=rfl;simp only[ae,bc,YS,ca,<-e1];have d:=h.em a;refine C3.q (Tq (H1:=H1) (e:=.int .i64 (n.abort k).2) (n':=(n.abort k).1) d hb f hn (cap:=[.ptr H.au 0]) λ{A}i=>q3j (d.no _ n A hn i) l1) λ v l⟨j,hp⟩=>?_;simp only[ae,bc];exact⟨j,lj.pre a hp⟩
end
end Go.Am
namespace Go.Am
open Lang Go.Proofs
structure Ck where
 p:Nat
 f:Nat
 l:Nat
 sp:Nat
 cv:AV
 rv:AV
 o:Nat->Nat
def wide(ks:List Ck)(n:Nat):List Ck:=ks.map λ A'=>{A' with o:=Go.Am.aP A'.o n 0}
def Ck.at(A:Ck)(Hb H:ar)(B:Nat)(bs:Bs)(k:Nat):SX:=⟨H,A.o,ib B bs,A.p,A.f,A.l,A.sp,B,A.cv,Hb,k⟩
def Is{ks:List Ck}{n:Nat}{j:Nat}{b:Ck}(e:(wide ks n)[j]? = B1 b):∃a,ks[j]? = B1 a/\b = {a with o:=Go.Am.aP a.o n 0}:=by
 unfold wide at e;rw[xj]at e;have⟨a,e1,e2⟩:=xk.1 e;exact⟨a,e1,e2.symm⟩
def GY(b:Bu)(i:Nat):(b.uf i).ns.length=b.ns.length:=by
 unfold Bu.uf
 repeat' split
 all_goals first|rfl|exact xq
def xhn(b:Bu)(t:Bt):(b.step t).ns.length=b.ns.length:=by
 unfold Bu.step
 repeat' split
 all_goals first|rfl|exact GY _ _|exact xq
def ar.low(H:ar)(n:Nat):ar:=⟨H.t,n⟩
def Mt(H:ar){n:Nat}(h:n<=H.au):Fr Em (H.low n) H:=⟨h,λ _ _ _=>rfl⟩
def mT.xT{e:Nat}{H0 H H':ar}{v:AV}{xs:List Nat}{W:Nat->Prop}(h:mT e H0 H v xs)(f:Fr W H H')(hw:∀b,aM v b -> ¬W b):mT e (H'.low H0.au) H' v xs:=by
 refine⟨?_,Mt _ (zd h.fr.au f.au)⟩;rcases h.own with q|⟨b,m,rest,rfl,a,c,d,g⟩
 .exact .inl q
 .exact .inr ⟨b,m,rest,rfl,qn a f.au,c,d,by rw[f.ai b a (hw b ⟨by simp,rfl⟩)];exact g⟩
def dc.xT{H0 H H':ar}{r b:Nat}{sv bv:AV}{n:No}{ks:List Nat}{W:Nat->Prop}(h:dc H0 H r b sv bv n ks)(f:Fr W H H')(hw:∀x,W x -> ¬iK r b sv bv x):dc (H'.low H0.au) H' r b sv bv n ks :=
 ⟨by rw[f.ai _ h.lt λ q=>hw _ q (.inl rfl)];exact h.row,qn h.lt f.au,h.ca.fr f (λ q=>hw _ q (.inr (.inl (.inl rfl)))) (λ q=>hw _ q (.inr (.inl (.inr rfl)))),h.bk.xT f (λ x a q=>hw x q (.inr (.inr a))),h.eq,h.lr,h.lb,h.ls,h.n1,h.n2,h.o1,h.o2,h.o3,h.li,h.len⟩
def fD.xT{H0 H H':ar}{B:Nat}{s:Bs}{b:Bu}{own:Nat->Nat}{W:Nat->Prop}(h:fD H0 H B s b own)(f:Fr W H H')(hw:∀z,W z -> ¬ib B s z):fD (H'.low H0.au) H' B s b own :=
 ⟨by rw[f.ai _ h.lt (λ q=>hw _ q (.inl rfl))];exact h.row,qn h.lt f.au,h.d.fr f (λ z q w=>hw z q (.inr (.inl w))),h.dx,Own.fr h.nv f (λ z a q=>hw z q (.inr (.inr (.inl a)))),
  λ c n A hn e=>(h.no c n A hn e).xT f λ z q w=>hw z q (.inr (.inr (.inr (.inr ⟨c,A,e,w⟩)))),h.al,h.fl.fr f (λ z a q=>hw z q (.inr (.inr (.inr (.inl a))))),h.oB,h.oD,h.oN,h.oF,h.oC,h.lo⟩
end Go.Am
namespace Go.Am
open Lang
def Gz(b:Bu):Nat×Nat:=(b.ns.length,b.l.length)
def Ta(b:Bu)(t:Bt):Gz (b.step t)=Gz b:=by
 unfold Bu.step Bu.uf
 repeat' split
 all_goals simp[Gz,Bu.put]
structure KN(s t:CS):Prop where
 id:t.c.id=s.c.id
 ns:Gz t.b=Gz s.b
 cd:t.c.code=s.c.code
 ln:t.c.lines=s.c.lines
def KN.nl{s t:CS}(h:KN s t):t.b.ns.length=s.b.ns.length:=congrArg Prod.fst h.ns
def KN.ll{s t:CS}(h:KN s t):t.b.l.length=s.b.l.length:=congrArg Bk h.ns
namespace CS
def KN.trans{s t u:CS}(h:KN s t)(a:KN t u):KN s u:=⟨a.id.trans h.id,a.ns.trans h.ns,a.cd.trans h.cd,a.ln.trans h.ln⟩
def KN.rf(s:CS):KN s s:=⟨rfl,rfl,rfl,rfl⟩
def eT(s:CS)(k n v o:Int):KN s (s.iy k n v o):=⟨rfl,Ta _ _,rfl,rfl⟩
def Yo(s:CS):KN s s.av:=by unfold av;simp only;split<;>exact⟨rfl,rfl,rfl,rfl⟩
def po{s t u:CS}(h:KN s t)(e1:u.c.id=t.c.id)(e2:u.b=t.b)(a:u.c.code=t.c.code)(d:u.c.lines=t.c.lines):KN s u:=⟨e1.trans h.id,(congrArg Gz e2).trans h.ns,a.trans h.cd,d.trans h.ln⟩
def Ts(s:CS):KN s s.bH:=by
 have h:=Yo s;exact po (t:=s.av) h (by unfold bH leave fG;rfl) (by unfold bH leave fG;rfl) (by unfold bH leave fG;rfl) (by unfold bH leave fG;rfl)
def xl4(s:CS):KN s s.cP:=by
 unfold cP
 repeat' split
 all_goals first|exact⟨rfl,rfl,rfl,rfl⟩|exact po (eT s 5 7 0 0) rfl rfl rfl rfl
def HP(s:CS)(f:oK)(a:Int):KN s (s.mh f a):=by
 unfold mh;simp only
 repeat' split
 all_goals first|exact⟨rfl,rfl,rfl,rfl⟩|exact po (eT s 0 a 0 0) rfl rfl rfl rfl
def EO(s:CS)(f:oK)(a:Int):KN s (s.iJ f a):=by
 unfold iJ;simp only
 repeat' split
 all_goals first|exact⟨rfl,rfl,rfl,rfl⟩|exact po (eT s 1 a f.value 0) rfl rfl rfl rfl
def MS(s:CS):KN s s.ends:=by
 unfold ends;simp only
 repeat' split
 all_goals first|exact⟨rfl,rfl,rfl,rfl⟩|exact KN.trans (eT s 4 0 0 0) (Ts _)
def IA(s:CS):KN s s.nV:=by
 unfold nV;simp only
 repeat' split
 all_goals first|exact⟨rfl,rfl,rfl,rfl⟩|exact xl4 s|exact HP s _ _|exact EO s _ _|exact MS s
def Fk(s:CS):KN s s.jL:=by
 unfold jL;simp only
 repeat' split
 all_goals first|exact⟨rfl,rfl,rfl,rfl⟩|exact⟨rfl,Ta _ _,rfl,rfl⟩
def Gu(s:CS):KN s s.oA:=by
 unfold oA;simp only
 repeat' split
 all_goals exact po (eT s 2 0 _ _) rfl rfl rfl rfl
def ae4(s:CS):KN s s.eW:=by
 unfold eW
 repeat' split
 all_goals first|exact⟨rfl,rfl,rfl,rfl⟩|exact Ts s
def fm{p:Prop}[Decidable p]{s a b:CS}(c:KN s a)(d:KN s b):KN s (if p then a else b):=by split;exact c;exact d
def Pg(s:CS)(v:Int)(q:Bool):KN s (s.mX v q):=by
 unfold mX;simp only;have a:KN s {s with c:={s.c with so:=s.c.so.eX v q}}:=⟨rfl,rfl,rfl,rfl⟩
 generalize({s with c:={s.c with so:=s.c.so.eX v q}}:CS)=t at *;have hu:KN s (if s.c.so.aF=B4/\(s.c.so.eX v q).aF=B2 then t.av else t):=fm (KN.trans a (Yo _)) a;generalize(if s.c.so.aF=B4/\(s.c.so.eX v q).aF=B2 then t.av else t)=u at *;have hw:KN s (if s.c.so.points<u.c.so.points then u.tell 4 0 0 0 else u):=fm (po hu rfl rfl rfl rfl) hu;generalize(if s.c.so.points<u.c.so.points then u.tell 4 0 0 0 else u)=w at *;exact fm hw (KN.trans hw (ae4 _))
def IJ(s:CS)(v:Int)(q:Bool):KN s (s.given v q):=by
 rw[Y7];have h:=Pg {s with c:={s.c with held:=s.c.held ||q && decide (s.c.so.want.a=0)}} v q;exact⟨h.id,h.ns,h.cd,h.ln⟩
def Ib(s:CS):KN s s.nP:=by
 unfold nP;simp only
 repeat' split
 all_goals first|exact KN.rf s|exact KN.trans (eT s _ _ _ _) (IJ _ _ _)|exact eT s _ _ _ _
def Ip(s:CS):KN s s.aN:=by
 unfold aN gq;simp only
 repeat' split
 all_goals first|exact po (eT s _ _ _ _) rfl rfl rfl rfl|exact KN.trans (eT s _ _ _ _) (Ts _)
def xi2(s:CS)(n:Int):KN s (s.gq (·.ph n)):=by
 unfold gq;exact fm (po (eT s 1 0 (ak .u64 (s.c.seq+2)) 0) rfl rfl rfl rfl) (eT s 1 0 _ 0)
def xi1(s:CS):KN s (s.gq breaks):=by
 unfold gq;exact fm (po (eT s 1 0 (ak .u64 (s.c.seq+2)) 0) rfl rfl rfl rfl) (eT s 1 0 _ 0)
def Ri(s:CS):KN s s.act:=by
 unfold act;refine fm (IA s) (fm (Fk s) (fm ?_ (fm ?_ (fm ?_ (fm (Gu s) (fm (Ib s) (fm (xi2 s 8) (fm (KN.trans (eT s 4 0 0 0) (Ts _)) (fm (Ip s) (fm (xi1 s) (KN.rf s)))))))))))
 .refine fm (fm (po (KN.trans (eT s 0 1 0 0) (eT _ 5 6 0 0)) rfl rfl rfl rfl) (po (eT s 0 1 0 0) rfl rfl rfl rfl)) (eT s 0 1 0 0)
 .refine fm (fm ⟨rfl,(Ta _ _).trans (Ta _ _),rfl,rfl⟩ (po (eT s 0 0 0 0) rfl rfl rfl rfl)) (eT s 0 0 0 0)
 .exact fm (po (eT s 0 0 0 0) rfl rfl rfl rfl) (eT s 0 0 0 0)
def EH(s:CS):KN s s.step.1:=by
 unfold step;split
 .exact KN.rf s
 split
 .exact KN.rf s
 split
 .exact ⟨rfl,rfl,rfl,rfl⟩
 .exact Ri s
end CS
end Go.Am
namespace Go.Am
open Lang
def OL(n:Nat)(s t:CS):Prop:=∃l,t.o=s.o++l/\l.length<=n /\ ∀e∈l,e.core=s.c.id
def OL.same{n:Nat}{s t:CS}(e:t.o=s.o):OL n s t:=⟨[],by rw[e,zn],x9 _,λ _ h=>by cases h⟩
def OL.one{n:Nat}{s t:CS}{x:eF}(e:t.o=s.o ++ [x])(h:x.core=s.c.id):OL (n+1) s t:=⟨[x],e,by rw[List.length_singleton];omega,λ y q=>by rw[jz.1 q];exact h⟩
def OL.of{n:Nat}{s t u:CS}(h:OL n s t)(e:u.o=t.o):OL n s u:=by unfold OL at *;rw[e];exact h
def OL.le{n m:Nat}{s t:CS}(h:OL n s t)(q:n<=m):OL m s t:=by have⟨l,a,b,c⟩:=h;exact⟨l,a,zd b q,c⟩
def OL.trans{n m:Nat}{s t u:CS}(h:OL n s t)(g:OL m t u)(i:t.c.id=s.c.id):OL (n+m) s u:=by
 have⟨l,a,b,c⟩:=h;have⟨j,d,k,f⟩:=g;exact⟨l++j,by rw[d,a,jb],by rw[xc];omega,λ e q=>(zt.1 q).elim (c e) λ q=>(f e q).trans i⟩
namespace CS
def Ga(c:Co)(k a v d:Int):(MH c k a v d).core=c.id:=by unfold MH;split<;>rfl
def V_(s:CS):OL 1 s s.av:=by unfold av;simp only;split;exact OL.same rfl;exact OL.one rfl (Ga ..)
def TL(s:CS):OL 1 s s.bH:=(V_ s).of rfl
def xhd(s:CS):OL 1 s s.breaks:=OL.one rfl (Ga ..)
def xmn(s:CS):OL 1 s s.cP:=by
 unfold cP
 repeat' split
 all_goals first|exact OL.same rfl|exact OL.one rfl (Ga ..)
def G2(s:CS)(f:oK)(a:Int):OL 1 s (s.mh f a):=by
 unfold mh;simp only
 repeat' split
 all_goals first|exact OL.same rfl|exact OL.one rfl (Ga ..)
def El(s:CS)(f:oK)(a:Int):OL 1 s (s.iJ f a):=by
 unfold iJ;simp only
 repeat' split
 all_goals first|exact OL.same rfl|exact OL.one rfl (Ga ..)
def Km(s:CS):OL 1 s s.ends:=by
 unfold ends;simp only
 repeat' split
 all_goals first|exact OL.same rfl|exact TL _
def Iy(s:CS):OL 1 s s.nV:=by
 unfold nV;simp only
 repeat' split
 all_goals first|exact OL.same rfl|exact xmn s|exact G2 s _ _|exact El s _ _|exact Km s
def DN(s:CS):OL 1 s s.jL:=by
 unfold jL;simp only
 repeat' split
 all_goals exact OL.one rfl (Ga ..)
def IU(s:CS):OL 1 s s.oA:=by
 unfold oA;simp only
 repeat' split
 all_goals first|exact OL.same rfl|exact OL.one rfl (Ga ..)
def EA(s:CS):OL 1 s s.eW:=by
 unfold eW
 repeat' split
 all_goals first|exact OL.same rfl|exact OL.one rfl (Ga ..)|exact TL s|exact xhd s
def fk{p:Prop}[Decidable p]{n:Nat}{s a b:CS}(c:OL n s a)(d:OL n s b):OL n s (if p then a else b):=by split;exact c;exact d
def PO(s:CS)(v:Int)(q:Bool):OL 3 s (s.mX v q):=by
 unfold mX;simp only;have a:OL 0 s {s with c:={s.c with so:=s.c.so.eX v q}}:=OL.same rfl;have it:({s with c:={s.c with so:=s.c.so.eX v q}}:CS).c.id=s.c.id:=rfl;generalize({s with c:={s.c with so:=s.c.so.eX v q}}:CS)=t at *;have hu:OL 1 s (if s.c.so.aF=B4/\(s.c.so.eX v q).aF=B2 then t.av else t):=fk (a.trans (V_ _) it) (a.le (by decide));have b:(if s.c.so.aF=B4/\(s.c.so.eX v q).aF=B2 then t.av else t).c.id=s.c.id:=by split;exact(Yo t).id.trans it;exact it
 generalize(if s.c.so.aF=B4/\(s.c.so.eX v q).aF=B2 then t.av else t)=u at *;have hw:OL 2 s (if s.c.so.points<u.c.so.points then u.tell 4 0 0 0 else u):=fk (hu.trans (OL.one (n:=0) rfl (Ga ..)) b) (hu.le (by decide));have d:(if s.c.so.points<u.c.so.points then u.tell 4 0 0 0 else u).c.id=s.c.id:=by split<;>exact b
 generalize(if s.c.so.points<u.c.so.points then u.tell 4 0 0 0 else u)=w at *;exact fk (hw.le (by decide)) (hw.trans (EA _) d)
def GP(s:CS)(v:Int)(q:Bool):OL 3 s (s.given v q):=by
 rw[Y7];exact PO {s with c:={s.c with held:=s.c.held ||q && decide (s.c.so.want.a=0)}} v q
def IG(s:CS):OL 3 s s.nP:=by
 unfold nP;simp only
 repeat' split
 all_goals first|exact OL.same rfl|exact GP (s.iy _ _ _ _) _ _
def Hi(s:CS):OL 1 s s.aN:=by
 unfold aN gq;simp only
 repeat' split
 all_goals first|exact OL.same rfl|exact TL (s.iy _ _ _ _)
def xjg(s:CS)(n:Int):OL 1 s (s.gq (·.ph n)):=by
 unfold gq;exact fk (OL.same rfl) (OL.same rfl)
def xjf(s:CS):OL 1 s (s.gq breaks):=by
 unfold gq;exact fk (xhd (s.iy 1 0 (ak .u64 (s.c.seq+2)) 0)) (OL.same rfl)
def O6(s:CS):OL 3 s s.act:=by
 unfold act;have d:∀{t:CS},OL 1 s t->OL 3 s t:=λ h=>h.le (by decide);refine fk (d (Iy s)) (fk (d (DN s)) (fk ?_ (fk ?_ (fk ?_ (fk (d (IU s)) (fk (IG s) (fk (d (xjg s 8)) (fk (d (TL (s.iy 4 0 0 0))) (fk (d (Hi s)) (fk (d (xjf s)) (OL.same rfl)))))))))))
 .exact fk (fk (OL.same rfl) (OL.same rfl)) (OL.same rfl)
 .exact fk (fk (OL.same rfl) (OL.same rfl)) (OL.same rfl)
 .exact fk (OL.same rfl) (OL.same rfl)
def DD(s:CS):OL 3 s s.step.1:=by
 unfold step;split
 .exact OL.same rfl
 split
 .exact OL.same rfl
 split
 .exact OL.one rfl (Ga ..)
 .exact O6 s
end CS
end Go.Am
namespace Go.Am
open Lang Go.Proofs
variable{M:ao}[MK M]
def bZ(b:Int):List AV:=[.int .u8 b]
def FM(b:Int):(bZ b).length=1:=rfl
noncomputable def uT(v:AV):AV:=(Op.aC 1 [B1 0,B5,B5] [v,.int .i64 8]).getD .nils
noncomputable def pz(v:AV):AV:=(Op.aC 1 [B5,B1 0,B5] [v,.int .i64 8]).getD .nils
noncomputable def wV(v:AV):Nat->AV
 |0=>v
 |i+1=>uT (wV v i)
def xY{H:ar}{v:AV}{bs:List Int}(h:bM bZ 1 H v bs):∀i,8*i<=bs.length->bM bZ 1 H (wV v i) (bs.drop (8*i))/\(wV v i=.nils\/aD (wV v i)=aD v)
 |0,_=>⟨h,.inr rfl⟩
 |i+1,hi=>by
  have⟨a,d⟩:=xY h i (by omega);have⟨c,f,b,g⟩:=a.from FM (k:=8) (by rw[jg];omega) (z:=8) rfl .i64;have e:wV v (i+1)=c:=by show uT (wV v i)=c;unfold uT;rw[f];rfl
  rw[e];refine⟨by rw[AF]at b;rw[show 8*(i+1)=8*i+8 by omega];exact b,g.imp id λ q=>?_⟩;rcases d with w|w
  .have:(bs.drop (8*i)).length=0:=by
    have:=a.len;rw[w]at this;have q:Op.dp [AV.nils]=B1 (.int .i64 0):=rfl;rw[q]at this;injection this with this;injection this with _ this;omega
   rw[jg]at this;omega
  .rw [q];exact w
def Kb{H:ar}{v:AV}{bs:List Int}(h:bM bZ 1 H v bs){i:Nat}(j:8*(i+1)<=bs.length):Op.aC 1 [B5,B1 0,B5] [wV v i,.int .i64 8]=B1 (pz (wV v i))/\Op.aC 1 [B1 0,B5,B5] [wV v i,.int .i64 8]=B1 (wV v (i+1))/\bM bZ 1 H (pz (wV v i)) ((bs.drop (8*i)).take 8):=by
 have⟨a,g⟩:=xY h i (by omega);have⟨f,c,e,n⟩:=a.upto FM (k:=8) (by rw[jg];omega) (z:=8) rfl .i64;have⟨d,b,l,m⟩:=a.from FM (k:=8) (by rw[jg];omega) (z:=8) rfl .i64;have e1:pz (wV v i)=f:=by unfold pz;rw[c];rfl
 have e2:wV v (i+1)=d:=by show uT (wV v i)=d;unfold uT;rw[b];rfl
 exact⟨by rw[e1];exact c,by rw[e2];exact b,by rw[e1];exact e⟩
def xdd{H0:ar}{a:Nat}{sv:AV}{bs:List Int}(hs:bM bZ 1 H0 sv bs)(J:H0.get a=B1 (OR [sv] gD))(hb:a<H0.au)(hl:bs.length<=1000000) :
 pH M NS [] [.ptr a 0] (λ _=>False) (λ z=>z=a) H0 ((N7 (bs.length / 8)).map λ i=>[pz (wV sv i)]):=by
 intro Y R S k H1 P L u x loc H step;have⟨p1,T,I⟩:=L a (.inr rfl)
 suffices h:zj M NS [.fn (.yield Y) [] [],.ptr a 0] H1 (Ic R S k (λ z=>z=a) H1 ((N7 (bs.length / 8)).map λ i=>[pz (wV sv i)]).length)by
  have⟨v,H',N,W',U,W,X⟩:=h.elim;exact⟨v,H',W',N,U,W,X⟩
 refine q62 ?_;rw[xu,jd];simp only[ae,bc,T3];refine dm.intro (λ n E g=>∃(i:Nat)(V:Nat->Prop),E=[(0,.fn (.yield Y) [] []),(1,.ptr a 0)]/\n=bs.length / 8-i/\i<=bs.length / 8/\R i V g/\(∀b,V b->b<g.au/\(k b\/H1.au<=b))/\Fr (λ b=>k b\/b=a) H1 g/\g.get a=B1 (OR [wV sv i] gD)) ?_ ?_
 .exact ⟨_,_,⟨0,k,rfl,rfl,x9 _,u,λ b hb=>⟨x b hb,.inl hb⟩,Fr.refl _,by rw[T];exact J⟩,by simp only[ae,bc]⟩
 rintro n E g ⟨i,V,rfl,rfl,hi,hR,hV,r,hg⟩;have K:8*i<=bs.length:=by omega
 have ll:=(xY hs i K).1.len;rw[jg]at ll;have lb:Op.ah [.ptr a 0] g=B1 (wV sv i):=zg (xe hg) 0;have nF:=r.au;rcases xw i (bs.length / 8)with C|O
 .have s:(8:Int)<=((bs.length-8*i:Nat):Int):=by omega
  have⟨Z,u2,u3⟩:=Kb hs (i:=i) (by omega);have⟨bb,f,o,hr,A,m,Q,j⟩:=step i [pz (wV sv i)] (by rw[xj,js C];rfl) V g hR hV r;have nb:¬V a:=λ q=>(hV a q).2.elim I λ w=>by omega
  have F:f.get a=B1 (OR [wV sv i] gD):=by rw[A.ai a (by omega) nb];exact hg
  have nf:=A.au;have l3:Op.ah [.ptr a 0] f=B1 (wV sv i):=zg (xe F) 0;have l:Fr (λ b=>k b\/b=a) H1 f:=r.trans A λ y q=>(hV y q).2.imp .inl id;have d:∀y,o y->y<f.au/\(k y\/H1.au<=y):=λ y q=>⟨(m y q).1,(m y q).2.elim (λ w=>(hV y w).2) λ w=>.inr (by omega)⟩
  simp only[ae,bc,T3,lb,ll,xf s,Z];refine C3.tZ hr ?_;cases bb with
  |true =>
   have one:aA (wV sv (i+1))=true:=Sl.one (xY hs (i+1) (by omega)).1;have st:=(At.st (c:=[wV sv i]) (t:=gD) ⟨F,by omega⟩ 0 one (by simp):Op.store 1 [.ptr a 0,wV sv (i+1)] f=_)
   simp only[ae,bc,T3,l3,u2,st,List.set];have p:Fr (On a) f (f.set a (OR [wV sv (i+1)] gD)):=cm ..;have D:¬o a:=λ q=>(d a q).2.elim I λ w=>by omega
   exact⟨_,_,⟨i+1,o,rfl,rfl,by omega,loc _ _ _ _ (Q rfl) (λ y G=>p.ai y (d y G).1 λ(e:y=a)=>D (by rw[<-e];exact G)) p.au,λ y q=>⟨qn (d y q).1 p.au,(d y q).2⟩,l.trans p λ y(q:y=a)=>.inl (.inr q),xg ..⟩,by simp only[ae,bc],by omega⟩
  |false =>
   simp only[ae,bc];exact⟨o,l,d,.inr (j rfl)⟩
 .have B:i=bs.length / 8:=by omega
  have s:¬(8:Int)<=((bs.length-8*i:Nat):Int):=by omega
  simp only[ae,bc,T3,lb,ll,s];exact⟨V,r,hV,.inl (by rw[<-B];exact hR)⟩
end Go.Am
namespace Go.Am
open Lang Go.Proofs
variable{M:ao}[MK M]
def J5(a b:Int):∃n,Op.bin .or [.int .u32 a,.int .u32 b]=B1 (.int .u32 n):=⟨_,rfl⟩
noncomputable def Ut(a b:Int):Int:=Classical.choose (J5 a b)
def Ru(a b:Int):Op.bin .or [.int .u32 a,.int .u32 b]=B1 (.int .u32 (Ut a b)):=Classical.choose_spec (J5 a b)
def xL(a:Int)(n:Nat):Int:=ak .u32 (ak .u32 a*2 ^ (min n (IntKind.bits .u32)))
def VZ(a:Int)(n:Nat):Op.bin .shl [.int .u32 (ak .u32 a),.int .u64 (n:Int)]=B1 (.int .u32 (xL a n)):=JU ..
def Ir(a:Int):Op.bin .shl [.int .u32 (ak .u32 a),.int .u64 24]=B1 (.int .u32 (xL a 24)):=VZ a 24
def IV(a:Int):Op.bin .shl [.int .u32 (ak .u32 a),.int .u64 16]=B1 (.int .u32 (xL a 16)):=VZ a 16
def My(a:Int):Op.bin .shl [.int .u32 (ak .u32 a),.int .u64 8]=B1 (.int .u32 (xL a 8)):=VZ a 8
noncomputable def zN(p:List Int):i9:=⟨ak .i64 (p.getD 0 0),ak .i64 (p.getD 1 0),ak .i64 (p.getD 2 0),ak .i64 (p.getD 3 0),ak .i64 (ak .i32 (Ut (Ut (Ut (xL (p.getD 4 0) 24) (xL (p.getD 5 0) 16)) (xL (p.getD 6 0) 8)) (ak .u32 (p.getD 7 0))))⟩
noncomputable def oh(bs:List Int):List i9:=(N7 (bs.length / 8)).map λ i=>zN ((bs.drop (8*i)).take 8)
structure Pm(xs:List i9)(t:Nat)(i:Nat)(V:Nat->Prop)(Hx:ar):Prop where
 vt:V t
 lt:t<Hx.au
 ls:∃lv,Hx.get t=B1 (OR [lv] uZ)/\aL fZ AO 5 Hx lv (xs.take i) /\ ∀a,aM lv a->V a/\t<a
def Pm.loc{ys:List i9}{t i:Nat}{V:Nat->Prop}{a Hb:ar}(h:Pm ys t i V a)(hs:∀x,V x->Hb.get x=a.get x)(hn:a.au<=Hb.au):Pm ys t i V Hb:=by
 have⟨lv,l1,l2,l3⟩:=h.ls;refine⟨h.vt,qn h.lt hn,lv,by rw[hs _ h.vt];exact l1,?_,l3⟩;exact Own.fr l2 (⟨hn,λ b _ hw=>hs b (kj.1 hw)⟩:Fr (λ b=>¬V b) a Hb) λ x c w=>w (l3 x c).1
def xd8{H:ar}{sv:AV}{bs:List Int}(hs:bM bZ 1 H sv bs)(hb:bs≠[]->aD sv<H.au)(one:aA sv=B4)(hl:bs.length<=100000) :
 zj M P4 [sv] H λ v H'=>aL fZ AO 5 H' v ((oh bs).take 1024)/\(∀z,aM v z->H.au<=z)/\Fr Em H H':=by
 refine xcn ?_;obtain⟨H1,e1,f1,n1,-⟩:=cI H (OR [.nils] uZ);obtain⟨J,e2,F,-,g2⟩:=cI H1 (OR [sv] gD);have n2:J.au=H.au+2:=by rw[e2,xz,n1]
 have Q:J.get H.au=B1 (OR [.nils] uZ):=by rw[F.ai _ (by omega) id,e1,xr]
 have O:=f1.em F;have s2:bM bZ 1 J sv bs:=Sl.em hs O;have cs:AV.cells sv=[sv]:=zY one;have al:zj M qza [sv] H1 λ v H'=>v=.fn (.func NS) [] [.ptr H1.au 0]/\H'=J:=by
  refine xco ?_;have mk:Op.bB NS 0 [.ptr H1.au 0]=B1 (.fn (.func NS) [] [.ptr H1.au 0]):=rfl;simp only[ae,bc,xcp,cs,<-e2];rfl
 simp only[ae,bc,SW,<-e1];refine C3.q al λ v H'⟨hv,hh⟩=>?_;subst hv;subst hh;simp only[ae,bc];have xl:(oh bs).length=bs.length / 8:=by unfold oh;rw[xu,jd]
 refine iA.iter (fn:=Ui) (lp:=RF) (pa:=Yb 0) (pb:=WD 0) q9y qtk.1 qtk.2 (by decide) q60 q61
  (xdd s2 g2 (by omega) (by omega)) (λ i V N=>i<=1024/\Pm (oh bs) H.au i V N) (λ e V N=>e=.exit 0/\Pm (oh bs) H.au 1024 V N) (λ x=>x=H.au) (qm _) ?_ ?_ ?_ ?_ ?_ ?_ ?_ ?_
 .rintro x (q|q)
  .exact q.elim
  .exact ⟨by omega,rfl,λ w=>by omega⟩
 .exact λ x T=>by omega
 .exact ⟨x9 _,rfl,by omega,.nils,Q,Own.nil ..,λ x q=>(q.1 rfl).elim⟩
 .exact λ i V Ha Hb h hs hn=>⟨h.1,h.2.loc hs hn⟩
 .exact λ e V Ha Hb h hs hn=>⟨h.1,h.2.loc hs hn⟩
 .intro L i lr lb x T hL V o ⟨hi,s⟩ hV hf6 hnL hL6 hgL;rw[xj,xk]at T;obtain⟨j,S,rfl⟩:=T;have u:i<bs.length / 8:=by have:=(qo.1 S).1;rw[jd]at this;exact this
  rw[js u]at S;cases S;refine⟨_,rfl,?_⟩;have w:=SW M ⟨B1 L,P4⟩;simp only[ae,bc,w,zT];refine⟨hgL,?_⟩;have P:Fr (On L) o (o.set L lb):=(Fr.refl o).set (W:=On L) (.inl rfl) _;have gL:(o.set L lb).get L=B1 lb:=xg ..;have nL:(o.set L lb).au=o.au:=rfl;have nf6:=hf6.au;have bne:bs≠[]:=λ q=>by rw[q]at u;simp at u
  have s6:bM bZ 1 (o.set L lb) sv bs:=by
   refine Sl.fr (Sl.fr s2 hf6 (.inr λ q=>?_)) P (.inr λ(q:aD sv=L)=>?_)
   .have:=hb bne;rcases q with(q:aD sv=H.au)|(q:aD sv=H1.au)<;>omega
   .have:=hb bne;omega
  have g:=s.loc (Hb:=o.set L lb) (λ y hy=>by rw[jv (λ q:L=y=>hnL (by rw[q];exact hy))]) (qm _);generalize o.set L lb=H8 at *;have⟨f,l1,l2,l3⟩:=g.ls;have D:Op.ah [.ptr H.au 0] H8=B1 f:=zg (xe l1) 0;have ln:=(aL.sl l2).len;have mK:((oh bs).take i).length=i:=by rw[zx];omega
  rw[mK]at ln
  by_cases q:i=1024
  .have Y:(i:Int)=1024:=by omega
   simp only[ae,bc,D,ln,xf Y];refine⟨rfl,gL,V,λ z hz=>⟨by have:=(hV z hz).1;omega,.inl hz⟩,P.mono λ z _ q=>.inr q,.inr ⟨trivial,rfl,by rw[<-q];exact g⟩⟩
  .have Y:¬(i:Int)=1024:=by omega
   obtain⟨-,-,Z⟩:=Kb s6 (i:=i) (by omega);obtain⟨p,hp⟩:∃p,p=(bs.drop (8*i)).take 8:=⟨_,rfl⟩
   rw[<-hp]at Z;have p8:p.length=8:=by rw[hp,zx,jg];omega
   have at':∀k:Nat,k<8 -> ∃z,p[k]? = B1 z/\p.getD k 0=z:=λ k hk=>⟨p[k],by rw[qy],by rw[z8,qy];rfl⟩
   have rd:∀k:Nat,k<8 -> ∀n:Int,n=(k:Int) -> ∃a,Op.aT 1 [pz (wV sv i),.int .i64 n]=B1 a/\Op.ah [a] H8=B1 (.int .u8 (p.getD k 0)):=λ k hk n hn=>by
    have⟨z,h1,h2⟩:=at' k hk;exact⟨_,Z.idx h1 hn .i64,by rw[Z.jA FM h1 (by decide),h2];rfl⟩
   have⟨a0,i0,r0⟩:=rd 0 (by omega) 0 rfl;have⟨a1,i1,r1⟩:=rd 1 (by omega) 1 rfl;have⟨a2,i2,r2⟩:=rd 2 (by omega) 2 rfl;have⟨a3,i3,r3⟩:=rd 3 (by omega) 3 rfl;have⟨a4,i4,r4⟩:=rd 4 (by omega) 4 rfl;have⟨a5,i5,r5⟩:=rd 5 (by omega) 5 rfl;have⟨a6,i6,r6⟩:=rd 6 (by omega) 6 rfl;have⟨a7,i7,r7⟩:=rd 7 (by omega) 7 rfl;have bd:∀a b c d m:Int,Op.build [.int .i64 0,.int .i64 0,.int .i64 0,.int .i64 0,.int .i64 0] [(0,1),(1,1),(2,1),(3,1),(4,1)] [.int .i64 a,.int .i64 b,.int .i64 c,.int .i64 d,.int .i64 m]=B1 (.agg (fZ ⟨a,b,c,d,m⟩)):=λ _ _ _ _ _=>rfl;have tk:(oh bs).take (i+1)=(oh bs).take i ++ [zN p]:=by
    rw[vg,show(oh bs)[i]? = B1 (zN p)by unfold oh;rw[xj,js u,hp];rfl];rfl
   simp only[ae,bc,w,D,ln,Y,i0,i1,i2,i3,i4,i5,i6,i7,r0,r1,r2,r3,r4,r5,r6,r7,Ir,IV,My,Ru,bd];refine aL.mO (bytes:=40) l2 (a:=zN p) rfl rfl rfl rfl (by decide) (by omega) (by omega) λ l K C t G=>?_;have q9:At K H.au uZ [f]:=⟨by rw[t.ai _ g.lt λ q=>by have:=(l3 _ q).2;omega];exact l1,qn g.lt t.au⟩
   have o1:aA l=true:=by have:=Sl.one (Own.sl C);exact this
   have st:=q9.st 0 o1 (by simp);obtain⟨E,r⟩:∃X,X=K.set H.au (OR ([f].set 0 l) uZ):=⟨_,rfl⟩
   rw[<-r]at st;have B:Fr (On H.au) K E:=by rw[r];exact cm ..
   simp only[ae,bc,st];have I:∀y,aM l y->H.au<y:=λ y q=>(G y q).elim (λ q=>(l3 y q).2) λ q=>by have:=g.lt;omega
   have nf:=t.au;have U:E.au=K.au:=by rw[r];rfl
   refine⟨rfl,?_,λ y=>V y\/aM l y,?_,?_,.inl ⟨rfl,by omega,.inl s.vt,by have:=g.lt;omega,l,by rw[r,xg];rfl,?_,λ y q=>⟨.inr q,I y q⟩⟩⟩
   .rw [B.ai L (by omega) (λ(q:L=H.au)=>hnL (by rw[q];exact s.vt)),t.ai L (by omega) λ q=>hnL (l3 _ q).1];exact gL
   .rintro y (q|q)
    .exact ⟨by have:=(hV y q).1;omega,.inl q⟩
    .refine ⟨by rw[U];exact Own.lt C y q,?_⟩;rcases G y q with w|w
     .exact .inl (l3 y w).1
     .exact .inr (by omega)
   .exact (((P.mono λ z _ q=>.inr q).trans t λ y q=>.inl (.inl (l3 y q).1)).trans B λ y(q:y=H.au)=>.inl (.inl (by rw[q];exact s.vt)))
   .rw [tk];exact Own.fr C B λ y q(w:y=H.au)=>by have:=I y q;omega
 .rintro d V H' hd R hg t hV ⟨hi,s⟩;rw[xu,jd]at s hi;have⟨f,l1,l2,l3⟩:=s.ls;rw[<-xl,GJ]at l2;have A:(oh bs).take 1024=oh bs:=zq (by omega);have fd:Fr (On d) H' (H'.set d (.deferred B5)):=(Fr.refl H').set (W:=On d) (.inl rfl) _;have D:Op.ah [.ptr H.au 0] H'=B1 f:=zg (xe l1) 0;simp only[ae,bc,SW,D];rw[A];refine⟨hg,Own.fr l2 fd λ z q(w:z=d)=>(hV z (l3 z q).1).2.2 w,λ z q=>?_,?_⟩
  .have:=(l3 z q).2;omega
  .exact (O.trans (t.mono λ z _ q=>q) λ z q=>.inr (by rcases q with(q:z=H.au)|(q:z=H1.au)<;>omega)).trans fd λ z(q:z=d)=>.inr (by omega)
 .rintro e d V H' he hd R hg t hV ⟨rfl,s⟩;have⟨f,l1,l2,l3⟩:=s.ls;have fd:Fr (On d) H' (H'.set d (.deferred B5)):=(Fr.refl H').set (W:=On d) (.inl rfl) _;have D:Op.ah [.ptr H.au 0] H'=B1 f:=zg (xe l1) 0;simp only[ae,bc,SW,D];refine⟨hg,Own.fr l2 fd λ z q(w:z=d)=>(hV z (l3 z q).1).2.2 w,λ z q=>?_,?_⟩
  .have:=(l3 z q).2;omega
  .exact (O.trans (t.mono λ z _ q=>q) λ z q=>.inr (by rcases q with(q:z=H.au)|(q:z=H1.au)<;>omega)).trans fd λ z(q:z=d)=>.inr (by omega)
end Go.Am
namespace Go.Am
open Lang Go.Proofs
variable{M:ao}[MK M]
structure Wo where
 b:Bu
 cs:List Co
 h:List eF
 n:Int
def lY(B:Nat)(cvs hv:AV)(n:Int):List AV:=[.ptr B 0,cvs,hv,.int .i64 n]
def ug(w:Nat)(cvs hv:AV)(z:Nat):Prop:=z=w\/aM cvs z\/aM hv z
structure fh(Hb H:ar)(w B:Nat)(cvs hv:AV)(bs:Bs)(own:Nat->Nat)(ks:List Ck)(V:Int->L8)(k:Nat)(x:Wo):Prop where
 row:At H w F7 (lY B cvs hv x.n)
 cl:aL pC AE 1 H cvs (ks.map Ck.p)
 hl:aL eF.enc j9 9 H hv x.h
 b:fD Hb H B bs x.b own
 I:BuI x.b V
 C:BC x.b k
 U:yG x.b
 co:∀(i:Nat)c A,x.cs[i]? = B1 c->ks[i]? = B1 A->dW H A.o A.p A.f A.l A.sp A.cv A.rv .nils .nili c [] k/\c.id=i
 kl:ks.length=x.cs.length
 nl:x.cs.length<=x.b.ns.length
 dj:∀(i:Nat)A,ks[i]? = B1 A -> ∀z,ib B bs z\/ug w cvs hv z->A.o z=0
 d2:∀(i j:Nat)A A',ks[i]? = B1 A->ks[j]? = B1 A'->i≠j -> ∀z,z<H.au->A.o z≠0->A'.o z=0
 lo:∀(i:Nat)A,ks[i]? = B1 A -> ∀z,z<H.au->A.o z≠0->Hb.au<=z
 wb:∀z,ug w cvs hv z -> ¬ib B bs z/\Hb.au<=z
 w1:¬aM cvs w /\ ¬aM hv w
 w2:∀z,aM cvs z -> ¬aM hv z
section
variable{Hb H H':ar}{w B k k' i:Nat}{cvs hv:AV}{bs:Bs}{own:Nat->Nat}{ks:List Ck}{V:Int->L8}{x:Wo}{c:Co}{A:Ck}
def fh.re(h:fh Hb H w B cvs hv bs own ks V k x)(d:x.cs[i]? = B1 c)(a:ks[i]? = B1 A):FZ (A.at Hb H B bs k) 0 c x.b H A.o A.rv bs own V:=by
 have⟨f,g⟩:=h.co i c A d a;have j:=(qo.1 d).1;have hn:=h.nl;exact⟨f,h.b,h.I,h.C,h.U,by rw[g];omega,λ z q=>h.dj i A a z (.inl q),h.lo i A a,λ z q e=>.inl ⟨q,e⟩,λ z q=>.inl q,Fr.refl H⟩
def fh.low(h:fh Hb H w B cvs hv bs own ks V k x){z:Nat}(q:ug w cvs hv z):z<H.au:=by
 rcases q with rfl|q|q
 .exact h.row.2
 .exact Own.lt h.cl z q
 .exact Own.lt h.hl z q
def ot{o:Nat->Nat}{n z:Nat}(e:aP o n 0 z≠0):z<n/\o z≠0:=by
 rcases xw z n with a|a
 .rw [iZ a]at e;exact⟨a,e⟩
 .rw [nj a]at e;exact(e rfl).elim
def fh.back(h:fh Hb H w B cvs hv bs own ks V k x)(S:x.cs[i]? = B1 c)(s:ks[i]? = B1 A){u:Co}{F:Bu}{o':Nat->Nat}{rv':AV}{bs':Bs}{aP:Nat->Nat}{Q:Int->L8}(N:u.id=c.id)(O:F.ns.length=x.b.ns.length)
 (q:FZ (A.at Hb H B bs k) k' u F H' o' rv' bs' aP Q):fh Hb H' w B cvs hv bs' aP ((ks.map λ f=>{f with o:=Go.Am.aP f.o H.au 0}).set i {A with rv:=rv',o:=o'}) Q (k+k') {x with b:=F,cs:=x.cs.set i u}:=by
 have Y:=(qo.1 S).1;have hk:=h.kl;have nx:H.au<=H'.au:=q.fr.au;have⟨X,L⟩:=h.co i c A S s;have ex:∀{j:Nat}{f:Ck},((ks.map λ f=>{f with o:=Go.Am.aP f.o H.au 0}).set i {A with rv:=rv',o:=o'})[j]? = B1 f->(j=i/\f = {A with rv:=rv',o:=o'})\/j≠i /\ ∃a,ks[j]? = B1 a/\f = {a with o:=Go.Am.aP a.o H.au 0}:=λ{j f}e=>by
  by_cases w:j=i
  .subst w;rw[xx (by rw[xu];omega)]at e;injection e with e;exact .inl ⟨rfl,e.symm⟩
  .rw [xy (λ e=>w e.symm),xj]at e;have⟨a,e1,e2⟩:=xk.1 e;exact .inr ⟨w,a,e1,e2.symm⟩
 -- what may have K is not the D own,Z v G
 have nw:∀z,ug w cvs hv z -> ¬((A.at Hb H B bs k).o z≠0\/(A.at Hb H B bs k).W z):=λ z e r=>r.elim (λ r=>r (h.dj i A s z (.inr e))) (h.wb z e).1;have nc:∀{j:Nat}{a:Ck},ks[j]? = B1 a->j≠i -> ∀z,z<H.au->a.o z≠0 -> ¬((A.at Hb H B bs k).o z≠0\/(A.at Hb H B bs k).W z):=λ{j a}e ne z g r t=>t.elim (λ t=>r (h.d2 i j A a s e (λ e=>ne e.symm) z g t)) λ t=>r (h.dj j a e z (.inl t));have kp:((ks.map λ f=>{f with o:=Go.Am.aP f.o H.au 0}).set i {A with rv:=rv',o:=o'}).map Ck.p=ks.map Ck.p:=by
  apply yr;intro j;rw[xj,xj]
  by_cases w:j=i
  .subst w;rw[xx (by rw[xu];omega),s];rfl
  .rw [xy (λ e=>w e.symm),xj,Option.map_map];rfl
 refine⟨h.row.fr q.fr (nw w (.inl rfl)),by rw[kp];exact Own.fr h.cl q.fr λ z e=>nw z (.inr (.inl e)),Own.fr h.hl q.fr λ z e=>nw z (.inr (.inr e)),q.b,q.I,q.C,q.U,λ j d f n m=>?_,by rw[xq,xu,xq];exact hk,by show(x.cs.set i u).length<=F.ns.length;rw[xq,O];exact h.nl,λ j f m z e=>?_,λ j j2 A1 A2 T R ne z g e=>?_,λ j f m z g e=>?_,λ z e=>⟨λ r=>?_,(h.wb z e).2⟩,h.w1,h.w2⟩
 .rcases ex m with⟨rfl,rfl⟩|⟨w,a,e1,rfl⟩
  .have n:(x.cs.set j u)[j]? = B1 d:=n;rw[xx Y]at n;cases n;exact⟨q.c,N.trans L⟩
  .have n:(x.cs.set i u)[j]? = B1 d:=n;rw[xy (λ e=>w e.symm)]at n;have⟨r1,r2⟩:=h.co j d a n e1;exact⟨r1.fr q.fr (λ z g r=>nc e1 w z g r) (λ z g=>iZ g) (by omega),r2⟩
 .rcases ex m with⟨rfl,rfl⟩|⟨w,a,e1,rfl⟩
  .rcases e with e|e
   .exact q.dj z e
   .have g:=h.low e;refine zi λ r=>?_;rcases q.go z (by omega) r with⟨_,t⟩|t
    .exact t (h.dj j A s z (.inr e))
    .have:H.au<=z:=t;omega
  .refine zi λ r=>?_;have⟨g,r⟩:=ot r;rcases e with e|e
   .exact (q.gb z e).elim (λ t=>r (h.dj j a e1 z (.inl t))) (Nat.not_le.2 g)
   .exact r (h.dj j a e1 z (.inr e))
 .rcases ex T with⟨rfl,rfl⟩|⟨w1,P,e1,rfl⟩
  .rcases ex R with⟨rfl,-⟩|⟨w2,E,e2,rfl⟩
   .exact (ne rfl).elim
   .show Go.Am.aP E.o H.au 0 z=0;rcases q.go z g e with⟨J,t⟩|t
    .have J:z<H.au:=J;rw[iZ J];exact h.d2 _ _ A E s e2 ne z J t
    .have t:H.au<=z:=t;exact nj t
  .have ⟨l,e⟩:=ot e;rcases ex R with⟨rfl,rfl⟩|⟨w2,E,e2,rfl⟩
   .refine zi λ r=>?_;rcases q.go z g r with⟨_,t⟩|t
    .exact t (h.d2 _ _ P A e1 s w1 z l e)
    .exact Nat.not_le.2 l t
   .exact (iZ l).trans (h.d2 _ _ P E e1 e2 ne z l e)
 .rcases ex m with⟨rfl,rfl⟩|⟨w,a,e1,rfl⟩
  .exact q.hb z g e
  .have ⟨l,e⟩:=ot e;exact h.lo j a e1 z l e
 .rcases q.gb z r with t|t
  .exact (h.wb z e).1 t
  .have:H.au<=z:=t;have:=h.low e;omega
def fh.turn(h:fh Hb H w B cvs hv bs own ks V k x){X:Nat->Prop}{hv':AV}{bs':Bs}{aP:Nat->Nat}{v:Int->L8}{m:Bu}{q:List eF}{n':Int}(f:Fr X H H')(J:∀z,X z->ib B bs z\/ug w cvs hv z)(kk:k<=k')(nl:m.ns.length=x.b.ns.length)(row:At H' w F7 (lY B cvs hv' n'))(hl:aL eF.enc j9 9 H' hv' q)(b:fD Hb H' B bs' m aP)(I:BuI m v)(C:BC m k')(U:yG m)(cl:∀z,aM cvs z -> ¬X z)(hb:∀z,ib B bs' z->ib B bs z\/H.au<=z)(u:∀z,aM hv' z->aM hv z\/H.au<=z)(nb:∀z,H.au<=z->aM hv' z -> ¬ib B bs' z):fh Hb H' w B cvs hv' bs' aP (wide ks H.au) v k' {x with b:=m,h:=q,n:=n'}:=by
 have nx:H.au<=H'.au:=f.au;have K:Hb.au<=H.au:=by have:=h.b.lo B (.inl rfl);have:=h.b.lt;omega
 have ex:∀{j:Nat}{p:Ck},(wide ks H.au)[j]? = B1 p -> ∃a,ks[j]? = B1 a/\p = {a with o:=Go.Am.aP a.o H.au 0}:=Is;have hw:∀z,ug w cvs hv' z->ug w cvs hv z\/H.au<=z/\aM hv' z:=λ z e=>by
  rcases e with e|e|e
  .exact .inl (.inl e)
  .exact .inl (.inr (.inl e))
  .exact (u z e).imp (λ t=>.inr (.inr t)) λ t=>⟨t,e⟩
 refine⟨row,?_,hl,b,I,C,U,λ j d p L g=>?_,by unfold wide;rw[xu];exact h.kl,by rw[nl];exact h.nl,λ j p g z e=>?_,λ j S Q R e1 e2 ne z s e=>?_,λ j p g z s e=>?_,λ z e=>?_,⟨h.w1.1,λ e=>?_⟩,λ z e r=>?_⟩
 .unfold wide;rw[zD];exact Own.fr h.cl f cl
 .obtain ⟨a,e1,rfl⟩:=ex g;have⟨N,O⟩:=h.co j d a L e1;exact⟨N.fr f (λ z s r e=>r (h.dj j a e1 z (J z e))) (λ z s=>iZ s) kk,O⟩
 .obtain ⟨a,e1,rfl⟩:=ex g;refine zi λ r=>?_;have⟨s,r⟩:=ot r;rcases e with e|e
  .exact (hb z e).elim (λ t=>r (h.dj j a e1 z (.inl t))) (by omega)
  .exact (hw z e).elim (λ t=>r (h.dj j a e1 z (.inr t))) λ t=>by omega
 .obtain ⟨D,F,rfl⟩:=ex e1;obtain⟨E,G,rfl⟩:=ex e2;have⟨l,e⟩:=ot e;exact(iZ l).trans (h.d2 _ _ D E F G ne z l e)
 .obtain ⟨a,e1,rfl⟩:=ex g;have⟨l,e⟩:=ot e;exact h.lo j a e1 z l e
 .rcases hw z e with t|⟨t,P⟩
  .exact ⟨λ r=>(hb z r).elim (h.wb z t).1 λ r=>by have:=h.low t;omega,(h.wb z t).2⟩
  .exact ⟨nb z t P,by omega⟩
 .rcases u w e with t|t
  .exact h.w1.2 t
  .have:=h.row.2;omega
 .rcases u z r with t|t
  .exact h.w2 z e t
  .have:=Own.lt h.cl z e;omega
def fh.iy(h:fh Hb H w B cvs hv bs own ks V k x)(t:Bt)(hv':fJ t.v)(hp:lj Hb H B bs (x.b.step t) H'):∃bs' aP j,fh Hb H' w B cvs hv bs' aP (wide ks H.au) j (k+1) {x with b:=x.b.step t}/\(∀z,ib B bs' z->ib B bs z\/H.au<=z)/\Fr (ib B bs) H H':=by
 have⟨a,d,l,g,f⟩:=hp;have nw:∀z,ug w cvs hv z -> ¬ib B bs z:=λ z e=>(h.wb z e).1;exact⟨a,d,_,h.turn f (λ z e=>.inl e) (ke k) (xhn ..) (h.row.fr f (nw w (.inl rfl))) (Own.fr h.hl f λ z e=>nw z (.inr (.inr e))) l (Cz h.I t) (BK h.C t) (h.U.step t hv') (λ z e=>nw z (.inr (.inl e))) g (λ z e=>.inl e) λ z q e=>by have:=Own.lt h.hl z e;omega,g,f⟩
def fh.Mu(h:fh Hb H w B cvs hv bs own ks V k x){hv':AV}{a:List eF}{n':Int}(f:Fr (λ z=>z=w\/aM hv z) H H')(row:At H' w F7 (lY B cvs hv' n'))(hl:aL eF.enc j9 9 H' hv' a)(g:∀z,aM hv' z->aM hv z\/H.au<=z):fh Hb H' w B cvs hv' bs own (wide ks H.au) V k {x with h:=a,n:=n'} :=
 have d:∀z,(z=w\/aM hv z)->ug w cvs hv z:=λ z q=>q.imp id .inr
 h.turn f (λ z q=>.inr (d z q)) (qm k) rfl row hl (h.b.fr f λ z q=>⟨(h.wb z (d z q)).2,(h.wb z (d z q)).1⟩) h.I h.C h.U (λ z e q=>q.elim (λ q=>h.w1.1 (by rw[<-q];exact e)) λ q=>h.w2 z e q) (λ z q=>.inl q) g λ z q _ r=>by have:=h.b.low r;omega
def fh.em(h:fh Hb H w B cvs hv bs own ks V k x)(f:Fr Em H H'):fh Hb H' w B cvs hv bs own (wide ks H.au) V k x :=
 h.Mu (f.mono λ _ _ q=>q.elim) (h.row.em f) (Own.em h.hl f) λ z q=>.inl q
structure fU(H:ar)(w B:Nat)(cvs hv:AV)(bs:Bs)(ks:List Ck)(z:Nat):Prop where
 lt:z<H.au
 nb:¬ib B bs z
 nw:¬ug w cvs hv z
 nc:∀(i:Nat)A,ks[i]? = B1 A->A.o z=0
def fU.wide{z:Nat}{hv':AV}{bs':Bs}(h:fU H w B cvs hv bs ks z)(nx:H.au<=H'.au)(d:aM hv' z->aM hv z\/H.au<=z)(b:ib B bs' z->ib B bs z\/H.au<=z):fU H' w B cvs hv' bs' (wide ks H.au) z:=by
 have:=h.lt;refine⟨by omega,λ q=>(b q).elim h.nb (by omega),λ q=>?_,λ i A e=>?_⟩
 .rcases q with q|q|q
  .exact h.nw (.inl q)
  .exact h.nw (.inr (.inl q))
  .exact (d q).elim (λ q=>h.nw (.inr (.inr q))) (by omega)
 .obtain ⟨a,e1,rfl⟩:=Is e;show Go.Am.aP a.o H.au 0 z=0;rw[iZ h.lt];exact h.nc i a e1
def fh.new(h:fh Hb H w B cvs hv bs own ks V k x){z:Nat}(a:H.au<=z)(d:z<H'.au):fU H' w B cvs hv bs (wide ks H.au) z:=by
 refine⟨d,λ q=>by have:=h.b.low q;omega,λ q=>by have:=h.low q;omega,λ i A e=>?_⟩;obtain⟨f,e1,rfl⟩:=Is e;exact nj a
def fh.MJ(h:fh Hb H w B cvs hv bs own ks V k x){z:Nat}(a:fU H w B cvs hv bs ks z)(hb:Hb.au<=z)(d:bF):fh Hb (H.set z d) w B cvs hv bs own ks V k x:=by
 have f:Fr (On z) H (H.set z d):=(Fr.refl H).set (W:=On z) (.inl rfl) _;have nw:∀y,ug w cvs hv y -> ¬On z y:=λ y e(q:y=z)=>a.nw (by rw[<-q];exact e);exact{h with row:=h.row.fr f (nw w (.inl rfl)),cl:=Own.fr h.cl f λ y e=>nw y (.inr (.inl e)),hl:=Own.fr h.hl f λ y e=>nw y (.inr (.inr e)),b:=h.b.fr f λ y(q:y=z)=>by rw[q];exact⟨hb,a.nb⟩,co:=λ i c A e1 e2=>⟨(h.co i c A e1 e2).1.fr f (λ y yl r(q:y=z)=>r (by rw[q];exact a.nc i A e2)) (λ _ _=>rfl) (qm _),(h.co i c A e1 e2).2⟩}
end
end Go.Am
namespace Go.Am
open Lang Go.Proofs
variable{M:ao}[MK M]
section
variable{Hb H H':ar}{w B k k':Nat}{i:Int}{cvs hv:AV}{bs:Bs}{own:Nat->Nat}{ks:List Ck}{V:Int->L8}{x:Wo}{c:Co}{A:Ck}
def fh.bq(h:fh Hb H w B cvs hv bs own ks V k x):Op.ah [.ptr w 0] H=B1 (.ptr B 0)/\Op.ah [.ptr w 1] H=B1 cvs/\Op.ah [.ptr w 2] H=B1 hv/\Op.ah [.ptr w 3] H=B1 (.int .i64 x.n)/\Op.dp [cvs]=B1 (.int .i64 ((x.cs.length:Nat):Int)) :=
 ⟨h.row.ld 0,h.row.ld 1,h.row.ld 2,h.row.ld 3,by have:=(aL.sl h.cl).len;rw[xu,h.kl]at this;exact this⟩
def IF(p:Nat):(pC p).length=1:=rfl
def P0(h:fh Hb H w B cvs hv bs own ks V k x)(d:0<=i)(a:ks[i.toNat]? = B1 A):∀K,C3 M B4 (.func TN) [.ptr w 0,.int .i64 i] H K=K B4 (.ptr A.p 0) H:=by
 refine eB (qp5 ?_);have j:=(qo.1 a).1;have hk:=h.kl;have e:¬i<0:=HV.2 d;have f:¬((x.cs.length:Nat):Int)<=i:=by omega
 have b:(ks.map Ck.p)[i.toNat]? = B1 A.p:=by rw[xj,a];rfl
 have ix:=(aL.sl h.cl).idx b (z:=i) (KC d).symm .i64;have ld:=(aL.sl h.cl).jA IF b (by decide);have g:(pC A.p)[0]? = B1 (.ptr A.p 0):=rfl;rw[g]at ld;simp only[ae,bc,X6,aB,h.bq,e,f,ix,ld]
def HE(h:fh Hb H w B cvs hv bs own ks V k x)(d:¬(0<=i/\i<x.cs.length)):∀K,C3 M B4 (.func TN) [.ptr w 0,.int .i64 i] H K=K B4 .nilp H:=by
 refine eB (qp5 ?_)
 by_cases a:i<0
 .simp only[ae,bc,X6,aB,xf a]
 .have b:((x.cs.length:Nat):Int)<=i:=by omega
  simp only[ae,bc,X6,aB,h.bq,a,xf b]
end
structure To where
 e:Int
 m:Mg
 cd:Int
 co:Int
def ei(t:To):List AV:=.int .i64 t.e::(aq t.m ++ [.int .i64 t.cd,.int .i64 t.co])
def kQ(e:Int):To:=⟨e,⟨0,0,0,.zero⟩,0,0⟩
def J9:[AV.int .i64 0,.int .i64 0,.int .i64 0,.int .i64 0,.int .u64 0,.int .u64 0,.int .u64 0,.int .u64 0,.int .u64 0,.int .u64 0,.int .u64 0,.int .u64 0,.int .i64 0,.int .i64 0]=ei (kQ 0):=rfl
def KJ(e:Int):Op.build (ei (kQ 0)) [(0,1)] [.int .i64 e]=B1 (.agg (ei (kQ e))):=rfl
def vD(t:To):(ei t).length=14:=by simp[ei,zk]
def ON(t:To):aS (ei t)=true:=by
 unfold ei;rw[vk,List.all_cons,List.all_append,<-vk,rP];rfl
section
variable{Hb H H':ar}{w B k k':Nat}{cvs hv:AV}{bs:Bs}{own:Nat->Nat}{ks:List Ck}{V:Int->L8}{x y:Wo}
def uc(Hb H:ar)(w B:Nat)(cvs hv:AV)(bs:Bs)(ks:List Ck)(k:Nat)(y:Wo)(H':ar):Prop:=∃hv' bs' aP ks' V',fh Hb H' w B cvs hv' bs' aP ks' V' k y/\H.au<=H'.au /\ ∀z,fU H w B cvs hv bs ks z->fU H' w B cvs hv' bs' ks' z/\H'.get z=H.get z
def uc.then{H1:ar}{e:AV}{d:Bs}{f:List Ck}(n1:H.au<=H1.au)(a:∀z,fU H w B cvs hv bs ks z->fU H1 w B cvs e d f z/\H1.get z=H.get z)(b:uc Hb H1 w B cvs e d f k y H'):uc Hb H w B cvs hv bs ks k y H':=by
 have⟨hv',bs',aP,g,j,l,n2,h⟩:=b;exact⟨hv',bs',aP,g,j,l,by omega,λ z q=>⟨(h z (a z q).1).1,(h z (a z q).1).2.trans (a z q).2⟩⟩
def fh.mono(h:fh Hb H w B cvs hv bs own ks V k x)(hk:k<=k'):fh Hb H w B cvs hv bs own ks V k' x :=
 {h with C:=h.C.mono hk,co:=λ i c A e1 e2=>⟨(h.co i c A e1 e2).1.fr (Fr.refl H) (λ _ _ _ q=>q) (λ _ _=>rfl) hk,(h.co i c A e1 e2).2⟩}
def fh.Ws(h:fh Hb H w B cvs hv bs own ks V k x){z:Nat}(a:fU H w B cvs hv bs ks z)(hb:Hb.au<=z){b:To}(g:H.get z=B1 (OR (ei b) ku))(t:To):∃H',Op.store 14 [.ptr z 0,.agg (ei t)] H=B1 (.undef,H')/\Op.aw 14 [.ptr z 0] H'=B1 (.agg (ei t))/\fh Hb H' w B cvs hv bs own ks V k x/\Fr (On z) H H'/\fU H' w B cvs hv bs ks z/\H'.get z=B1 (OR (ei t) ku) :=
 ⟨_,ij g (vD _) (vD t) (ON _),fC (xg ..) (vD t),h.MJ a hb _,cm ..,⟨by rw[oO];exact a.lt,a.nb,a.nw,a.nc⟩,xg ..⟩
def O5:Mg:=⟨0,0,0,.zero⟩
def As(b:Bu)(n:Int):To:=if 0<=n then match b.fl[n.toNat]? with
 |some m=>⟨0,m,0,0⟩
 |none=>kQ 50
 else kQ 50
def zMg:[AV.int .i64 0,.int .i64 0,.int .i64 0,.int .u64 0,.int .u64 0,.int .u64 0,.int .u64 0,.int .u64 0,.int .u64 0,.int .u64 0,.int .u64 0]=aq O5:=rfl
def o_(e:Int)(m:Mg):Op.build (ei (kQ 0)) [(0,1),(1,11)] [.int .i64 e,.agg (aq m)]=B1 (.agg (ei ⟨e,m,0,0⟩)):=by
 have hl:=zk m;show _=B1 (AV.agg (.int .i64 e::(aq m ++ [.int .i64 0,.int .i64 0])));generalize aq m=l at *
 match l,hl with
 |[_,_,_,_,_,_,_,_,_,_,_],_=>rfl
structure M5(Hb H:ar)(w B:Nat)(cvs hv:AV)(bs:Bs)(own:Nat->Nat)(ks:List Ck)(V:Int->L8)(k:Nat)(x:Wo)(c n kd:Int)(H1 H2:ar):Prop where
 e1:H.alloc (OR [.int .i64 kd,.int .i64 c,.int .i64 n] tJ)=H1
 e2:H1.alloc (OR (ei (kQ 0)) ku)=H2
 r:fh Hb H2 w B cvs hv bs own (wide ks H.au) V k x
 l1:Op.ah [.ptr H.au 1] H2=B1 (.int .i64 c)
 l2:Op.ah [.ptr H.au 2] H2=B1 (.int .i64 n)
 ga:H2.get H.au=B1 (OR [.int .i64 kd,.int .i64 c,.int .i64 n] tJ)
 fa:fU H2 w B cvs hv bs (wide ks H.au) H.au
 hb:Hb.au<=H.au
 n1:H1.au=H.au+1
 n2:H2.au=H.au+2
 g:H2.get H1.au=B1 (OR (ei (kQ 0)) ku)
 fo:fU H2 w B cvs hv bs (wide ks H.au) H1.au
 q:∀z,fU H w B cvs hv bs ks z->fU H2 w B cvs hv bs (wide ks H.au) z/\H2.get z=H.get z
def uy(h:fh Hb H w B cvs hv bs own ks V k x)(c n f:Int):∃H1 d,M5 Hb H w B cvs hv bs own ks V k x c n f H1 d:=by
 obtain⟨H1,e1,g,n1,-⟩:=cI H (OR [.int .i64 f,.int .i64 c,.int .i64 n] tJ);obtain⟨d,e2,a,-,-⟩:=cI H1 (OR (ei (kQ 0)) ku);have n2:d.au=H.au+2:=by rw[e2,xz,n1]
 have e:d.get H.au=B1 (OR [.int .i64 f,.int .i64 c,.int .i64 n] tJ):=by rw[a.ai _ (by omega) id,e1,xr]
 have j:=h.em (g.em a);refine⟨H1,d,e1.symm,e2.symm,j,vd e 1,vd e 2,e,h.new (by omega) (by omega),by have:=h.b.lo B (.inl rfl);have:=h.b.lt;omega,n1,n2,by rw[e2,xr],h.new (by omega) (by omega),λ z q=>⟨q.wide (by omega) (λ q=>.inl q) λ q=>.inl q,?_⟩⟩;have l:=q.lt;rw[a.ai _ (by omega) id,g.ai _ l id]
def M5.post{H1 m f:ar}{c n E:Int}{d:AV}{b:Bs}{a:Nat->Nat}{l:List Ck}{V3:Int->L8}(p:M5 Hb H w B cvs hv bs own ks V k x c n E H1 m)(C:fh Hb f w B cvs d b a l V3 k' y)(N:m.au<=f.au)(r:∀z,fU m w B cvs hv bs (wide ks H.au) z->fU f w B cvs d b l z/\f.get z=m.get z)(t:To) :
 ∃h,Op.store 14 [.ptr H1.au 0,.agg (ei t)] f=B1 (.undef,h)/\Op.aw 14 [.ptr H1.au 0] h=B1 (.agg (ei t))/\uc Hb H w B cvs hv bs ks k' y h:=by
 have⟨J,K⟩:=r _ p.fo;have G:=p.n1;have I:=p.n2;have F:=p.hb;obtain⟨h,L,l4,D,o,-,-⟩:=C.Ws J (by omega) (K.trans p.g) t;refine⟨h,L,l4,d,b,a,_,V3,D,by have:=o.au;omega,λ z q=>?_⟩;have⟨s,u⟩:=p.q z q;have⟨j,v⟩:=r z s;have O:=q.lt;exact⟨⟨qn j.lt o.au,j.nb,j.nw,j.nc⟩,by rw[o.ai _ j.lt (λ e:z=H1.au=>by omega),v,u]⟩
def M5.iy{H1 e f:ar}{c n l:Int}(p:M5 Hb H w B cvs hv bs own ks V k x c n l H1 e)(s:Bt)(hs:fJ s.v)(hp:lj Hb e B bs (x.b.step s) f)(t:To) :
 ∃a,Op.store 14 [.ptr H1.au 0,.agg (ei t)] f=B1 (.undef,a)/\Op.aw 14 [.ptr H1.au 0] a=B1 (.agg (ei t))/\uc Hb H w B cvs hv bs ks (k+1) {x with b:=x.b.step s} a:=by
 have⟨h,g,V3,j,m,d⟩:=p.r.iy s hs hp;exact p.post j d.au (λ z q=>⟨q.wide d.au (λ q=>.inl q) (m z),d.ai z q.lt q.nb⟩) t
def M5.em{H1 d e:ar}{c n f:Int}(p:M5 Hb H w B cvs hv bs own ks V k x c n f H1 d)(a:Fr Em d e)(t:To) :
 ∃b,Op.store 14 [.ptr H1.au 0,.agg (ei t)] e=B1 (.undef,b)/\Op.aw 14 [.ptr H1.au 0] b=B1 (.agg (ei t))/\uc Hb H w B cvs hv bs ks (k+1) x b :=
 p.post ((p.r.em a).mono (ke k)) a.au (λ z q=>⟨q.wide a.au (λ q=>.inl q) λ q=>.inl q,a.ai z q.lt id⟩) t
def Wo.nd(x:Wo)(c:Int):Option No:=if 0<=c then x.b.ns[c.toNat]? else B5
def Wo.Jl{c:Int}(h:x.nd c=B5):¬(0<=c/\c<x.b.ns.length):=λ q=>by
 unfold Wo.nd at h;rw[xb q.1,List.getElem?_eq_none_iff]at h;omega
def Wo.yF{c:Int}{nd:No}(h:x.nd c=B1 nd):0<=c/\x.b.ns[c.toNat]? = B1 nd:=by
 unfold Wo.nd at h;split at h
 .exact ⟨by assumption,h⟩
 .cases h
def Wo.fault(x:Wo)(c:Int):Wo×To:=match x.nd c with
 |none=>(x,kQ 2)
 |some nd=>({x with b:=x.b.step ⟨5,c,5,0,0⟩},kQ (nd.abort 5).2)
def Wo.rp(x:Wo)(c n:Int):Wo×To:=match x.nd c with
 |none=>(x,kQ 2)
 |some nd=>({x with b:=x.b.step ⟨6,c,n,0,0⟩},kQ (gP nd n))
def GA(h:fh Hb H w B cvs hv bs own ks V k x)(hk:k<=90000)(c n g:Int):zj M QK [.ptr w 0,.agg [.int .i64 g,.int .i64 c,.int .i64 n]] H λ v H'=>v=.agg (ei (x.fault c).2)/\uc Hb H w B cvs hv bs ks (k+1) (x.fault c).1 H':=by
 refine qu3 ?_;have⟨H1,o,p⟩:=uy h c n g;have bb:BB x.b:=h.C.bb h.I (by omega);simp only[ae,bc,qu4,J9,p.e1,p.e2,aB,p.r.bq,p.l1];unfold Wo.fault;cases hn:x.nd c with
 |none =>
  refine C3.q (xj4 p.r.b bb (Wo.Jl hn) 5) λ v j⟨a,m⟩=>?_;subst a;have⟨l,e,l4,d⟩:=p.em m (kQ 2);simp only[ae,bc,KJ,e,l4];exact d
 |some nd =>
  have⟨f,hn⟩:=Wo.yF hn;refine C3.q (xj5 p.r.b bb f hn 5) λ v j⟨a,hp⟩=>?_;subst a;have es:x.b.step ⟨5,c,5,0,0⟩=x.b.put c.toNat (nd.abort 5 |>.1,[]):=YO (x:=⟨5,c,5,0,0⟩) (show(5:Int)≠7 by decide) f hn;obtain⟨l,e,l4,d⟩:=p.iy ⟨5,c,5,0,0⟩ bK (by rw[es];exact hp) (kQ (nd.abort 5).2);simp only[ae,bc,KJ,e,l4];exact d
def Ho(h:fh Hb H w B cvs hv bs own ks V k x)(hk:k<=90000)(c n g:Int):zj M RO [.ptr w 0,.agg [.int .i64 g,.int .i64 c,.int .i64 n]] H λ v H'=>v=.agg (ei (x.rp c n).2)/\uc Hb H w B cvs hv bs ks (k+1) (x.rp c n).1 H':=by
 refine qu1 ?_;have⟨H1,o,p⟩:=uy h c n g;have bb:BB x.b:=h.C.bb h.I (by omega);simp only[ae,bc,qu2,J9,p.e1,p.e2,aB,p.r.bq,p.l1,p.l2];unfold Wo.rp;cases hn:x.nd c with
 |none =>
  refine C3.q (Dx p.r.b bb (Wo.Jl hn) n) λ v j⟨a,m⟩=>?_;subst a;subst m;have⟨l,e,l4,d⟩:=p.em (Fr.refl _) (kQ 2);simp only[ae,bc,KJ,e,l4];exact d
 |some nd =>
  have⟨f,hn⟩:=Wo.yF hn;refine C3.q (Dy p.r.b bb f hn n) λ v j⟨a,hp⟩=>?_;subst a;have es:x.b.step ⟨6,c,n,0,0⟩=x.b.put c.toNat (nd.da n):=YO (x:=⟨6,c,n,0,0⟩) (show(6:Int)≠7 by decide) f hn;obtain⟨l,e,l4,d⟩:=p.iy ⟨6,c,n,0,0⟩ bK (by rw[es];exact hp) (kQ (gP nd n));simp only[ae,bc,KJ,e,l4];exact d
def xnj(h:fh Hb H w B cvs hv bs own ks V k x)(hk:k<=90000)(c n O:Int):zj M Se [.ptr w 0,.agg [.int .i64 O,.int .i64 c,.int .i64 n]] H λ v H'=>v=.agg (ei (As x.b n))/\uc Hb H w B cvs hv bs ks (k+1) {x with b:=x.b.step ⟨7,c,n,0,0⟩} H':=by
 refine qr2 ?_;have⟨H1,F,p⟩:=uy h c n O;have bb:BB x.b:=h.C.bb h.I (by omega);simp only[ae,bc,qr3,J9,zMg,p.e1,p.e2,aB,p.r.bq,p.l2]
 -- what is left to do
 have rest:∀{a:ar}{f:Bs}{d:Nat->Nat}{V3:Int->L8}{o:List Ck}{y:Wo}{m:Mg}{er:Int},fh Hb a w B cvs hv f d o V3 (k+1) y->F.au<=a.au->(∀z,fU F w B cvs hv bs (wide ks H.au) z->fU a w B cvs hv f o z/\a.get z=F.get z) -> ∃e j,Op.store 11 [.ptr a.au 0,.agg (aq m)] (a.alloc (OR (aq O5) xp))=B1 (.undef,e)/\Op.aw 11 [.ptr a.au 0] e=B1 (.agg (aq m))/\Op.store 14 [.ptr H1.au 0,.agg (ei ⟨er,m,0,0⟩)] e=B1 (.undef,j)/\Op.aw 14 [.ptr H1.au 0] j=B1 (.agg (ei ⟨er,m,0,0⟩))/\uc Hb H w B cvs hv bs ks (k+1) y j:=λ{a f d V3 o y m er}L T D=>by
  obtain⟨e,G⟩:∃Z,Z=(a.alloc (OR (aq O5) xp)).set a.au (OR (aq m) xp):=⟨_,rfl⟩
  have K:Fr Em a e:=G▸((Fr.refl a).alloc _).set (.inr (qm _)) _;have P:e.get a.au=B1 (OR (aq m) xp):=by rw[G,xg]
  have S:=K.au;have⟨j,E,R,u⟩:=p.post (L.em K) (by omega) (λ z q=>⟨(D z q).1.wide S (λ q=>.inl q) λ q=>.inl q,(K.ai z (D z q).1.lt id).trans (D z q).2⟩) ⟨er,m,0,0⟩;exact⟨e,j,by rw[G];exact ij (xr a _) (zk _) (zk m) (rP _),fC P (zk m),E,R,u⟩
 by_cases hn:0<=n/\n<x.b.fl.length
 .obtain ⟨i,rfl⟩:=jx hn.1;have Q:i<x.b.fl.length:=by omega
  obtain⟨m,hm⟩:∃m,x.b.fl[i]? = B1 m:=⟨_,qy Q⟩
  have J:As x.b (i:Int)=⟨0,m,0,0⟩:=by unfold As;rw[xb hn.1,FB,hm]
  rw[J];have es:x.b.step ⟨7,c,(i:Int),0,0⟩=x.b.uf i:=by unfold Bu.step;rw[xb rfl,xb ⟨hn.1,hn.2⟩];rfl
  refine C3.q (xbj p.r.b bb h.I (λ y q=>zd (h.C.wt y q) (by omega)) hm) λ v a⟨l,hp⟩=>?_;subst l;obtain⟨f,d,V3,L,D,g⟩:=p.r.iy ⟨7,c,(i:Int),0,0⟩ bK (by rw[es];exact hp);obtain⟨e,j,N,s,E,t,u⟩:=rest (m:=m) (er:=0) L g.au λ z q=>⟨q.wide g.au (λ q=>.inl q) (D z),g.ai z q.lt q.nb⟩
  simp only[ae,bc,aB,N,s,o_,E,t];exact u
 .have J:As x.b n=kQ 50:=by
   unfold As
   by_cases q:0<=n
   .rw [xb q,z4 (by omega)]
   .rw [qv q]
  have es:x.b.step ⟨7,c,n,0,0⟩=x.b:=by unfold Bu.step;rw[xb rfl,qv hn]
  rw[J,es];refine C3.q (xhv p.r.b bb hn) λ v a⟨l,g⟩=>?_;subst l;have⟨e,j,N,s,E,t,u⟩:=rest (m:=O5) (er:=50) ((p.r.em g).mono (ke k)) g.au λ z q=>⟨q.wide g.au (λ q=>.inl q) λ q=>.inl q,g.ai z q.lt id⟩
  simp only[ae,bc,aB,show aq ⟨0,0,0,.zero⟩=aq O5 from rfl,N,s,o_,E,t];exact⟨rfl,u⟩
end
end Go.Am
namespace Go.Am
open Lang Go.Proofs
variable{M:ao}[MK M]
section
variable{Hb H H':ar}{w B k k' i:Nat}{cvs hv:AV}{bs:Bs}{own:Nat->Nat}{ks:List Ck}{V:Int->L8}{x y:Wo}{c:Co}{A:Ck}
def Wo.zZ(x:Wo)(i:Nat)(c:Co):Wo:={x with b:=(CS.step ⟨c,x.b,[]⟩).1.b,cs:=x.cs.set i (CS.step ⟨c,x.b,[]⟩).1.c}
end
end Go.Am
namespace Go.Am
open Lang
def lT(t:To)(e:eF):To:=if e.kind=6 then{t with cd:=e.code,co:=e.core}else t
namespace Wo
def at'(x:Wo)(c:Int):Option Co:=if 0<=c then x.cs[c.toNat]? else B5
def told(x:Wo)(l:List eF):Wo:={x with h:=x.h++l.map λ e=>{e with time:=x.n}}
def Ez(x:Wo):x.told []=x:=by unfold told;rw[FP,zn]
def rz(x:Wo)(c:Int):Wo×To:=match x.at' c with
 |none=>(x,kQ 2)
 |some q=>((x.zZ c.toNat q).told (CS.step ⟨q,x.b,[]⟩).1.o,(CS.step ⟨q,x.b,[]⟩).1.o.foldl lT (kQ (CS.step ⟨q,x.b,[]⟩).2))
def kO(x:Wo)(a:Act):Wo×To :=
 if a.kind=1 then x.rz a.core
 else if a.kind=2 then({x with b:=x.b.step ⟨7,a.core,a.n,0,0⟩},As x.b a.n)
 else if a.kind=3 then x.rp a.core a.n
 else if a.kind=4 then x.fault a.core
 else(x,kQ 140)
def Lx(x:Wo)(a:Act):(x.kO a).1.n=x.n:=by
 unfold kO rz rp fault
 repeat' split
 all_goals rfl
def act(x:Wo)(a:Act):Wo×To:=({(x.kO a).1 with n:=x.n+1},(x.kO a).2)
def run(x:Wo):List Act->Wo×List To
 |[]=>(x,[])
 |a::l=>(((x.act a).1.run l).1,(x.act a).2::((x.act a).1.run l).2)
def ti:∀(l m:List Act)(x:Wo),x.run (l++m)=(((x.run l).1.run m).1,(x.run l).2++((x.run l).1.run m).2)
 |[],m,x=>rfl
 |a::l,m,x=>by
  rw[vx,run,run,ti l m];rfl
def yR(x:Wo)(l:List Act)(a:Act):x.run (l ++ [a])=(((x.run l).1.act a).1,(x.run l).2 ++ [((x.run l).1.act a).2]):=by
 rw[ti];rfl
def nJ:∀(l:List Act)(x:Wo),(x.run l).2.length=l.length
 |[],x=>rfl
 |a::l,x=>by rw[run,zr,nJ l,zr]
def vE:∀(l:List Act)(x:Wo),(x.run l).1.n=x.n+l.length
 |[],x=>(Int.add_zero _).symm
 |a::l,x=>by
  rw[run,vE l,zr];show x.n+1+(l.length:Int)=_;omega
def wH(x:Wo)(a:Act):∃l:List eF,(x.kO a).1.h=x.h++l.map (λ e=>{e with time:=x.n})/\l.length<=3:=by
 have d:∃l:List eF,x.h=x.h++l.map (λ e=>{e with time:=x.n})/\l.length<=3:=⟨[],by rw[FP,zn],by decide⟩
 unfold kO;split
 .unfold rz;split
  .exact d
  .rename_i c _;have⟨l,e,n,_⟩:=CS.DD ⟨c,x.b,[]⟩;exact⟨_,rfl,by rw[e];exact n⟩
 .unfold rp fault
  repeat' split
  all_goals exact d
def Pz(x:Wo)(a:Act):(x.act a).1.h.length<=x.h.length+3:=by
 have⟨l,e,n⟩:=wH x a;show(x.kO a).1.h.length<=_;rw[e,xc,xu];omega
structure HT(x:Wo):Prop where
 n0:0<=x.n
 lt:∀e∈x.h,0<=e.time/\e.time<x.n
 up:x.h.Pairwise λ a b=>a.time<=b.time
def HT.act{x:Wo}(h:HT x)(a:Act):HT (x.act a).1:=by
 have⟨l,e,_⟩:=wH x a;have n0:=h.n0;have tm:∀y∈l.map (λ e:eF=>{e with time:=x.n}),y.time=x.n:=λ y q=>by
  obtain⟨z,_,rfl⟩:=CN.1 q;rfl
 refine⟨by show(0:Int)<=x.n+1;omega,λ y q=>?_,?_⟩
 .show 0<=y.time/\y.time<x.n+1;have q:y∈(x.kO a).1.h:=q;rw[e]at q;rcases zt.1 q with q|q
  .have:=h.lt y q;omega
  .have:=tm y q;omega
 .show (x.kO a).1.h.Pairwise _;rw[e,List.pairwise_append];refine⟨h.up,?_,λ a ha b hb=>?_⟩
  .rw [List.pairwise_map];exact List.pairwise_of_forall λ _ _=>uj _
  .rw [tm b hb];exact Int.le_of_lt (h.lt a ha).2
def HT.run:∀(l:List Act){x:Wo},HT x->HT (x.run l).1
 |[],x,h=>h
 |a::l,x,h=>HT.run l (h.act a)
def vI:∀(l:List Act)(x:Wo),(x.run l).1.h.length<=x.h.length+3*l.length
 |[],x=>qm _
 |a::l,x=>by
  have:=vI l (x.act a).1;have:=Pz x a;rw[zr];show((x.act a).1.run l).1.h.length<=_;omega
end Wo
end Go.Am
namespace Go.Am
open Lang Go.Proofs
variable{M:ao}[MK M]
section
variable{Hb H H':ar}{w B k k' i:Nat}{cvs hv:AV}{bs:Bs}{own:Nat->Nat}{ks:List Ck}{V:Int->L8}{x y:Wo}{c:Co}{A:Ck}
def fh.xT(h:fh Hb H w B cvs hv bs own ks V k x)(n:H.au<=H'.au)(f:∀z,z<H.au -> ¬fU H w B cvs hv bs ks z->H'.get z=H.get z):fh (H'.low Hb.au) H' w B cvs hv bs own (wide ks H.au) V k x:=by
 have F:Fr (fU H w B cvs hv bs ks) H H':=⟨n,f⟩
 have g:=h.em (H':=⟨H.t,H'.au⟩) ⟨n,λ _ _ _=>rfl⟩;refine⟨h.row.fr F λ q=>q.nw (.inl rfl),?_,Own.fr h.hl F λ z e q=>q.nw (.inr (.inr e)),h.b.xT F λ z q=>q.nb,h.I,h.C,h.U,λ j d u o a=>?_,g.kl,g.nl,g.dj,g.d2,g.lo,g.wb,g.w1,g.w2⟩
 .unfold wide;rw[zD];exact Own.fr h.cl F λ z e q=>q.nw (.inr (.inl e))
 .obtain ⟨l,e1,rfl⟩:=Is a;have⟨p,s⟩:=h.co j d l o e1;exact⟨p.fr F (λ z m r q=>r (q.nc j l e1)) (λ z m=>iZ m) (qm _),s⟩
def ae5(h:fh Hb H w B cvs hv bs own ks V k x)(hk:k+1<=90000)(m:pQ H)(J:jq<Hb.au)(s:x.cs[i]? = B1 c)(d:ks[i]? = B1 A):zj M LV [.ptr A.p 0,.iface FK (.ptr B 0)] H λ v H'=>∃a,v=.tuple [a,.int .i64 (CS.step ⟨c,x.b,[]⟩).2]/\aL eF.enc j9 9 H' a (CS.step ⟨c,x.b,[]⟩).1.o/\H.au<=H'.au /\
 ∃bs' aP f g,fh Hb H' w B cvs hv bs' aP f g (k+2) (x.zZ i c)/\(∀z,aM a z -> ¬ug w cvs hv z) /\ ∀z,fU H w B cvs hv bs ks z->fU H' w B cvs hv bs' f z/\H'.get z=H.get z /\ ¬aM a z:=by
 have G:A.o jq=0:=zi λ q=>by have:=h.lo i A d _ m.2 q;omega
 have C:=CS.EH ⟨c,x.b,[]⟩;refine(LM (X:=A.at Hb H B bs k) (n:=0) (h.re s d) (show k+0+1<=90000 by omega) m G).mono λ v H' q=>?_;have⟨a,hv',o',rv',bs',aP,g,r,ow,D⟩:=q;have hw:=h.back s d C.id C.nl r;have u:i<ks.length:=(qo.1 d).1;have nx:H.au<=H'.au:=r.fr.au;refine⟨a,hv',ow,nx,bs',aP,_,g,hw,λ z q e=>?_,λ z q=>?_⟩
 .have:=hw.dj i {A with rv:=rv',o:=o'} (xx (by rw[xu];exact u)) z (.inr e);have t:=D z q;have this:o' z=0:=this;omega
 .have F:=q.lt;have E:A.o z=0:=q.nc i A d;have o0:o' z=0:=zi λ e=>by
   rcases r.go z (by omega) e with⟨_,t⟩|t
   .exact t E
   .have:H.au<=z:=t;omega
  refine⟨⟨by omega,λ e=>?_,q.nw,λ j I e=>?_⟩,r.fr.ai z F λ e=>e.elim (λ e=>e E) q.nb,λ e=>by have:=D z e;omega⟩
  .rcases r.gb z e with t|t
   .exact q.nb t
   .have:H.au<=z:=t;omega
  .by_cases w:j=i
   .subst w;rw[xx (by rw[xu];exact u)]at e;cases e;exact o0
   .rw [xy (λ e=>w e.symm),xj]at e;obtain⟨l,e1,rfl⟩:=xk.1 e;show Go.Am.aP l.o H.au 0 z=0;rw[iZ F];exact q.nc j l e1
end
end Go.Am
