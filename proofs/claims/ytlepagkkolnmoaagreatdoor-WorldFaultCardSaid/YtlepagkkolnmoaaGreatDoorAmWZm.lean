import Derived.Test.YtlepagkkolnmoaaGreatDoorAmWZl
import Derived.Test.YtlepagkkolnmoaaGreatDoorAmWZj
import Derived.Test.YtlepagkkolnmoaaGreatDoorAmWZf
import Derived.Test.YtlepagkkolnmoaaGreatDoorAmWZg
set_option linter.defProp false
set_option linter.unusedVariables false
set_option linter.unusedSimpArgs false
set_option linter.unusedSectionVars false
set_option maxRecDepth 100000
open Bool renaming false→B2,true→B4
open Go renaming IntKind→Pl
open Go.IntKind renaming bits→Bj
open List renaming range→N1,replicate→JV
open Option renaming none→B5,some→B1
open Nat renaming reduceEqDiff→bc
namespace Go.Am
open Lang Go.Proofs
variable{M:ak}[MK M]
def mo:Op.mkMap []=B1 (.map [] 0,.map):=rfl
def ND{H:ar}{b e n:Nat}{z l:List AV}(g:H.get b=B1 (OR z e))(d:z.length=n)(hl:l.length=n)(a:aQ l=B4):∃H',Op.store n [.ptr b 0,.agg l] H=B1 (.undef,H')/\Op.av n [.ptr b 0] H'=B1 (.agg l)/\Fr (On b) H H'/\H'.get b=B1 (OR l e) :=
 ⟨_,iv g d hl a,fq (xj ..) hl,cj ..,xj ..⟩
def okB(f s o:Int):Prop:=(0<=f/\f<=16)/\(0<=s/\s<=16)/\0<=o/\o<=16
instance(f s o:Int):Decidable (okB f s o):=by unfold okB;infer_instance
def xfw(b o:Nat):Op.cJ 5 1 [(B1 0),(B1 1),B5] [.ptr b o,.int .i64 1,.int .i64 4]=B1 (.slice b (o+1) 3 4):=by
 rfl
def WY{b o n c i:Nat}{k:Pl}(h:i<n):Op.aP 1 [.slice b o n c,.int k (i:Int)]=B1 (.ptr b (o+i)):=by
 have a:=Gf h;simp[Op.aP,fy,MF (z:=(i:Int)) rfl h,elemAt,a]
def xbj{H:ar}{f s o:Int}:zk M _m [.agg [.int .i64 f,.int .i64 s,.int .i64 o]] H λ v H'=>v=.tuple [.agg [.int .i64 0,.int .i64 f,.int .i64 s,.int .i64 o,.int .i64 (-1)],.bool (decide (okB f s o))]/\Fr Em H H':=by
 refine q44 ?_;have l1:∀b,Op.dm [.slice b 1 3 4]=B1 (.int .i64 3):=λ _=>rfl;have⟨H1,e1,P,n1,R⟩:=cE H (OR [.int .i64 f,.int .i64 s,.int .i64 o] I9);have⟨e,e2,F,n2,S⟩:=cE H1 (OR [.int .i64 0,.int .i64 0,.int .i64 0,.int .i64 0,.int .i64 0] tf);have⟨Hz,N,G,n3,T⟩:=cE e (OR [.int .i64 0,.int .i64 0,.int .i64 0,.int .i64 0,.int .i64 0] tf);have w:e.get H.au=B1 (OR [.int .i64 f,.int .i64 s,.int .i64 o] I9):=(F.ah _ (by omega) id).trans R;have W:Op.ae [.ptr H.au 0] e=B1 (.int .i64 f):=zh (xf w) 0;have X:Op.ae [.ptr H.au 1] e=B1 (.int .i64 s):=zh (xf w) 1;have Y:Op.ae [.ptr H.au 2] e=B1 (.int .i64 o):=zh (xf w) 2;have L:Op.build [.int .i64 0,.int .i64 0,.int .i64 0,.int .i64 0,.int .i64 0] [(1,1),(2,1),(3,1),(4,1)] [.int .i64 f,.int .i64 s,.int .i64 o,.int .i64 (-1)]=B1 (.agg [.int .i64 0,.int .i64 f,.int .i64 s,.int .i64 o,.int .i64 (-1)]):=rfl;have⟨p,Z,l4,x,U⟩:=ND (n:=5) (l:=[.int .i64 0,.int .i64 f,.int .i64 s,.int .i64 o,.int .i64 (-1)]) T rfl rfl rfl;have n4:=x.au;have J:Fr Em H p:=((P.em F).em G).trans x λ z(q:z=e.au)=>.inr (by omega);have z3:p.get H1.au=B1 (OR [.int .i64 0,.int .i64 0,.int .i64 0,.int .i64 0,.int .i64 0] tf):=(x.ah _ (by omega) λ q:H1.au=e.au=>by omega).trans ((G.ah _ (by omega) id).trans S);obtain⟨K,C,A,Q,-⟩:=ND (n:=5) (l:=[.int .i64 0,.int .i64 f,.int .i64 s,.int .i64 o,.int .i64 (-1)]) z3 rfl rfl rfl;have u:Fr Em H K:=J.trans Q λ z(q:z=H1.au)=>.inr (by omega);simp only[aa,bc,O5,<-e1,<-e2,<-N,W,X,Y,L,Z,xfw,l1]
 let g:Nat->Int:=λ i=>if i=0 then f else if i=1 then s else o
 have a:∀i,i<3->Op.ae [.ptr e.au (1+i)] p=B1 (.int .i64 (g i)):=λ i V=>by
  rw[zh (xf U)];have:i=0\/i=1\/i=2:=by omega
  rcases this with rfl|rfl|rfl<;>rfl
 refine dD.intro (λ n E D=>∃i,D=p/\E=[(14,.slice e.au 1 3 4),(15,.int .i64 3),(16,.int .i64 (i:Nat)),(4,.ptr e.au 0),(2,.ptr H1.au 0)]/\n=3-i/\i<=3 /\ ∀j,j<i->0<=g j/\g j<=16) ?_ ?_
 .exact ⟨_,_,⟨0,rfl,rfl,rfl,by omega,λ j I=>by omega⟩,by simp only[aa,bc]⟩
 rintro n E D ⟨i,rfl,rfl,rfl,V,k⟩
 by_cases d:i<3
 .have e1:(i:Int)<3:=by omega
  have O:aj .i64 ((i:Int)+1)=((i+1:Nat):Int):=by rw[kc (by omega) (by omega)];omega
  have Cw:¬(0<=g i/\g i<=16)->decide (okB f s o)=false:=λ h=>by
   refine kw λ⟨m,t,h3⟩=>h ?_;have:i=0\/i=1\/i=2:=by omega
   rcases this with rfl|rfl|rfl
   .exact m
   .exact t
   .exact h3
  by_cases m:g i<0
  .simp only[aa,bc,O5,e1,WY d,a i d,m,l4,C,A];exact⟨by rw[Cw (by omega)],u⟩
  .by_cases t:16<g i
   .simp only[aa,bc,O5,e1,WY d,a i d,m,t,l4,C,A];exact⟨by rw[Cw (by omega)],u⟩
   .simp only[aa,bc,O5,e1,WY d,a i d,m,t,O];refine⟨_,_,⟨i+1,rfl,rfl,by omega,λ j I=>?_⟩,by simp only[aa,bc],by omega⟩;rcases Nat.lt_succ_iff_lt_or_eq.1 I with q|rfl
    .exact k j q
    .omega
 .have y:i=3:=by omega
  subst y;have e1:¬((3:Nat):Int)<3:=by omega
  have hk:decide (okB f s o)=true:=ku ⟨k 0 (by omega),k 1 (by omega),k 2 (by omega)⟩;simp only[aa,bc,O5,e1,l4,C,A];exact⟨by rw[hk],u⟩
def _u(f s o:Int):List AV:=[.int .i64 0,.int .i64 f,.int .i64 s,.int .i64 o,.int .i64 (-1),.int .i64 0,.int .i64 0,.int .i64 0,.int .i64 0,.int .i64 0,.int .i64 0,.bool B4]
def Pd(H:ar)(f s o:Int)(v:AV)(H':ar):Prop:=(okB f s o /\ ∃b,v=.tuple [.ptr b 0,.int .i64 0]/\H.au<=b/\b<H'.au/\H'.get b=B1 (OR (_u f s o) vq))\/(¬okB f s o/\v=.tuple [.nilp,.int .i64 2])
def q9z{H:ar}{f s o:Int}:zk M j' [.agg [.int .i64 f,.int .i64 s,.int .i64 o]] H λ v H'=>Pd H f s o v H'/\Fr Em H H':=by
 refine xe6 ?_;have a:Fr Em H (H.alloc (OR [.int .i64 f,.int .i64 s,.int .i64 o] I9)):=(Fr.refl H).alloc _;simp only[aa,bc,Vt,D1 H [.int .i64 f,.int .i64 s,.int .i64 o] _ _ _ 3 rfl];refine C3.q (xbj) λ v i⟨x,d⟩=>?_;subst x;have g:=d.au;rw[zg]at g;have⟨y,j,u,A,w⟩:=cE i (OR [.int .i64 0,.int .i64 0,.int .i64 0,.int .i64 0,.int .i64 0] tf);obtain⟨p,m,l4,k,-⟩:=ND (n:=5) (l:=[.int .i64 0,.int .i64 f,.int .i64 s,.int .i64 o,.int .i64 (-1)]) w rfl rfl rfl;have h:Fr Em H p:=(a.em (d.em u)).trans k λ z(q:z=i.au)=>.inr (by have:=a.au;omega);have C:=k.au;have t:Op.build [.int .i64 0,.int .i64 0,.int .i64 0,.int .i64 0,.int .i64 0,.int .i64 0,.int .i64 0,.int .i64 0,.int .i64 0,.int .i64 0,.int .i64 0,.bool B2] [(0,5),(11,1)] [.agg [.int .i64 0,.int .i64 f,.int .i64 s,.int .i64 o,.int .i64 (-1)],.bool B4]=B1 (.agg (_u f s o)):=rfl
 by_cases hk:okB f s o
 .have e:decide (okB f s o)=true:=ku hk;simp only[aa,bc,Vt,aA,e,<-j,m,l4,t];exact⟨.inl ⟨hk,_,rfl,by omega,by rw[zg];omega,xt ..⟩,h.alloc _⟩
 .have e:decide (okB f s o)=false:=kw hk;simp only[aa,bc,Vt,aA,e,<-j,m];exact⟨.inr ⟨hk,rfl⟩,h⟩
def Wa(e:Nat)(zero:List AV):Op.buildSlice e 0 zero [] []=B1 (.row [] e (0,0) B4,Op.sliceTo 0 0):=rfl
def xlh(H:ar):Op.eq .slice B2 [.nils,.nils] H=B1 (.bool B4):=rfl
def af3{H:ar}{size:Nat}{v:AV}{n:Nat}{cells:List AV}(h:Sl H size v n cells)(a:v≠ .nils)(H':ar):Op.eq .slice B2 [v,.nils] H'=B1 (.bool B2):=by
 have⟨_,h⟩:=h;cases v<;>first|exact(a rfl).elim|rfl|exact h.elim
def Rb{H:ar}{a:AV}{n:Nat}{cells:List AV}(ha:Sl H 5 a n cells)(f:aQ cells=B4)(hl:n*40<=140737488355328){K:Bool->AV->ar->Prop}{m:Bool}
 (hk:∀g H',Own H' Aw 5 g n cells->Fr Em H H'->(∀b,aN g b->H.au<=b)->K m g H'):jO m (Op.append Aw 5 40 [Op.sliceTo 0 0 H.au,a] (H.alloc (.row [] Aw (0,0) B4))) K:=by
 have d:Fr Em H (H.alloc (.row [] Aw (0,0) B4)):=(Fr.refl H).alloc _;refine R2 (e:=Aw) (n:=0) (cells:=[]) ⟨rfl,.inl ⟨rfl,.inr ⟨H.au,rfl,by rw[zg];omega⟩⟩⟩ (ha.em d) f (by omega) (by omega) (by omega) λ g i hv' j h=>hk g i ?_ ?_ λ b hb=>?_
 .rw [yr,jc]at hv';exact hv'
 .exact d.trans j λ x k=>.inr (by rw[k.2];exact qm _)
 .exact (h b hb).elim (λ q=>by rw[q.2];exact qm _) λ q=>ze d.au q
def OC:Fi:=⟨JV 8 0,0,B5⟩
def UH:So:=⟨[],[],⟨0,0,0,0⟩,B5,B2,B2,B2,0,0,0,0⟩
def xdh{H:ar}:zk M Λ [] H λ v H'=>v=.ptr H.au 0/\H'=H.alloc (OR (cu OC .nilp) HS):=by
 refine xjh ?_;have a:Op.build [.int .u64 0,.int .u64 0,.int .u64 0,.int .u64 0,.int .u64 0,.int .u64 0,.int .u64 0,.int .u64 0,.int .i64 0,.nilp,.bool B2] [(10,1)] [.bool B4]=B1 (.agg (cu OC .nilp)):=rfl;simp only[aa,bc,xji,a]
structure XO(H H':ar):Prop where
 n:H'.au=H.au+5
 a:H'.get H.au=B1 (.map [] 0)
 b:H'.get (H.au+1)=B1 (OR [.nils,.map H.au] Jc)
 c:H'.get (H.au+2)=B1 (.map [] 0)
 d:H'.get (H.au+3)=B1 (OR [.nils,.map (H.au+2)] Jc)
 e:H'.get (H.au+4)=B1 (OR [.ptr (H.au+1) 0,.ptr (H.au+3) 0] UK)
 f:Fr Em H H'
def xe7{H:ar}:zk M v_ [] H λ v H'=>v=.ptr (H.au+4) 0/\XO H H':=by
 refine xl7 ?_;have a:∀b,Op.build [.nils,.mz] [(1,1)] [.map b]=B1 (.agg [.nils,.map b]):=λ _=>rfl;have d:∀x y,Op.build [.nilp,.nilp] [(0,1),(1,1)] [.ptr x 0,.ptr y 0]=B1 (.agg [.ptr x 0,.ptr y 0]):=λ _ _=>rfl;simp only[aa,bc,xl8,mo,a,d];refine⟨rfl,rfl,?_,?_,?_,?_,?_,(((((Fr.refl H).alloc _).alloc _).alloc _).alloc _).alloc _⟩
 .exact (((wN (by simp only[zg];omega) _).trans (wN (by simp only[zg];omega) _)).trans (wN (by simp only[zg];omega) _)).trans ((wN (by simp only[zg];omega) _).trans (xt ..))
 .exact ((wN (by simp only[zg];omega) _).trans (wN (by simp only[zg];omega) _)).trans ((wN (by simp only[zg];omega) _).trans (xt ..))
 .exact (wN (by simp only[zg];omega) _).trans ((wN (by simp only[zg];omega) _).trans (xt ..))
 .exact (wN (by simp only[zg];omega) _).trans (xt ..)
 .exact xt ..
def GX(o:Nat->Nat)(n:Nat)(z:Nat):Nat:=if z<n then o z else if z=n then 11 else if z=n+1 then 10 else if z=n+2 then 21 else if z=n+3 then 20 else if z=n+4 then 9 else 8
def xdp{H:ar}:zk M t8 [] H λ v H'=>v=.ptr (H.au+5) 0/\H'.au=H.au+6/\Fr Em H H' /\ ∀o,dV H' (GX o H.au) (H.au+5) UH (H.au+4) .nilf:=by
 refine xjo ?_;have h:∀x,Op.build [.nilp,.int .i64 0,.int .i64 0,.int .u64 0,.int .u64 0,.nilf,.bool B2,.bool B2,.bool B2,.int .u64 0,.int .u64 0,.int .i64 0,.int .i64 0] [(0,1)] [.ptr x 0]=B1 (.agg (dH UH x .nilf)):=λ _=>rfl;simp only[aa,bc,xjp];refine C3.q (xe7) λ v H1⟨i,L⟩=>?_;subst i;simp only[aa,bc,h];have n1:=L.n;obtain⟨g,e2⟩:∃Z,Z=H1.alloc (OR (dH UH (H.au+4) .nilf) Ew):=⟨_,rfl⟩
 have n2:g.au=H.au+6:=by rw[e2,zg,n1]
 have k:∀z,z<H1.au->g.get z=H1.get z:=λ z q=>by rw[e2,wN q]
 rw[<-e2];refine⟨by rw[n1],n2,L.f.em (e2▸(Fr.refl H1).alloc _),λ o=>⟨⟨by rw[e2,<-n1];exact xt ..,by omega⟩,⟨H.au+1,H.au+3,.nils,H.au,0,.nils,H.au+2,0,⟨by rw[k _ (by omega)];exact L.e,by omega⟩,?_,⟨⟨by rw[k _ (by omega)];exact L.b,by omega⟩,Own.nil ..,by rw[k _ (by omega)];exact L.a,by omega,x9 _,?_,?_,λ z q=>(q.1 rfl).elim⟩,⟨⟨by rw[k _ (by omega)];exact L.d,by omega⟩,Own.nil ..,by rw[k _ (by omega)];exact L.c,by omega,x9 _,?_,?_,λ z q=>(q.1 rfl).elim⟩⟩,rfl,?_,rfl,bI,λ y w=>(List.not_mem_nil w).elim,bI⟩⟩
 all_goals (unfold GX;simp<;>(intro;omega))
end Go.Am
namespace Go.Am
open Lang Go.Proofs
variable{M:ak}[MK M]
def _9:∀(code:List i9),aQ (code.flatMap fY)=B4
 |[]=>rfl
 |i::l=>by rw[j5,vz,List.all_append,<-vz,<-vz,_9 l];rfl
def xei{H:ar}{a:AV}{code:List i9}(ha:bX fY 5 H a code)(hl:code.length<=1000000):zk M Z_ [a] H λ v H'=>az v=B4/\bX fY 5 H' v code/\(code≠[]->H.au<=aC v/\aC v<H'.au)/\Fr Em H H':=by
 refine qnz ?_
 by_cases hn:a=.nils
 .subst hn;simp only[aa,bc,S_,xlh];have:code.length=0:=by
   have:=ha.len;have q:Op.dm [AV.nils]=B1 (.int .i64 0):=rfl;rw[q]at this;injection this with this;injection this with _ this;omega
  exact⟨rfl,ha,λ q=>(q (jy.1 this)).elim,Fr.refl _⟩
 .simp only[aa,bc,S_,af3 ha hn,Wa];refine Rb ha (_9 code) (by omega) λ h f hv' g e=>?_;simp only[aa,bc];have d:aU fY Aw 5 f h code:=hv';exact⟨Sl.one hv'.sl,aU.sl d,λ q=>⟨e _ (xS d q),Own.lt d _ (xS d q)⟩,g⟩
def Vu(id:Int)(n:Nat)(f s o ln:Int):Prop:=okB f s o/\0<=id/\id<4/\n<=1024/\2<=ln/\ln<=64
instance(id:Int)(n:Nat)(f s o ln:Int):Decidable (Vu id n f s o ln):=by unfold Vu;infer_instance
def Kr(id ln:Int)(code:List i9)(f s o:Int):Co:=⟨id,ln,code,OC,⟨[0,f,s,o,-1],0,La.kZ⟩,UH,0,iz,0,[],0,B2,B2,B2,0,0,B2,B2⟩
def CoN(H:ar)(c:Co)(v:AV)(H':ar):Prop:=∃p f l sp cv,v=.tuple [.ptr p 0,.int .i64 0]/\H.au<=p /\ ∀o:Nat->Nat,∃o',(∀z,z<H.au->o' z=o z)/\dU H' o' p f l sp cv .nils .nils .nili c [] 0
def CoQ(ok:Prop)(H:ar)(c:Co)(v:AV)(H':ar):Prop:=(ok/\CoN H c v H')\/(¬ok/\v=.tuple [.nilp,.int .i64 2])
def xbs{H:ar}{id ln f s o:Int}{a:AV}{code:List i9}(ha:bX fY 5 H a code) :
 zk M _I [.int .i64 id,a,.agg [.int .i64 f,.int .i64 s,.int .i64 o],.int .i64 ln] H λ v H'=>CoQ (Vu id code.length f s o ln) H (Kr id ln code f s o) v H'/\Fr Em H H':=by
 refine xia ?_;have P:Fr Em H (H.alloc (OR [.int .i64 f,.int .i64 s,.int .i64 o] I9)):=(Fr.refl H).alloc _;simp only[aa,bc,Kk,D1 H [.int .i64 f,.int .i64 s,.int .i64 o] _ _ _ 3 rfl];refine C3.q (q9z) λ v V⟨hq,E⟩=>?_;have d:=P.em E;rcases hq with⟨hk,l,rfl,l1,l2,l3⟩|⟨hk,rfl⟩
 .by_cases C:id<0
  .simp only[aa,bc,Kk,xp,C];exact⟨.inr ⟨λ⟨_,q,_⟩=>by omega,rfl⟩,d⟩
  by_cases D:4<=id
  .simp only[aa,bc,Kk,xp,C,D];exact⟨.inr ⟨λ⟨_,_,q,_⟩=>by omega,rfl⟩,d⟩
  by_cases I:(1024:Int)<(code.length:Nat)
  .simp only[aa,bc,Kk,xp,C,D,ha.len,I];exact⟨.inr ⟨λ⟨_,_,_,q,_⟩=>by omega,rfl⟩,d⟩
  by_cases L:ln<2
  .simp only[aa,bc,Kk,xp,C,D,ha.len,I,L];exact⟨.inr ⟨λ⟨_,_,_,_,q,_⟩=>by omega,rfl⟩,d⟩
  by_cases c5:64<ln
  .simp only[aa,bc,Kk,xp,C,D,ha.len,I,L,c5];exact⟨.inr ⟨λ⟨_,_,_,_,_,q⟩=>by omega,rfl⟩,d⟩
  simp only[aa,bc,Kk,xp,C,D,ha.len,I,L,c5];refine C3.q (xei (ha.em d) (by omega)) λ cv h⟨u,O,N,p⟩=>?_;refine C3.q (xdh) λ v e⟨U,m⟩=>?_;subst U;have t:Fr Em h e:=by rw[m];exact(Fr.refl h).alloc _
  have Q:e.get h.au=B1 (OR (cu OC .nilp) HS):=by rw[m];exact xt ..
  have hn4:e.au=h.au+1:=by rw[m];rfl
  simp only[aa,bc];refine C3.q (xdp) λ v K⟨U,hn5,j,T⟩=>?_;subst U;have S:=E.au;rw[zg]at S l1;have Z:=p.au;have X:Op.build [.int .i64 0,.int .i64 0,.nils,.nilp,.nilp,.nilp,.int .i64 0,.int .i64 0,.int .i64 0,.int .i64 0,.int .u64 0,.int .u64 0,.int .u64 0,.nils,.int .i64 0,.bool B2,.bool B2,.bool B2,.int .i64 0,.int .i64 0,.bool B2,.bool B2,.nils,.nili] [(0,1),(1,1),(2,1),(3,1),(4,1),(5,1)] [.int .i64 id,.int .i64 ln,cv,.ptr h.au 0,.ptr l 0,.ptr (e.au+5) 0]=B1 (.agg (cF (Kr id ln code f s o) h.au l (e.au+5) cv .nils .nils .nili)):=by
   cases cv<;>first|rfl|cases u
  simp only[aa,bc,X];obtain⟨H6,W,g,n6,-⟩:=cE K (OR (cF (Kr id ln code f s o) h.au l (e.au+5) cv .nils .nils .nili) Iy);rw[<-W];have fin:=(((d.em p).em t).em j).em g;refine⟨.inl ⟨⟨hk,by omega,by omega,by omega,by omega,by omega⟩,K.au,h.au,l,e.au+5,cv,rfl,by omega,λ o0=>?_⟩,fin⟩;obtain⟨F,k⟩:∃F,F=aL (aL (aL o0 H.au 3) V.au 7) h.au 2:=⟨_,rfl⟩
  obtain⟨J,A⟩:∃J,J=aL (GX F e.au) K.au 1:=⟨_,rfl⟩
  have G:∀z,z<e.au->J z=F z:=λ z q=>by rw[A,iQ (by omega)];unfold GX;rw[xb q]
  refine⟨J,λ z q=>by rw[G z (by omega),k,iQ (by omega),iQ (by omega),iQ q],?_⟩;have R:lX V l ⟨[0,f,s,o,-1],0,La.kZ⟩:=⟨⟨rfl,rfl,vJ _,(show(0:Int)<=4 by decide),(show(-1:Int)≠0 by decide)⟩,l3,l2⟩
  have Y:At e h.au HS (cu OC .nilp):=⟨Q,by omega⟩
  refine⟨⟨by rw[W];exact xt ..,by omega⟩,⟨⟨by simp[Kr,OC],λ v q=>by rw[M0 q];exact bI,vJ _⟩,.nilp,(Y.em j).em g,rfl⟩,((R.em p).em t |>.em j).em g,⟨e.au+4,.nilf,(T F).fr g (λ _ _ _ q=>q) λ z q=>by rw[A];exact iQ q⟩,((O.em t).em j).em g,Own.nil ..,Own.nil ..,?_,?_,?_,λ z q=>(q.1 rfl).elim,λ z q=>(q.1 rfl).elim,λ q=>?_,rfl,⟨by show 0<=id;omega,by show 2<=ln;omega,by show ln<=64;omega,by show code.length<=1024;omega,λ y w=>(List.not_mem_nil w).elim,x9 _,vJ _,bI,λ i x w=>by simp[Kr]at w⟩⟩
  .rw [A];exact mW (qm _)
  .rw [G _ (by omega),k];exact mW (qm _)
  .rw [G _ (by omega),k,iQ (by omega),iQ (by omega)];exact mW (by omega)
  .have ⟨q1,q2⟩:=N q;exact⟨by omega,by rw[G _ (by omega),k,iQ q2];exact mW q1⟩
 .simp only[aa,bc,Kk,xp];exact⟨.inr ⟨λ q=>hk q.1,rfl⟩,d⟩
end Go.Am
namespace Go.Am
open Go.Proofs Ca
variable{M:ak}[MK M]
section
variable{H0 H:ar}{B:Nat}{s:Bs}{b:Bu}{own:Nat->Nat}
def fm.lC(h:fm H0 H B s b own){ws:List L8}{H':ar}(hm:AN H' s.mp s.lv ws)(hl:ws.length=b.m.length)(f:Fr (On (aC s.lv)) H H'):fm H0 H' B s {b with m:=ws} own:=by
 have j:s.dw (aC s.lv):=.inr (.inr (.inl rfl));have o1:=h.oD _ j;have g:∀{z k:Nat},own z=k->k≠1 -> ¬On (aC s.lv) z:=λ e1 e2(q:_=aC s.lv)=>e2 (by rw[<-e1,q];exact o1);have p:H0.au<=aC s.lv:=h.lo _ (.inr (.inl j));refine⟨by rw[f.ah _ h.lt (g h.oB (by decide))];exact h.row,qn h.lt f.au,⟨?_,qn h.d.lt f.au,hm,h.d.es.fr f λ(q:_=_)=>h.d.d1.2.2.2.2 q.symm,λ i x a o=>(h.d.wt i x a o).fr f λ z e(q:z=_)=>(h.d.d2 i x a o z e).2.2.1 q,h.d.d1,h.d.d2,h.d.d3,h.d.len.trans hl.symm⟩,h.dx,Own.fr h.nv f λ z e=>g (h.oN z e) (by decide),λ c n A hn l=>(h.no c n A hn l).off f λ z(q:z=_)=>⟨by rw[q];exact p,λ w=>g (h.oC c A l z w) (by omega) q⟩,h.al,h.fl.fr f λ z e=>g (h.oF z e) (by decide),h.oB,h.oD,h.oN,h.oF,h.oC,h.lo⟩;rw[f.ah _ h.d.lt λ q=>h.d.d1.2.1 q];exact h.d.row
end
def lC(m:List L8):List L8->Nat->List L8
 |[],_=>m
 |x::r,i=>lC (m.set i x) r (i+1)
def ZN:∀(fs:List L8)(m:List L8)(i:Nat),(lC m fs i).length=m.length
 |[],m,i=>rfl
 |x::r,m,i=>by unfold lC;rw[ZN r];exact xq
def _c:∀(fs:List L8)(m:List L8)(j i:Nat){x:L8},fs[i]? = B1 x->lC m (fs.take (i+1)) j=(lC m (fs.take i) j).set (j+i) x
 |y::r,m,j,0,x,h=>by cases h;rfl
 |y::r,m,j,i+1,x,h=>by
  show lC (m.set j y) (r.take (i+1)) (j+1)=(lC (m.set j y) (r.take i) (j+1)).set (j+(i+1)) x;rw[_c r _ (j+1) i (show r[i]? = B1 x from h),show j+1+i=j+(i+1)by omega]
def gC(l c s w:Int)(fs:List L8):Bu:={fN l c s w with m:=lC (fN l c s w).m fs 0}
def xeo{H:ar}{D mp:Nat}{lv ev:AV}{N:Int}{ws:List L8}{xs:List (De×AV)}(h:mK H D mp lv ev N ws xs){n:Int}(f:0<=n)(g:n<ws.length)(x:L8):zk M quz [.ptr D 0,.int .i64 n,.agg (dy x)] H λ v H'=>AN H' mp lv (ws.set n.toNat x)/\Fr (On (aC lv)) H H':=by
 refine q9e ?_;obtain⟨H1,e1,a,-,e⟩:=cE H (OR (dy x) yp);have ln:=fq e (lj x);have l0:Op.ae [.ptr D 0] H1=B1 (.ptr mp 0):=by rw[zh (xf (h.em a).row)];rfl
 simp only[aa,bc,q9f,<-e1,vg,qv,l0,ln];refine C3.q (Wc (h.em a).me f g x) λ v j⟨i,hm,d⟩=>?_;subst i;simp only[aa,bc];exact⟨hm,(a.mono λ _ _ q=>q.elim).trans d λ z q=>.inl q⟩
def IW(H:ar)(l c s w:Int)(fs:List L8)(v:AV)(H':ar):Prop:=(¬(rH l c s w/\(fs.length:Int)<=l)/\v=.tuple [.nilp,.int .i64 2]/\Fr Em H H')\/(rH l c s w/\(fs.length:Int)<=l) /\ ∃B bs own,v=.tuple [.ptr B 0,.int .i64 0]/\fm H H' B bs (gC l c s w fs) own/\Fr Em H H'
def xbk{H:ar}(l c s w:Int){fv:AV}{fs:List L8}(hF:bX dy 8 H fv fs)(hfb:fs≠[]->aC fv<H.au):zk M VZ [.agg (eE l c s w),fv] H (IW H l c s w fs):=by
 refine xkr ?_;obtain⟨w0,w4,w12,w14,w41,R,w58,w46,w25,-,w40,S,-,w39⟩:=Sx M ⟨B5,VZ⟩;have⟨H1,e1,Y,n1,g1⟩:=cE H (OR (eE l c s w) AJ);have ls:∀{o:ar}(k:Nat),Fr Em H1 o->Op.ae [.ptr H.au k] o=(eE l c s w)[k]?:=λ k f=>zh (xf (by rw[f.ah _ (by omega) id];exact g1)) k;have l0:Op.ae [.ptr H.au 0] H1=B1 (.int .i64 l):=ls 0 (Fr.refl _);have l1:Op.ae [.ptr H.au 1] H1=B1 (.int .i64 c):=ls 1 (Fr.refl _);simp only[aa,bc,w0,<-e1,l0,l1];refine C3.q (xen l c) λ v j⟨F,hv⟩=>?_;rcases hv with⟨U,rfl⟩|⟨U,D,mp,lv,ev,rfl,dr,lod⟩
 .have t2:¬(2:Int)=0:=by decide
  simp only[aa,bc,xp,w4,t2];exact .inl ⟨λ q=>U q.1.1,rfl,Y.trans F λ _ q=>.inl q⟩
 have t0:=xg (show(0:Int)=0 from rfl);have hd':=U;have⟨⟨m1,m2⟩,T,c2⟩:=hd';have P:Op.ae [.ptr H.au 0] j=B1 (.int .i64 l):=ls 0 F;have t:=hF.len
 by_cases qf:l<((fs.length:Nat):Int)
 .simp only[aa,bc,xp,w4,t,P,xg qf];exact .inl ⟨λ q=>by have:=q.2;omega,rfl,Y.trans F λ _ q=>.inl q⟩
 have q0:=qf;have bd:Op.build [.nilp,.nils,.nils,.int .i64 0] [(0,1),(3,1)] [.ptr D 0,.int .i64 l]=B1 (.agg [.ptr D 0,.nils,.nils,.int .i64 l]):=rfl;have⟨C,e3,f3,n3,g3⟩:=cE j (OR [.ptr D 0,.nils,.nils,.int .i64 l] Mf);have p:Fr Em H1 C:=F.trans f3 λ _ q=>q.elim;have su:Op.ae [.ptr H.au 1] C=B1 (.int .i64 c):=ls 1 p;have m12:=F.au;have d3:=dr.em f3;have i3:K1 H C j.au D mp lv ev .nils l c s w [] (λ z=>if z=j.au then 0 else 1) :=
  ⟨g3,by omega,d3,Own.nil ..,λ k A hA=>by simp at hA,xb rfl,λ z h=>by rw[qt (by have:=dr.low h;omega)],λ z h=>absurd rfl h.1,λ k A hA=>by simp at hA,by omega,λ z h=>by have:=lod z h;omega,λ z h=>absurd rfl h.1,Y.trans p λ _ q=>q.elim⟩
 simp only[aa,bc,xp,w4,t,P,q0,w12,bd,<-e3,w14,su];obtain⟨a,rfl⟩:=jt (show 0<=c by omega)
 -- what the loop leaves of the message's box
 refine dD.intro (λ k E o=>∃(ad:List Na)(nv:AV)(own:Nat->Nat),E=[(38,.int .i64 (ad.length:Int)),(37,.int .i64 ((a:Nat):Int)),(2,.ptr H.au 0),(8,.ptr j.au 0),(1,fv),(6,.ptr D 0)]/\k=a-ad.length/\ad.length<=a/\K1 H o j.au D mp lv ev nv l a s w ad own/\(0<ad.length->sy s w)/\o.get H.au=B1 (OR (eE l a s w) AJ)/\C.au<=o.au /\ ∀z,aN nv z->C.au<=z) ?_ ?_
 .exact ⟨_,_,⟨[],.nils,_,rfl,rfl,x9 _,i3,λ q=>absurd q (by simp),by rw[p.ah _ (by omega) id];exact g1,qm _,λ z h=>absurd rfl h.1⟩,by simp only[aa,bc];rfl⟩
 rintro k E o ⟨ad,nv,own,rfl,rfl,hi,hI,hok,hg,O,N⟩;rcases xx ad.length a with K|hge
 .have q1:(ad.length:Int)<((a:Nat):Int):=by omega
  have ldS:=fq (e:=AJ) hg (show(eE l (a:Int) s w).length=4 from rfl);simp only[aa,bc,R,q1,w25,ldS];refine C3.q (xcz (ad.length:Int) l (a:Int) s w) λ v Ha hv=>?_;rcases hv with⟨u,rfl,fa⟩|⟨u,r,b,sv,rfl,L⟩
  .have t2:¬(2:Int)=0:=by decide
   simp only[aa,bc,xp,S,t2];refine .inl ⟨λ q=>u ⟨q.1.2,by omega,by omega,by omega,m1,m2⟩,rfl,hI.fr.trans fa λ _ q=>.inl q⟩
  .have lB:Op.ae [.ptr j.au 1] Ha=B1 nv:=by
    have fa:=L.bk.fr;rw[zh (xf (by rw[fa.ah _ hI.lt id];exact hI.row))];rfl
   have wj:aj .i64 ((ad.length:Int)+1)=((ad.length+1:Nat):Int):=by rw[kc (by omega) (by omega)];omega
   simp only[aa,bc,xp,S,w39,qv,lB];refine hI.step (by omega) (A:=⟨r,b,sv,.nils,[]⟩) L λ v2 Hb⟨Hc,sc,⟨Q,hc⟩,fc,oc⟩=>?_;have hgc:Hc.get H.au=B1 (OR (eE l (a:Int) s w) AJ):=by
    rw[fc.ah _ (by omega) (λ q=>q.elim (λ q=>by omega) λ q=>by have:=N _ q;omega)];exact hg
   simp only[aa,bc,sc,w40,wj];refine⟨_,_,⟨ad ++ [⟨r,b,sv,.nils,[]⟩],v2,Q,rfl,rfl,by rw[xe];simp;omega,hc,λ _=>u.1,hgc,ze O fc.au,λ z h=>(oc z h).elim (N z) λ q=>ze O q⟩,by simp only[aa,bc,xe,zq,yx],by rw[xe];simp;omega⟩
 .have hiw:ad.length=a:=by omega
  have q1:¬(ad.length:Int)<((a:Nat):Int):=by omega
  have y:=hI.done (by omega) (by omega) (by omega);have G:=hI.fr;have hfl:(fs.length:Int)<=l:=by omega
  have ml:(fN l (a:Int) s w).m.length=l.toNat:=by show(JV l.toNat _).length=_;rw[je]
  simp only[aa,bc,R,q1,w41,t];refine dD.intro (λ k E g=>∃i:Nat,E=[(62,.int .i64 (i:Int)),(61,.int .i64 ((fs.length:Nat):Int)),(60,fv),(8,.ptr j.au 0),(6,.ptr D 0)]/\k=fs.length-i/\i<=fs.length/\fm H g j.au ⟨D,mp,lv,ev,JV l.toNat (jE,.nils),nv,.nils,ad⟩ {fN l (a:Int) s w with m:=lC (fN l (a:Int) s w).m (fs.take i) 0} own/\Fr Em H g) ?_ ?_
  .exact ⟨_,_,⟨0,rfl,rfl,x9 _,y,G⟩,by simp only[aa,bc]⟩
  rintro k E g ⟨i,rfl,rfl,hi,y,G⟩;rcases xx i fs.length with K|hge
  .have T:(i:Int)<((fs.length:Nat):Int):=by omega
   obtain⟨x,hx⟩:∃x,fs[i]? = B1 x:=⟨_,qy K⟩
   have sl:bX dy 8 g fv fs:=Sl.em hF G;have ix:=sl.idx hx (z:=(i:Int)) rfl .i64;have ld:=sl.av lj (by decide) hx;obtain⟨V,X⟩:∃Z,Z=(g.alloc (OR [.int .u64 0,.int .u64 0,.int .u64 0,.int .u64 0,.int .u64 0,.int .u64 0,.int .u64 0,.int .u64 0] yp)).set g.au (OR (dy x) yp):=⟨_,rfl⟩
   have st:Op.store 8 [.ptr g.au 0,.agg (dy x)] (g.alloc (OR [.int .u64 0,.int .u64 0,.int .u64 0,.int .u64 0,.int .u64 0,.int .u64 0,.int .u64 0,.int .u64 0] yp))=B1 (.undef,V):=by
    rw[X];exact iv (xt g _) rfl (lj x) (Ae x)
   have fz:Fr Em g V:=by rw[X];exact((Fr.refl g).alloc _).set (.inr (qm _)) _
   have gz:V.get g.au=B1 (OR (dy x) yp):=by rw[X,xj]
   have lz:=fq gz (lj x);have I:=y.em fz;have wj:aj .i64 ((i:Int)+1)=((i+1:Nat):Int):=by rw[kc (by omega) (by omega)];omega
   have sml:(lC (fN l (a:Int) s w).m (fs.take i) 0).length=l.toNat:=by rw[ZN,ml]
   simp only[aa,bc,Sx,T,ix,ld,st,lz];refine C3.q (xeo I.d (n:=(i:Int)) (by omega) (by show(i:Int)<((lC (fN l (a:Int) s w).m (fs.take i) 0).length:Int);rw[sml];omega) x) λ v Hw⟨hm,fw⟩=>?_;simp only[aa,bc,Sx,wj];have lz':H.au<=aC lv:=y.lo _ (.inr (.inl (.inr (.inr (.inl rfl)))));rw[FO]at hm;have W:lC (fN l (a:Int) s w).m (fs.take (i+1)) 0=(lC (fN l (a:Int) s w).m (fs.take i) 0).set i x:=by rw[_c fs _ 0 i hx,yr]
   have hB2:=I.lC hm (by rw[xq]) fw;refine⟨_,_,⟨i+1,rfl,rfl,by omega,by rw[W];exact hB2,(G.em fz).trans fw λ z(q:z=aC lv)=>.inr (by rw[q];exact lz')⟩,by simp only[aa,bc],by omega⟩
  .have J:i=fs.length:=by omega
   have T:¬(i:Int)<((fs.length:Nat):Int):=by omega
   simp only[aa,bc,Sx,T];rw[J,L6]at y;exact .inr ⟨⟨⟨U,hok (by omega)⟩,hfl⟩,_,_,own,rfl,y,G⟩
def xkp{l c s w:Int}(fs:List L8){V:Int->L8}(h:rH l c s w):BuI (gC l c s w fs) V:=ad5 h (by show(lC (JV l.toNat L8.zero) fs 0).length=_;rw[ZN,je])
def xko{l c s w:Int}{fs:List L8}:BC (gC l c s w fs) 0:=by
 have h:=Du (l:=l) (c:=c) (s:=s) (w:=w);exact⟨h.fl,h.no,h.wt⟩
def BX:∀(fs m:List L8)(i:Nat),(∀x∈m,x.u)->(∀x∈fs,x.u) -> ∀x∈lC m fs i,x.u
 |[],m,i,hm,_=>hm
 |y::r,m,i,hm,hf=>by
  unfold lC;exact BX r _ _ (λ x q=>(FF q).elim (hm x) λ e=>e▸hf y (Js ..)) λ x q=>hf x (ww _ q)
def xkq{l c s w:Int}{fs:List L8}(a:∀x∈fs,x.u):yT (gC l c s w fs):=by
 refine⟨BX fs _ 0 (λ x q=>?_) a,λ n q=>?_,.nil⟩
 .rw [M0 (show x∈JV l.toNat L8.zero from q)];exact L8.iG
 .obtain ⟨k,hk,rfl⟩:=FI.1 (show n∈pL l s w c.toNat from q);intro e he;rw[M0 (show e∈JV (s.toNat*w.toNat) En.zero from he)];exact En.oT
end Go.Am
namespace Go.Am
open Go.Proofs Ca
open Lang (ints)
variable{M:ak}[MK M]
def Jo(e0:Int)(H0 H:ar)(r b:Nat)(sv bv:AV)(a:No×List Mg)(v:AV)(H':ar):Prop:=(∃ov,v=.tuple [ov,.int .i64 e0]/\mL H H' ov a.2)/\rX H0 H r b sv bv a.1 H'
def gM(n:No)(line:Int):Int:=if line<0\/n.lines<=line then 2 else match n.c.find line with
 |none=>20
 |some _=>0
section
variable{H0 H:ar}{r b:Nat}{sv bv:AV}{n:No}{ks:List Nat}
def xhs(h:dc H0 H r b sv bv n ks)(a:CI n.lines n.c)(hk:n.aK.length<=900000)(line:Int):zk M Ss [.ptr r 0,.int .i64 line] H (Jo (gM n line) H0 H r b sv bv (n.da line)):=by
 refine q0l ?_;obtain⟨w0,w2,P,d,k,Q⟩:=q0m M ⟨B5,Ss⟩
 by_cases f:line<0
 .have i:n.da line=(n,[]):=by unfold No.da;rw[xb (.inl f)]
  rw[i,show gM n line=2 from xb (.inl f)];simp only[aa,bc,w0,w2,vg,f];exact⟨⟨.nils,rfl,mL.nil ..⟩,h.same (Fr.refl _)⟩
 by_cases t:n.lines<=line
 .have i:n.da line=(n,[]):=by unfold No.da;rw[xb (.inr t)]
  rw[i,show gM n line=2 from xb (.inr t)];simp only[aa,bc,w0,w2,vg,f,qv,h.l1,t];exact⟨⟨.nils,rfl,mL.nil ..⟩,h.same (Fr.refl _)⟩
 have hn:¬(line<0\/n.lines<=line):=λ q=>q.elim f t;simp only[aa,bc,w0,w2,vg,f,qv,h.l1,t,P,h.l2];refine C3.q (SZ h.ca a line) λ v H1⟨N,C⟩=>?_;rw[N,wo];have n1:=C.au;cases A:n.c.find line with
 |none =>
  have i:n.da line=(n,[]):=by unfold No.da;rw[qt hn,A]
  rw[i,show gM n line=20 by unfold gM;rw[qt hn,A]];have U:Fr Em H ((H1.alloc (OR (aD .zero) xv)).set H1.au (OR (aD .zero) xv)):=C.trans (yH _ _) λ _ q=>q.elim;simp only[aa,bc,xp,Option.getD_none,LZ,eZ,jS,d];exact⟨⟨.nils,rfl,mL.nil ..⟩,h.same U⟩
 |some x =>
  obtain⟨n',en⟩:∃n',n'=(if x.r ||x.w then n.iW 4 else n):=⟨_,rfl⟩
  have i:n.da line=No.gone {n' with c:=(n'.c.drop line).1} (n'.c.drop line).2:=by
   unfold No.da;rw[qt hn,A,en]
  rw[i,show gM n line=0 by unfold gM;rw[qt hn,A]];obtain⟨g,e2⟩:∃X,X=(H1.alloc (OR (aD .zero) xv)).set H1.au (OR (aD x) xv):=⟨_,rfl⟩
  have S:Fr Em H1 g:=by rw[e2];exact yH _ _
  have o:Fr Em H g:=C.trans S λ _ q=>q.elim;have n2:g.au=H1.au+1:=by rw[e2];rfl
  have F:g.get H1.au=B1 (OR (aD x) xv):=by rw[e2,xj]
  have G:=h.em o;have lr:Op.ae [.ptr H1.au 2] g=B1 (.bool x.r):=zh (xf F) 2;have lw:Op.ae [.ptr H1.au 3] g=B1 (.bool x.w):=zh (xf F) 3;have hlr:=h.lt;have Z:=h.ca.lt;have hls:aC sv<H.au:=h.ca.sl.lt;have J:=h.bk.fresh;have off:∀y,H.au<=y -> ¬iK r b sv bv y:=λ y hy q=>by
   rcases q with q|q|q
   .omega
   .exact q.elim (λ q=>by omega) λ q=>by omega
   .have:=J _ q;omega
  -- behind the loss
  have fin:∀{m:ar},dc H0 m r b sv bv n' ks->CI n.lines n'.c->n'.aK=n.aK->Fr (iK r b sv bv) g m -> ∀{E:Env},lk E 0=B1 (.ptr r 0)->lk E 1=B1 (.int .i64 line)->lk E 6=B1 (.ptr H1.au 0) ->
   W M ⟨B5,Ss⟩ (q0k 33) B4 (eX M [.tmp 4,.tmp 5] (vK (Jo 0 H0 H r b sv bv (No.gone {n' with c:=(n'.c.drop line).1} (n'.c.drop line).2)))) E [] m:=by
   intro m z e hb j E q0 f q6;simp only[aa,bc,Q,q0,f,q6,qv,z.l2];refine C3.q (Zz z.ca e line) λ v l⟨N,Y,u⟩=>?_;rw[N];unfold yP;have n4:=u.au;have nc:=j.au;have gc:m.get H1.au=B1 (OR (aD x) xv):=by rw[j.ah _ (by omega) (off _ (by omega))];exact F
   have V:l.get H1.au=B1 (OR (aD x) xv):=by rw[u.ah _ (by omega) (λ q=>off H1.au (by omega) (.inr (.inl q)))];exact gc
   have s5:=iv V (jx _) (jx (n'.c.drop line).2) (zY _);have O:=fq (xj l H1.au (OR (aD (n'.c.drop line).2) xv)) (jx _);have T:Fr (On H1.au) l (l.set H1.au (OR (aD (n'.c.drop line).2) xv)):=(Fr.refl l).set (W:=On H1.au) (.inl rfl) _;have K:=z.iI Y u (by rw[(Ny ..).1];exact z.len);have L:=K.off T (λ x(hx:x=H1.au)=>by rw[hx];exact⟨by have:=h.bk.fr.au;omega,off _ (by omega)⟩);have p:Fr (iK r b sv bv) H (l.set H1.au (OR (aD (n'.c.drop line).2) xv)):=(jZ (jZ (nq o) j) (wR u)).set (.inr (by omega)) _;simp only[aa,bc,xp,s5,O];refine C3.q (um L (by show n'.aK.length<=_;rw[hb];exact hk) _ (Dl e)) λ v H6⟨hm,ht⟩=>?_;simp only[aa,bc];exact⟨⟨_,rfl,(hm.from p.au).ms⟩,ht.from p⟩
  cases hr:x.r with
  |true =>
   rw[hr]at lr en;have en:n'=n.iW 4:=en;simp only[aa,bc,xp,wh,vx,eZ,jS,<-e2,d,k,lr];refine C3.q (JH G 4) λ _ R⟨I,D⟩=>?_;simp only[aa,bc];refine fin (by rw[en];exact I) (by rw[en];exact a.discard) (by rw[en];rfl) D ?_ ?_ ?_
   .rfl
   .rfl
   .rfl
  |false =>
   rw[hr]at lr;cases hw:x.w with
   |true =>
    rw[hr,hw]at en;rw[hw]at lw;have en:n'=n.iW 4:=en;simp only[aa,bc,xp,wh,vx,eZ,jS,<-e2,d,k,lr,lw];refine C3.q (JH G 4) λ _ R⟨I,D⟩=>?_;simp only[aa,bc];refine fin (by rw[en];exact I) (by rw[en];exact a.discard) (by rw[en];rfl) D ?_ ?_ ?_
    .rfl
    .rfl
    .rfl
   |false =>
    rw[hr,hw]at en;rw[hw]at lw;have en:n'=n:=en;simp only[aa,bc,xp,wh,vx,eZ,jS,<-e2,d,k,lr,lw];refine fin (by rw[en];exact G) (by rw[en];exact a) (by rw[en]) (Fr.refl _) ?_ ?_ ?_
    .rfl
    .rfl
    .rfl
end
section
variable{H0 H:ar}{B:Nat}{s:Bs}{b:Bu}{own:Nat->Nat}{c:Int}{n:No}
def Ec(h:fm H0 H B s b own)(hb:BB b)(g:0<=c)(hn:b.ns[c.toNat]? = B1 n)(l:Int):zk M Qu [.ptr B 0,.int .i64 c,.int .i64 l] H λ v H'=>v=.int .i64 (gM n l)/\kX H0 H B s (b.put c.toNat (n.da l)) H':=by
 refine qs0 ?_;obtain⟨w0,w4,e⟩:=X_ M ⟨B5,Qu⟩;simp only[aa,bc,w0];refine C3.q (I6 h hb.N4 c) λ v H1⟨j,i,_⟩=>?_;have⟨A,f,m⟩:=i (zX hn g);rw[m,j];have w:=xg (show(0:Int)=0 from rfl);have⟨ni,bk,us⟩:=hb.no _ n hn;have o:=h.no _ n A hn f;simp only[aa,bc,xp,w4,e];refine C3.q (xhs o ni.ci bk l) λ v p⟨⟨u,d,a⟩,k⟩=>?_;rw[d];simp only[aa,bc,xp];refine C3.q (h.out hb hn f k a (by have:=xbx n l;omega) (Q:=λ _ H'=>kX H0 H B s (b.put c.toNat (n.da l)) H') (r:=.nils) id) λ v t hp=>?_;simp only[aa,bc];exact hp
def ad4(h:fm H0 H B s b own)(hb:BB b)(d:¬(0<=c/\c<b.ns.length))(l:Int):zk M Qu [.ptr B 0,.int .i64 c,.int .i64 l] H λ v H'=>v=.int .i64 2/\H'=H:=by
 refine qs0 ?_;obtain⟨w0,w4,g⟩:=X_ M ⟨B5,Qu⟩;simp only[aa,bc,w0];refine C3.q (I6 h hb.N4 c) λ v H1⟨e,_,a⟩=>?_;rw[a d,e];have f:¬(2:Int)=0:=by decide
 simp only[aa,bc,xp,w4,f]
def xjz(h:fm H0 H B s b own)(hb:BB b)(d:¬(0<=c/\c<b.ns.length))(k:Int):zk M N6 [.ptr B 0,.int .i64 c,.int .i64 k] H λ v H'=>v=.int .i64 2/\Fr Em H H':=by
 refine U8 ?_;obtain⟨H1,e1,a,-,-⟩:=cE H (OR [.int .i64 k] bU);have ca:AV.cells (.int .i64 k)=[.int .i64 k]:=rfl;have mk:Op.bt Jx 0 [.ptr H.au 0]=B1 (.fn (.func Jx) [] [.ptr H.au 0]):=rfl;simp only[aa,bc,Zs,ca,<-e1];refine C3.q (IF (h.em a) hb d _) λ v g⟨f,e⟩=>?_;rw[e];subst f;simp only[aa,bc];exact a
def xj0(h:fm H0 H B s b own)(hb:BB b)(f:0<=c)(hn:b.ns[c.toNat]? = B1 n)(k:Int):zk M N6 [.ptr B 0,.int .i64 c,.int .i64 k] H λ v H'=>v=.int .i64 (n.abort k).2/\kX H0 H B s (b.put c.toNat ((n.abort k).1,[])) H':=by
 refine U8 ?_;obtain⟨H1,e1,a,-,g⟩:=cE H (OR [.int .i64 k] bU);have ca:AV.cells (.int .i64 k)=[.int .i64 k]:=rfl;have l1:Op.ae [.ptr H.au 0] H1=B1 (.int .i64 k):=zh (xf g) 0;have mk:Op.bt Jx 0 [.ptr H.au 0]=B1 (.fn (.func Jx) [] [.ptr H.au 0]):=rfl;simp only[aa,bc,Zs,ca,<-e1];have d:=h.em a;refine C3.q (T3 (H1:=H1) (e:=.int .i64 (n.abort k).2) (n':=(n.abort k).1) d hb f hn (cap:=[.ptr H.au 0]) λ{A}i=>tr (d.no _ n A hn i) l1) λ v l⟨j,hp⟩=>?_;simp only[aa,bc];exact⟨j,kX.pre a hp⟩
end
end Go.Am
namespace Go.Am
open Lang Go.Proofs
structure Ck where
 p:Nat
 f:Nat
 l:Nat
 sp:Nat
 cv:AV
 rv:AV
 o:Nat->Nat
def wide(ks:List Ck)(n:Nat):List Ck:=ks.map λ A'=>{A' with o:=Go.Am.aL A'.o n 0}
def Ck.at(A:Ck)(Hb H:ar)(B:Nat)(bs:Bs)(k:Nat):SX:=⟨H,A.o,hJ B bs,A.p,A.f,A.l,A.sp,B,A.cv,Hb,k⟩
def HA{ks:List Ck}{n:Nat}{j:Nat}{b:Ck}(e:(wide ks n)[j]? = B1 b):∃a,ks[j]? = B1 a/\b = {a with o:=Go.Am.aL a.o n 0}:=by
 unfold wide at e;rw[xk]at e;have⟨a,e1,e2⟩:=xm.1 e;exact⟨a,e1,e2.symm⟩
def G7(b:Bu)(i:Nat):(b.uE i).ns.length=b.ns.length:=by
 unfold Bu.uE
 repeat' split
 all_goals first|rfl|exact xq
def NT(b:Bu)(t:Bt):(b.step t).ns.length=b.ns.length:=by
 unfold Bu.step
 repeat' split
 all_goals first|rfl|exact G7 _ _|exact xq
def ar.low(H:ar)(n:Nat):ar:=⟨H.t,n⟩
def Lu(H:ar){n:Nat}(h:n<=H.au):Fr Em (H.low n) H:=⟨h,λ _ _ _=>rfl⟩
def mD.yB{e:Nat}{H0 H H':ar}{v:AV}{xs:List Nat}{W:Nat->Prop}(h:mD e H0 H v xs)(f:Fr W H H')(hw:∀b,aN v b -> ¬W b):mD e (H'.low H0.au) H' v xs:=by
 refine⟨?_,Lu _ (ze h.fr.au f.au)⟩;rcases h.own with q|⟨b,m,rest,rfl,a,c,d,g⟩
 .exact .inl q
 .exact .inr ⟨b,m,rest,rfl,qn a f.au,c,d,by rw[f.ah b a (hw b ⟨by simp,rfl⟩)];exact g⟩
def dc.yB{H0 H H':ar}{r b:Nat}{sv bv:AV}{n:No}{ks:List Nat}{W:Nat->Prop}(h:dc H0 H r b sv bv n ks)(f:Fr W H H')(hw:∀x,W x -> ¬iK r b sv bv x):dc (H'.low H0.au) H' r b sv bv n ks :=
 ⟨by rw[f.ah _ h.lt λ q=>hw _ q (.inl rfl)];exact h.row,qn h.lt f.au,h.ca.fr f (λ q=>hw _ q (.inr (.inl (.inl rfl)))) (λ q=>hw _ q (.inr (.inl (.inr rfl)))),h.bk.yB f (λ x a q=>hw x q (.inr (.inr a))),h.eq,h.lr,h.lb,h.ls,h.n1,h.n2,h.o1,h.o2,h.o3,h.li,h.len⟩
def fm.yB{H0 H H':ar}{B:Nat}{s:Bs}{b:Bu}{own:Nat->Nat}{W:Nat->Prop}(h:fm H0 H B s b own)(f:Fr W H H')(hw:∀z,W z -> ¬hJ B s z):fm (H'.low H0.au) H' B s b own :=
 ⟨by rw[f.ah _ h.lt (λ q=>hw _ q (.inl rfl))];exact h.row,qn h.lt f.au,h.d.fr f (λ z q w=>hw z q (.inr (.inl w))),h.dx,Own.fr h.nv f (λ z a q=>hw z q (.inr (.inr (.inl a)))),
  λ c n A hn e=>(h.no c n A hn e).yB f λ z q w=>hw z q (.inr (.inr (.inr (.inr ⟨c,A,e,w⟩)))),h.al,h.fl.fr f (λ z a q=>hw z q (.inr (.inr (.inr (.inl a))))),h.oB,h.oD,h.oN,h.oF,h.oC,h.lo⟩
end Go.Am
namespace Go.Am
open Lang
structure KN(s t:CS):Prop where
 id:t.c.id=s.c.id
 ns:t.b.ns.length=s.b.ns.length
 cd:t.c.code=s.c.code
 ln:t.c.lines=s.c.lines
namespace CS
def KN.trans{s t u:CS}(h:KN s t)(a:KN t u):KN s u:=⟨a.id.trans h.id,a.ns.trans h.ns,a.cd.trans h.cd,a.ln.trans h.ln⟩
def KN.rf(s:CS):KN s s:=⟨rfl,rfl,rfl,rfl⟩
def eP(s:CS)(k n v o:Int):KN s (s.ia k n v o):=⟨rfl,NT _ _,rfl,rfl⟩
def YE(s:CS):KN s s.aq:=by unfold aq;simp only;split<;>exact⟨rfl,rfl,rfl,rfl⟩
def oI{s t u:CS}(h:KN s t)(e1:u.c.id=t.c.id)(e2:u.b=t.b)(a:u.c.code=t.c.code)(d:u.c.lines=t.c.lines):KN s u:=⟨e1.trans h.id,(congrArg (λ b=>b.ns.length) e2).trans h.ns,a.trans h.cd,d.trans h.ln⟩
def Uq(s:CS):KN s s.bE:=by
 have h:=YE s;exact oI (t:=s.aq) h (by unfold bE leave fA;rfl) (by unfold bE leave fA;rfl) (by unfold bE leave fA;rfl) (by unfold bE leave fA;rfl)
def xl0(s:CS):KN s s.cN:=by
 unfold cN
 repeat' split
 all_goals first|exact⟨rfl,rfl,rfl,rfl⟩|exact oI (eP s 5 7 0 0) rfl rfl rfl rfl
def IP(s:CS)(f:oA)(a:Int):KN s (s.lO f a):=by
 unfold lO;simp only
 repeat' split
 all_goals first|exact⟨rfl,rfl,rfl,rfl⟩|exact oI (eP s 0 a 0 0) rfl rfl rfl rfl
def ae3(s:CS)(f:oA)(a:Int):KN s (s.iJ f a):=by
 unfold iJ;simp only
 repeat' split
 all_goals first|exact⟨rfl,rfl,rfl,rfl⟩|exact oI (eP s 1 a f.value 0) rfl rfl rfl rfl
def MX(s:CS):KN s s.ends:=by
 unfold ends;simp only
 repeat' split
 all_goals first|exact⟨rfl,rfl,rfl,rfl⟩|exact KN.trans (eP s 4 0 0 0) (Uq _)
def HE(s:CS):KN s s.nP:=by
 unfold nP;simp only
 repeat' split
 all_goals first|exact⟨rfl,rfl,rfl,rfl⟩|exact xl0 s|exact IP s _ _|exact ae3 s _ _|exact MX s
def EZ(s:CS):KN s s.jI:=by
 unfold jI;simp only
 repeat' split
 all_goals first|exact⟨rfl,rfl,rfl,rfl⟩|exact⟨rfl,NT _ _,rfl,rfl⟩
def Im(s:CS):KN s s.og:=by
 unfold og;simp only
 repeat' split
 all_goals exact oI (eP s 2 0 _ _) rfl rfl rfl rfl
def ah7(s:CS):KN s s.eT:=by
 unfold eT
 repeat' split
 all_goals first|exact⟨rfl,rfl,rfl,rfl⟩|exact Uq s
def fk{p:Prop}[Decidable p]{s a b:CS}(c:KN s a)(d:KN s b):KN s (if p then a else b):=by split;exact c;exact d
def PT(s:CS)(v:Int)(q:Bool):KN s (s.mX v q):=by
 unfold mX;simp only;have a:KN s {s with c:={s.c with so:=s.c.so.eR v q}}:=⟨rfl,rfl,rfl,rfl⟩
 generalize({s with c:={s.c with so:=s.c.so.eR v q}}:CS)=t at *;have hu:KN s (if s.c.so.aE=B4/\(s.c.so.eR v q).aE=B2 then t.aq else t):=fk (KN.trans a (YE _)) a;generalize(if s.c.so.aE=B4/\(s.c.so.eR v q).aE=B2 then t.aq else t)=u at *;have hw:KN s (if s.c.so.points<u.c.so.points then u.tell 4 0 0 0 else u):=fk (oI hu rfl rfl rfl rfl) hu;generalize(if s.c.so.points<u.c.so.points then u.tell 4 0 0 0 else u)=w at *;exact fk hw (KN.trans hw (ah7 _))
def HC(s:CS)(v:Int)(q:Bool):KN s (s.given v q):=by
 rw[Wr];have h:=PT {s with c:={s.c with held:=s.c.held ||q && decide (s.c.so.want.a=0)}} v q;exact⟨h.id,h.ns,h.cd,h.ln⟩
def I3(s:CS):KN s s.nV:=by
 unfold nV;simp only
 repeat' split
 all_goals first|exact KN.rf s|exact KN.trans (eP s _ _ _ _) (HC _ _ _)|exact eP s _ _ _ _
def GD(s:CS):KN s s.aK:=by
 unfold aK gq;simp only
 repeat' split
 all_goals first|exact oI (eP s _ _ _ _) rfl rfl rfl rfl|exact KN.trans (eP s _ _ _ _) (Uq _)
def xix(s:CS)(n:Int):KN s (s.gq (·.ph n)):=by
 unfold gq;exact fk (oI (eP s 1 0 (aj .u64 (s.c.seq+2)) 0) rfl rfl rfl rfl) (eP s 1 0 _ 0)
def xiw(s:CS):KN s (s.gq breaks):=by
 unfold gq;exact fk (oI (eP s 1 0 (aj .u64 (s.c.seq+2)) 0) rfl rfl rfl rfl) (eP s 1 0 _ 0)
def Pq(s:CS):KN s s.act:=by
 unfold act;refine fk (HE s) (fk (EZ s) (fk ?_ (fk ?_ (fk ?_ (fk (Im s) (fk (I3 s) (fk (xix s 8) (fk (KN.trans (eP s 4 0 0 0) (Uq _)) (fk (GD s) (fk (xiw s) (KN.rf s)))))))))))
 .refine fk (fk (oI (KN.trans (eP s 0 1 0 0) (eP _ 5 6 0 0)) rfl rfl rfl rfl) (oI (eP s 0 1 0 0) rfl rfl rfl rfl)) (eP s 0 1 0 0)
 .refine fk (fk ⟨rfl,(NT _ _).trans (NT _ _),rfl,rfl⟩ (oI (eP s 0 0 0 0) rfl rfl rfl rfl)) (eP s 0 0 0 0)
 .exact fk (oI (eP s 0 0 0 0) rfl rfl rfl rfl) (eP s 0 0 0 0)
def Dc(s:CS):KN s s.step.1:=by
 unfold step;split
 .exact KN.rf s
 split
 .exact KN.rf s
 split
 .exact ⟨rfl,rfl,rfl,rfl⟩
 .exact Pq s
end CS
end Go.Am
namespace Go.Am
open Lang
def OL(n:Nat)(s t:CS):Prop:=∃l,t.o=s.o++l/\l.length<=n /\ ∀e∈l,e.core=s.c.id
def OL.same{n:Nat}{s t:CS}(e:t.o=s.o):OL n s t:=⟨[],by rw[e,zt],x9 _,λ _ h=>by cases h⟩
def OL.one{n:Nat}{s t:CS}{x:fF}(e:t.o=s.o ++ [x])(h:x.core=s.c.id):OL (n+1) s t:=⟨[x],e,by rw[List.length_singleton];omega,λ y q=>by rw[j0.1 q];exact h⟩
def OL.of{n:Nat}{s t u:CS}(h:OL n s t)(e:u.o=t.o):OL n s u:=by unfold OL at *;rw[e];exact h
def OL.le{n m:Nat}{s t:CS}(h:OL n s t)(q:n<=m):OL m s t:=by have⟨l,a,b,c⟩:=h;exact⟨l,a,ze b q,c⟩
def OL.trans{n m:Nat}{s t u:CS}(h:OL n s t)(g:OL m t u)(i:t.c.id=s.c.id):OL (n+m) s u:=by
 have⟨l,a,b,c⟩:=h;have⟨j,d,k,f⟩:=g;exact⟨l++j,by rw[d,a,zy],by rw[xe];omega,λ e q=>(z6.1 q).elim (c e) λ q=>(f e q).trans i⟩
namespace CS
def Fv(c:Co)(k a v d:Int):(MI c k a v d).core=c.id:=by unfold MI;split<;>rfl
def _t(s:CS):OL 1 s s.aq:=by unfold aq;simp only;split;exact OL.same rfl;exact OL.one rfl (Fv ..)
def TP(s:CS):OL 1 s s.bE:=(_t s).of rfl
def _l(s:CS):OL 1 s s.breaks:=OL.one rfl (Fv ..)
def xmj(s:CS):OL 1 s s.cN:=by
 unfold cN
 repeat' split
 all_goals first|exact OL.same rfl|exact OL.one rfl (Fv ..)
def IG(s:CS)(f:oA)(a:Int):OL 1 s (s.lO f a):=by
 unfold lO;simp only
 repeat' split
 all_goals first|exact OL.same rfl|exact OL.one rfl (Fv ..)
def Fq(s:CS)(f:oA)(a:Int):OL 1 s (s.iJ f a):=by
 unfold iJ;simp only
 repeat' split
 all_goals first|exact OL.same rfl|exact OL.one rfl (Fv ..)
def Kq(s:CS):OL 1 s s.ends:=by
 unfold ends;simp only
 repeat' split
 all_goals first|exact OL.same rfl|exact TP _
def Gx(s:CS):OL 1 s s.nP:=by
 unfold nP;simp only
 repeat' split
 all_goals first|exact OL.same rfl|exact xmj s|exact IG s _ _|exact Fq s _ _|exact Kq s
def Ej(s:CS):OL 1 s s.jI:=by
 unfold jI;simp only
 repeat' split
 all_goals exact OL.one rfl (Fv ..)
def Gk(s:CS):OL 1 s s.og:=by
 unfold og;simp only
 repeat' split
 all_goals first|exact OL.same rfl|exact OL.one rfl (Fv ..)
def Dr(s:CS):OL 1 s s.eT:=by
 unfold eT
 repeat' split
 all_goals first|exact OL.same rfl|exact OL.one rfl (Fv ..)|exact TP s|exact _l s
def fh{p:Prop}[Decidable p]{n:Nat}{s a b:CS}(c:OL n s a)(d:OL n s b):OL n s (if p then a else b):=by split;exact c;exact d
def R4(s:CS)(v:Int)(q:Bool):OL 3 s (s.mX v q):=by
 unfold mX;simp only;have a:OL 0 s {s with c:={s.c with so:=s.c.so.eR v q}}:=OL.same rfl;have it:({s with c:={s.c with so:=s.c.so.eR v q}}:CS).c.id=s.c.id:=rfl;generalize({s with c:={s.c with so:=s.c.so.eR v q}}:CS)=t at *;have hu:OL 1 s (if s.c.so.aE=B4/\(s.c.so.eR v q).aE=B2 then t.aq else t):=fh (a.trans (_t _) it) (a.le (by decide));have b:(if s.c.so.aE=B4/\(s.c.so.eR v q).aE=B2 then t.aq else t).c.id=s.c.id:=by split;exact(YE t).id.trans it;exact it
 generalize(if s.c.so.aE=B4/\(s.c.so.eR v q).aE=B2 then t.aq else t)=u at *;have hw:OL 2 s (if s.c.so.points<u.c.so.points then u.tell 4 0 0 0 else u):=fh (hu.trans (OL.one (n:=0) rfl (Fv ..)) b) (hu.le (by decide));have d:(if s.c.so.points<u.c.so.points then u.tell 4 0 0 0 else u).c.id=s.c.id:=by split<;>exact b
 generalize(if s.c.so.points<u.c.so.points then u.tell 4 0 0 0 else u)=w at *;exact fh (hw.le (by decide)) (hw.trans (Dr _) d)
def GZ(s:CS)(v:Int)(q:Bool):OL 3 s (s.given v q):=by
 rw[Wr];exact R4 {s with c:={s.c with held:=s.c.held ||q && decide (s.c.so.want.a=0)}} v q
def Hp(s:CS):OL 3 s s.nV:=by
 unfold nV;simp only
 repeat' split
 all_goals first|exact OL.same rfl|exact GZ (s.ia _ _ _ _) _ _
def GG(s:CS):OL 1 s s.aK:=by
 unfold aK gq;simp only
 repeat' split
 all_goals first|exact OL.same rfl|exact TP (s.ia _ _ _ _)
def xjb(s:CS)(n:Int):OL 1 s (s.gq (·.ph n)):=by
 unfold gq;exact fh (OL.same rfl) (OL.same rfl)
def xja(s:CS):OL 1 s (s.gq breaks):=by
 unfold gq;exact fh (_l (s.ia 1 0 (aj .u64 (s.c.seq+2)) 0)) (OL.same rfl)
def QH(s:CS):OL 3 s s.act:=by
 unfold act;have d:∀{t:CS},OL 1 s t->OL 3 s t:=λ h=>h.le (by decide);refine fh (d (Gx s)) (fh (d (Ej s)) (fh ?_ (fh ?_ (fh ?_ (fh (d (Gk s)) (fh (Hp s) (fh (d (xjb s 8)) (fh (d (TP (s.ia 4 0 0 0))) (fh (d (GG s)) (fh (d (xja s)) (OL.same rfl)))))))))))
 .exact fh (fh (OL.same rfl) (OL.same rfl)) (OL.same rfl)
 .exact fh (fh (OL.same rfl) (OL.same rfl)) (OL.same rfl)
 .exact fh (OL.same rfl) (OL.same rfl)
def CE(s:CS):OL 3 s s.step.1:=by
 unfold step;split
 .exact OL.same rfl
 split
 .exact OL.same rfl
 split
 .exact OL.one rfl (Fv ..)
 .exact QH s
end CS
end Go.Am
namespace Go.Am
open Lang Go.Proofs
variable{M:ak}[MK M]
def cI(b:Int):List AV:=[.int .u8 b]
def Ic(b:Int):(cI b).length=1:=rfl
noncomputable def vB(v:AV):AV:=(Op.aB 1 [B1 0,B5,B5] [v,.int .i64 8]).getD .nils
noncomputable def pK(v:AV):AV:=(Op.aB 1 [B5,B1 0,B5] [v,.int .i64 8]).getD .nils
noncomputable def wV(v:AV):Nat->AV
 |0=>v
 |i+1=>vB (wV v i)
def yS{H:ar}{v:AV}{bs:List Int}(h:bX cI 1 H v bs):∀i,8*i<=bs.length->bX cI 1 H (wV v i) (bs.drop (8*i))/\(wV v i=.nils\/aC (wV v i)=aC v)
 |0,_=>⟨h,.inr rfl⟩
 |i+1,hi=>by
  have⟨a,d⟩:=yS h i (by omega);have⟨c,f,b,g⟩:=a.from Ic (k:=8) (by rw[jg];omega) (z:=8) rfl .i64;have e:wV v (i+1)=c:=by show vB (wV v i)=c;unfold vB;rw[f];rfl
  rw[e];refine⟨by rw[Ax]at b;rw[show 8*(i+1)=8*i+8 by omega];exact b,g.imp id λ q=>?_⟩;rcases d with w|w
  .have:(bs.drop (8*i)).length=0:=by
    have:=a.len;rw[w]at this;have q:Op.dm [AV.nils]=B1 (.int .i64 0):=rfl;rw[q]at this;injection this with this;injection this with _ this;omega
   rw[jg]at this;omega
  .rw [q];exact w
def JA{H:ar}{v:AV}{bs:List Int}(h:bX cI 1 H v bs){i:Nat}(j:8*(i+1)<=bs.length):Op.aB 1 [B5,B1 0,B5] [wV v i,.int .i64 8]=B1 (pK (wV v i))/\Op.aB 1 [B1 0,B5,B5] [wV v i,.int .i64 8]=B1 (wV v (i+1))/\bX cI 1 H (pK (wV v i)) ((bs.drop (8*i)).take 8):=by
 have⟨a,g⟩:=yS h i (by omega);have⟨f,c,e,n⟩:=a.upto Ic (k:=8) (by rw[jg];omega) (z:=8) rfl .i64;have⟨d,b,l,m⟩:=a.from Ic (k:=8) (by rw[jg];omega) (z:=8) rfl .i64;have e1:pK (wV v i)=f:=by unfold pK;rw[c];rfl
 have e2:wV v (i+1)=d:=by show vB (wV v i)=d;unfold vB;rw[b];rfl
 exact⟨by rw[e1];exact c,by rw[e2];exact b,by rw[e1];exact e⟩
def xc7{H0:ar}{a:Nat}{sv:AV}{bs:List Int}(hs:bX cI 1 H0 sv bs)(K:H0.get a=B1 (OR [sv] ig))(hb:a<H0.au)(hl:bs.length<=1000000) :
 pF M NC [] [.ptr a 0] (λ _=>False) (λ z=>z=a) H0 ((N1 (bs.length / 8)).map λ i=>[pK (wV sv i)]):=by
 intro Y R S k H1 Q N u x loc I step;have⟨p1,U,J⟩:=N a (.inr rfl)
 suffices h:zk M NC [.fn (.yield Y) [] [],.ptr a 0] H1 (HX R S k (λ z=>z=a) H1 ((N1 (bs.length / 8)).map λ i=>[pK (wV sv i)]).length)by
  have⟨v,H',O,W',W,X,Z⟩:=h.elim;exact⟨v,H',W',O,W,X,Z⟩
 refine q61 ?_;rw[xu,jf];simp only[aa,bc,TQ];refine dD.intro (λ n E g=>∃(i:Nat)(V:Nat->Prop),E=[(0,.fn (.yield Y) [] []),(1,.ptr a 0)]/\n=bs.length / 8-i/\i<=bs.length / 8/\R i V g/\(∀b,V b->b<g.au/\(k b\/H1.au<=b))/\Fr (λ b=>k b\/b=a) H1 g/\g.get a=B1 (OR [wV sv i] ig)) ?_ ?_
 .exact ⟨_,_,⟨0,k,rfl,rfl,x9 _,u,λ b hb=>⟨x b hb,.inl hb⟩,Fr.refl _,by rw[U];exact K⟩,by simp only[aa,bc]⟩
 rintro n E g ⟨i,V,rfl,rfl,hi,hR,hV,r,hg⟩;have L:8*i<=bs.length:=by omega
 have D:=(yS hs i L).1.len;rw[jg]at D;have lb:Op.ae [.ptr a 0] g=B1 (wV sv i):=zh (xf hg) 0;have nF:=r.au;rcases xx i (bs.length / 8)with C|P
 .have s:(8:Int)<=((bs.length-8*i:Nat):Int):=by omega
  have⟨u1,u2,u3⟩:=JA hs (i:=i) (by omega);have⟨bb,f,o,hr,A,m,T,j⟩:=step i [pK (wV sv i)] (by rw[xk,jp C];rfl) V g hR hV r;have nb:¬V a:=λ q=>(hV a q).2.elim J λ w=>by omega
  have G:f.get a=B1 (OR [wV sv i] ig):=by rw[A.ah a (by omega) nb];exact hg
  have nf:=A.au;have l3:Op.ae [.ptr a 0] f=B1 (wV sv i):=zh (xf G) 0;have l:Fr (λ b=>k b\/b=a) H1 f:=r.trans A λ y q=>(hV y q).2.imp .inl id;have d:∀y,o y->y<f.au/\(k y\/H1.au<=y):=λ y q=>⟨(m y q).1,(m y q).2.elim (λ w=>(hV y w).2) λ w=>.inr (by omega)⟩
  simp only[aa,bc,TQ,lb,D,xg s,u1];refine C3.tH hr ?_;cases bb with
  |true =>
   have one:az (wV sv (i+1))=true:=Sl.one (yS hs (i+1) (by omega)).1;have st:=(At.st (c:=[wV sv i]) (t:=ig) ⟨G,by omega⟩ 0 one (by simp):Op.store 1 [.ptr a 0,wV sv (i+1)] f=_)
   simp only[aa,bc,TQ,l3,u2,st,List.set];have p:Fr (On a) f (f.set a (OR [wV sv (i+1)] ig)):=cj ..;have F:¬o a:=λ q=>(d a q).2.elim J λ w=>by omega
   exact⟨_,_,⟨i+1,o,rfl,rfl,by omega,loc _ _ _ _ (T rfl) (λ y H=>p.ah y (d y H).1 λ(e:y=a)=>F (by rw[<-e];exact H)) p.au,λ y q=>⟨qn (d y q).1 p.au,(d y q).2⟩,l.trans p λ y(q:y=a)=>.inl (.inr q),xj ..⟩,by simp only[aa,bc],by omega⟩
  |false =>
   simp only[aa,bc];exact⟨o,l,d,.inr (j rfl)⟩
 .have B:i=bs.length / 8:=by omega
  have s:¬(8:Int)<=((bs.length-8*i:Nat):Int):=by omega
  simp only[aa,bc,TQ,lb,D,s];exact⟨V,r,hV,.inl (by rw[<-B];exact hR)⟩
end Go.Am
namespace Go.Am
open Lang Go.Proofs
variable{M:ak}[MK M]
def Jh(a b:Int):∃n,Op.bin .or [.int .u32 a,.int .u32 b]=B1 (.int .u32 n):=⟨_,rfl⟩
noncomputable def SK(a b:Int):Int:=Classical.choose (Jh a b)
def RA(a b:Int):Op.bin .or [.int .u32 a,.int .u32 b]=B1 (.int .u32 (SK a b)):=Classical.choose_spec (Jh a b)
def vX(a:Int)(n:Nat):Int:=aj .u32 (aj .u32 a*2 ^ (min n (Bj .u32)))
def Vo(a:Int)(n:Nat):Op.bin .shl [.int .u32 (aj .u32 a),.int .u64 (n:Int)]=B1 (.int .u32 (vX a n)):=Ke ..
def IK(a:Int):Op.bin .shl [.int .u32 (aj .u32 a),.int .u64 24]=B1 (.int .u32 (vX a 24)):=Vo a 24
def G4(a:Int):Op.bin .shl [.int .u32 (aj .u32 a),.int .u64 16]=B1 (.int .u32 (vX a 16)):=Vo a 16
def Kl(a:Int):Op.bin .shl [.int .u32 (aj .u32 a),.int .u64 8]=B1 (.int .u32 (vX a 8)):=Vo a 8
noncomputable def xQ(p:List Int):i9:=⟨aj .i64 (p.getD 0 0),aj .i64 (p.getD 1 0),aj .i64 (p.getD 2 0),aj .i64 (p.getD 3 0),aj .i64 (aj .i32 (SK (SK (SK (vX (p.getD 4 0) 24) (vX (p.getD 5 0) 16)) (vX (p.getD 6 0) 8)) (aj .u32 (p.getD 7 0))))⟩
noncomputable def nO(bs:List Int):List i9:=(N1 (bs.length / 8)).map λ i=>xQ ((bs.drop (8*i)).take 8)
structure P0(xs:List i9)(t:Nat)(i:Nat)(V:Nat->Prop)(Hx:ar):Prop where
 vt:V t
 lt:t<Hx.au
 ls:∃lv,Hx.get t=B1 (OR [lv] u5)/\aU fY Aw 5 Hx lv (xs.take i) /\ ∀a,aN lv a->V a/\t<a
def P0.loc{ys:List i9}{t i:Nat}{V:Nat->Prop}{a Hb:ar}(h:P0 ys t i V a)(hs:∀x,V x->Hb.get x=a.get x)(hn:a.au<=Hb.au):P0 ys t i V Hb:=by
 have⟨lv,l1,l2,l3⟩:=h.ls;refine⟨h.vt,qn h.lt hn,lv,by rw[hs _ h.vt];exact l1,?_,l3⟩;exact Own.fr l2 (⟨hn,λ b _ hw=>hs b (yt.1 hw)⟩:Fr (λ b=>¬V b) a Hb) λ x c w=>w (l3 x c).1
def xd4{H:ar}{sv:AV}{bs:List Int}(hs:bX cI 1 H sv bs)(hb:bs≠[]->aC sv<H.au)(one:az sv=B4)(hl:bs.length<=100000) :
 zk M PD [sv] H λ v H'=>aU fY Aw 5 H' v ((nO bs).take 1024)/\(∀z,aN v z->H.au<=z)/\Fr Em H H':=by
 refine xcd ?_;obtain⟨H1,e1,f1,n1,-⟩:=cE H (OR [.nils] u5);obtain⟨J,e2,F,-,g2⟩:=cE H1 (OR [sv] ig);have n2:J.au=H.au+2:=by rw[e2,zg,n1]
 have Q:J.get H.au=B1 (OR [.nils] u5):=by rw[F.ah _ (by omega) id,e1,xt]
 have O:=f1.em F;have s2:bX cI 1 J sv bs:=Sl.em hs O;have cs:AV.cells sv=[sv]:=AD one;have al:zk M qy7 [sv] H1 λ v H'=>v=.fn (.func NC) [] [.ptr H1.au 0]/\H'=J:=by
  refine xce ?_;have mk:Op.bt NC 0 [.ptr H1.au 0]=B1 (.fn (.func NC) [] [.ptr H1.au 0]):=rfl;simp only[aa,bc,xcf,cs,<-e2];rfl
 simp only[aa,bc,TA,<-e1];refine C3.q al λ v H'⟨hv,hh⟩=>?_;subst hv;subst hh;simp only[aa,bc];have xl:(nO bs).length=bs.length / 8:=by unfold nO;rw[xu,jf]
 refine iE.iter (fn:=TL) (lp:=OS) (pa:=Zy 0) (pb:=YD 0) q9r _W.1 _W.2 (by decide) q6z q60
  (xc7 s2 g2 (by omega) (by omega)) (λ i V N=>i<=1024/\P0 (nO bs) H.au i V N) (λ e V N=>e=.exit 0/\P0 (nO bs) H.au 1024 V N) (λ x=>x=H.au) (qm _) ?_ ?_ ?_ ?_ ?_ ?_ ?_ ?_
 .rintro x (q|q)
  .exact q.elim
  .exact ⟨by omega,rfl,λ w=>by omega⟩
 .exact λ x T=>by omega
 .exact ⟨x9 _,rfl,by omega,.nils,Q,Own.nil ..,λ x q=>(q.1 rfl).elim⟩
 .exact λ i V Ha Hb h hs hn=>⟨h.1,h.2.loc hs hn⟩
 .exact λ e V Ha Hb h hs hn=>⟨h.1,h.2.loc hs hn⟩
 .intro L i lr lb x T hL V o ⟨hi,s⟩ hV hf6 hnL hL6 hgL;rw[xk,xm]at T;obtain⟨j,S,rfl⟩:=T;have u:i<bs.length / 8:=by have:=(qo.1 S).1;rw[jf]at this;exact this
  rw[jp u]at S;cases S;refine⟨_,rfl,?_⟩;have w:=TA M ⟨B1 L,PD⟩;simp only[aa,bc,w,AG];refine⟨hgL,?_⟩;have P:Fr (On L) o (o.set L lb):=(Fr.refl o).set (W:=On L) (.inl rfl) _;have gL:(o.set L lb).get L=B1 lb:=xj ..;have nL:(o.set L lb).au=o.au:=rfl;have nf6:=hf6.au;have bne:bs≠[]:=λ q=>by rw[q]at u;simp at u
  have s6:bX cI 1 (o.set L lb) sv bs:=by
   refine Sl.fr (Sl.fr s2 hf6 (.inr λ q=>?_)) P (.inr λ(q:aC sv=L)=>?_)
   .have:=hb bne;rcases q with(q:aC sv=H.au)|(q:aC sv=H1.au)<;>omega
   .have:=hb bne;omega
  have g:=s.loc (Hb:=o.set L lb) (λ y hy=>by rw[j9 (λ q:L=y=>hnL (by rw[q];exact hy))]) (qm _);generalize o.set L lb=H8 at *;have⟨f,l1,l2,l3⟩:=g.ls;have D:Op.ae [.ptr H.au 0] H8=B1 f:=zh (xf l1) 0;have ln:=(aU.sl l2).len;have mY:((nO bs).take i).length=i:=by rw[jd];omega
  rw[mY]at ln
  by_cases q:i=1024
  .have Y:(i:Int)=1024:=by omega
   simp only[aa,bc,D,ln,xg Y];refine⟨rfl,gL,V,λ z hz=>⟨by have:=(hV z hz).1;omega,.inl hz⟩,P.mono λ z _ q=>.inr q,.inr ⟨trivial,rfl,by rw[<-q];exact g⟩⟩
  .have Y:¬(i:Int)=1024:=by omega
   obtain⟨-,-,Z⟩:=JA s6 (i:=i) (by omega);obtain⟨p,hp⟩:∃p,p=(bs.drop (8*i)).take 8:=⟨_,rfl⟩
   rw[<-hp]at Z;have p8:p.length=8:=by rw[hp,jd,jg];omega
   have at':∀k:Nat,k<8 -> ∃z,p[k]? = B1 z/\p.getD k 0=z:=λ k hk=>⟨p[k],by rw[qy],by rw[ja,qy];rfl⟩
   have rd:∀k:Nat,k<8 -> ∀n:Int,n=(k:Int) -> ∃a,Op.aP 1 [pK (wV sv i),.int .i64 n]=B1 a/\Op.ae [a] H8=B1 (.int .u8 (p.getD k 0)):=λ k hk n hn=>by
    have⟨z,h1,h2⟩:=at' k hk;exact⟨_,Z.idx h1 hn .i64,by rw[Z.iS Ic h1 (by decide),h2];rfl⟩
   have⟨a0,i0,r0⟩:=rd 0 (by omega) 0 rfl;have⟨a1,i1,r1⟩:=rd 1 (by omega) 1 rfl;have⟨a2,i2,r2⟩:=rd 2 (by omega) 2 rfl;have⟨a3,i3,r3⟩:=rd 3 (by omega) 3 rfl;have⟨a4,i4,r4⟩:=rd 4 (by omega) 4 rfl;have⟨a5,i5,r5⟩:=rd 5 (by omega) 5 rfl;have⟨a6,i6,r6⟩:=rd 6 (by omega) 6 rfl;have⟨a7,i7,r7⟩:=rd 7 (by omega) 7 rfl;have bd:∀a b c d m:Int,Op.build [.int .i64 0,.int .i64 0,.int .i64 0,.int .i64 0,.int .i64 0] [(0,1),(1,1),(2,1),(3,1),(4,1)] [.int .i64 a,.int .i64 b,.int .i64 c,.int .i64 d,.int .i64 m]=B1 (.agg (fY ⟨a,b,c,d,m⟩)):=λ _ _ _ _ _=>rfl;have tk:(nO bs).take (i+1)=(nO bs).take i ++ [xQ p]:=by
    rw[FQ,show(nO bs)[i]? = B1 (xQ p)by unfold nO;rw[xk,jp u,hp];rfl];rfl
   simp only[aa,bc,w,D,ln,Y,i0,i1,i2,i3,i4,i5,i6,i7,r0,r1,r2,r3,r4,r5,r6,r7,IK,G4,Kl,RA,bd];refine aU.pn (bytes:=40) l2 (a:=xQ p) rfl rfl rfl rfl (by decide) (by omega) (by omega) λ l K C t G=>?_;have q9:At K H.au u5 [f]:=⟨by rw[t.ah _ g.lt λ q=>by have:=(l3 _ q).2;omega];exact l1,qn g.lt t.au⟩
   have o1:az l=true:=by have:=Sl.one (Own.sl C);exact this
   have st:=q9.st 0 o1 (by simp);obtain⟨E,r⟩:∃X,X=K.set H.au (OR ([f].set 0 l) u5):=⟨_,rfl⟩
   rw[<-r]at st;have B:Fr (On H.au) K E:=by rw[r];exact cj ..
   simp only[aa,bc,st];have I:∀y,aN l y->H.au<y:=λ y q=>(G y q).elim (λ q=>(l3 y q).2) λ q=>by have:=g.lt;omega
   have nf:=t.au;have U:E.au=K.au:=by rw[r];rfl
   refine⟨rfl,?_,λ y=>V y\/aN l y,?_,?_,.inl ⟨rfl,by omega,.inl s.vt,by have:=g.lt;omega,l,by rw[r,xj];rfl,?_,λ y q=>⟨.inr q,I y q⟩⟩⟩
   .rw [B.ah L (by omega) (λ(q:L=H.au)=>hnL (by rw[q];exact s.vt)),t.ah L (by omega) λ q=>hnL (l3 _ q).1];exact gL
   .rintro y (q|q)
    .exact ⟨by have:=(hV y q).1;omega,.inl q⟩
    .refine ⟨by rw[U];exact Own.lt C y q,?_⟩;rcases G y q with w|w
     .exact .inl (l3 y w).1
     .exact .inr (by omega)
   .exact (((P.mono λ z _ q=>.inr q).trans t λ y q=>.inl (.inl (l3 y q).1)).trans B λ y(q:y=H.au)=>.inl (.inl (by rw[q];exact s.vt)))
   .rw [tk];exact Own.fr C B λ y q(w:y=H.au)=>by have:=I y q;omega
 .rintro d V H' hd R hg t hV ⟨hi,s⟩;rw[xu,jf]at s hi;have⟨f,l1,l2,l3⟩:=s.ls;rw[<-xl,L6]at l2;have A:(nO bs).take 1024=nO bs:=zp (by omega);have fd:Fr (On d) H' (H'.set d (.deferred B5)):=(Fr.refl H').set (W:=On d) (.inl rfl) _;have D:Op.ae [.ptr H.au 0] H'=B1 f:=zh (xf l1) 0;simp only[aa,bc,TA,D];rw[A];refine⟨hg,Own.fr l2 fd λ z q(w:z=d)=>(hV z (l3 z q).1).2.2 w,λ z q=>?_,?_⟩
  .have:=(l3 z q).2;omega
  .exact (O.trans (t.mono λ z _ q=>q) λ z q=>.inr (by rcases q with(q:z=H.au)|(q:z=H1.au)<;>omega)).trans fd λ z(q:z=d)=>.inr (by omega)
 .rintro e d V H' he hd R hg t hV ⟨rfl,s⟩;have⟨f,l1,l2,l3⟩:=s.ls;have fd:Fr (On d) H' (H'.set d (.deferred B5)):=(Fr.refl H').set (W:=On d) (.inl rfl) _;have D:Op.ae [.ptr H.au 0] H'=B1 f:=zh (xf l1) 0;simp only[aa,bc,TA,D];refine⟨hg,Own.fr l2 fd λ z q(w:z=d)=>(hV z (l3 z q).1).2.2 w,λ z q=>?_,?_⟩
  .have:=(l3 z q).2;omega
  .exact (O.trans (t.mono λ z _ q=>q) λ z q=>.inr (by rcases q with(q:z=H.au)|(q:z=H1.au)<;>omega)).trans fd λ z(q:z=d)=>.inr (by omega)
end Go.Am
namespace Go.Am
open Lang Go.Proofs
variable{M:ak}[MK M]
structure Wo where
 b:Bu
 cs:List Co
 h:List fF
 n:Int
def lG(B:Nat)(cvs hv:AV)(n:Int):List AV:=[.ptr B 0,cvs,hv,.int .i64 n]
def t9(w:Nat)(cvs hv:AV)(z:Nat):Prop:=z=w\/aN cvs z\/aN hv z
structure eV(Hb H:ar)(w B:Nat)(cvs hv:AV)(bs:Bs)(own:Nat->Nat)(ks:List Ck)(V:Int->L8)(k:Nat)(x:Wo):Prop where
 row:At H w FB (lG B cvs hv x.n)
 cl:aU po AF 1 H cvs (ks.map Ck.p)
 hl:aU fF.enc kr 9 H hv x.h
 b:fm Hb H B bs x.b own
 I:BuI x.b V
 C:BC x.b k
 U:yT x.b
 co:∀(i:Nat)c A,x.cs[i]? = B1 c->ks[i]? = B1 A->dU H A.o A.p A.f A.l A.sp A.cv A.rv .nils .nili c [] k/\c.id=i
 kl:ks.length=x.cs.length
 nl:x.cs.length<=x.b.ns.length
 dj:∀(i:Nat)A,ks[i]? = B1 A -> ∀z,hJ B bs z\/t9 w cvs hv z->A.o z=0
 d2:∀(i j:Nat)A A',ks[i]? = B1 A->ks[j]? = B1 A'->i≠j -> ∀z,z<H.au->A.o z≠0->A'.o z=0
 lo:∀(i:Nat)A,ks[i]? = B1 A -> ∀z,z<H.au->A.o z≠0->Hb.au<=z
 wb:∀z,t9 w cvs hv z -> ¬hJ B bs z/\Hb.au<=z
 w1:¬aN cvs w /\ ¬aN hv w
 w2:∀z,aN cvs z -> ¬aN hv z
section
variable{Hb H H':ar}{w B k k' i:Nat}{cvs hv:AV}{bs:Bs}{own:Nat->Nat}{ks:List Ck}{V:Int->L8}{x:Wo}{c:Co}{A:Ck}
def eV.re(h:eV Hb H w B cvs hv bs own ks V k x)(d:x.cs[i]? = B1 c)(a:ks[i]? = B1 A):Gd (A.at Hb H B bs k) 0 c x.b H A.o A.rv bs own V:=by
 have⟨f,g⟩:=h.co i c A d a;have j:=(qo.1 d).1;have hn:=h.nl;exact⟨f,h.b,h.I,h.C,h.U,by rw[g];omega,λ z q=>h.dj i A a z (.inl q),h.lo i A a,λ z q e=>.inl ⟨q,e⟩,λ z q=>.inl q,Fr.refl H⟩
def eV.low(h:eV Hb H w B cvs hv bs own ks V k x){z:Nat}(q:t9 w cvs hv z):z<H.au:=by
 rcases q with rfl|q|q
 .exact h.row.2
 .exact Own.lt h.cl z q
 .exact Own.lt h.hl z q
def ot{o:Nat->Nat}{n z:Nat}(e:aL o n 0 z≠0):z<n/\o z≠0:=by
 rcases xx z n with a|a
 .rw [iQ a]at e;exact⟨a,e⟩
 .rw [mW a]at e;exact(e rfl).elim
def eV.back(h:eV Hb H w B cvs hv bs own ks V k x)(S:x.cs[i]? = B1 c)(s:ks[i]? = B1 A){u:Co}{F:Bu}{o':Nat->Nat}{rv':AV}{bs':Bs}{aL:Nat->Nat}{Q:Int->L8}(N:u.id=c.id)(O:F.ns.length=x.b.ns.length)
 (q:Gd (A.at Hb H B bs k) k' u F H' o' rv' bs' aL Q):eV Hb H' w B cvs hv bs' aL ((ks.map λ f=>{f with o:=Go.Am.aL f.o H.au 0}).set i {A with rv:=rv',o:=o'}) Q (k+k') {x with b:=F,cs:=x.cs.set i u}:=by
 have Y:=(qo.1 S).1;have hk:=h.kl;have nx:H.au<=H'.au:=q.fr.au;have⟨X,L⟩:=h.co i c A S s;have ex:∀{j:Nat}{f:Ck},((ks.map λ f=>{f with o:=Go.Am.aL f.o H.au 0}).set i {A with rv:=rv',o:=o'})[j]? = B1 f->(j=i/\f = {A with rv:=rv',o:=o'})\/j≠i /\ ∃a,ks[j]? = B1 a/\f = {a with o:=Go.Am.aL a.o H.au 0}:=λ{j f}e=>by
  by_cases w:j=i
  .subst w;rw[xy (by rw[xu];omega)]at e;injection e with e;exact .inl ⟨rfl,e.symm⟩
  .rw [xz (λ e=>w e.symm),xk]at e;have⟨a,e1,e2⟩:=xm.1 e;exact .inr ⟨w,a,e1,e2.symm⟩
 -- what may have K is not the D own,Z v G
 have nw:∀z,t9 w cvs hv z -> ¬((A.at Hb H B bs k).o z≠0\/(A.at Hb H B bs k).W z):=λ z e r=>r.elim (λ r=>r (h.dj i A s z (.inr e))) (h.wb z e).1;have nc:∀{j:Nat}{a:Ck},ks[j]? = B1 a->j≠i -> ∀z,z<H.au->a.o z≠0 -> ¬((A.at Hb H B bs k).o z≠0\/(A.at Hb H B bs k).W z):=λ{j a}e ne z g r t=>t.elim (λ t=>r (h.d2 i j A a s e (λ e=>ne e.symm) z g t)) λ t=>r (h.dj j a e z (.inl t));have kp:((ks.map λ f=>{f with o:=Go.Am.aL f.o H.au 0}).set i {A with rv:=rv',o:=o'}).map Ck.p=ks.map Ck.p:=by
  apply yu;intro j;rw[xk,xk]
  by_cases w:j=i
  .subst w;rw[xy (by rw[xu];omega),s];rfl
  .rw [xz (λ e=>w e.symm),xk,Option.map_map];rfl
 refine⟨h.row.fr q.fr (nw w (.inl rfl)),by rw[kp];exact Own.fr h.cl q.fr λ z e=>nw z (.inr (.inl e)),Own.fr h.hl q.fr λ z e=>nw z (.inr (.inr e)),q.b,q.I,q.C,q.U,λ j d f n m=>?_,by rw[xq,xu,xq];exact hk,by show(x.cs.set i u).length<=F.ns.length;rw[xq,O];exact h.nl,λ j f m z e=>?_,λ j j2 A1 A2 T R ne z g e=>?_,λ j f m z g e=>?_,λ z e=>⟨λ r=>?_,(h.wb z e).2⟩,h.w1,h.w2⟩
 .rcases ex m with⟨rfl,rfl⟩|⟨w,a,e1,rfl⟩
  .have n:(x.cs.set j u)[j]? = B1 d:=n;rw[xy Y]at n;cases n;exact⟨q.c,N.trans L⟩
  .have n:(x.cs.set i u)[j]? = B1 d:=n;rw[xz (λ e=>w e.symm)]at n;have⟨r1,r2⟩:=h.co j d a n e1;exact⟨r1.fr q.fr (λ z g r=>nc e1 w z g r) (λ z g=>iQ g) (by omega),r2⟩
 .rcases ex m with⟨rfl,rfl⟩|⟨w,a,e1,rfl⟩
  .rcases e with e|e
   .exact q.dj z e
   .have g:=h.low e;refine zi λ r=>?_;rcases q.go z (by omega) r with⟨_,t⟩|t
    .exact t (h.dj j A s z (.inr e))
    .have:H.au<=z:=t;omega
  .refine zi λ r=>?_;have⟨g,r⟩:=ot r;rcases e with e|e
   .exact (q.gb z e).elim (λ t=>r (h.dj j a e1 z (.inl t))) (Nat.not_le.2 g)
   .exact r (h.dj j a e1 z (.inr e))
 .rcases ex T with⟨rfl,rfl⟩|⟨w1,P,e1,rfl⟩
  .rcases ex R with⟨rfl,-⟩|⟨w2,E,e2,rfl⟩
   .exact (ne rfl).elim
   .show Go.Am.aL E.o H.au 0 z=0;rcases q.go z g e with⟨J,t⟩|t
    .have J:z<H.au:=J;rw[iQ J];exact h.d2 _ _ A E s e2 ne z J t
    .have t:H.au<=z:=t;exact mW t
  .have ⟨l,e⟩:=ot e;rcases ex R with⟨rfl,rfl⟩|⟨w2,E,e2,rfl⟩
   .refine zi λ r=>?_;rcases q.go z g r with⟨_,t⟩|t
    .exact t (h.d2 _ _ P A e1 s w1 z l e)
    .exact Nat.not_le.2 l t
   .exact (iQ l).trans (h.d2 _ _ P E e1 e2 ne z l e)
 .rcases ex m with⟨rfl,rfl⟩|⟨w,a,e1,rfl⟩
  .exact q.hb z g e
  .have ⟨l,e⟩:=ot e;exact h.lo j a e1 z l e
 .rcases q.gb z r with t|t
  .exact (h.wb z e).1 t
  .have:H.au<=z:=t;have:=h.low e;omega
def eV.turn(h:eV Hb H w B cvs hv bs own ks V k x){X:Nat->Prop}{hv':AV}{bs':Bs}{aL:Nat->Nat}{v:Int->L8}{m:Bu}{q:List fF}{n':Int}(f:Fr X H H')(J:∀z,X z->hJ B bs z\/t9 w cvs hv z)(kk:k<=k')(nl:m.ns.length=x.b.ns.length)(row:At H' w FB (lG B cvs hv' n'))(hl:aU fF.enc kr 9 H' hv' q)(b:fm Hb H' B bs' m aL)(I:BuI m v)(C:BC m k')(U:yT m)(cl:∀z,aN cvs z -> ¬X z)(hb:∀z,hJ B bs' z->hJ B bs z\/H.au<=z)(u:∀z,aN hv' z->aN hv z\/H.au<=z)(nb:∀z,H.au<=z->aN hv' z -> ¬hJ B bs' z):eV Hb H' w B cvs hv' bs' aL (wide ks H.au) v k' {x with b:=m,h:=q,n:=n'}:=by
 have nx:H.au<=H'.au:=f.au;have K:Hb.au<=H.au:=by have:=h.b.lo B (.inl rfl);have:=h.b.lt;omega
 have ex:∀{j:Nat}{p:Ck},(wide ks H.au)[j]? = B1 p -> ∃a,ks[j]? = B1 a/\p = {a with o:=Go.Am.aL a.o H.au 0}:=HA;have hw:∀z,t9 w cvs hv' z->t9 w cvs hv z\/H.au<=z/\aN hv' z:=λ z e=>by
  rcases e with e|e|e
  .exact .inl (.inl e)
  .exact .inl (.inr (.inl e))
  .exact (u z e).imp (λ t=>.inr (.inr t)) λ t=>⟨t,e⟩
 refine⟨row,?_,hl,b,I,C,U,λ j d p L g=>?_,by unfold wide;rw[xu];exact h.kl,by rw[nl];exact h.nl,λ j p g z e=>?_,λ j S Q R e1 e2 ne z s e=>?_,λ j p g z s e=>?_,λ z e=>?_,⟨h.w1.1,λ e=>?_⟩,λ z e r=>?_⟩
 .unfold wide;rw[wv];exact Own.fr h.cl f cl
 .obtain ⟨a,e1,rfl⟩:=ex g;have⟨N,O⟩:=h.co j d a L e1;exact⟨N.fr f (λ z s r e=>r (h.dj j a e1 z (J z e))) (λ z s=>iQ s) kk,O⟩
 .obtain ⟨a,e1,rfl⟩:=ex g;refine zi λ r=>?_;have⟨s,r⟩:=ot r;rcases e with e|e
  .exact (hb z e).elim (λ t=>r (h.dj j a e1 z (.inl t))) (by omega)
  .exact (hw z e).elim (λ t=>r (h.dj j a e1 z (.inr t))) λ t=>by omega
 .obtain ⟨D,F,rfl⟩:=ex e1;obtain⟨E,G,rfl⟩:=ex e2;have⟨l,e⟩:=ot e;exact(iQ l).trans (h.d2 _ _ D E F G ne z l e)
 .obtain ⟨a,e1,rfl⟩:=ex g;have⟨l,e⟩:=ot e;exact h.lo j a e1 z l e
 .rcases hw z e with t|⟨t,P⟩
  .exact ⟨λ r=>(hb z r).elim (h.wb z t).1 λ r=>by have:=h.low t;omega,(h.wb z t).2⟩
  .exact ⟨nb z t P,by omega⟩
 .rcases u w e with t|t
  .exact h.w1.2 t
  .have:=h.row.2;omega
 .rcases u z r with t|t
  .exact h.w2 z e t
  .have:=Own.lt h.cl z e;omega
def eV.ia(h:eV Hb H w B cvs hv bs own ks V k x)(t:Bt)(hv':fH t.v)(hp:kX Hb H B bs (x.b.step t) H'):∃bs' aL j,eV Hb H' w B cvs hv bs' aL (wide ks H.au) j (k+1) {x with b:=x.b.step t}/\(∀z,hJ B bs' z->hJ B bs z\/H.au<=z)/\Fr (hJ B bs) H H':=by
 have⟨a,d,l,g,f⟩:=hp;have nw:∀z,t9 w cvs hv z -> ¬hJ B bs z:=λ z e=>(h.wb z e).1;exact⟨a,d,_,h.turn f (λ z e=>.inl e) (ke k) (NT ..) (h.row.fr f (nw w (.inl rfl))) (Own.fr h.hl f λ z e=>nw z (.inr (.inr e))) l (Cp h.I t) (DM h.C t) (h.U.step t hv') (λ z e=>nw z (.inr (.inl e))) g (λ z e=>.inl e) λ z q e=>by have:=Own.lt h.hl z e;omega,g,f⟩
def eV.Lc(h:eV Hb H w B cvs hv bs own ks V k x){hv':AV}{a:List fF}{n':Int}(f:Fr (λ z=>z=w\/aN hv z) H H')(row:At H' w FB (lG B cvs hv' n'))(hl:aU fF.enc kr 9 H' hv' a)(g:∀z,aN hv' z->aN hv z\/H.au<=z):eV Hb H' w B cvs hv' bs own (wide ks H.au) V k {x with h:=a,n:=n'} :=
 have d:∀z,(z=w\/aN hv z)->t9 w cvs hv z:=λ z q=>q.imp id .inr
 h.turn f (λ z q=>.inr (d z q)) (qm k) rfl row hl (h.b.fr f λ z q=>⟨(h.wb z (d z q)).2,(h.wb z (d z q)).1⟩) h.I h.C h.U (λ z e q=>q.elim (λ q=>h.w1.1 (by rw[<-q];exact e)) λ q=>h.w2 z e q) (λ z q=>.inl q) g λ z q _ r=>by have:=h.b.low r;omega
def eV.em(h:eV Hb H w B cvs hv bs own ks V k x)(f:Fr Em H H'):eV Hb H' w B cvs hv bs own (wide ks H.au) V k x :=
 h.Lc (f.mono λ _ _ q=>q.elim) (h.row.em f) (Own.em h.hl f) λ z q=>.inl q
structure fR(H:ar)(w B:Nat)(cvs hv:AV)(bs:Bs)(ks:List Ck)(z:Nat):Prop where
 lt:z<H.au
 nb:¬hJ B bs z
 nw:¬t9 w cvs hv z
 nc:∀(i:Nat)A,ks[i]? = B1 A->A.o z=0
def fR.wide{z:Nat}{hv':AV}{bs':Bs}(h:fR H w B cvs hv bs ks z)(nx:H.au<=H'.au)(d:aN hv' z->aN hv z\/H.au<=z)(b:hJ B bs' z->hJ B bs z\/H.au<=z):fR H' w B cvs hv' bs' (wide ks H.au) z:=by
 have:=h.lt;refine⟨by omega,λ q=>(b q).elim h.nb (by omega),λ q=>?_,λ i A e=>?_⟩
 .rcases q with q|q|q
  .exact h.nw (.inl q)
  .exact h.nw (.inr (.inl q))
  .exact (d q).elim (λ q=>h.nw (.inr (.inr q))) (by omega)
 .obtain ⟨a,e1,rfl⟩:=HA e;show Go.Am.aL a.o H.au 0 z=0;rw[iQ h.lt];exact h.nc i a e1
def eV.new(h:eV Hb H w B cvs hv bs own ks V k x){z:Nat}(a:H.au<=z)(d:z<H'.au):fR H' w B cvs hv bs (wide ks H.au) z:=by
 refine⟨d,λ q=>by have:=h.b.low q;omega,λ q=>by have:=h.low q;omega,λ i A e=>?_⟩;obtain⟨f,e1,rfl⟩:=HA e;exact mW a
def eV.Lg(h:eV Hb H w B cvs hv bs own ks V k x){z:Nat}(a:fR H w B cvs hv bs ks z)(hb:Hb.au<=z)(d:bC):eV Hb (H.set z d) w B cvs hv bs own ks V k x:=by
 have f:Fr (On z) H (H.set z d):=(Fr.refl H).set (W:=On z) (.inl rfl) _;have nw:∀y,t9 w cvs hv y -> ¬On z y:=λ y e(q:y=z)=>a.nw (by rw[<-q];exact e);exact{h with row:=h.row.fr f (nw w (.inl rfl)),cl:=Own.fr h.cl f λ y e=>nw y (.inr (.inl e)),hl:=Own.fr h.hl f λ y e=>nw y (.inr (.inr e)),b:=h.b.fr f λ y(q:y=z)=>by rw[q];exact⟨hb,a.nb⟩,co:=λ i c A e1 e2=>⟨(h.co i c A e1 e2).1.fr f (λ y yl r(q:y=z)=>r (by rw[q];exact a.nc i A e2)) (λ _ _=>rfl) (qm _),(h.co i c A e1 e2).2⟩}
end
end Go.Am
namespace Go.Am
open Lang Go.Proofs
variable{M:ak}[MK M]
section
variable{Hb H H':ar}{w B k k':Nat}{i:Int}{cvs hv:AV}{bs:Bs}{own:Nat->Nat}{ks:List Ck}{V:Int->L8}{x:Wo}{c:Co}{A:Ck}
def eV.bm(h:eV Hb H w B cvs hv bs own ks V k x):Op.ae [.ptr w 0] H=B1 (.ptr B 0)/\Op.ae [.ptr w 1] H=B1 cvs/\Op.ae [.ptr w 2] H=B1 hv/\Op.ae [.ptr w 3] H=B1 (.int .i64 x.n)/\Op.dm [cvs]=B1 (.int .i64 ((x.cs.length:Nat):Int)) :=
 ⟨h.row.ld 0,h.row.ld 1,h.row.ld 2,h.row.ld 3,by have:=(aU.sl h.cl).len;rw[xu,h.kl]at this;exact this⟩
def Gl(p:Nat):(po p).length=1:=rfl
def PY(h:eV Hb H w B cvs hv bs own ks V k x)(d:0<=i)(a:ks[i.toNat]? = B1 A):∀K,C3 M B4 (.func TY) [.ptr w 0,.int .i64 i] H K=K B4 (.ptr A.p 0) H:=by
 refine dI (qq ?_);have j:=(qo.1 a).1;have hk:=h.kl;have e:¬i<0:=HD.2 d;have f:¬((x.cs.length:Nat):Int)<=i:=by omega
 have b:(ks.map Ck.p)[i.toNat]? = B1 A.p:=by rw[xk,a];rfl
 have ix:=(aU.sl h.cl).idx b (z:=i) (Kv d).symm .i64;have ld:=(aU.sl h.cl).iS Gl b (by decide);have g:(po A.p)[0]? = B1 (.ptr A.p 0):=rfl;rw[g]at ld;simp only[aa,bc,XC,aA,h.bm,e,f,ix,ld]
def Hi(h:eV Hb H w B cvs hv bs own ks V k x)(d:¬(0<=i/\i<x.cs.length)):∀K,C3 M B4 (.func TY) [.ptr w 0,.int .i64 i] H K=K B4 .nilp H:=by
 refine dI (qq ?_)
 by_cases a:i<0
 .simp only[aa,bc,XC,aA,xg a]
 .have b:((x.cs.length:Nat):Int)<=i:=by omega
  simp only[aa,bc,XC,aA,h.bm,a,xg b]
end
structure To where
 e:Int
 m:Mg
 cd:Int
 co:Int
def ep(t:To):List AV:=.int .i64 t.e::(ao t.m ++ [.int .i64 t.cd,.int .i64 t.co])
def iA(e:Int):To:=⟨e,⟨0,0,0,.zero⟩,0,0⟩
def Ho:[AV.int .i64 0,.int .i64 0,.int .i64 0,.int .i64 0,.int .u64 0,.int .u64 0,.int .u64 0,.int .u64 0,.int .u64 0,.int .u64 0,.int .u64 0,.int .u64 0,.int .i64 0,.int .i64 0]=ep (iA 0):=rfl
def JZ(e:Int):Op.build (ep (iA 0)) [(0,1)] [.int .i64 e]=B1 (.agg (ep (iA e))):=rfl
def uf(t:To):(ep t).length=14:=by simp[ep,zn]
def Sj(t:To):aQ (ep t)=true:=by
 unfold ep;rw[vz,List.all_cons,List.all_append,<-vz,rR];rfl
section
variable{Hb H H':ar}{w B k k':Nat}{cvs hv:AV}{bs:Bs}{own:Nat->Nat}{ks:List Ck}{V:Int->L8}{x y:Wo}
def uh(Hb H:ar)(w B:Nat)(cvs hv:AV)(bs:Bs)(ks:List Ck)(k:Nat)(y:Wo)(H':ar):Prop:=∃hv' bs' aL ks' V',eV Hb H' w B cvs hv' bs' aL ks' V' k y/\H.au<=H'.au /\ ∀z,fR H w B cvs hv bs ks z->fR H' w B cvs hv' bs' ks' z/\H'.get z=H.get z
def uh.then{H1:ar}{e:AV}{d:Bs}{f:List Ck}(n1:H.au<=H1.au)(a:∀z,fR H w B cvs hv bs ks z->fR H1 w B cvs e d f z/\H1.get z=H.get z)(b:uh Hb H1 w B cvs e d f k y H'):uh Hb H w B cvs hv bs ks k y H':=by
 have⟨hv',bs',aL,g,j,l,n2,h⟩:=b;exact⟨hv',bs',aL,g,j,l,by omega,λ z q=>⟨(h z (a z q).1).1,(h z (a z q).1).2.trans (a z q).2⟩⟩
def eV.mono(h:eV Hb H w B cvs hv bs own ks V k x)(hk:k<=k'):eV Hb H w B cvs hv bs own ks V k' x :=
 {h with C:=h.C.mono hk,co:=λ i c A e1 e2=>⟨(h.co i c A e1 e2).1.fr (Fr.refl H) (λ _ _ _ q=>q) (λ _ _=>rfl) hk,(h.co i c A e1 e2).2⟩}
def eV.Vs(h:eV Hb H w B cvs hv bs own ks V k x){z:Nat}(a:fR H w B cvs hv bs ks z)(hb:Hb.au<=z){b:To}(g:H.get z=B1 (OR (ep b) yv))(t:To):∃H',Op.store 14 [.ptr z 0,.agg (ep t)] H=B1 (.undef,H')/\Op.av 14 [.ptr z 0] H'=B1 (.agg (ep t))/\eV Hb H' w B cvs hv bs own ks V k x/\Fr (On z) H H'/\fR H' w B cvs hv bs ks z/\H'.get z=B1 (OR (ep t) yv) :=
 ⟨_,iv g (uf _) (uf t) (Sj _),fq (xj ..) (uf t),h.Lg a hb _,cj ..,⟨by rw[qI];exact a.lt,a.nb,a.nw,a.nc⟩,xj ..⟩
def Pc:Mg:=⟨0,0,0,.zero⟩
def Ak(b:Bu)(n:Int):To:=if 0<=n then match b.fl[n.toNat]? with
 |some m=>⟨0,m,0,0⟩
 |none=>iA 50
 else iA 50
def zMg:[AV.int .i64 0,.int .i64 0,.int .i64 0,.int .u64 0,.int .u64 0,.int .u64 0,.int .u64 0,.int .u64 0,.int .u64 0,.int .u64 0,.int .u64 0]=ao Pc:=rfl
def _Z(e:Int)(m:Mg):Op.build (ep (iA 0)) [(0,1),(1,11)] [.int .i64 e,.agg (ao m)]=B1 (.agg (ep ⟨e,m,0,0⟩)):=by
 have hl:=zn m;show _=B1 (AV.agg (.int .i64 e::(ao m ++ [.int .i64 0,.int .i64 0])));generalize ao m=l at *
 match l,hl with
 |[_,_,_,_,_,_,_,_,_,_,_],_=>rfl
structure LS(Hb H:ar)(w B:Nat)(cvs hv:AV)(bs:Bs)(own:Nat->Nat)(ks:List Ck)(V:Int->L8)(k:Nat)(x:Wo)(c n kd:Int)(H1 H2:ar):Prop where
 e1:H.alloc (OR [.int .i64 kd,.int .i64 c,.int .i64 n] Iv)=H1
 e2:H1.alloc (OR (ep (iA 0)) yv)=H2
 r:eV Hb H2 w B cvs hv bs own (wide ks H.au) V k x
 l1:Op.ae [.ptr H.au 1] H2=B1 (.int .i64 c)
 l2:Op.ae [.ptr H.au 2] H2=B1 (.int .i64 n)
 ga:H2.get H.au=B1 (OR [.int .i64 kd,.int .i64 c,.int .i64 n] Iv)
 fa:fR H2 w B cvs hv bs (wide ks H.au) H.au
 hb:Hb.au<=H.au
 n1:H1.au=H.au+1
 n2:H2.au=H.au+2
 g:H2.get H1.au=B1 (OR (ep (iA 0)) yv)
 fo:fR H2 w B cvs hv bs (wide ks H.au) H1.au
 q:∀z,fR H w B cvs hv bs ks z->fR H2 w B cvs hv bs (wide ks H.au) z/\H2.get z=H.get z
def vA(h:eV Hb H w B cvs hv bs own ks V k x)(c n f:Int):∃H1 d,LS Hb H w B cvs hv bs own ks V k x c n f H1 d:=by
 obtain⟨H1,e1,g,n1,-⟩:=cE H (OR [.int .i64 f,.int .i64 c,.int .i64 n] Iv);obtain⟨d,e2,a,-,-⟩:=cE H1 (OR (ep (iA 0)) yv);have n2:d.au=H.au+2:=by rw[e2,zg,n1]
 have e:d.get H.au=B1 (OR [.int .i64 f,.int .i64 c,.int .i64 n] Iv):=by rw[a.ah _ (by omega) id,e1,xt]
 have j:=h.em (g.em a);refine⟨H1,d,e1.symm,e2.symm,j,vi e 1,vi e 2,e,h.new (by omega) (by omega),by have:=h.b.lo B (.inl rfl);have:=h.b.lt;omega,n1,n2,by rw[e2,xt],h.new (by omega) (by omega),λ z q=>⟨q.wide (by omega) (λ q=>.inl q) λ q=>.inl q,?_⟩⟩;have l:=q.lt;rw[a.ah _ (by omega) id,g.ah _ l id]
def LS.post{H1 m f:ar}{c n E:Int}{d:AV}{b:Bs}{a:Nat->Nat}{l:List Ck}{V3:Int->L8}(p:LS Hb H w B cvs hv bs own ks V k x c n E H1 m)(C:eV Hb f w B cvs d b a l V3 k' y)(N:m.au<=f.au)(r:∀z,fR m w B cvs hv bs (wide ks H.au) z->fR f w B cvs d b l z/\f.get z=m.get z)(t:To) :
 ∃h,Op.store 14 [.ptr H1.au 0,.agg (ep t)] f=B1 (.undef,h)/\Op.av 14 [.ptr H1.au 0] h=B1 (.agg (ep t))/\uh Hb H w B cvs hv bs ks k' y h:=by
 have⟨J,K⟩:=r _ p.fo;have G:=p.n1;have I:=p.n2;have F:=p.hb;obtain⟨h,L,l4,D,o,-,-⟩:=C.Vs J (by omega) (K.trans p.g) t;refine⟨h,L,l4,d,b,a,_,V3,D,by have:=o.au;omega,λ z q=>?_⟩;have⟨s,u⟩:=p.q z q;have⟨j,v⟩:=r z s;have O:=q.lt;exact⟨⟨qn j.lt o.au,j.nb,j.nw,j.nc⟩,by rw[o.ah _ j.lt (λ e:z=H1.au=>by omega),v,u]⟩
def LS.ia{H1 e f:ar}{c n l:Int}(p:LS Hb H w B cvs hv bs own ks V k x c n l H1 e)(s:Bt)(hs:fH s.v)(hp:kX Hb e B bs (x.b.step s) f)(t:To) :
 ∃a,Op.store 14 [.ptr H1.au 0,.agg (ep t)] f=B1 (.undef,a)/\Op.av 14 [.ptr H1.au 0] a=B1 (.agg (ep t))/\uh Hb H w B cvs hv bs ks (k+1) {x with b:=x.b.step s} a:=by
 have⟨h,g,V3,j,m,d⟩:=p.r.ia s hs hp;exact p.post j d.au (λ z q=>⟨q.wide d.au (λ q=>.inl q) (m z),d.ah z q.lt q.nb⟩) t
def LS.em{H1 d e:ar}{c n f:Int}(p:LS Hb H w B cvs hv bs own ks V k x c n f H1 d)(a:Fr Em d e)(t:To) :
 ∃b,Op.store 14 [.ptr H1.au 0,.agg (ep t)] e=B1 (.undef,b)/\Op.av 14 [.ptr H1.au 0] b=B1 (.agg (ep t))/\uh Hb H w B cvs hv bs ks (k+1) x b :=
 p.post ((p.r.em a).mono (ke k)) a.au (λ z q=>⟨q.wide a.au (λ q=>.inl q) λ q=>.inl q,a.ah z q.lt id⟩) t
def Wo.nd(x:Wo)(c:Int):Option No:=if 0<=c then x.b.ns[c.toNat]? else B5
def Wo.JK{c:Int}(h:x.nd c=B5):¬(0<=c/\c<x.b.ns.length):=λ q=>by
 unfold Wo.nd at h;rw[xb q.1,List.getElem?_eq_none_iff]at h;omega
def Wo.yV{c:Int}{nd:No}(h:x.nd c=B1 nd):0<=c/\x.b.ns[c.toNat]? = B1 nd:=by
 unfold Wo.nd at h;split at h
 .exact ⟨by assumption,h⟩
 .cases h
def Wo.fault(x:Wo)(c:Int):Wo×To:=match x.nd c with
 |none=>(x,iA 2)
 |some nd=>({x with b:=x.b.step ⟨5,c,5,0,0⟩},iA (nd.abort 5).2)
def Wo.px(x:Wo)(c n:Int):Wo×To:=match x.nd c with
 |none=>(x,iA 2)
 |some nd=>({x with b:=x.b.step ⟨6,c,n,0,0⟩},iA (gM nd n))
def GK(h:eV Hb H w B cvs hv bs own ks V k x)(hk:k<=90000)(c n g:Int):zk M R5 [.ptr w 0,.agg [.int .i64 g,.int .i64 c,.int .i64 n]] H λ v H'=>v=.agg (ep (x.fault c).2)/\uh Hb H w B cvs hv bs ks (k+1) (x.fault c).1 H':=by
 refine quu ?_;have⟨H1,o,p⟩:=vA h c n g;have bb:BB x.b:=h.C.bb h.I (by omega);simp only[aa,bc,quv,Ho,p.e1,p.e2,aA,p.r.bm,p.l1];unfold Wo.fault;cases hn:x.nd c with
 |none =>
  refine C3.q (xjz p.r.b bb (Wo.JK hn) 5) λ v j⟨a,m⟩=>?_;subst a;have⟨l,e,l4,d⟩:=p.em m (iA 2);simp only[aa,bc,JZ,e,l4];exact d
 |some nd =>
  have⟨f,hn⟩:=Wo.yV hn;refine C3.q (xj0 p.r.b bb f hn 5) λ v j⟨a,hp⟩=>?_;subst a;have es:x.b.step ⟨5,c,5,0,0⟩=x.b.put c.toNat (nd.abort 5 |>.1,[]):=VS (x:=⟨5,c,5,0,0⟩) (show(5:Int)≠7 by decide) f hn;obtain⟨l,e,l4,d⟩:=p.ia ⟨5,c,5,0,0⟩ bI (by rw[es];exact hp) (iA (nd.abort 5).2);simp only[aa,bc,JZ,e,l4];exact d
def Iu(h:eV Hb H w B cvs hv bs own ks V k x)(hk:k<=90000)(c n g:Int):zk M Po [.ptr w 0,.agg [.int .i64 g,.int .i64 c,.int .i64 n]] H λ v H'=>v=.agg (ep (x.px c n).2)/\uh Hb H w B cvs hv bs ks (k+1) (x.px c n).1 H':=by
 refine qus ?_;have⟨H1,o,p⟩:=vA h c n g;have bb:BB x.b:=h.C.bb h.I (by omega);simp only[aa,bc,qut,Ho,p.e1,p.e2,aA,p.r.bm,p.l1,p.l2];unfold Wo.px;cases hn:x.nd c with
 |none =>
  refine C3.q (ad4 p.r.b bb (Wo.JK hn) n) λ v j⟨a,m⟩=>?_;subst a;subst m;have⟨l,e,l4,d⟩:=p.em (Fr.refl _) (iA 2);simp only[aa,bc,JZ,e,l4];exact d
 |some nd =>
  have⟨f,hn⟩:=Wo.yV hn;refine C3.q (Ec p.r.b bb f hn n) λ v j⟨a,hp⟩=>?_;subst a;have es:x.b.step ⟨6,c,n,0,0⟩=x.b.put c.toNat (nd.da n):=VS (x:=⟨6,c,n,0,0⟩) (show(6:Int)≠7 by decide) f hn;obtain⟨l,e,l4,d⟩:=p.ia ⟨6,c,n,0,0⟩ bI (by rw[es];exact hp) (iA (gM nd n));simp only[aa,bc,JZ,e,l4];exact d
def xne(h:eV Hb H w B cvs hv bs own ks V k x)(hk:k<=90000)(c n O:Int):zk M Qb [.ptr w 0,.agg [.int .i64 O,.int .i64 c,.int .i64 n]] H λ v H'=>v=.agg (ep (Ak x.b n))/\uh Hb H w B cvs hv bs ks (k+1) {x with b:=x.b.step ⟨7,c,n,0,0⟩} H':=by
 refine qrt ?_;have⟨H1,F,p⟩:=vA h c n O;have bb:BB x.b:=h.C.bb h.I (by omega);simp only[aa,bc,qru,Ho,zMg,p.e1,p.e2,aA,p.r.bm,p.l2]
 -- what is left to do
 have rest:∀{a:ar}{f:Bs}{d:Nat->Nat}{V3:Int->L8}{o:List Ck}{y:Wo}{m:Mg}{er:Int},eV Hb a w B cvs hv f d o V3 (k+1) y->F.au<=a.au->(∀z,fR F w B cvs hv bs (wide ks H.au) z->fR a w B cvs hv f o z/\a.get z=F.get z) -> ∃e j,Op.store 11 [.ptr a.au 0,.agg (ao m)] (a.alloc (OR (ao Pc) xr))=B1 (.undef,e)/\Op.av 11 [.ptr a.au 0] e=B1 (.agg (ao m))/\Op.store 14 [.ptr H1.au 0,.agg (ep ⟨er,m,0,0⟩)] e=B1 (.undef,j)/\Op.av 14 [.ptr H1.au 0] j=B1 (.agg (ep ⟨er,m,0,0⟩))/\uh Hb H w B cvs hv bs ks (k+1) y j:=λ{a f d V3 o y m er}L T D=>by
  obtain⟨e,G⟩:∃Z,Z=(a.alloc (OR (ao Pc) xr)).set a.au (OR (ao m) xr):=⟨_,rfl⟩
  have K:Fr Em a e:=G▸((Fr.refl a).alloc _).set (.inr (qm _)) _;have P:e.get a.au=B1 (OR (ao m) xr):=by rw[G,xj]
  have S:=K.au;have⟨j,E,R,u⟩:=p.post (L.em K) (by omega) (λ z q=>⟨(D z q).1.wide S (λ q=>.inl q) λ q=>.inl q,(K.ah z (D z q).1.lt id).trans (D z q).2⟩) ⟨er,m,0,0⟩;exact⟨e,j,by rw[G];exact iv (xt a _) (zn _) (zn m) (rR _),fq P (zn m),E,R,u⟩
 by_cases hn:0<=n/\n<x.b.fl.length
 .obtain ⟨i,rfl⟩:=jt hn.1;have Q:i<x.b.fl.length:=by omega
  obtain⟨m,hm⟩:∃m,x.b.fl[i]? = B1 m:=⟨_,qy Q⟩
  have J:Ak x.b (i:Int)=⟨0,m,0,0⟩:=by unfold Ak;rw[xb hn.1,FO,hm]
  rw[J];have es:x.b.step ⟨7,c,(i:Int),0,0⟩=x.b.uE i:=by unfold Bu.step;rw[xb rfl,xb ⟨hn.1,hn.2⟩];rfl
  refine C3.q (xbb p.r.b bb h.I (λ y q=>ze (h.C.wt y q) (by omega)) hm) λ v a⟨l,hp⟩=>?_;subst l;obtain⟨f,d,V3,L,D,g⟩:=p.r.ia ⟨7,c,(i:Int),0,0⟩ bI (by rw[es];exact hp);obtain⟨e,j,N,s,E,t,u⟩:=rest (m:=m) (er:=0) L g.au λ z q=>⟨q.wide g.au (λ q=>.inl q) (D z),g.ah z q.lt q.nb⟩
  simp only[aa,bc,aA,N,s,_Z,E,t];exact u
 .have J:Ak x.b n=iA 50:=by
   unfold Ak
   by_cases q:0<=n
   .rw [xb q,z4 (by omega)]
   .rw [qt q]
  have es:x.b.step ⟨7,c,n,0,0⟩=x.b:=by unfold Bu.step;rw[xb rfl,qt hn]
  rw[J,es];refine C3.q (xhq p.r.b bb hn) λ v a⟨l,g⟩=>?_;subst l;have⟨e,j,N,s,E,t,u⟩:=rest (m:=Pc) (er:=50) ((p.r.em g).mono (ke k)) g.au λ z q=>⟨q.wide g.au (λ q=>.inl q) λ q=>.inl q,g.ah z q.lt id⟩
  simp only[aa,bc,aA,show ao ⟨0,0,0,.zero⟩=ao Pc from rfl,N,s,_Z,E,t];exact⟨rfl,u⟩
end
end Go.Am
namespace Go.Am
open Lang Go.Proofs
variable{M:ak}[MK M]
section
variable{Hb H H':ar}{w B k k' i:Nat}{cvs hv:AV}{bs:Bs}{own:Nat->Nat}{ks:List Ck}{V:Int->L8}{x y:Wo}{c:Co}{A:Ck}
def Wo.zK(x:Wo)(i:Nat)(c:Co):Wo:={x with b:=(CS.step ⟨c,x.b,[]⟩).1.b,cs:=x.cs.set i (CS.step ⟨c,x.b,[]⟩).1.c}
end
end Go.Am
namespace Go.Am
open Lang
def lY(t:To)(e:fF):To:=if e.kind=6 then{t with cd:=e.code,co:=e.core}else t
namespace Wo
def at'(x:Wo)(c:Int):Option Co:=if 0<=c then x.cs[c.toNat]? else B5
def told(x:Wo)(l:List fF):Wo:={x with h:=x.h++l.map λ e=>{e with time:=x.n}}
def C9(x:Wo):x.told []=x:=by unfold told;rw[AE,zt]
def pG(x:Wo)(c:Int):Wo×To:=match x.at' c with
 |none=>(x,iA 2)
 |some q=>((x.zK c.toNat q).told (CS.step ⟨q,x.b,[]⟩).1.o,(CS.step ⟨q,x.b,[]⟩).1.o.foldl lY (iA (CS.step ⟨q,x.b,[]⟩).2))
def iM(x:Wo)(a:Act):Wo×To :=
 if a.kind=1 then x.pG a.core
 else if a.kind=2 then({x with b:=x.b.step ⟨7,a.core,a.n,0,0⟩},Ak x.b a.n)
 else if a.kind=3 then x.px a.core a.n
 else if a.kind=4 then x.fault a.core
 else(x,iA 140)
def Ks(x:Wo)(a:Act):(x.iM a).1.n=x.n:=by
 unfold iM pG px fault
 repeat' split
 all_goals rfl
def act(x:Wo)(a:Act):Wo×To:=({(x.iM a).1 with n:=x.n+1},(x.iM a).2)
def run(x:Wo):List Act->Wo×List To
 |[]=>(x,[])
 |a::l=>(((x.act a).1.run l).1,(x.act a).2::((x.act a).1.run l).2)
def A_:∀(l m:List Act)(x:Wo),x.run (l++m)=(((x.run l).1.run m).1,(x.run l).2++((x.run l).1.run m).2)
 |[],m,x=>rfl
 |a::l,m,x=>by
  rw[Ik,run,run,A_ l m];rfl
def HJ(x:Wo)(l:List Act)(a:Act):x.run (l ++ [a])=(((x.run l).1.act a).1,(x.run l).2 ++ [((x.run l).1.act a).2]):=by
 rw[A_];rfl
def tq:∀(l:List Act)(x:Wo),(x.run l).2.length=l.length
 |[],x=>rfl
 |a::l,x=>by rw[run,zq,tq l,zq]
def Ei:∀(l:List Act)(x:Wo),(x.run l).1.n=x.n+l.length
 |[],x=>(Int.add_zero _).symm
 |a::l,x=>by
  rw[run,Ei l,zq];show x.n+1+(l.length:Int)=_;omega
def EM(x:Wo)(a:Act):∃l:List fF,(x.iM a).1.h=x.h++l.map (λ e=>{e with time:=x.n})/\l.length<=3:=by
 have d:∃l:List fF,x.h=x.h++l.map (λ e=>{e with time:=x.n})/\l.length<=3:=⟨[],by rw[AE,zt],by decide⟩
 unfold iM;split
 .unfold pG;split
  .exact d
  .rename_i c _;have⟨l,e,n,_⟩:=CS.CE ⟨c,x.b,[]⟩;exact⟨_,rfl,by rw[e];exact n⟩
 .unfold px fault
  repeat' split
  all_goals exact d
def QR(x:Wo)(a:Act):(x.act a).1.h.length<=x.h.length+3:=by
 have⟨l,e,n⟩:=EM x a;show(x.iM a).1.h.length<=_;rw[e,xe,xu];omega
structure HT(x:Wo):Prop where
 n0:0<=x.n
 lt:∀e∈x.h,0<=e.time/\e.time<x.n
 up:x.h.Pairwise λ a b=>a.time<=b.time
def HT.act{x:Wo}(h:HT x)(a:Act):HT (x.act a).1:=by
 have⟨l,e,_⟩:=EM x a;have n0:=h.n0;have tm:∀y∈l.map (λ e:fF=>{e with time:=x.n}),y.time=x.n:=λ y q=>by
  obtain⟨z,_,rfl⟩:=FI.1 q;rfl
 refine⟨by show(0:Int)<=x.n+1;omega,λ y q=>?_,?_⟩
 .show 0<=y.time/\y.time<x.n+1;have q:y∈(x.iM a).1.h:=q;rw[e]at q;rcases z6.1 q with q|q
  .have:=h.lt y q;omega
  .have:=tm y q;omega
 .show (x.iM a).1.h.Pairwise _;rw[e,List.pairwise_append];refine⟨h.up,?_,λ a ha b hb=>?_⟩
  .rw [List.pairwise_map];exact List.pairwise_of_forall λ _ _=>vJ _
  .rw [tm b hb];exact Int.le_of_lt (h.lt a ha).2
def HT.run:∀(l:List Act){x:Wo},HT x->HT (x.run l).1
 |[],x,h=>h
 |a::l,x,h=>HT.run l (h.act a)
def D3:∀(l:List Act)(x:Wo),(x.run l).1.h.length<=x.h.length+3*l.length
 |[],x=>qm _
 |a::l,x=>by
  have:=D3 l (x.act a).1;have:=QR x a;rw[zq];show((x.act a).1.run l).1.h.length<=_;omega
end Wo
end Go.Am
namespace Go.Am
open Lang Go.Proofs
variable{M:ak}[MK M]
section
variable{Hb H H':ar}{w B k k' i:Nat}{cvs hv:AV}{bs:Bs}{own:Nat->Nat}{ks:List Ck}{V:Int->L8}{x y:Wo}{c:Co}{A:Ck}
def eV.yB(h:eV Hb H w B cvs hv bs own ks V k x)(n:H.au<=H'.au)(f:∀z,z<H.au -> ¬fR H w B cvs hv bs ks z->H'.get z=H.get z):eV (H'.low Hb.au) H' w B cvs hv bs own (wide ks H.au) V k x:=by
 have F:Fr (fR H w B cvs hv bs ks) H H':=⟨n,f⟩
 have g:=h.em (H':=⟨H.t,H'.au⟩) ⟨n,λ _ _ _=>rfl⟩;refine⟨h.row.fr F λ q=>q.nw (.inl rfl),?_,Own.fr h.hl F λ z e q=>q.nw (.inr (.inr e)),h.b.yB F λ z q=>q.nb,h.I,h.C,h.U,λ j d u o a=>?_,g.kl,g.nl,g.dj,g.d2,g.lo,g.wb,g.w1,g.w2⟩
 .unfold wide;rw[wv];exact Own.fr h.cl F λ z e q=>q.nw (.inr (.inl e))
 .obtain ⟨l,e1,rfl⟩:=HA a;have⟨p,s⟩:=h.co j d l o e1;exact⟨p.fr F (λ z m r q=>r (q.nc j l e1)) (λ z m=>iQ m) (qm _),s⟩
def ag8(h:eV Hb H w B cvs hv bs own ks V k x)(hk:k+1<=90000)(m:qK H)(J:kj<Hb.au)(s:x.cs[i]? = B1 c)(d:ks[i]? = B1 A):zk M Ky [.ptr A.p 0,.iface FA (.ptr B 0)] H λ v H'=>∃a,v=.tuple [a,.int .i64 (CS.step ⟨c,x.b,[]⟩).2]/\aU fF.enc kr 9 H' a (CS.step ⟨c,x.b,[]⟩).1.o/\H.au<=H'.au /\
 ∃bs' aL f g,eV Hb H' w B cvs hv bs' aL f g (k+2) (x.zK i c)/\(∀z,aN a z -> ¬t9 w cvs hv z) /\ ∀z,fR H w B cvs hv bs ks z->fR H' w B cvs hv bs' f z/\H'.get z=H.get z /\ ¬aN a z:=by
 have G:A.o kj=0:=zi λ q=>by have:=h.lo i A d _ m.2 q;omega
 have C:=CS.Dc ⟨c,x.b,[]⟩;refine(Mj (X:=A.at Hb H B bs k) (n:=0) (h.re s d) (show k+0+1<=90000 by omega) m G).mono λ v H' q=>?_;have⟨a,hv',o',rv',bs',aL,g,r,ow,D⟩:=q;have hw:=h.back s d C.id C.ns r;have u:i<ks.length:=(qo.1 d).1;have nx:H.au<=H'.au:=r.fr.au;refine⟨a,hv',ow,nx,bs',aL,_,g,hw,λ z q e=>?_,λ z q=>?_⟩
 .have:=hw.dj i {A with rv:=rv',o:=o'} (xy (by rw[xu];exact u)) z (.inr e);have t:=D z q;have this:o' z=0:=this;omega
 .have F:=q.lt;have E:A.o z=0:=q.nc i A d;have o0:o' z=0:=zi λ e=>by
   rcases r.go z (by omega) e with⟨_,t⟩|t
   .exact t E
   .have:H.au<=z:=t;omega
  refine⟨⟨by omega,λ e=>?_,q.nw,λ j I e=>?_⟩,r.fr.ah z F λ e=>e.elim (λ e=>e E) q.nb,λ e=>by have:=D z e;omega⟩
  .rcases r.gb z e with t|t
   .exact q.nb t
   .have:H.au<=z:=t;omega
  .by_cases w:j=i
   .subst w;rw[xy (by rw[xu];exact u)]at e;cases e;exact o0
   .rw [xz (λ e=>w e.symm),xk]at e;obtain⟨l,e1,rfl⟩:=xm.1 e;show Go.Am.aL l.o H.au 0 z=0;rw[iQ F];exact q.nc j l e1
end
end Go.Am
