import Derived.Test.YtpnpgihabgglcaaGreatDoorAmUZl
import Derived.Test.YtpnpgihabgglcaaGreatDoorAmUZj
import Derived.Test.YtpnpgihabgglcaaGreatDoorAmUZf
set_option linter.defProp false
set_option linter.unusedVariables false
set_option linter.unusedSimpArgs false
set_option linter.unusedSectionVars false
set_option maxRecDepth 100000
open Nat renaming reduceEqDiff→bc
namespace Go.Am
open Lang Go.Proofs
variable{M:ak}[MK M]
def CN:Op.mkMap []=some (.map [] 0,.map):=rfl
def tX{H:ar}{b e n:Nat}{z l:List AV}(g:H.get b=some (OR z e))(d:z.length=n)(hl:l.length=n)(a:aJ l=true):∃H',Op.store n [.ptr b 0,.agg l] H=some (.undef,H')/\Op.aq n [.ptr b 0] H'=some (.agg l)/\Fr (On b) H H'/\H'.get b=some (OR l e) :=
 ⟨_,gK g d hl a,fp (xc ..) hl,cE ..,xc ..⟩
def okB(f s o:Int):Prop:=(0<=f/\f<=16)/\(0<=s/\s<=16)/\0<=o/\o<=16
instance(f s o:Int):Decidable (okB f s o):=by unfold okB;infer_instance
def xdj(b o:Nat):Op.cD 5 1 [(some 0),(some 1),none] [.ptr b o,.int .i64 1,.int .i64 4]=some (.slice b (o+1) 3 4):=by
 rfl
def XM{b o n c i:Nat}{k:IntKind}(h:i<n):Op.aO 1 [.slice b o n c,.int k (i:Int)]=some (.ptr b (o+i)):=by
 have a:=Ei h;simp[Op.aO,eY,Jj (z:=(i:Int)) rfl h,elemAt,a]
def q9e{H:ar}{f s o:Int}:za M qoy [.agg [.int .i64 f,.int .i64 s,.int .i64 o]] H λ v H'=>v=.tuple [.agg [.int .i64 0,.int .i64 f,.int .i64 s,.int .i64 o,.int .i64 (-1)],.bool (decide (okB f s o))]/\Fr Em H H':=by
 refine q29 ?_;have l1:∀b,Op.dc [.slice b 1 3 4]=some (.int .i64 3):=λ _=>rfl;obtain⟨H1,m,R,n1,T⟩:=bX H (OR [.int .i64 f,.int .i64 s,.int .i64 o] D7);obtain⟨e,O,G,n2,U⟩:=bX H1 (OR [.int .i64 0,.int .i64 0,.int .i64 0,.int .i64 0,.int .i64 0] fR);obtain⟨Hz,P,I,n3,V⟩:=bX e (OR [.int .i64 0,.int .i64 0,.int .i64 0,.int .i64 0,.int .i64 0] fR);have x:e.get H.au=some (OR [.int .i64 f,.int .i64 s,.int .i64 o] D7):=(G.ah _ (by omega) id).trans T
 have Y:Op.ae [.ptr H.au 0] e=some (.int .i64 f):=xz (qy x) 0;have Z:Op.ae [.ptr H.au 1] e=some (.int .i64 s):=xz (qy x) 1;have k2:Op.ae [.ptr H.au 2] e=some (.int .i64 o):=xz (qy x) 2;have N:Op.build [.int .i64 0,.int .i64 0,.int .i64 0,.int .i64 0,.int .i64 0] [(1,1),(2,1),(3,1),(4,1)] [.int .i64 f,.int .i64 s,.int .i64 o,.int .i64 (-1)]=some (.agg [.int .i64 0,.int .i64 f,.int .i64 s,.int .i64 o,.int .i64 (-1)]):=rfl;obtain⟨t,s4,l4,y,W⟩:=tX (n:=5) (l:=[.int .i64 0,.int .i64 f,.int .i64 s,.int .i64 o,.int .i64 (-1)]) V rfl rfl rfl;have n4:=y.au
 have K:Fr Em H t:=((R.em G).em I).trans y λ z(q:z=e.au)=>.inr (by omega);have z3:t.get H1.au=some (OR [.int .i64 0,.int .i64 0,.int .i64 0,.int .i64 0,.int .i64 0] fR):=(y.ah _ (by omega) λ q:H1.au=e.au=>by omega).trans ((I.ah _ (by omega) id).trans U)
 obtain⟨L,D,C,S,-⟩:=tX (n:=5) (l:=[.int .i64 0,.int .i64 f,.int .i64 s,.int .i64 o,.int .i64 (-1)]) z3 rfl rfl rfl;have w:Fr Em H L:=K.trans S λ z(q:z=H1.au)=>.inr (by omega);simp only[aa,bc,Nh,<-m,<-O,<-P,Y,Z,k2,N,s4,xdj,l1]
 let g:Nat->Int:=λ i=>if i=0 then f else if i=1 then s else o
 have a:∀i,i<3->Op.ae [.ptr e.au (1+i)] t=some (.int .i64 (g i)):=λ i X=>by
  rw[xz (qy W)];have:i=0\/i=1\/i=2:=by omega
  rcases this with rfl|rfl|rfl<;>rfl
 refine de.intro (λ n E F=>∃i,F=t/\E=[(14,.slice e.au 1 3 4),(15,.int .i64 3),(16,.int .i64 (i:Nat)),(4,.ptr e.au 0),(2,.ptr H1.au 0)]/\n=3-i/\i<=3 /\ ∀j,j<i->0<=g j/\g j<=16) ?_ ?_
 .exact ⟨_,_,⟨0,rfl,rfl,rfl,by omega,λ j J=>by omega⟩,by simp only[aa,bc]⟩
 rintro n E F ⟨i,rfl,rfl,rfl,X,k⟩
 by_cases d:i<3
 .have m:(i:Int)<3:=by omega
  have Q:aj .i64 ((i:Int)+1)=((i+1:Nat):Int):=by rw[js (by omega) (by omega)];omega
  have lM:¬(0<=g i/\g i<=16)->decide (okB f s o)=false:=λ h=>by
   refine j9 λ⟨p,u,h3⟩=>h ?_;have:i=0\/i=1\/i=2:=by omega
   rcases this with rfl|rfl|rfl
   .exact p
   .exact u
   .exact h3
  by_cases p:g i<0
  .simp only[aa,bc,Nh,m,XM d,a i d,p,l4,D,C];exact⟨by rw[lM (by omega)],w⟩
  .by_cases u:16<g i
   .simp only[aa,bc,Nh,m,XM d,a i d,p,u,l4,D,C];exact⟨by rw[lM (by omega)],w⟩
   .simp only[aa,bc,Nh,m,XM d,a i d,p,u,Q];refine⟨_,_,⟨i+1,rfl,rfl,by omega,λ j J=>?_⟩,by simp only[aa,bc],by omega⟩;rcases Nat.lt_succ_iff_lt_or_eq.1 J with q|rfl
    .exact k j q
    .omega
 .have A:i=3:=by omega
  subst A;have m:¬((3:Nat):Int)<3:=by omega
  have hk:decide (okB f s o)=true:=kj ⟨k 0 (by omega),k 1 (by omega),k 2 (by omega)⟩;simp only[aa,bc,Nh,m,l4,D,C];exact⟨by rw[hk],w⟩
def Y1(f s o:Int):List AV:=[.int .i64 0,.int .i64 f,.int .i64 s,.int .i64 o,.int .i64 (-1),.int .i64 0,.int .i64 0,.int .i64 0,.int .i64 0,.int .i64 0,.int .i64 0,.bool true]
def NL(H:ar)(f s o:Int)(v:AV)(H':ar):Prop:=(okB f s o /\ ∃b,v=.tuple [.ptr b 0,.int .i64 0]/\H.au<=b/\b<H'.au/\H'.get b=some (OR (Y1 f s o) yw))\/(¬okB f s o/\v=.tuple [.nilp,.int .i64 2])
def q7w{H:ar}{f s o:Int}:za M q0j [.agg [.int .i64 f,.int .i64 s,.int .i64 o]] H λ v H'=>NL H f s o v H'/\Fr Em H H':=by
 refine xcm ?_;have a:Fr Em H (H.alloc (OR [.int .i64 f,.int .i64 s,.int .i64 o] D7)):=(Fr.refl H).alloc _;simp only[aa,bc,Ty,og H [.int .i64 f,.int .i64 s,.int .i64 o] _ _ _ 3 rfl];refine C3.q (q9e (M:=M)) λ v i⟨x,d⟩=>?_;subst x;have g:=d.au
 rw[xx]at g;obtain⟨y,j,u,A,w⟩:=bX i (OR [.int .i64 0,.int .i64 0,.int .i64 0,.int .i64 0,.int .i64 0] fR);obtain⟨p,m,l4,k,-⟩:=tX (n:=5) (l:=[.int .i64 0,.int .i64 f,.int .i64 s,.int .i64 o,.int .i64 (-1)]) w rfl rfl rfl;have h:Fr Em H p:=(a.em (d.em u)).trans k λ z(q:z=i.au)=>.inr (by have:=a.au;omega);have C:=k.au
 have t:Op.build [.int .i64 0,.int .i64 0,.int .i64 0,.int .i64 0,.int .i64 0,.int .i64 0,.int .i64 0,.int .i64 0,.int .i64 0,.int .i64 0,.int .i64 0,.bool false] [(0,5),(11,1)] [.agg [.int .i64 0,.int .i64 f,.int .i64 s,.int .i64 o,.int .i64 (-1)],.bool true]=some (.agg (Y1 f s o)):=rfl
 by_cases hk:okB f s o
 .have e:decide (okB f s o)=true:=kj hk;simp only[aa,bc,Ty,aA,e,<-j,m,l4,t];exact⟨.inl ⟨hk,_,rfl,by omega,by rw[xx];omega,xf ..⟩,h.alloc _⟩
 .have e:decide (okB f s o)=false:=j9 hk;simp only[aa,bc,Ty,aA,e,<-j,m];exact⟨.inr ⟨hk,rfl⟩,h⟩
def bs0(e:Nat)(zero:List AV):Op.buildSlice e 0 zero [] []=some (.row [] e (0,0) true,Op.sliceTo 0 0):=rfl
def xiv(H:ar):Op.eq .slice false [.nils,.nils] H=some (.bool true):=rfl
def Dw{H:ar}{size:Nat}{v:AV}{n:Nat}{cells:List AV}(h:Sl H size v n cells)(a:v≠ .nils)(H':ar):Op.eq .slice false [v,.nils] H'=some (.bool false):=by
 obtain⟨_,h⟩:=h;cases v<;>first|exact(a rfl).elim|rfl|exact h.elim
def M7{H:ar}{a:AV}{n:Nat}{cells:List AV}(ha:Sl H 5 a n cells)(f:aJ cells=true)(hl:n*40<=140737488355328){K:Bool->AV->ar->Prop}{m:Bool}
 (hk:∀h H',Own H' Eo 5 h n cells->Fr Em H H'->(∀b,aW h b->H.au<=b)->K m h H'):iS m (Op.append Eo 5 40 [Op.sliceTo 0 0 H.au,a] (H.alloc (.row [] Eo (0,0) true))) K:=by
 have d:Fr Em H (H.alloc (.row [] Eo (0,0) true)):=(Fr.refl H).alloc _;refine xdv (e:=Eo) (n:=0) (cells:=[]) ⟨rfl,.inl ⟨rfl,.inr ⟨H.au,rfl,by rw[xx];omega⟩⟩⟩ (ha.em d) f (by omega) (by omega) (by omega) λ h j g k i=>hk h j ?_ ?_ λ b hb=>?_
 .rw [jy,zw]at g;exact g
 .exact d.trans k λ x l=>.inr (by rw[l.2];exact qg _)
 .exact (i b hb).elim (λ q=>by rw[q.2];exact qg _) λ q=>xu d.au q
def MQ:Fi:=⟨List.replicate 8 0,0,none⟩
def QU:So:=⟨[],[],⟨0,0,0,0⟩,none,false,false,false,0,0,0,0⟩
def xa3{H:ar}:za M q5r [] H λ v H'=>v=.ptr H.au 0/\H'=H.alloc (OR (bZ MQ .nilp) FU):=by
 refine xgx ?_;have a:Op.build [.int .u64 0,.int .u64 0,.int .u64 0,.int .u64 0,.int .u64 0,.int .u64 0,.int .u64 0,.int .u64 0,.int .i64 0,.nilp,.bool false] [(10,1)] [.bool true]=some (.agg (bZ MQ .nilp)):=rfl;simp only[aa,bc,xgy,a]
structure Te(H H':ar):Prop where
 n:H'.au=H.au+5
 a:H'.get H.au=some (.map [] 0)
 b:H'.get (H.au+1)=some (OR [.nils,.map H.au] HF)
 c:H'.get (H.au+2)=some (.map [] 0)
 d:H'.get (H.au+3)=some (OR [.nils,.map (H.au+2)] HF)
 e:H'.get (H.au+4)=some (OR [.ptr (H.au+1) 0,.ptr (H.au+3) 0] RW)
 f:Fr Em H H'
def xcn{H:ar}:za M qc [] H λ v H'=>v=.ptr (H.au+4) 0/\Te H H':=by
 refine xjl ?_;have a:∀b,Op.build [.nils,.lI] [(1,1)] [.map b]=some (.agg [.nils,.map b]):=λ _=>rfl;have d:∀x y,Op.build [.nilp,.nilp] [(0,1),(1,1)] [.ptr x 0,.ptr y 0]=some (.agg [.ptr x 0,.ptr y 0]):=λ _ _=>rfl;simp only[aa,bc,xjm,CN,a,d];refine⟨rfl,rfl,?_,?_,?_,?_,?_,(((((Fr.refl H).alloc _).alloc _).alloc _).alloc _).alloc _⟩
 .exact (((wo (by simp only[xx];omega) _).trans (wo (by simp only[xx];omega) _)).trans (wo (by simp only[xx];omega) _)).trans ((wo (by simp only[xx];omega) _).trans (xf ..))
 .exact ((wo (by simp only[xx];omega) _).trans (wo (by simp only[xx];omega) _)).trans ((wo (by simp only[xx];omega) _).trans (xf ..))
 .exact (wo (by simp only[xx];omega) _).trans ((wo (by simp only[xx];omega) _).trans (xf ..))
 .exact (wo (by simp only[xx];omega) _).trans (xf ..)
 .exact xf ..
def Gi(o:Nat->Nat)(n:Nat)(z:Nat):Nat:=if z<n then o z else if z=n then 11 else if z=n+1 then 10 else if z=n+2 then 21 else if z=n+3 then 20 else if z=n+4 then 9 else 8
def xbb{H:ar}:za M iw [] H λ v H'=>v=.ptr (H.au+5) 0/\H'.au=H.au+6/\Fr Em H H' /\ ∀o,dK H' (Gi o H.au) (H.au+5) QU (H.au+4) .nilf:=by
 refine xg4 ?_;have i:∀x,Op.build [.nilp,.int .i64 0,.int .i64 0,.int .u64 0,.int .u64 0,.nilf,.bool false,.bool false,.bool false,.int .u64 0,.int .u64 0,.int .i64 0,.int .i64 0] [(0,1)] [.ptr x 0]=some (.agg (dy QU x .nilf)):=λ _=>rfl;simp only[aa,bc,xg5];refine C3.q (xcn (M:=M)) λ v H1⟨j,L⟩=>?_;subst j;simp only[aa,bc,i];have n1:=L.n;obtain⟨h,g⟩:∃Z,Z=H1.alloc (OR (dy QU (H.au+4) .nilf) Cy):=⟨_,rfl⟩
 have n2:h.au=H.au+6:=by rw[g,xx,n1]
 have k:∀z,z<H1.au->h.get z=H1.get z:=λ z q=>by rw[g,wo q]
 rw[<-g];refine⟨by rw[n1],n2,L.f.em (g▸(Fr.refl H1).alloc _),λ o=>⟨⟨by rw[g,<-n1];exact xf ..,by omega⟩,⟨H.au+1,H.au+3,.nils,H.au,0,.nils,H.au+2,0,⟨by rw[k _ (by omega)];exact L.e,by omega⟩,?_,⟨⟨by rw[k _ (by omega)];exact L.b,by omega⟩,Own.nil ..,by rw[k _ (by omega)];exact L.a,by omega,xy _,?_,?_,λ z q=>(q.1 rfl).elim⟩,⟨⟨by rw[k _ (by omega)];exact L.d,by omega⟩,Own.nil ..,by rw[k _ (by omega)];exact L.c,by omega,xy _,?_,?_,λ z q=>(q.1 rfl).elim⟩⟩,rfl,?_,rfl,bF,λ y w=>(List.not_mem_nil w).elim,bF⟩⟩
 all_goals (unfold Gi;simp<;>(intro;omega))
end Go.Am
namespace Go.Am
open Lang Go.Proofs
variable{M:ak}[MK M]
def ZU:∀(code:List gO),aJ (code.flatMap fh)=true
 |[]=>rfl
 |i::l=>by rw[ju,yj,List.all_append,<-yj,<-yj,ZU l];rfl
def xby{H:ar}{a:AV}{code:List gO}(ha:dU fh 5 H a code)(hl:code.length<=1000000):za M qga [a] H λ v H'=>av v=true/\dU fh 5 H' v code/\(code≠[]->H.au<=aH v/\aH v<H'.au)/\Fr Em H H':=by
 refine qmv ?_
 by_cases hn:a=.nils
 .subst hn;simp only[aa,bc,qge,xiv];have:code.length=0:=by
   have:=ha.len;have q:Op.dc [AV.nils]=some (.int .i64 0):=rfl;rw[q]at this;injection this with this;injection this with _ this;omega
  exact⟨rfl,ha,λ q=>(q (jt.1 this)).elim,Fr.refl _⟩
 .simp only[aa,bc,qge,Dw ha hn,bs0];refine M7 ha (ZU code) (by omega) λ i g d h f=>?_;simp only[aa,bc];have e:a9 fh Eo 5 g i code:=d;exact⟨Sl.one d.sl,a9.sl e,λ q=>⟨f _ (vS e q),Own.lt e _ (vS e q)⟩,h⟩
def O8(id:Int)(n:Nat)(f s o ln:Int):Prop:=okB f s o/\0<=id/\id<4/\n<=1024/\2<=ln/\ln<=64
instance(id:Int)(n:Nat)(f s o ln:Int):Decidable (O8 id n f s o ln):=by unfold O8;infer_instance
def Ii(id ln:Int)(code:List gO)(f s o:Int):Co:=⟨id,ln,code,MQ,⟨[0,f,s,o,-1],0,La.fL⟩,QU,0,hO,0,[],0,false,false,false,0,0,false,false⟩
def CoN(H:ar)(c:Co)(v:AV)(H':ar):Prop:=∃p f l sp cv,v=.tuple [.ptr p 0,.int .i64 0]/\H.au<=p /\ ∀o:Nat->Nat,∃o',(∀z,z<H.au->o' z=o z)/\dH H' o' p f l sp cv .nils .nils .nili c [] 0
def zb(ok:Prop)(H:ar)(c:Co)(v:AV)(H':ar):Prop:=(ok/\CoN H c v H')\/(¬ok/\v=.tuple [.nilp,.int .i64 2])
def q9m{H:ar}{id ln f s o:Int}{a:AV}{code:List gO}(ha:dU fh 5 H a code) :
 za M p6 [.int .i64 id,a,.agg [.int .i64 f,.int .i64 s,.int .i64 o],.int .i64 ln] H λ v H'=>zb (O8 id code.length f s o ln) H (Ii id ln code f s o) v H'/\Fr Em H H':=by
 refine xfs ?_;have O:Fr Em H (H.alloc (OR [.int .i64 f,.int .i64 s,.int .i64 o] D7)):=(Fr.refl H).alloc _;simp only[aa,bc,HT,og H [.int .i64 f,.int .i64 s,.int .i64 o] _ _ _ 3 rfl];refine C3.q (q7w (M:=M)) λ v U⟨hq,E⟩=>?_;have d:=O.em E;rcases hq with⟨hk,l,rfl,l1,l2,l3⟩|⟨hk,rfl⟩
 .by_cases C:id<0
  .simp only[aa,bc,HT,xe,C];exact⟨.inr ⟨λ⟨_,q,_⟩=>by omega,rfl⟩,d⟩
  by_cases D:4<=id
  .simp only[aa,bc,HT,xe,C,D];exact⟨.inr ⟨λ⟨_,_,q,_⟩=>by omega,rfl⟩,d⟩
  by_cases I:(1024:Int)<(code.length:Nat)
  .simp only[aa,bc,HT,xe,C,D,ha.len,I];exact⟨.inr ⟨λ⟨_,_,_,q,_⟩=>by omega,rfl⟩,d⟩
  by_cases c4:ln<2
  .simp only[aa,bc,HT,xe,C,D,ha.len,I,c4];exact⟨.inr ⟨λ⟨_,_,_,_,q,_⟩=>by omega,rfl⟩,d⟩
  by_cases c5:64<ln
  .simp only[aa,bc,HT,xe,C,D,ha.len,I,c4,c5];exact⟨.inr ⟨λ⟨_,_,_,_,_,q⟩=>by omega,rfl⟩,d⟩
  simp only[aa,bc,HT,xe,C,D,ha.len,I,c4,c5];refine C3.q (xby (M:=M) (ha.em d) (by omega)) λ cv h⟨u,N,L,p⟩=>?_;refine C3.q (xa3 (M:=M)) λ v e⟨T,m⟩=>?_;subst T;have t:Fr Em h e:=by rw[m];exact(Fr.refl h).alloc _
  have P:e.get h.au=some (OR (bZ MQ .nilp) FU):=by rw[m];exact xf ..
  have Z:e.au=h.au+1:=by rw[m];rfl
  simp only[aa,bc];refine C3.q (xbb (M:=M)) λ v K⟨T,hn5,j,S⟩=>?_;subst T;have R:=E.au
  rw[xx]at R l1;have Y:=p.au
  have W:Op.build [.int .i64 0,.int .i64 0,.nils,.nilp,.nilp,.nilp,.int .i64 0,.int .i64 0,.int .i64 0,.int .i64 0,.int .u64 0,.int .u64 0,.int .u64 0,.nils,.int .i64 0,.bool false,.bool false,.bool false,.int .i64 0,.int .i64 0,.bool false,.bool false,.nils,.nili] [(0,1),(1,1),(2,1),(3,1),(4,1),(5,1)] [.int .i64 id,.int .i64 ln,cv,.ptr h.au 0,.ptr l 0,.ptr (e.au+5) 0]=some (.agg (cu (Ii id ln code f s o) h.au l (e.au+5) cv .nils .nils .nili)):=by
   cases cv<;>first|rfl|cases u
  simp only[aa,bc,W];obtain⟨H6,V,g,n6,-⟩:=bX K (OR (cu (Ii id ln code f s o) h.au l (e.au+5) cv .nils .nils .nili) Ge);rw[<-V];have fin:=(((d.em p).em t).em j).em g;refine⟨.inl ⟨⟨hk,by omega,by omega,by omega,by omega,by omega⟩,K.au,h.au,l,e.au+5,cv,rfl,by omega,λ o0=>?_⟩,fin⟩;obtain⟨F,k⟩:∃F,F=aR (aR (aR o0 H.au 3) U.au 7) h.au 2:=⟨_,rfl⟩
  obtain⟨J,A⟩:∃J,J=aR (Gi F e.au) K.au 1:=⟨_,rfl⟩
  have G:∀z,z<e.au->J z=F z:=λ z q=>by rw[A,i6 (by omega)];unfold Gi;rw[qr q]
  refine⟨J,λ z q=>by rw[G z (by omega),k,i6 (by omega),i6 (by omega),i6 q],?_⟩;have Q:kN U l ⟨[0,f,s,o,-1],0,La.fL⟩:=⟨⟨rfl,rfl,ya _,(show(0:Int)<=4 by decide),(show(-1:Int)≠0 by decide)⟩,l3,l2⟩
  have X:At e h.au FU (bZ MQ .nilp):=⟨P,by omega⟩
  refine⟨⟨by rw[V];exact xf ..,by omega⟩,⟨⟨by simp[Ii,MQ],λ v q=>by rw[vy q];exact bF,ya _⟩,.nilp,(X.em j).em g,rfl⟩,((Q.em p).em t |>.em j).em g,⟨e.au+4,.nilf,(S F).fr g (λ _ _ _ q=>q) λ z q=>by rw[A];exact i6 q⟩,((N.em t).em j).em g,Own.nil ..,Own.nil ..,?_,?_,?_,λ z q=>(q.1 rfl).elim,λ z q=>(q.1 rfl).elim,λ q=>?_,rfl,⟨by show 0<=id;omega,by show 2<=ln;omega,by show ln<=64;omega,by show code.length<=1024;omega,λ y w=>(List.not_mem_nil w).elim,xy _,ya _,bF,λ i x w=>by simp[Ii]at w⟩⟩
  .rw [A];exact mG (qg _)
  .rw [G _ (by omega),k];exact mG (qg _)
  .rw [G _ (by omega),k,i6 (by omega),i6 (by omega)];exact mG (by omega)
  .obtain ⟨q1,q2⟩:=L q;exact⟨by omega,by rw[G _ (by omega),k,i6 q2];exact mG q1⟩
 .simp only[aa,bc,HT,xe];exact⟨.inr ⟨λ q=>hk q.1,rfl⟩,d⟩
end Go.Am
namespace Go.Am
open Go.Proofs Ca
variable{M:ak}[MK M]
section
variable{H0 H:ar}{B:Nat}{s:Bs}{b:Bu}{own:Nat->Nat}
def eV.kH(h:eV H0 H B s b own){ws:List L8}{H':ar}(hm:zA H' s.mp s.lv ws)(hl:ws.length=b.m.length)(f:Fr (On (aH s.lv)) H H'):eV H0 H' B s {b with m:=ws} own:=by
 have j:s.dw (aH s.lv):=.inr (.inr (.inl rfl));have o1:=h.oD _ j;have g:∀{z k:Nat},own z=k->k≠1 -> ¬On (aH s.lv) z:=λ e1 e2(q:_=aH s.lv)=>e2 (by rw[<-e1,q];exact o1);have p:H0.au<=aH s.lv:=h.lo _ (.inr (.inl j))
 refine⟨by rw[f.ah _ h.lt (g h.oB (by decide))];exact h.row,qj h.lt f.au,⟨?_,qj h.d.lt f.au,hm,h.d.es.fr f λ(q:_=_)=>h.d.d1.2.2.2.2 q.symm,λ i x a o=>(h.d.wt i x a o).fr f λ z e(q:z=_)=>(h.d.d2 i x a o z e).2.2.1 q,h.d.d1,h.d.d2,h.d.d3,h.d.len.trans hl.symm⟩,h.dx,Own.fr h.nv f λ z e=>g (h.oN z e) (by decide),λ c n A hn l=>(h.no c n A hn l).off f λ z(q:z=_)=>⟨by rw[q];exact p,λ w=>g (h.oC c A l z w) (by omega) q⟩,h.al,h.fl.fr f λ z e=>g (h.oF z e) (by decide),h.oB,h.oD,h.oN,h.oF,h.oC,h.lo⟩;rw[f.ah _ h.d.lt λ q=>h.d.d1.2.1 q];exact h.d.row
end
def kH(m:List L8):List L8->Nat->List L8
 |[],_=>m
 |x::r,i=>kH (m.set i x) r (i+1)
def VQ:∀(fs:List L8)(m:List L8)(i:Nat),(kH m fs i).length=m.length
 |[],m,i=>rfl
 |x::r,m,i=>by unfold kH;rw[VQ r];exact xg
def xba:∀(fs:List L8)(m:List L8)(j i:Nat){x:L8},fs[i]? = some x->kH m (fs.take (i+1)) j=(kH m (fs.take i) j).set (j+i) x
 |y::r,m,j,0,x,h=>by injection h with h;subst h;rfl
 |y::r,m,j,i+1,x,h=>by
  show kH (m.set j y) (r.take (i+1)) (j+1)=(kH (m.set j y) (r.take i) (j+1)).set (j+(i+1)) x;rw[xba r _ (j+1) i (show r[i]? = some x from h),show j+1+i=j+(i+1)by omega]
def iO(l c s w:Int)(fs:List L8):Bu:={fU l c s w with m:=kH (fU l c s w).m fs 0}
def xb4{H:ar}{D mp:Nat}{lv ev:AV}{N:Int}{ws:List L8}{xs:List (De×AV)}(h:mj H D mp lv ev N ws xs){n:Int}(g:0<=n)(i:n<ws.length)(x:L8):za M qs0 [.ptr D 0,.int .i64 n,.agg (dS x)] H λ v H'=>zA H' mp lv (ws.set n.toNat x)/\Fr (On (aH lv)) H H':=by
 refine q7e ?_;obtain⟨H1,d,a,-,f⟩:=bX H (OR (dS x) k9);have ln:=fp f (wn x);have l0:Op.ae [.ptr D 0] H1=some (.ptr mp 0):=by rw[xz (qy (h.em a).row)];rfl
 simp only[aa,bc,q7f,<-d,yq,qn,l0,ln];refine C3.q (Uy (M:=M) (h.em a).me g i x) λ v k⟨j,hm,e⟩=>?_;subst j;simp only[aa,bc];exact⟨hm,(a.mono λ _ _ q=>q.elim).trans e λ z q=>.inl q⟩
def Gx(H:ar)(l c s w:Int)(fs:List L8)(v:AV)(H':ar):Prop:=(¬(pW l c s w/\(fs.length:Int)<=l)/\v=.tuple [.nilp,.int .i64 2]/\Fr Em H H')\/(pW l c s w/\(fs.length:Int)<=l) /\ ∃B bs own,v=.tuple [.ptr B 0,.int .i64 0]/\eV H H' B bs (iO l c s w fs) own/\Fr Em H H'
def q9f{H:ar}(l c s w:Int){fv:AV}{fs:List L8}(hF:dU dS 8 H fv fs)(hfb:fs≠[]->aH fv<H.au):za M Vf [.agg (dI l c s w),fv] H (Gx H l c s w fs):=by
 refine xh6 ?_;obtain⟨w0,w4,w12,w14,w41,R,w58,w46,w25,-,w40,S,-,w39⟩:=Ra M ⟨none,Vf⟩;obtain⟨H1,e1,Y,n1,g1⟩:=bX H (OR (dI l c s w) xZ);have ls:∀{o:ar}(k:Nat),Fr Em H1 o->Op.ae [.ptr H.au k] o=(dI l c s w)[k]?:=λ k f=>xz (qy (by rw[f.ah _ (by omega) id];exact g1)) k;have l0:Op.ae [.ptr H.au 0] H1=some (.int .i64 l):=ls 0 (Fr.refl _);have l1:Op.ae [.ptr H.au 1] H1=some (.int .i64 c):=ls 1 (Fr.refl _);simp only[aa,bc,w0,<-e1,l0,l1];refine C3.q (xb3 (M:=M) l c) λ v j⟨F,hv⟩=>?_;rcases hv with⟨U,rfl⟩|⟨U,D,mp,lv,ev,rfl,dr,lod⟩
 .have t2:¬(2:Int)=0:=by decide
  simp only[aa,bc,xe,w4,t2];exact .inl ⟨λ q=>U q.1.1,rfl,Y.trans F λ _ q=>.inl q⟩
 have t0:=xb (show(0:Int)=0 from rfl);have hd':=U;obtain⟨⟨m1,m2⟩,T,c2⟩:=hd';have P:Op.ae [.ptr H.au 0] j=some (.int .i64 l):=ls 0 F;have t:=hF.len
 by_cases qf:l<((fs.length:Nat):Int)
 .simp only[aa,bc,xe,w4,t,P,xb qf];exact .inl ⟨λ q=>by have:=q.2;omega,rfl,Y.trans F λ _ q=>.inl q⟩
 have q0:=qf;have bd:Op.build [.nilp,.nils,.nils,.int .i64 0] [(0,1),(3,1)] [.ptr D 0,.int .i64 l]=some (.agg [.ptr D 0,.nils,.nils,.int .i64 l]):=rfl;obtain⟨C,e3,f3,n3,g3⟩:=bX j (OR [.ptr D 0,.nils,.nils,.int .i64 l] K9);have p:Fr Em H1 C:=F.trans f3 λ _ q=>q.elim;have qX:Op.ae [.ptr H.au 1] C=some (.int .i64 c):=ls 1 p;have m12:=F.au
 have d3:=dr.em f3;have i3:Lj H C j.au D mp lv ev .nils l c s w [] (λ z=>if z=j.au then 0 else 1) :=
  ⟨g3,by omega,d3,Own.nil ..,λ k A hA=>by simp at hA,qr rfl,λ z h=>by rw[qo (by have:=dr.low h;omega)],λ z h=>absurd rfl h.1,λ k A hA=>by simp at hA,by omega,λ z h=>by have:=lod z h;omega,λ z h=>absurd rfl h.1,Y.trans p λ _ q=>q.elim⟩
 simp only[aa,bc,xe,w4,t,P,q0,w12,bd,<-e3,w14,qX];obtain⟨a,rfl⟩:=z4 (show 0<=c by omega)
 -- what the loop leaves of the message's box
 refine de.intro (λ k E o=>∃(ad:List Na)(nv:AV)(own:Nat->Nat),E=[(38,.int .i64 (ad.length:Int)),(37,.int .i64 ((a:Nat):Int)),(2,.ptr H.au 0),(8,.ptr j.au 0),(1,fv),(6,.ptr D 0)]/\k=a-ad.length/\ad.length<=a/\Lj H o j.au D mp lv ev nv l a s w ad own/\(0<ad.length->rV s w)/\o.get H.au=some (OR (dI l a s w) xZ)/\C.au<=o.au /\ ∀z,aW nv z->C.au<=z) ?_ ?_
 .exact ⟨_,_,⟨[],.nils,_,rfl,rfl,xy _,i3,λ q=>absurd q (by simp),by rw[p.ah _ (by omega) id];exact g1,qg _,λ z h=>absurd rfl h.1⟩,by simp only[aa,bc];rfl⟩
 rintro k E o ⟨ad,nv,own,rfl,rfl,hi,hI,hok,hg,O,N⟩;rcases xq ad.length a with K|hge
 .have q1:(ad.length:Int)<((a:Nat):Int):=by omega
  have ldS:=fp (e:=xZ) hg (show(dI l (a:Int) s w).length=4 from rfl);simp only[aa,bc,R,q1,w25,ldS];refine C3.q (xap (M:=M) (ad.length:Int) l (a:Int) s w) λ v Ha hv=>?_;rcases hv with⟨u,rfl,fa⟩|⟨u,r,b,sv,rfl,L⟩
  .have t2:¬(2:Int)=0:=by decide
   simp only[aa,bc,xe,S,t2];refine .inl ⟨λ q=>u ⟨q.1.2,by omega,by omega,by omega,m1,m2⟩,rfl,hI.fr.trans fa λ _ q=>.inl q⟩
  .have lB:Op.ae [.ptr j.au 1] Ha=some nv:=by
    have fa:=L.bk.fr;rw[xz (qy (by rw[fa.ah _ hI.lt id];exact hI.row))];rfl
   have wj:aj .i64 ((ad.length:Int)+1)=((ad.length+1:Nat):Int):=by rw[js (by omega) (by omega)];omega
   simp only[aa,bc,xe,S,w39,qn,lB];refine hI.step (by omega) (A:=⟨r,b,sv,.nils,[]⟩) L λ v2 Hb⟨Hc,sc,⟨Q,hc⟩,fc,oc⟩=>?_;have hgc:Hc.get H.au=some (OR (dI l (a:Int) s w) xZ):=by
    rw[fc.ah _ (by omega) (λ q=>q.elim (λ q=>by omega) λ q=>by have:=N _ q;omega)];exact hg
   simp only[aa,bc,sc,w40,wj];refine⟨_,_,⟨ad ++ [⟨r,b,sv,.nils,[]⟩],v2,Q,rfl,rfl,by rw[qv];simp;omega,hc,λ _=>u.1,hgc,xu O fc.au,λ z h=>(oc z h).elim (N z) λ q=>xu O q⟩,by simp only[aa,bc,qv,z6,yi],by rw[qv];simp;omega⟩
 .have hiw:ad.length=a:=by omega
  have q1:¬(ad.length:Int)<((a:Nat):Int):=by omega
  have y:=hI.done (by omega) (by omega) (by omega);have G:=hI.fr;have hfl:(fs.length:Int)<=l:=by omega
  have ml:(fU l (a:Int) s w).m.length=l.toNat:=by show(List.replicate l.toNat _).length=_;rw[zr]
  simp only[aa,bc,R,q1,w41,t];refine de.intro (λ k E g=>∃i:Nat,E=[(62,.int .i64 (i:Int)),(61,.int .i64 ((fs.length:Nat):Int)),(60,fv),(8,.ptr j.au 0),(6,.ptr D 0)]/\k=fs.length-i/\i<=fs.length/\eV H g j.au ⟨D,mp,lv,ev,List.replicate l.toNat (iW,.nils),nv,.nils,ad⟩ {fU l (a:Int) s w with m:=kH (fU l (a:Int) s w).m (fs.take i) 0} own/\Fr Em H g) ?_ ?_
  .exact ⟨_,_,⟨0,rfl,rfl,xy _,y,G⟩,by simp only[aa,bc]⟩
  rintro k E g ⟨i,rfl,rfl,hi,y,G⟩;rcases xq i fs.length with K|hge
  .have T:(i:Int)<((fs.length:Nat):Int):=by omega
   obtain⟨x,hx⟩:∃x,fs[i]? = some x:=⟨_,qt K⟩
   have sl:dU dS 8 g fv fs:=Sl.em hF G;have ix:=sl.idx hx (z:=(i:Int)) rfl .i64;have ld:=sl.aq wn (by decide) hx;obtain⟨V,X⟩:∃Z,Z=(g.alloc (OR [.int .u64 0,.int .u64 0,.int .u64 0,.int .u64 0,.int .u64 0,.int .u64 0,.int .u64 0,.int .u64 0] k9)).set g.au (OR (dS x) k9):=⟨_,rfl⟩
   have st:Op.store 8 [.ptr g.au 0,.agg (dS x)] (g.alloc (OR [.int .u64 0,.int .u64 0,.int .u64 0,.int .u64 0,.int .u64 0,.int .u64 0,.int .u64 0,.int .u64 0] k9))=some (.undef,V):=by
    rw[X];exact gK (xf g _) rfl (wn x) (xY x)
   have fz:Fr Em g V:=by rw[X];exact((Fr.refl g).alloc _).set (.inr (qg _)) _
   have gz:V.get g.au=some (OR (dS x) k9):=by rw[X,xc]
   have lz:=fp gz (wn x);have I:=y.em fz;have wj:aj .i64 ((i:Int)+1)=((i+1:Nat):Int):=by rw[js (by omega) (by omega)];omega
   have sml:(kH (fU l (a:Int) s w).m (fs.take i) 0).length=l.toNat:=by rw[VQ,ml]
   simp only[aa,bc,Ra,T,ix,ld,st,lz];refine C3.q (xb4 (M:=M) I.d (n:=(i:Int)) (by omega) (by show(i:Int)<((kH (fU l (a:Int) s w).m (fs.take i) 0).length:Int);rw[sml];omega) x) λ v Hw⟨hm,fw⟩=>?_;simp only[aa,bc,Ra,wj];have lz':H.au<=aH lv:=y.lo _ (.inr (.inl (.inr (.inr (.inl rfl)))))
   rw[EM]at hm;have W:kH (fU l (a:Int) s w).m (fs.take (i+1)) 0=(kH (fU l (a:Int) s w).m (fs.take i) 0).set i x:=by rw[xba fs _ 0 i hx,jy]
   have hB2:=I.kH hm (by rw[xg]) fw;refine⟨_,_,⟨i+1,rfl,rfl,by omega,by rw[W];exact hB2,(G.em fz).trans fw λ z(q:z=aH lv)=>.inr (by rw[q];exact lz')⟩,by simp only[aa,bc],by omega⟩
  .have J:i=fs.length:=by omega
   have T:¬(i:Int)<((fs.length:Nat):Int):=by omega
   simp only[aa,bc,Ra,T];rw[J,List.take_length]at y;exact .inr ⟨⟨⟨U,hok (by omega)⟩,hfl⟩,_,_,own,rfl,y,G⟩
def xh4{l c s w:Int}(fs:List L8){V:Int->L8}(h:pW l c s w):BuI (iO l c s w fs) V:=yE h (by show(kH (List.replicate l.toNat L8.zero) fs 0).length=_;rw[VQ,zr])
def xh3{l c s w:Int}{fs:List L8}:BC (iO l c s w fs) 0:=by
 have h:=zF (l:=l) (c:=c) (s:=s) (w:=w);exact⟨h.fl,h.no,h.wt⟩
def DN:∀(fs m:List L8)(i:Nat),(∀x∈m,x.u)->(∀x∈fs,x.u) -> ∀x∈kH m fs i,x.u
 |[],m,i,hm,_=>hm
 |y::r,m,i,hm,hf=>by
  unfold kH;exact DN r _ _ (λ x q=>(Ey q).elim (hm x) λ e=>e▸hf y (IA ..)) λ x q=>hf x (vq _ q)
def xh5{l c s w:Int}{fs:List L8}(a:∀x∈fs,x.u):xP (iO l c s w fs):=by
 refine⟨DN fs _ 0 (λ x q=>?_) a,λ n q=>?_,.nil⟩
 .rw [vy (show x∈List.replicate l.toNat L8.zero from q)];exact L8.ij
 .obtain ⟨k,hk,rfl⟩:=FE.1 (show n∈oW l s w c.toNat from q);intro e he;rw[vy (show e∈List.replicate (s.toNat*w.toNat) En.zero from he)];exact En.nV
end Go.Am
namespace Go.Am
open Go.Proofs Ca
open Lang (ints)
variable{M:ak}[MK M]
def Ij(e0:Int)(H0 H:ar)(r b:Nat)(sv bv:AV)(a:No×List Mg)(v:AV)(H':ar):Prop:=(∃ov,v=.tuple [ov,.int .i64 e0]/\mf H H' ov a.2)/\rA H0 H r b sv bv a.1 H'
def iH(n:No)(line:Int):Int:=if line<0\/n.lines<=line then 2 else match n.c.find line with
 |none=>20
 |some _=>0
section
variable{H0 H:ar}{r b:Nat}{sv bv:AV}{n:No}{ks:List Nat}
def xfc(h:cU H0 H r b sv bv n ks)(a:CI n.lines n.c)(hk:n.aK.length<=900000)(line:Int):za M M4 [.ptr r 0,.int .i64 line] H (Ij (iH n line) H0 H r b sv bv (n.cT line)):=by
 refine qyn ?_;obtain⟨w0,R,Q,d,k,S⟩:=qyo M ⟨none,M4⟩
 by_cases f:line<0
 .have i:n.cT line=(n,[]):=by unfold No.cT;rw[qr (.inl f)]
  rw[i,show iH n line=2 from qr (.inl f)];simp only[aa,bc,w0,R,yq,f];exact⟨⟨.nils,rfl,mf.nil ..⟩,h.same (Fr.refl _)⟩
 by_cases u:n.lines<=line
 .have i:n.cT line=(n,[]):=by unfold No.cT;rw[qr (.inr u)]
  rw[i,show iH n line=2 from qr (.inr u)];simp only[aa,bc,w0,R,yq,f,qn,h.l1,u];exact⟨⟨.nils,rfl,mf.nil ..⟩,h.same (Fr.refl _)⟩
 have hn:¬(line<0\/n.lines<=line):=λ q=>q.elim f u;simp only[aa,bc,w0,R,yq,f,qn,h.l1,u,Q,h.l2];refine C3.q (RP (M:=M) h.ca a line) λ v H1⟨O,D⟩=>?_;rw[O,oy];have n1:=D.au
 cases C:n.c.find line with
 |none =>
  have i:n.cT line=(n,[]):=by unfold No.cT;rw[qo hn,C]
  rw[i,show iH n line=20 by unfold iH;rw[qo hn,C]];have Y:Fr Em H ((H1.alloc (OR (aB .zero) xk)).set H1.au (OR (aB .zero) xk)):=D.trans (wO _ _) λ _ q=>q.elim;simp only[aa,bc,xe,Option.getD_none,Jv,eZ,i9,d];exact⟨⟨.nils,rfl,mf.nil ..⟩,h.same Y⟩
 |some x =>
  obtain⟨n',en⟩:∃n',n'=(if x.r ||x.w then n.iG 4 else n):=⟨_,rfl⟩
  have i:n.cT line=No.gone {n' with c:=(n'.c.drop line).1} (n'.c.drop line).2:=by
   unfold No.cT;rw[qo hn,C,en]
  rw[i,show iH n line=0 by unfold iH;rw[qo hn,C]];obtain⟨g,m⟩:∃X,X=(H1.alloc (OR (aB .zero) xk)).set H1.au (OR (aB x) xk):=⟨_,rfl⟩
  have U:Fr Em H1 g:=by rw[m];exact wO _ _
  have p:Fr Em H g:=D.trans U λ _ q=>q.elim;have n2:g.au=H1.au+1:=by rw[m];rfl
  have G:g.get H1.au=some (OR (aB x) xk):=by rw[m,xc]
  have I:=h.em p;have lr:Op.ae [.ptr H1.au 2] g=some (.bool x.r):=xz (qy G) 2;have lw:Op.ae [.ptr H1.au 3] g=some (.bool x.w):=xz (qy G) 3;have hlr:=h.lt;have hlb:=h.ca.lt;have hls:aH sv<H.au:=h.ca.sl.lt
  have K:=h.bk.fresh;have off:∀y,H.au<=y -> ¬iv r b sv bv y:=λ y hy q=>by
   rcases q with q|q|q
   .omega
   .exact q.elim (λ q=>by omega) λ q=>by omega
   .have:=K _ q;omega
  -- behind the loss
  have fin:∀{o:ar},cU H0 o r b sv bv n' ks->CI n.lines n'.c->n'.aK=n.aK->Fr (iv r b sv bv) g o -> ∀{E:Env},lk E 0=some (.ptr r 0)->lk E 1=some (.int .i64 line)->lk E 6=some (.ptr H1.au 0) ->
   W M ⟨none,M4⟩ (qym 33) true (fj M [.tmp 4,.tmp 5] (ug (Ij 0 H0 H r b sv bv (No.gone {n' with c:=(n'.c.drop line).1} (n'.c.drop line).2)))) E [] o:=by
   intro o A e hb j E q0 f q6;simp only[aa,bc,S,q0,f,q6,qn,A.l2];refine C3.q (WG (M:=M) A.ca e line) λ v l⟨O,h4,z⟩=>?_;rw[O];unfold xB;have n4:=z.au
   have nc:=j.au
   have gc:o.get H1.au=some (OR (aB x) xk):=by rw[j.ah _ (by omega) (off _ (by omega))];exact G
   have Z:l.get H1.au=some (OR (aB x) xk):=by rw[z.ah _ (by omega) (λ q=>off H1.au (by omega) (.inr (.inl q)))];exact gc
   have s5:=gK Z (jj _) (jj (n'.c.drop line).2) (xO _);have P:=fp (xc l H1.au (OR (aB (n'.c.drop line).2) xk)) (jj _);have V:Fr (On H1.au) l (l.set H1.au (OR (aB (n'.c.drop line).2) xk)):=(Fr.refl l).set (W:=On H1.au) (.inl rfl) _;have L:=A.ig h4 z (by rw[(L9 ..).1];exact A.len);have N:=L.off V (λ x(hx:x=H1.au)=>by rw[hx];exact⟨by have:=h.bk.fr.au;omega,off _ (by omega)⟩);have t:Fr (iv r b sv bv) H (l.set H1.au (OR (aB (n'.c.drop line).2) xk)):=(jI (jI (mI p) j) (vE z)).set (.inr (by omega)) _;simp only[aa,bc,xe,s5,P];refine C3.q (YT (M:=M) N (by show n'.aK.length<=_;rw[hb];exact hk) _ (Bo e)) λ v H6⟨hm,ht⟩=>?_;simp only[aa,bc];exact⟨⟨_,rfl,(hm.from t.au).ms⟩,ht.from t⟩
  cases hr:x.r with
  |true =>
   rw[hr]at lr en;have en:n'=n.iG 4:=en;simp only[aa,bc,xe,vi,y8,eZ,i9,<-m,d,k,lr];refine C3.q (Hp (M:=M) I 4) λ _ T⟨J,F⟩=>?_;simp only[aa,bc];refine fin (by rw[en];exact J) (by rw[en];exact a.discard) (by rw[en];rfl) F ?_ ?_ ?_
   .rfl
   .rfl
   .rfl
  |false =>
   rw[hr]at lr;cases hw:x.w with
   |true =>
    rw[hr,hw]at en;rw[hw]at lw;have en:n'=n.iG 4:=en;simp only[aa,bc,xe,vi,y8,eZ,i9,<-m,d,k,lr,lw];refine C3.q (Hp (M:=M) I 4) λ _ T⟨J,F⟩=>?_;simp only[aa,bc];refine fin (by rw[en];exact J) (by rw[en];exact a.discard) (by rw[en];rfl) F ?_ ?_ ?_
    .rfl
    .rfl
    .rfl
   |false =>
    rw[hr,hw]at en;rw[hw]at lw;have en:n'=n:=en;simp only[aa,bc,xe,vi,y8,eZ,i9,<-m,d,k,lr,lw];refine fin (by rw[en];exact I) (by rw[en];exact a) (by rw[en]) (Fr.refl _) ?_ ?_ ?_
    .rfl
    .rfl
    .rfl
end
section
variable{H0 H:ar}{B:Nat}{s:Bs}{b:Bu}{own:Nat->Nat}{c:Int}{n:No}
def AK(h:eV H0 H B s b own)(hb:BB b)(g:0<=c)(hn:b.ns[c.toNat]? = some n)(l:Int):za M OK [.ptr B 0,.int .i64 c,.int .i64 l] H λ v H'=>v=.int .i64 (iH n l)/\kG H0 H B s (b.put c.toNat (n.cT l)) H':=by
 refine qrf ?_;obtain⟨w0,w4,e⟩:=qrg M ⟨none,OK⟩;simp only[aa,bc,w0];refine C3.q (Gn (M:=M) h hb.N4 c) λ v H1⟨j,i,_⟩=>?_;obtain⟨A,f,m⟩:=i (xU hn g);rw[m,j];have u:=xb (show(0:Int)=0 from rfl);obtain⟨ni,bk,us⟩:=hb.no _ n hn;have o:=h.no _ n A hn f;simp only[aa,bc,xe,w4,e];refine C3.q (xfc (M:=M) o ni.ci bk l) λ v p⟨⟨ov,d,a⟩,k⟩=>?_;rw[d];simp only[aa,bc,xe];refine C3.q (h.out hb hn f k a (by have:=q9r n l;omega) (Q:=λ _ H'=>kG H0 H B s (b.put c.toNat (n.cT l)) H') (r:=.nils) id) λ v t hp=>?_;simp only[aa,bc];exact hp
def Di(h:eV H0 H B s b own)(hb:BB b)(d:¬(0<=c/\c<b.ns.length))(l:Int):za M OK [.ptr B 0,.int .i64 c,.int .i64 l] H λ v H'=>v=.int .i64 2/\H'=H:=by
 refine qrf ?_;obtain⟨w0,w4,g⟩:=qrg M ⟨none,OK⟩;simp only[aa,bc,w0];refine C3.q (Gn (M:=M) h hb.N4 c) λ v H1⟨e,_,a⟩=>?_;rw[a d,e];have f:¬(2:Int)=0:=by decide
 simp only[aa,bc,xe,w4,f]
def xhf(h:eV H0 H B s b own)(hb:BB b)(e:¬(0<=c/\c<b.ns.length))(k:Int):za M Lw [.ptr B 0,.int .i64 c,.int .i64 k] H λ v H'=>v=.int .i64 2/\Fr Em H H':=by
 refine Wa ?_;obtain⟨H1,d,a,-,-⟩:=bX H (OR [.int .i64 k] cK);have ca:AV.cells (.int .i64 k)=[.int .i64 k]:=rfl;have mk:Op.bD Ix 0 [.ptr H.au 0]=some (.fn (.func Ix) [] [.ptr H.au 0]):=rfl;simp only[aa,bc,VY,ca,<-d];refine C3.q (FI (M:=M) (h.em a) hb e _) λ v i⟨g,f⟩=>?_;rw[f];subst g;simp only[aa,bc];exact a
def xhg(h:eV H0 H B s b own)(hb:BB b)(f:0<=c)(hn:b.ns[c.toNat]? = some n)(k:Int):za M Lw [.ptr B 0,.int .i64 c,.int .i64 k] H λ v H'=>v=.int .i64 (n.abort k).2/\kG H0 H B s (b.put c.toNat ((n.abort k).1,[])) H':=by
 refine Wa ?_;obtain⟨H1,g,a,-,i⟩:=bX H (OR [.int .i64 k] cK);have ca:AV.cells (.int .i64 k)=[.int .i64 k]:=rfl;have l1:Op.ae [.ptr H.au 0] H1=some (.int .i64 k):=xz (qy i) 0;have mk:Op.bD Ix 0 [.ptr H.au 0]=some (.fn (.func Ix) [] [.ptr H.au 0]):=rfl;simp only[aa,bc,VY,ca,<-g];have d:=h.em a;refine C3.q (QC (M:=M) (H1:=H1) (e:=.int .i64 (n.abort k).2) (n':=(n.abort k).1) d hb f hn (cap:=[.ptr H.au 0]) λ{A}j=>Yk (M:=M) (d.no _ n A hn j) l1) λ v m⟨l,hp⟩=>?_;simp only[aa,bc];exact⟨l,kG.pre a hp⟩
end
end Go.Am
namespace Go.Am
open Lang Go.Proofs
structure Ck where
 p:Nat
 f:Nat
 l:Nat
 sp:Nat
 cv:AV
 rv:AV
 o:Nat->Nat
def wide(ks:List Ck)(n:Nat):List Ck:=ks.map λ A'=>{A' with o:=Go.Am.aR A'.o n 0}
def Ck.at(A:Ck)(Hb H:ar)(B:Nat)(bs:Bs)(k:Nat):SX:=⟨H,A.o,i4 B bs,A.p,A.f,A.l,A.sp,B,A.cv,Hb,k⟩
def si{ks:List Ck}{n:Nat}{j:Nat}{d:Ck}(e:(wide ks n)[j]? = some d):∃a,ks[j]? = some a/\d = {a with o:=Go.Am.aR a.o n 0}:=by
 unfold wide at e;rw[xj]at e;obtain⟨a,f,g⟩:=xl.1 e;exact⟨a,f,g.symm⟩
def GH(b:Bu)(i:Nat):(b.wQ i).ns.length=b.ns.length:=by
 unfold Bu.wQ
 repeat' split
 all_goals first|rfl|exact xg
def P0(b:Bu)(t:Bt):(b.step t).ns.length=b.ns.length:=by
 unfold Bu.step
 repeat' split
 all_goals first|rfl|exact GH _ _|exact xg
def ar.low(H:ar)(n:Nat):ar:=⟨H.t,n⟩
def KY(H:ar){n:Nat}(h:n<=H.au):Fr Em (H.low n) H:=⟨h,λ _ _ _=>rfl⟩
def mg.Li{e:Nat}{H0 H H':ar}{v:AV}{xs:List Nat}{W:Nat->Prop}(h:mg e H0 H v xs)(f:Fr W H H')(hw:∀b,aW v b -> ¬W b):mg e (H'.low H0.au) H' v xs:=by
 refine⟨?_,KY _ (xu h.fr.au f.au)⟩;rcases h.own with q|⟨b,m,rest,rfl,a,d,g,j⟩
 .exact .inl q
 .exact .inr ⟨b,m,rest,rfl,qj a f.au,d,g,by rw[f.ah b a (hw b ⟨by simp,rfl⟩)];exact j⟩
def cU.Li{H0 H H':ar}{r b:Nat}{sv bv:AV}{n:No}{ks:List Nat}{W:Nat->Prop}(h:cU H0 H r b sv bv n ks)(f:Fr W H H')(hw:∀x,W x -> ¬iv r b sv bv x):cU (H'.low H0.au) H' r b sv bv n ks :=
 ⟨by rw[f.ah _ h.lt λ q=>hw _ q (.inl rfl)];exact h.row,qj h.lt f.au,h.ca.fr f (λ q=>hw _ q (.inr (.inl (.inl rfl)))) (λ q=>hw _ q (.inr (.inl (.inr rfl)))),h.bk.Li f (λ x a q=>hw x q (.inr (.inr a))),h.eq,h.lr,h.lb,h.ls,h.n1,h.n2,h.o1,h.o2,h.o3,h.li,h.len⟩
def eV.Li{H0 H H':ar}{B:Nat}{s:Bs}{b:Bu}{own:Nat->Nat}{W:Nat->Prop}(h:eV H0 H B s b own)(f:Fr W H H')(hw:∀z,W z -> ¬i4 B s z):eV (H'.low H0.au) H' B s b own :=
 ⟨by rw[f.ah _ h.lt (λ q=>hw _ q (.inl rfl))];exact h.row,qj h.lt f.au,h.d.fr f (λ z q w=>hw z q (.inr (.inl w))),h.dx,Own.fr h.nv f (λ z a q=>hw z q (.inr (.inr (.inl a)))),
  λ c n A hn e=>(h.no c n A hn e).Li f λ z q w=>hw z q (.inr (.inr (.inr (.inr ⟨c,A,e,w⟩)))),h.al,h.fl.fr f (λ z a q=>hw z q (.inr (.inr (.inr (.inl a))))),h.oB,h.oD,h.oN,h.oF,h.oC,h.lo⟩
end Go.Am
namespace Go.Am
open Lang
structure KN(s t:CS):Prop where
 id:t.c.id=s.c.id
 ns:t.b.ns.length=s.b.ns.length
 cd:t.c.code=s.c.code
 ln:t.c.lines=s.c.lines
namespace CS
def KN.trans{s t u:CS}(h:KN s t)(a:KN t u):KN s u:=⟨a.id.trans h.id,a.ns.trans h.ns,a.cd.trans h.cd,a.ln.trans h.ln⟩
def KN.rf(s:CS):KN s s:=⟨rfl,rfl,rfl,rfl⟩
def eI(s:CS)(k n v o:Int):KN s (s.kJ k n v o):=⟨rfl,P0 _ _,rfl,rfl⟩
def X1(s:CS):KN s s.aw:=by unfold aw;simp only;split<;>exact⟨rfl,rfl,rfl,rfl⟩
def nY{s t u:CS}(h:KN s t)(a:u.c.id=t.c.id)(d:u.b=t.b)(e:u.c.code=t.c.code)(f:u.c.lines=t.c.lines):KN s u:=⟨a.trans h.id,(congrArg (λ b=>b.ns.length) d).trans h.ns,e.trans h.cd,f.trans h.ln⟩
def RF(s:CS):KN s s.cz:=by
 have h:=X1 s;exact nY (t:=s.aw) h (by unfold cz leave fm;rfl) (by unfold cz leave fm;rfl) (by unfold cz leave fm;rfl) (by unfold cz leave fm;rfl)
def xje(s:CS):KN s s.cJ:=by
 unfold cJ
 repeat' split
 all_goals first|exact⟨rfl,rfl,rfl,rfl⟩|exact nY (eI s 5 7 0 0) rfl rfl rfl rfl
def ET(s:CS)(f:mE)(a:Int):KN s (s.kY f a):=by
 unfold kY;simp only
 repeat' split
 all_goals first|exact⟨rfl,rfl,rfl,rfl⟩|exact nY (eI s 0 a 0 0) rfl rfl rfl rfl
def D3(s:CS)(f:mE)(a:Int):KN s (s.ic f a):=by
 unfold ic;simp only
 repeat' split
 all_goals first|exact⟨rfl,rfl,rfl,rfl⟩|exact nY (eI s 1 a f.value 0) rfl rfl rfl rfl
def JV(s:CS):KN s s.ends:=by
 unfold ends;simp only
 repeat' split
 all_goals first|exact⟨rfl,rfl,rfl,rfl⟩|exact KN.trans (eI s 4 0 0 0) (RF _)
def GI(s:CS):KN s s.mY:=by
 unfold mY;simp only
 repeat' split
 all_goals first|exact⟨rfl,rfl,rfl,rfl⟩|exact xje s|exact ET s _ _|exact D3 s _ _|exact JV s
def Cn(s:CS):KN s s.iZ:=by
 unfold iZ;simp only
 repeat' split
 all_goals first|exact⟨rfl,rfl,rfl,rfl⟩|exact⟨rfl,P0 _ _,rfl,rfl⟩
def G9(s:CS):KN s s.nE:=by
 unfold nE;simp only
 repeat' split
 all_goals exact nY (eI s 2 0 _ _) rfl rfl rfl rfl
def Af(s:CS):KN s s.eL:=by
 unfold eL
 repeat' split
 all_goals first|exact⟨rfl,rfl,rfl,rfl⟩|exact RF s
def eS{p:Prop}[Decidable p]{s a b:CS}(d:KN s a)(e:KN s b):KN s (if p then a else b):=by split;exact d;exact e
def Nu(s:CS)(v:Int)(q:Bool):KN s (s.mr v q):=by
 unfold mr;simp only;have a:KN s {s with c:={s.c with so:=s.c.so.eO v q}}:=⟨rfl,rfl,rfl,rfl⟩
 generalize({s with c:={s.c with so:=s.c.so.eO v q}}:CS)=t at *;have hu:KN s (if s.c.so.aC=true/\(s.c.so.eO v q).aC=false then t.aw else t):=eS (KN.trans a (X1 _)) a;generalize(if s.c.so.aC=true/\(s.c.so.eO v q).aC=false then t.aw else t)=u at *;have hw:KN s (if s.c.so.points<u.c.so.points then u.tell 4 0 0 0 else u):=eS (nY hu rfl rfl rfl rfl) hu;generalize(if s.c.so.points<u.c.so.points then u.tell 4 0 0 0 else u)=w at *;exact eS hw (KN.trans hw (Af _))
def Fg(s:CS)(v:Int)(q:Bool):KN s (s.given v q):=by
 rw[Xv];have h:=Nu {s with c:={s.c with held:=s.c.held ||q && decide (s.c.so.want.a=0)}} v q;exact⟨h.id,h.ns,h.cd,h.ln⟩
def EL(s:CS):KN s s.mJ:=by
 unfold mJ;simp only
 repeat' split
 all_goals first|exact KN.rf s|exact KN.trans (eI s _ _ _ _) (Fg _ _ _)|exact eI s _ _ _ _
def Fq(s:CS):KN s s.aK:=by
 unfold aK gG;simp only
 repeat' split
 all_goals first|exact nY (eI s _ _ _ _) rfl rfl rfl rfl|exact KN.trans (eI s _ _ _ _) (RF _)
def xgc(s:CS)(n:Int):KN s (s.gG (·.ph n)):=by
 unfold gG;exact eS (nY (eI s 1 0 (aj .u64 (s.c.seq+2)) 0) rfl rfl rfl rfl) (eI s 1 0 _ 0)
def xgb(s:CS):KN s (s.gG breaks):=by
 unfold gG;exact eS (nY (eI s 1 0 (aj .u64 (s.c.seq+2)) 0) rfl rfl rfl rfl) (eI s 1 0 _ 0)
def O4(s:CS):KN s s.act:=by
 unfold act;refine eS (GI s) (eS (Cn s) (eS ?_ (eS ?_ (eS ?_ (eS (G9 s) (eS (EL s) (eS (xgc s 8) (eS (KN.trans (eI s 4 0 0 0) (RF _)) (eS (Fq s) (eS (xgb s) (KN.rf s)))))))))))
 .refine eS (eS (nY (KN.trans (eI s 0 1 0 0) (eI _ 5 6 0 0)) rfl rfl rfl rfl) (nY (eI s 0 1 0 0) rfl rfl rfl rfl)) (eI s 0 1 0 0)
 .refine eS (eS ⟨rfl,(P0 _ _).trans (P0 _ _),rfl,rfl⟩ (nY (eI s 0 0 0 0) rfl rfl rfl rfl)) (eI s 0 0 0 0)
 .exact eS (nY (eI s 0 0 0 0) rfl rfl rfl rfl) (eI s 0 0 0 0)
def Jc(s:CS):KN s s.step.1:=by
 unfold step;split
 .exact KN.rf s
 split
 .exact KN.rf s
 split
 .exact ⟨rfl,rfl,rfl,rfl⟩
 .exact O4 s
end CS
end Go.Am
namespace Go.Am
open Lang
def OL(n:Nat)(s t:CS):Prop:=∃l,t.o=s.o++l/\l.length<=n /\ ∀e∈l,e.core=s.c.id
def OL.same{n:Nat}{s t:CS}(e:t.o=s.o):OL n s t:=⟨[],by rw[e,ze],xy _,λ _ h=>by cases h⟩
def OL.one{n:Nat}{s t:CS}{x:iq}(e:t.o=s.o ++ [x])(h:x.core=s.c.id):OL (n+1) s t:=⟨[x],e,by rw[List.length_singleton];omega,λ y q=>by rw[ja.1 q];exact h⟩
def OL.of{n:Nat}{s t u:CS}(h:OL n s t)(e:u.o=t.o):OL n s u:=by unfold OL at *;rw[e];exact h
def OL.le{n m:Nat}{s t:CS}(h:OL n s t)(q:n<=m):OL m s t:=by obtain⟨l,a,b,c⟩:=h;exact⟨l,a,xu b q,c⟩
def OL.trans{n m:Nat}{s t u:CS}(h:OL n s t)(g:OL m t u)(i:t.c.id=s.c.id):OL (n+m) s u:=by
 obtain⟨l,a,b,c⟩:=h;obtain⟨j,d,o,f⟩:=g;exact⟨l++j,by rw[d,a,zm],by rw[qv];omega,λ e q=>(zt.1 q).elim (c e) λ q=>(f e q).trans i⟩
namespace CS
def Eh(c:Co)(k a v d:Int):(vU c k a v d).core=c.id:=by unfold vU;split<;>rfl
def lh(s:CS):OL 1 s s.aw:=by unfold aw;simp only;split;exact OL.same rfl;exact OL.one rfl (Eh ..)
def Rp(s:CS):OL 1 s s.cz:=(lh s).of rfl
def xes(s:CS):OL 1 s s.breaks:=OL.one rfl (Eh ..)
def xjy(s:CS):OL 1 s s.cJ:=by
 unfold cJ
 repeat' split
 all_goals first|exact OL.same rfl|exact OL.one rfl (Eh ..)
def E9(s:CS)(f:mE)(a:Int):OL 1 s (s.kY f a):=by
 unfold kY;simp only
 repeat' split
 all_goals first|exact OL.same rfl|exact OL.one rfl (Eh ..)
def BW(s:CS)(f:mE)(a:Int):OL 1 s (s.ic f a):=by
 unfold ic;simp only
 repeat' split
 all_goals first|exact OL.same rfl|exact OL.one rfl (Eh ..)
def JB(s:CS):OL 1 s s.ends:=by
 unfold ends;simp only
 repeat' split
 all_goals first|exact OL.same rfl|exact Rp _
def Fp(s:CS):OL 1 s s.mY:=by
 unfold mY;simp only
 repeat' split
 all_goals first|exact OL.same rfl|exact xjy s|exact E9 s _ _|exact BW s _ _|exact JB s
def AR(s:CS):OL 1 s s.iZ:=by
 unfold iZ;simp only
 repeat' split
 all_goals exact OL.one rfl (Eh ..)
def G3(s:CS):OL 1 s s.nE:=by
 unfold nE;simp only
 repeat' split
 all_goals first|exact OL.same rfl|exact OL.one rfl (Eh ..)
def DM(s:CS):OL 1 s s.eL:=by
 unfold eL
 repeat' split
 all_goals first|exact OL.same rfl|exact OL.one rfl (Eh ..)|exact Rp s|exact xes s
def eQ{p:Prop}[Decidable p]{n:Nat}{s a b:CS}(d:OL n s a)(e:OL n s b):OL n s (if p then a else b):=by split;exact d;exact e
def M3(s:CS)(v:Int)(q:Bool):OL 3 s (s.mr v q):=by
 unfold mr;simp only;have a:OL 0 s {s with c:={s.c with so:=s.c.so.eO v q}}:=OL.same rfl;have it:({s with c:={s.c with so:=s.c.so.eO v q}}:CS).c.id=s.c.id:=rfl;generalize({s with c:={s.c with so:=s.c.so.eO v q}}:CS)=t at *;have hu:OL 1 s (if s.c.so.aC=true/\(s.c.so.eO v q).aC=false then t.aw else t):=eQ (a.trans (lh _) it) (a.le (by decide));have d:(if s.c.so.aC=true/\(s.c.so.eO v q).aC=false then t.aw else t).c.id=s.c.id:=by split;exact(X1 t).id.trans it;exact it
 generalize(if s.c.so.aC=true/\(s.c.so.eO v q).aC=false then t.aw else t)=u at *;have hw:OL 2 s (if s.c.so.points<u.c.so.points then u.tell 4 0 0 0 else u):=eQ (hu.trans (OL.one (n:=0) rfl (Eh ..)) d) (hu.le (by decide));have e:(if s.c.so.points<u.c.so.points then u.tell 4 0 0 0 else u).c.id=s.c.id:=by split<;>exact d
 generalize(if s.c.so.points<u.c.so.points then u.tell 4 0 0 0 else u)=w at *;exact eQ (hw.le (by decide)) (hw.trans (DM _) e)
def GB(s:CS)(v:Int)(q:Bool):OL 3 s (s.given v q):=by
 rw[Xv];exact M3 {s with c:={s.c with held:=s.c.held ||q && decide (s.c.so.want.a=0)}} v q
def Fe(s:CS):OL 3 s s.mJ:=by
 unfold mJ;simp only
 repeat' split
 all_goals first|exact OL.same rfl|exact GB (s.kJ _ _ _ _) _ _
def Gm(s:CS):OL 1 s s.aK:=by
 unfold aK gG;simp only
 repeat' split
 all_goals first|exact OL.same rfl|exact Rp (s.kJ _ _ _ _)
def xgq(s:CS)(n:Int):OL 1 s (s.gG (·.ph n)):=by
 unfold gG;exact eQ (OL.same rfl) (OL.same rfl)
def xgp(s:CS):OL 1 s (s.gG breaks):=by
 unfold gG;exact eQ (xes (s.kJ 1 0 (aj .u64 (s.c.seq+2)) 0)) (OL.same rfl)
def Pj(s:CS):OL 3 s s.act:=by
 unfold act;have d:∀{t:CS},OL 1 s t->OL 3 s t:=λ h=>h.le (by decide);refine eQ (d (Fp s)) (eQ (d (AR s)) (eQ ?_ (eQ ?_ (eQ ?_ (eQ (d (G3 s)) (eQ (Fe s) (eQ (d (xgq s 8)) (eQ (d (Rp (s.kJ 4 0 0 0))) (eQ (d (Gm s)) (eQ (d (xgp s)) (OL.same rfl)))))))))))
 .exact eQ (eQ (OL.same rfl) (OL.same rfl)) (OL.same rfl)
 .exact eQ (eQ (OL.same rfl) (OL.same rfl)) (OL.same rfl)
 .exact eQ (OL.same rfl) (OL.same rfl)
def Bz(s:CS):OL 3 s s.step.1:=by
 unfold step;split
 .exact OL.same rfl
 split
 .exact OL.same rfl
 split
 .exact OL.one rfl (Eh ..)
 .exact Pj s
end CS
end Go.Am
namespace Go.Am
open Lang Go.Proofs
variable{M:ak}[MK M]
structure jX(Hb H:ar)(B:Nat)(bs:Bs)(own:Nat->Nat)(ks:List Ck)(V:Int->L8)(k:Nat)(b:Bu)(cs:List Co):Prop where
 r:eV Hb H B bs b own
 I:BuI b V
 C:BC b k
 U:xP b
 co:∀(i:Nat)c A,cs[i]? = some c->ks[i]? = some A->dH H A.o A.p A.f A.l A.sp A.cv A.rv .nils .nili c [] k/\c.id=i
 kl:ks.length=cs.length
 nl:cs.length<=b.ns.length
 dj:∀(i:Nat)A,ks[i]? = some A -> ∀z,i4 B bs z->A.o z=0
 d2:∀(i j:Nat)A A',ks[i]? = some A->ks[j]? = some A'->i≠j -> ∀z,z<H.au->A.o z≠0->A'.o z=0
 lo:∀(i:Nat)A,ks[i]? = some A -> ∀z,z<H.au->A.o z≠0->Hb.au<=z
structure mU(H:ar)(B:Nat)(bs:Bs)(ks:List Ck)(z:Nat):Prop where
 lt:z<H.au
 nb:¬i4 B bs z
 nc:∀(i:Nat)A,ks[i]? = some A->A.o z=0
def Fk(H:ar)(B:Nat)(bs:Bs)(ks:List Ck)(H':ar)(bs':Bs)(ks':List Ck):Prop:=H.au<=H'.au /\ ∀z,mU H B bs ks z->mU H' B bs' ks' z/\H'.get z=H.get z
section
variable{Hb H H':ar}{B k k' i:Nat}{bs bs':Bs}{own:Nat->Nat}{ks ks':List Ck}{V:Int->L8}{b:Bu}{cs:List Co}{c:Co}{A:Ck}
def jX.re(h:jX Hb H B bs own ks V k b cs)(d:cs[i]? = some c)(a:ks[i]? = some A):Hg (A.at Hb H B bs k) 0 c b H A.o A.rv bs own V:=by
 obtain⟨f,g⟩:=h.co i c A d a;have j:=(qk.1 d).1;have hn:=h.nl;exact⟨f,h.r,h.I,h.C,h.U,by rw[g];omega,λ z q=>h.dj i A a z q,h.lo i A a,λ z q e=>.inl ⟨q,e⟩,λ z q=>.inl q,Fr.refl H⟩
def mU.wide{z:Nat}(h:mU H B bs ks z)(nx:H.au<=H'.au)(f:i4 B bs' z->i4 B bs z\/H.au<=z):mU H' B bs' (wide ks H.au) z:=by
 have:=h.lt;refine⟨by omega,λ q=>(f q).elim h.nb (by omega),λ i A e=>?_⟩;obtain⟨a,d,rfl⟩:=si e;show Go.Am.aR a.o H.au 0 z=0
 rw[i6 h.lt];exact h.nc i a d
def jX.new(h:jX Hb H B bs own ks V k b cs){z:Nat}(a:H.au<=z)(d:z<H'.au):mU H' B bs (Go.Am.wide ks H.au) z:=by
 refine⟨d,λ q=>by have:=h.r.low q;omega,λ i A e=>?_⟩;obtain⟨f,g,rfl⟩:=si e;exact mG a
def gD{o:Nat->Nat}{n z:Nat}(e:aR o n 0 z≠0):z<n/\o z≠0:=by
 rcases xq z n with q|q
 .rw [i6 q]at e;exact⟨q,e⟩
 .rw [mG q]at e;exact(e rfl).elim
def jX.Li(h:jX Hb H B bs own ks V k b cs)(n:H.au<=H'.au)(f:∀z,z<H.au -> ¬mU H B bs ks z->H'.get z=H.get z):jX (H'.low Hb.au) H' B bs own (wide ks H.au) V k b cs:=by
 have F:Fr (mU H B bs ks) H H':=⟨n,f⟩
 refine⟨h.r.Li F λ z q=>q.nb,h.I,h.C,h.U,λ j d s y a=>?_,by unfold wide;rw[xp];exact h.kl,h.nl,λ j s a z e=>?_,λ j K G J g v ne z o e=>?_,λ j s a z o e=>?_⟩
 .obtain ⟨m,g,rfl⟩:=si a;obtain⟨D,E⟩:=h.co j d m y g;exact⟨D.fr F (λ z o r q=>r (q.nc j m g)) (λ z o=>i6 o) (qg _),E⟩
 .obtain ⟨m,g,rfl⟩:=si a;exact zd λ q=>(gD q).2 (h.dj j m g z e)
 .obtain ⟨t,w,rfl⟩:=si g;obtain⟨u,x,rfl⟩:=si v;obtain⟨l,p⟩:=gD e;exact zd λ q=>(gD q).2 (h.d2 _ _ t u w x ne z l p)
 .obtain ⟨m,g,rfl⟩:=si a;obtain⟨l,p⟩:=gD e;exact h.lo j m g z l p
def jX.fr(h:jX Hb H B bs own ks V k b cs){W:Nat->Prop}(f:Fr W H H')(hw:∀z,W z->z<H.au->mU H B bs ks z/\Hb.au<=z):jX Hb H' B bs own (wide ks H.au) V k b cs:=by
 have g:=h.Li (H':=H') f.au λ z a q=>f.ah z a λ e=>q (hw z e a).1
 exact{g with r:=h.r.fr (W:=λ z=>W z/\z<H.au) ⟨f.au,λ z a q=>f.ah z a λ e=>q ⟨e,a⟩⟩ λ z q=>⟨(hw z q.1 q.2).2,(hw z q.1 q.2).1.nb⟩}
def jX.em(h:jX Hb H B bs own ks V k b cs)(f:Fr Em H H'):jX Hb H' B bs own (wide ks H.au) V k b cs:=h.fr f λ z q=>q.elim
def jX.mono(h:jX Hb H B bs own ks V k b cs)(hk:k<=k'):jX Hb H B bs own ks V k' b cs :=
 {h with C:=h.C.mono hk,co:=λ i c A a d=>⟨(h.co i c A a d).1.fr (Fr.refl H) (λ _ _ _ q=>q) (λ _ _=>rfl) hk,(h.co i c A a d).2⟩}
def jX.kJ(h:jX Hb H B bs own ks V k b cs)(t:Bt)(L:fM t.v)(hp:kG Hb H B bs (b.step t) H'):∃bs' aR D,jX Hb H' B bs' aR (wide ks H.au) D (k+1) (b.step t) cs/\Fk H B bs ks H' bs' (wide ks H.au):=by
 obtain⟨o,p,J,w,f⟩:=hp;have nx:H.au<=H'.au:=f.au
 refine⟨o,p,_,⟨J,CA h.I t,zL h.C t,h.U.step t L,λ j d u K a=>?_,by unfold wide;rw[xp];exact h.kl,by rw[P0];exact h.nl,λ j u a z e=>?_,λ j R P Q g E ne z n e=>?_,λ j u a z n e=>?_⟩,nx,λ z q=>⟨q.wide nx (w z),f.ah z q.lt q.nb⟩⟩
 .obtain ⟨m,g,rfl⟩:=si a;obtain⟨N,O⟩:=h.co j d m K g;exact⟨N.fr f (λ z n r e=>r (h.dj j m g z e)) (λ z n=>i6 n) (by omega),O⟩
 .obtain ⟨m,g,rfl⟩:=si a;refine zd λ q=>?_;obtain⟨n,q⟩:=gD q;exact(w z e).elim (λ e=>q (h.dj j m g z e)) (by omega)
 .obtain ⟨x,F,rfl⟩:=si g;obtain⟨y,G,rfl⟩:=si E;obtain⟨l,s⟩:=gD e;exact zd λ q=>(gD q).2 (h.d2 _ _ x y F G ne z l s)
 .obtain ⟨m,g,rfl⟩:=si a;obtain⟨l,s⟩:=gD e;exact h.lo j m g z l s
def jX.step(h:jX Hb H B bs own ks V k b cs)(hk:k+1<=90000)(Q:u6 H)(hG:wZ<Hb.au)(J:cs[i]? = some c)(m:ks[i]? = some A):za M Ll [.ptr A.p 0,.iface EH (.ptr B 0)] H λ v H'=>∃ov,v=.tuple [ov,.int .i64 (CS.step ⟨c,b,[]⟩).2]/\a9 iq.enc yv 9 H' ov (CS.step ⟨c,b,[]⟩).1.o /\
 ∃bs' aR ks' O,jX Hb H' B bs' aR ks' O (k+2) (CS.step ⟨c,b,[]⟩).1.b (cs.set i (CS.step ⟨c,b,[]⟩).1.c)/\Fk H B bs ks H' bs' ks'/\ks'.map Ck.p=ks.map Ck.p /\ ∀z,mU H B bs ks z -> ¬aW ov z:=by
 have Z:A.o wZ=0:=zd λ q=>by have:=h.lo i A m _ Q.2 q;omega
 have R:=CS.Jc ⟨c,b,[]⟩;refine(Jq (M:=M) (X:=A.at Hb H B bs k) (n:=0) (h.re J m) (show k+0+1<=90000 by omega) Q Z).mono λ v H' q=>?_;obtain⟨ov,L,o',rv',bs',aR,O,q,ow,t6⟩:=q;have Y:=(qk.1 J).1;have hk:=h.kl;have nx:H.au<=H'.au:=q.fr.au
 obtain⟨T,K⟩:=h.co i c A J m;have D:i<(wide ks H.au).length:=by unfold wide;rw[xp];omega
 have ex:∀{j:Nat}{u:Ck},((wide ks H.au).set i {A with rv:=rv',o:=o'})[j]? = some u->(j=i/\u = {A with rv:=rv',o:=o'})\/j≠i /\ ∃a,ks[j]? = some a/\u = {a with o:=Go.Am.aR a.o H.au 0}:=λ{j u}e=>by
  by_cases w:j=i
  .subst w;rw[xr D]at e;injection e with e;exact .inl ⟨rfl,e.symm⟩
  .rw [xw (λ e=>w e.symm)]at e;exact .inr ⟨w,si e⟩
 have nc:∀{j:Nat}{a:Ck},ks[j]? = some a->j≠i -> ∀z,z<H.au->a.o z≠0 -> ¬((A.at Hb H B bs k).o z≠0\/(A.at Hb H B bs k).W z):=λ{j a}e ne z s r t=>t.elim (λ t=>r (h.d2 i j A a m e (λ e=>ne e.symm) z s t)) λ t=>r (h.dj j a e z t)
 have E:∀z,z<H.au->A.o z=0->o' z=0:=λ z s z0=>zd λ e=>(q.go z (by omega) e).elim (λ t=>t.2 z0) λ t=>by have:H.au<=z:=t;omega
 refine⟨ov,L,ow,bs',aR,(wide ks H.au).set i {A with rv:=rv',o:=o'},_,⟨q.b,q.I,q.C,q.U,λ j d u x l=>?_,by rw[xg,xg];unfold wide;rw[xp];exact hk,by rw[xg,R.ns];exact h.nl,λ j u l z e=>?_,λ j j2 A1 A2 S P ne z s e=>?_,λ j u l z s e=>?_⟩,⟨nx,λ z y=>⟨⟨by have:=y.lt;omega,λ e=>?_,λ j u e=>?_⟩,q.fr.ah z y.lt λ e=>e.elim (λ e=>e (y.nc i A m)) y.nb⟩⟩,?_,λ z y e=>?_⟩
 .rcases ex l with⟨rfl,rfl⟩|⟨w,a,g,rfl⟩
  .rw [xr Y]at x;injection x with x;subst x
   exact⟨q.c,R.id.trans K⟩
  .rw [xw (λ e=>w e.symm)]at x;obtain⟨r1,r2⟩:=h.co j d a x g;exact⟨r1.fr q.fr (λ z s r=>nc g w z s r) (λ z s=>i6 s) (by omega),r2⟩
 .rcases ex l with⟨rfl,rfl⟩|⟨w,a,g,rfl⟩
  .exact q.dj z e
  .refine zd λ y=>?_;obtain⟨s,y⟩:=gD y;exact(q.gb z e).elim (λ t=>y (h.dj j a g z t)) λ t=>by have:H.au<=z:=t;omega
 .rcases ex S with⟨rfl,rfl⟩|⟨w1,N,g,rfl⟩
  .rcases ex P with⟨rfl,-⟩|⟨w2,F,G,rfl⟩
   .exact (ne rfl).elim
   .refine zd λ y=>?_;obtain⟨f,y⟩:=gD y;exact e (E z f (zd λ w=>y (h.d2 _ _ A F m G ne z f w)))
  .obtain ⟨f,e⟩:=gD e;rcases ex P with⟨rfl,rfl⟩|⟨w2,F,G,rfl⟩
   .exact E z f (h.d2 _ _ N A g m w1 z f e)
   .exact zd λ y=>(gD y).2 (h.d2 _ _ N F g G ne z f e)
 .rcases ex l with⟨rfl,rfl⟩|⟨w,a,g,rfl⟩
  .exact q.hb z s e
  .obtain ⟨f,e⟩:=gD e;exact h.lo j a g z f e
 .exact (q.gb z e).elim y.nb λ t=>by have:H.au<=z:=t;have:=y.lt;omega
 .rcases ex e with⟨rfl,rfl⟩|⟨w,a,g,rfl⟩
  .exact E z y.lt (y.nc _ A m)
  .exact (i6 y.lt).trans (y.nc j a g)
 .apply jz;intro j;rw[xj,xj]
  by_cases w:j=i
  .subst w;rw[xr D,m];rfl
  .rw [xw (λ e=>w e.symm)];unfold wide;rw[xj,Option.map_map];rfl
 .have:=t6 z e;have:=E z y.lt (y.nc i A m);omega
end
end Go.Am
namespace Go.Am
open Lang Go.Proofs
variable{M:ak}[MK M]
def zP{H:ar}{f s o:Int}:za M vo [.agg [.int .i64 f,.int .i64 s,.int .i64 o]] H λ v H'=>v=.bool (decide ((0<=f/\f<=16)/\(0<=s/\s<=16)/\0<=o/\o<=16))/\Fr Em H H':=by
 refine xda ?_;have d:Fr Em H (H.alloc (OR [.int .i64 f,.int .i64 s,.int .i64 o] D7)):=(Fr.refl H).alloc _
 by_cases a:0<=f
 .by_cases e:f<=16
  .by_cases g:0<=s
   .by_cases h:s<=16
    .by_cases j:0<=o
     .by_cases l:o<=16
      .simp only[aa,bc,KZ,J8,a,e,g,h,j,l];exact d
      .simp only[aa,bc,KZ,J8,a,e,g,h,j,l];exact d
     .simp only[aa,bc,KZ,J8,a,e,g,h,j];exact d
    .simp only[aa,bc,KZ,J8,a,e,g,h];exact d
   .simp only[aa,bc,KZ,J8,a,e,g];exact d
  .simp only[aa,bc,KZ,J8,a,e];exact d
 .simp only[aa,bc,KZ,J8,a];exact d
def Ln(id ln:Int)(a:AV)(x y z:Int):List AV:=[.int .i64 id,.int .i64 ln,a,.int .u64 0,.int .u64 0,.int .u64 0,.int .u64 0,.int .u64 0,.int .u64 0,.int .u64 0,.int .u64 0,.int .i64 0,.bool false,.int .u64 0,.int .u64 0,.int .u64 0,.int .u64 0,.int .u64 0,.int .u64 0,.int .u64 0,.int .u64 0,.int .i64 0,.int .i64 x,.int .i64 y,.int .i64 z,.int .i64 0,.nils,.int .i64 0,.int .u64 0,.int .i64 0,.int .u64 0,.int .u64 0,.int .i64 0,.int .i64 0,.int .i64 0,.int .u64 0,.int .u64 0,.nils,.nils,.bool false,.bool false,.int .i64 0,.int .i64 0,.int .i64 0,.int .i64 0,.int .i64 0,.int .i64 0,.int .u64 0,.int .u64 0,.int .u64 0,.nils,.int .i64 0,.bool false,.bool false,.bool false,.int .i64 0,.int .i64 0,.bool false,.bool false,.nils]
abbrev pw:List AV:=[.int .i64 0,.int .i64 0,.nils,.int .u64 0,.int .u64 0,.int .u64 0,.int .u64 0,.int .u64 0,.int .u64 0,.int .u64 0,.int .u64 0,.int .i64 0,.bool false,.int .u64 0,.int .u64 0,.int .u64 0,.int .u64 0,.int .u64 0,.int .u64 0,.int .u64 0,.int .u64 0,.int .i64 0,.int .i64 0,.int .i64 0,.int .i64 0,.int .i64 0,.nils,.int .i64 0,.int .u64 0,.int .i64 0,.int .u64 0,.int .u64 0,.int .i64 0,.int .i64 0,.int .i64 0,.int .u64 0,.int .u64 0,.nils,.nils,.bool false,.bool false,.int .i64 0,.int .i64 0,.int .i64 0,.int .i64 0,.int .i64 0,.int .i64 0,.int .u64 0,.int .u64 0,.int .u64 0,.nils,.int .i64 0,.bool false,.bool false,.bool false,.int .i64 0,.int .i64 0,.bool false,.bool false,.nils]
def Yo{id ln:Int}{a:AV}{x y z:Int}(ha:av a=true):aJ (Ln id ln a x y z)=true:=by
 cases a<;>first|rfl|cases ha
def xh2{id ln:Int}{a:AV}{x y z:Int}(ha:av a=true):Op.build pw [(0,1),(1,1),(2,1),(22,5)] [.int .i64 id,.int .i64 ln,a,.agg [.int .i64 x,.int .i64 y,.int .i64 z,.int .i64 0,.nils]]=some (.agg (Ln id ln a x y z)):=by
 cases a<;>first|rfl|cases ha
def PC{H:ar}{r e:Nat}{c L:List AV}(h:H.get r=some (OR c e))(f:c.length=60)(d:L.length=60)(a:aJ L=true):Op.store 60 [.ptr r 0,.agg L] H=some (.undef,H.set r (OR L e)):=by
 rw[t9 (o:=0) (n:=60) (v:=.agg L) h d (by omega) a];simp only[yz,zw,jy,je (Nat.le_of_eq f),ze,AV.cells]
def O7{H:ar}{r e:Nat}{c:List AV}(h:H.get r=some (OR c e))(a:c.length=60):Op.aq 60 [.ptr r 0] H=some (.agg c):=by
 rw[rq (qy h) (by omega)];rw[ym,zg (by omega)]
def b5(x y z:Int):(Op.build [(.int .i64 0),(.int .i64 0),(.int .i64 0),(.int .i64 0),.nils] [(0,3)]) [.agg [.int .i64 x,.int .i64 y,.int .i64 z]]=some (.agg [.int .i64 x,.int .i64 y,.int .i64 z,.int .i64 0,.nils]):=rfl
def Ml:Op.build pw [] []=some (.agg pw):=rfl
def TW(ok:Prop)(id ln:Int)(a:AV)(x y z:Int)(v:AV):Prop:=(ok/\v=.tuple [.agg (Ln id ln a x y z),.int .i64 0])\/(¬ok/\v=.tuple [.agg pw,.int .i64 2])
def xdc{H:ar}{id ln f s o:Int}{a:AV}{n:Nat}{cells:List AV}(ha:Sl H 5 a n cells) :
 za M sq [.int .i64 id,a,.agg [.int .i64 f,.int .i64 s,.int .i64 o],.int .i64 ln] H λ v H'=>TW (O8 id n f s o ln) id ln a f s o v/\Fr Em H H':=by
 refine xdb ?_;have m:=Sl.one ha;obtain⟨r,j⟩:∃r,r=(H.alloc (OR [.int .i64 f,.int .i64 s,.int .i64 o] D7)).alloc (OR pw vp):=⟨_,rfl⟩
 have E:Fr Em H r:=by rw[j];exact((Fr.refl H).alloc _).alloc _
 have x:r.get H.au=some (OR [.int .i64 f,.int .i64 s,.int .i64 o] D7):=by rw[j,wo (by rw[xx];omega)];exact xf ..
 have F:r.get (H.au+1)=some (OR pw vp):=by rw[j];exact xf ..
 have N:r.au=H.au+1+1:=by rw[j];rfl
 have J:∀{G:ar},G.get H.au=some (OR [.int .i64 f,.int .i64 s,.int .i64 o] D7)->Op.aq 3 [.ptr H.au 0] G=some (.agg [.int .i64 f,.int .i64 s,.int .i64 o]):=λ h=>by rw[rq (qy h) (qg 3)];rfl
 have I:(H.alloc (OR [.int .i64 f,.int .i64 s,.int .i64 o] D7)).au=H.au+1:=rfl
 simp only[aa,bc,Iq,I,<-j,J x];refine C3.q (zP (M:=M)) λ v u⟨O,p⟩=>?_;subst O;have D:u.get H.au=some (OR [.int .i64 f,.int .i64 s,.int .i64 o] D7):=by rw[p.ah _ (by omega) (λ q=>q),x]
 have y:u.get (H.au+1)=some (OR pw vp):=by rw[p.ah _ (by omega) (λ q=>q),F]
 have l:=E.em p;have g:=PC y (L:=pw) rfl rfl rfl;have e:Op.aq 60 [.ptr (H.au+1) 0] (u.set (H.au+1) (OR pw vp))=some (.agg pw):=O7 (xc ..) rfl;have d:Fr Em H (u.set (H.au+1) (OR pw vp)):=l.set (.inr (by omega)) _;have K:∀q:Bool,Op.un .not [.bool q]=some (.bool (!q)):=λ _=>rfl
 by_cases hk:okB f s o
 .have C:decide ((0<=f/\f<=16)/\(0<=s/\s<=16)/\0<=o/\o<=16)=true:=kj hk;rw[C]
  by_cases t:id<0
  .simp only[aa,bc,Iq,t,Ml,g,e];exact⟨.inr ⟨λ⟨_,q,_⟩=>by omega,rfl⟩,d⟩
  by_cases w:4<=id
  .simp only[aa,bc,Iq,t,w,Ml,g,e];exact⟨.inr ⟨λ⟨_,_,q,_⟩=>by omega,rfl⟩,d⟩
  by_cases z:(1024:Int)<(n:Nat)
  .simp only[aa,bc,Iq,t,w,ha.len,z,Ml,g,e];exact⟨.inr ⟨λ⟨_,_,_,q,_⟩=>by omega,rfl⟩,d⟩
  by_cases c4:ln<2
  .simp only[aa,bc,Iq,t,w,ha.len,z,c4,Ml,g,e];exact⟨.inr ⟨λ⟨_,_,_,_,q,_⟩=>by omega,rfl⟩,d⟩
  by_cases c5:64<ln
  .simp only[aa,bc,Iq,t,w,ha.len,z,c4,c5,Ml,g,e];exact⟨.inr ⟨λ⟨_,_,_,_,_,q⟩=>by omega,rfl⟩,d⟩
  have P:=PC y (L:=Ln id ln a f s o) rfl rfl (Yo m);have lr:Op.aq 60 [.ptr (H.au+1) 0] (u.set (H.au+1) (OR (Ln id ln a f s o) vp))=some (.agg (Ln id ln a f s o)):=O7 (xc ..) rfl;simp only[aa,bc,Iq,t,w,ha.len,z,c4,c5,J D,b5,xh2 m,P,lr];exact⟨.inl ⟨⟨hk,by omega,by omega,by omega,by omega,by omega⟩,rfl⟩,l.set (.inr (by omega)) _⟩
 .have C:decide ((0<=f/\f<=16)/\(0<=s/\s<=16)/\0<=o/\o<=16)=false:=j9 hk;rw[C];simp only[aa,bc,Iq,Ml,g,e];exact⟨.inr ⟨λ q=>hk q.1,rfl⟩,d⟩
def oK(n:Nat)(ok:Prop)(H:ar)(v:AV)(H':ar):Prop:=∃l e,v=.tuple [.agg l,.int .i64 e]/\l.length=n/\aJ l=true/\(e=0->ok)/\Fr Em H H'
def xkb{H:ar}(n:Int):za M q0l [.int .i64 n] H (oK 1 (2<=n/\n<=64) H):=by
 refine xc5 ?_;obtain⟨H1,a,e,-,s⟩:=bX H (OR [.nils] Pk);obtain⟨E,t,la,r,-⟩:=tX (n:=1) s rfl (l:=[.nils]) rfl rfl;have m:Op.build [.nils] [] []=some (.agg [.nils]):=rfl;have F:=λ{j v:ar}(f:Fr Em H j)(g:Fr (On H.au) j v)=>f.trans g λ z(q:z=H.au)=>.inr (by omega)
 by_cases d:n<2
 .simp only[aa,bc,XY,<-a,xb d,m,t,la];exact⟨_,2,rfl,rfl,rfl,λ q=>absurd q (by decide),F e r⟩
 by_cases o:64<n
 .simp only[aa,bc,XY,<-a,d,xb o,m,t,la];exact⟨_,2,rfl,rfl,rfl,λ q=>absurd q (by decide),F e r⟩
 obtain⟨k,rfl⟩:=z4 (show 0<=n by omega);have w:aj .i64 (8*(k:Int))=((8*k:Nat):Int):=by rw[js (by omega) (by omega)];omega
 have mk:=OH OB 8 [.int .u64 0] (8*k) .i64 .i64 (by omega) (by omega);obtain⟨u,y,p,-,-⟩:=bX H1 (.row (fq (8*k) [.int .u64 0]) OB (0,0) true);have n1:H1.au=H.au+1:=by rw[a,xx]
 have D:u.get H.au=some (OR [.nils] Pk):=by rw[p.ah _ (by omega) id];exact s
 have bx:∀x:AV,x.cells=[x]->Op.build [.nils] [(0,1)] [x]=some (.agg [x]):=λ x h=>by
  cases x<;>first|rfl|cases h
 obtain⟨x,h,ho⟩:∃x,Op.sliceTo (8*k) (8*k) H1.au=x/\av x=true:=⟨_,rfl,rfl⟩
 obtain⟨Hb,sb,lb,C,-⟩:=tX (n:=1) D rfl (l:=[x]) rfl (by rw[yj];simp[ho]);simp only[aa,bc,XY,<-a,d,o,w,mk,<-y,h,bx x (EF ho),sb,lb];exact⟨_,0,rfl,rfl,by rw[yj];simp[ho],λ _=>by omega,F (e.em p) C⟩
def xc2{H:ar}(s w:Int):za M q0m [.int .i64 s,.int .i64 w] H (oK 4 True H):=by
 refine xc6 ?_;obtain⟨H1,d,r,-,m⟩:=bX H (OR [.int .i64 0,.int .i64 0,.nils,.int .i64 0] Wb);obtain⟨u,h,la,f,-⟩:=tX (n:=4) m rfl (l:=[.int .i64 0,.int .i64 0,.nils,.int .i64 0]) rfl rfl;obtain⟨Hb,sb,lb,t,-⟩:=tX (n:=4) m rfl (l:=[.int .i64 s,.int .i64 w,.nils,.int .i64 0]) rfl rfl;have p:Op.build [.int .i64 0,.int .i64 0,.nils,.int .i64 0] [(0,1),(1,1)] [.int .i64 s,.int .i64 w]=some (.agg [.int .i64 s,.int .i64 w,.nils,.int .i64 0]):=rfl;have F:=λ{o:ar}(g:Fr (On H.au) H1 o)=>r.trans g λ z(q:z=H.au)=>.inr (by omega)
 by_cases a:s<1
 .simp only[aa,bc,PU,<-d,xb a,pN,h,la];exact⟨_,2,rfl,rfl,rfl,λ _=>trivial,F f⟩
 by_cases e:8<s
 .simp only[aa,bc,PU,<-d,a,xb e,pN,h,la];exact⟨_,2,rfl,rfl,rfl,λ _=>trivial,F f⟩
 by_cases j:w<1
 .simp only[aa,bc,PU,<-d,a,e,xb j,pN,h,la];exact⟨_,2,rfl,rfl,rfl,λ _=>trivial,F f⟩
 by_cases c4:4<w
 .simp only[aa,bc,PU,<-d,a,e,j,xb c4,pN,h,la];exact⟨_,2,rfl,rfl,rfl,λ _=>trivial,F f⟩
 simp only[aa,bc,PU,<-d,a,e,j,c4,p,sb,lb];exact⟨_,0,rfl,rfl,rfl,λ _=>trivial,F t⟩
def xgt{H:ar}(i l c s w:Int):za M q0o [.int .i64 i,.agg (dI l c s w)] H (oK 20 True H):=by
 refine xc8 ?_;obtain⟨e,a⟩:∃z:List AV,z=[.int .i64 0,.int .i64 0,.int .i64 0,.int .i64 0,.nils,.int .i64 0,.int .i64 0,.int .i64 0,.int .i64 0,.int .u64 0,.int .u64 0,.int .u64 0,.int .u64 0,.int .u64 0,.int .u64 0,.int .u64 0,.int .u64 0,.nils,.bool false,.int .i64 0]:=⟨_,rfl⟩
 have G:e.length=20:=by rw[a];rfl
 have W:aJ e=true:=by rw[a];rfl
 obtain⟨H1,O,f1,n1,-⟩:=bX H (OR (dI l c s w) xZ);obtain⟨I,e2,u,n2,g2⟩:=bX H1 (OR e Jd);have J:I.get H.au=some (OR (dI l c s w) xZ):=by rw[u.ah _ (by omega) id,O,xf]
 have l2:Op.ae [.ptr H.au 2] I=some (.int .i64 s):=vd J 2;have l3:Op.ae [.ptr H.au 3] I=some (.int .i64 w):=vd J 3;simp only[aa,bc,HM,<-a,<-O,<-e2,l2,l3];refine C3.q (xc2 (M:=M) s w) λ v D⟨lc,ec,hv,m,y,_,P⟩=>?_;subst hv;obtain⟨d,e4,f4,n4,hc⟩:=bX D (OR lc Wb);have o:Op.store 4 [.ptr D.au 0,.agg lc] (D.alloc (OR [.int .i64 0,.int .i64 0,.nils,.int .i64 0] Wb))=some (.undef,d):=by rw[gK (n:=4) (xf D _) rfl m y,Iy,e4]
 have j:=P.em f4;have n3:=P.au
 have R:d.get H.au=some (OR (dI l c s w) xZ):=by rw[j.ah _ (by omega) id];exact J
 have S:d.get H1.au=some (OR e Jd):=by rw[j.ah _ (by omega) id];exact g2
 have L:Op.ae [.ptr H.au 0] d=some (.int .i64 l):=vd R 0;have C:Op.ae [.ptr H.au 1] d=some (.int .i64 c):=vd R 1;have kc:=fp hc m;obtain⟨Y,r,la,fa,-⟩:=tX S G G W;have F:=λ{N Z:ar}(f:Fr Em d N)(g:Fr (On H1.au) N Z)=>((f1.em u).em (j.em f)).trans g λ z(q:z=H1.au)=>.inr (by omega);have no:oK 20 True H (.tuple [.agg e,.int .i64 2]) Y:=⟨e,2,rfl,G,W,λ _=>trivial,F (Fr.refl _) fa⟩
 by_cases h:ec=0
 case neg =>
  simp only[aa,bc,HM,aA,o,h,<-a,pN,r,la];exact no
 by_cases p:i<0
 .simp only[aa,bc,HM,aA,o,h,xb p,<-a,pN,r,la];exact no
 by_cases t:c<=i
 .simp only[aa,bc,HM,aA,o,h,p,C,xb t,<-a,pN,r,la];exact no
 by_cases E:4<c
 .simp only[aa,bc,HM,aA,o,h,p,C,t,xb E,<-a,pN,r,la];exact no
 by_cases c4:l<2
 .simp only[aa,bc,HM,aA,o,h,p,C,t,E,L,xb c4,<-a,pN,r,la];exact no
 by_cases c5:64<l
 .simp only[aa,bc,HM,aA,o,h,p,C,t,E,L,c4,xb c5,<-a,pN,r,la];exact no
 obtain⟨k,rfl⟩:=z4 (show 0<=l by omega);have mk:=OH Dk 1 [.bool false] k .i64 .i64 (by omega) (by omega);obtain⟨X,e5,Q,-,-⟩:=bX d (.row (fq k [.bool false]) Dk (0,0) true);have h5:X.get H1.au=some (OR e Jd):=by rw[Q.ah _ (by omega) id];exact S
 match lc,m,y with
 |[x0,x1,x2,x3],_,ho =>
  obtain⟨x,T,K⟩:∃x,Op.sliceTo k k d.au=x/\av x=true:=⟨_,rfl,rfl⟩
  have bx:Op.build e [(0,1),(1,1),(2,4),(17,1)] [.int .i64 i,.int .i64 (k:Int),.agg [x0,x1,x2,x3],x]=some (.agg [.int .i64 i,.int .i64 (k:Int),x0,x1,x2,x3,.int .i64 0,.int .i64 0,.int .i64 0,.int .u64 0,.int .u64 0,.int .u64 0,.int .u64 0,.int .u64 0,.int .u64 0,.int .u64 0,.int .u64 0,x,.bool false,.int .i64 0]):=by
   rw[a,<-T];rfl
  have U:aJ [AV.int .i64 i,.int .i64 (k:Int),x0,x1,x2,x3,.int .i64 0,.int .i64 0,.int .i64 0,.int .u64 0,.int .u64 0,.int .u64 0,.int .u64 0,.int .u64 0,.int .u64 0,.int .u64 0,.int .u64 0,x,.bool false,.int .i64 0]=true:=by
   rw[yj]at ho⊢;simp only[D6,List.all_nil,Bool.and_true,xt]at ho⊢;simp only[ho,K,show∀k n,av (.int k n)=true from λ _ _=>rfl,show∀b,av (.bool b)=true from λ _=>rfl,and_self]
  obtain⟨Hb,sb,lb,fb,-⟩:=tX h5 G (l:=[AV.int .i64 i,.int .i64 (k:Int),x0,x1,x2,x3,.int .i64 0,.int .i64 0,.int .i64 0,.int .u64 0,.int .u64 0,.int .u64 0,.int .u64 0,.int .u64 0,.int .u64 0,.int .u64 0,.int .u64 0,x,.bool false,.int .i64 0]) rfl U;simp only[aa,bc,HM,aA,o,h,p,C,t,E,L,c4,c5,kc,mk,<-e5,T,<-a,bx,sb,lb];exact⟨_,0,rfl,rfl,U,λ _=>trivial,F Q fb⟩
def xka{H:ar}(l c:Int):za M ZI [.int .i64 l,.int .i64 c] H (oK 3 ((2<=l/\l<=64)/\1<=c/\c<=4) H):=by
 refine xc7 ?_;obtain⟨H1,e1,S,n1,g1⟩:=bX H (OR [.nils,.int .i64 0,.nils] vm);simp only[aa,bc,Hu,<-e1];refine C3.q (xkb (M:=M) l) λ v j⟨lc,ec,hv,h,p,G,T⟩=>?_;subst hv;obtain⟨d,R,f4,n4,-⟩:=bX j (OR lc Pk);have s:Op.store 1 [.ptr j.au 0,.agg lc] (j.alloc (OR [.nils] Pk))=some (.undef,d):=by rw[gK (n:=1) (xf j _) rfl h p,Iy,R]
 have g:=T.em f4;have n3:=T.au
 have W:d.get H.au=some (OR [.nils,.int .i64 0,.nils] vm):=by rw[g.ah _ (by omega) id];exact g1
 have kc:=fp (show d.get j.au=some (OR lc Pk)by rw[R,xf]) h;obtain⟨Ha,P,la,fa,-⟩:=tX (n:=3) W rfl (l:=[.nils,.int .i64 0,.nils]) rfl rfl;have no:oK 3 ((2<=l/\l<=64)/\1<=c/\c<=4) H (.tuple [.agg [.nils,.int .i64 0,.nils],.int .i64 2]) Ha:=⟨_,2,rfl,rfl,rfl,λ q=>absurd q (by decide),(S.em g).trans fa λ z(q:z=H.au)=>.inr (by omega)⟩
 by_cases o:ec=0
 case neg =>
  simp only[aa,bc,Hu,aA,s,o,pN,P,la];exact no
 by_cases w:c<1
 .simp only[aa,bc,Hu,aA,s,o,xb w,pN,P,la];exact no
 by_cases Q:4<c
 .simp only[aa,bc,Hu,aA,s,o,w,xb Q,pN,P,la];exact no
 have L:=G o
 match lc,h,p with
 |[m],_,hm =>
  have Y:av m=true:=by rw[yj]at hm;simpa using hm
  have bm:Op.build [.nils,.int .i64 0,.nils] [(0,1),(1,1)] [.agg [m],.int .i64 c]=some (.agg [m,.int .i64 c,.nils]):=by cases m<;>first|rfl|cases Y
  obtain⟨H5,e5,f5,n5,g5⟩:=bX d (OR [m,.int .i64 c,.nils] vm);have o3:∀ev,av ev=true->aJ [m,.int .i64 c,ev]=true:=λ ev he=>by rw[yj,D6,Y,D6,show av (.int .i64 c)=true from rfl,D6,he];rfl
  have s5:Op.store 3 [.ptr d.au 0,.agg [m,.int .i64 c,.nils]] (d.alloc (OR [.nils,.int .i64 0,.nils] vm))=some (.undef,H5):=by rw[gK (n:=3) (xf d _) rfl rfl (o3 _ rfl),Iy,e5]
  simp only[aa,bc,Hu,aA,s,o,w,Q,kc,bm,s5];obtain⟨z,J⟩:∃z:List AV,z=[.int .i64 (-1),.nils,.int .i64 0,.int .i64 0,.int .i64 0,.int .u64 0,.int .u64 0,.int .u64 0,.int .u64 0,.int .u64 0,.int .u64 0,.int .u64 0,.int .u64 0,.int .i64 0,.nils,.int .i64 0,.nils]:=⟨_,rfl⟩
  have zl:z.length=17:=by rw[J];rfl
  have zo:aJ z=true:=by rw[J];rfl
  have bz:Op.build [.int .i64 0,.nils,.int .i64 0,.int .i64 0,.int .i64 0,.int .u64 0,.int .u64 0,.int .u64 0,.int .u64 0,.int .u64 0,.int .u64 0,.int .u64 0,.int .u64 0,.int .i64 0,.nils,.int .i64 0,.nils] [(0,1)] [.int .i64 (-1)]=some (.agg z):=by rw[J];rfl
  refine de.intro (λ nn E f=>∃(i:Nat)(ev:AV),E=[(9,.int .i64 (i:Int)),(8,.ptr d.au 0),(4,.ptr H.au 0),(0,.int .i64 l)]/\nn=l.toNat-i/\i<=l.toNat/\f.get d.au=some (OR [m,.int .i64 c,ev] vm)/\a9 (λ x:List AV=>x) qs4 17 f ev (List.replicate i z)/\(∀z,aW ev z->d.au<z)/\Fr (λ z=>d.au<=z) d f/\d.au<f.au) ?_ ?_
  .exact ⟨_,_,⟨0,.nils,rfl,rfl,xy _,g5,Own.nil ..,λ z q=>(q.1 rfl).elim,f5.mono λ _ _ q=>q.elim,by omega⟩,by simp only[aa,bc]⟩
  rintro nn E f ⟨i,ev,rfl,rfl,hi,D,N,ol,C,nx⟩;have l8:Op.ae [.ptr d.au 2] f=some ev:=vd D 2;rcases xq i l.toNat with F|hge
  .have O:(i:Int)<l:=by omega
   simp only[aa,bc,Hu,xb O,l8,bz];refine a9.oH (bytes:=184) N (x:=.agg z) (a:=z) rfl zl rfl zo (by decide) (by rw[zr];omega) (by rw[zr];omega) λ t u X y K=>?_;have r:av t=true:=Sl.one (Own.sl X);have n7:=y.au
   have a7:At u d.au vm [m,.int .i64 c,ev]:=⟨by rw[y.ah _ nx λ q=>by have:=ol _ q;omega];exact D,by omega⟩
   have s8:=a7.st 2 r (by show 2<3;decide);have wi:aj .i64 ((i:Int)+1)=((i+1:Nat):Int):=by rw[js (by omega) (by omega)];omega
   have Z:∀z,aW t z->d.au<z:=λ z q=>(K z q).elim (ol z) λ q=>by omega
   have U:Fr (On d.au) u (u.set d.au (OR (List.set [m,.int .i64 c,ev] 2 t) vm)):=cE ..;simp only[aa,bc,Hu,s8,wi];exact⟨_,_,⟨i+1,t,rfl,rfl,F,xc ..,by rw[List.replicate_succ'];exact Own.fr X U λ z q(e:z=d.au)=>by have:=Z z q;omega,Z,(C.trans y λ z q=>.inl (Nat.le_of_lt (ol z q))).trans U λ z(q:z=d.au)=>.inl (by omega),by rw[su];omega⟩,by simp only[aa,bc],by omega⟩
  .have O:¬(i:Int)<l:=by omega
   have k8:=fp D (n:=3) rfl;have I:f.get H.au=some (OR [.nils,.int .i64 0,.nils] vm):=by rw[C.ah _ (by omega) (by omega)];exact W
   obtain⟨Hb,sb,lb,fb,-⟩:=tX (n:=3) I rfl (l:=[m,.int .i64 c,ev]) rfl (o3 ev (Sl.one (Own.sl N)));simp only[aa,bc,Hu,O,k8,sb,lb];exact⟨_,0,rfl,rfl,o3 ev (Sl.one (Own.sl N)),λ _=>⟨L,by omega,by omega⟩,(((S.em g).mono (W':=λ _=>False) λ _ _ q=>q).trans C λ z q=>.inr (by omega)).trans fb λ z(q:z=H.au)=>.inr (by omega)⟩
def xj9{H:ar}(l c s w:Int):za M oI [.agg (dI l c s w),.nils] H (oK 5 True H):=by
 refine xc9 ?_;obtain⟨C,g⟩:∃z:List AV,z=[.nils,.int .i64 0,.nils,.nils,.nils]:=⟨_,rfl⟩
 have T:C.length=5:=by rw[g];rfl
 have zo:aJ C=true:=by rw[g];rfl
 obtain⟨H1,e1,f1,n1,-⟩:=bX H (OR (dI l c s w) xZ);obtain⟨U,e2,J,n2,g2⟩:=bX H1 (OR C vn);have g1:U.get H.au=some (OR (dI l c s w) xZ):=by rw[J.ah _ (by omega) id,e1,xf]
 have l0:Op.ae [.ptr H.au 0] U=some (.int .i64 l):=vd g1 0;have l1:Op.ae [.ptr H.au 1] U=some (.int .i64 c):=vd g1 1;simp only[aa,bc,Ga,<-g,<-e1,<-e2,l0,l1];refine C3.q (xka (M:=M) l c) λ v F⟨ld,ed,hv,r,N,hok,f3⟩=>?_;subst hv;obtain⟨d,e4,f4,n4,-⟩:=bX F (OR ld vm);have s4:Op.store 3 [.ptr F.au 0,.agg ld] (F.alloc (OR [.nils,.int .i64 0,.nils] vm))=some (.undef,d):=by rw[gK (n:=3) (xf F _) rfl r N,Iy,e4]
 have o:=f3.em f4;have n3:=f3.au
 have h1:d.get H.au=some (OR (dI l c s w) xZ):=by rw[o.ah _ (by omega) id];exact g1
 have h2:d.get H1.au=some (OR C vn):=by rw[o.ah _ (by omega) id];exact g2
 have kd:=fp (show d.get F.au=some (OR ld vm)by rw[e4,xf]) r;have k0:Op.ae [.ptr H.au 0] d=some (.int .i64 l):=vd h1 0;have ln:Op.dc [.nils]=some (.int .i64 0):=rfl
 -- an end: what is answered is put into its box
 have fin:∀{h:ar}{x:List AV}{e:Int},Fr (λ z=>d.au<=z) d h->x.length=5->aJ x=true -> ∃m,Op.store 5 [.ptr H1.au 0,.agg x] h=some (.undef,m)/\Op.aq 5 [.ptr H1.au 0] m=some (.agg x)/\oK 5 True H (.tuple [.agg x,.int .i64 e]) m:=λ{h x e}f hx ho=>by
  obtain⟨m,y,u,fy,-⟩:=tX (n:=5) (show h.get H1.au=some (OR C vn)by rw[f.ah _ (by omega) (by omega)];exact h2) T hx ho;exact⟨m,y,u,x,e,rfl,hx,ho,λ _=>trivial,(((f1.em J).em o).trans f λ z q=>.inr (by omega)).trans fy λ z(q:z=H1.au)=>.inr (by omega)⟩
 by_cases X:ed=0
 case neg =>
  obtain⟨m,y,u,O⟩:=fin (e:=2) (Fr.refl _) T zo;simp only[aa,bc,Ga,aA,s4,X,<-g,pN,y,u];exact O
 obtain⟨⟨a1,a2⟩,a3,a4⟩:=hok X;have q64:¬l<0:=by omega
 match ld,r,N with
 |[x0,x1,x2],_,ho =>
  rw[yj]at ho;simp only[D6,List.all_nil,Bool.and_true,xt]at ho;obtain⟨o0,o1,o2⟩:=ho;have bm:Op.build C [(0,3)] [.agg [x0,x1,x2]]=some (.agg [x0,x1,x2,.nils,.nils]):=by rw[g];rfl
  have o5:∀ev,av ev=true->aJ [x0,x1,x2,ev,.nils]=true:=λ ev he=>by rw[yj,D6,o0,D6,o1,D6,o2,D6,he];rfl
  obtain⟨H5,e5,f5,n5,g5⟩:=bX d (OR [x0,x1,x2,.nils,.nils] vn);have s5:Op.store 5 [.ptr d.au 0,.agg [x0,x1,x2,.nils,.nils]] (d.alloc (OR C vn))=some (.undef,H5):=by rw[gK (n:=5) (xf d _) T rfl (o5 _ rfl),Iy,e5]
  simp only[aa,bc,Ga,aA,s4,X,ln,k0,q64,kd,<-g,bm,s5];obtain⟨zn,t⟩:∃z:List AV,z=[.int .i64 0,.int .i64 0,.int .i64 0,.int .i64 0,.nils,.int .i64 0,.int .i64 0,.int .i64 0,.int .i64 0,.int .u64 0,.int .u64 0,.int .u64 0,.int .u64 0,.int .u64 0,.int .u64 0,.int .u64 0,.int .u64 0,.nils,.bool false,.int .i64 0]:=⟨_,rfl⟩
  have R:zn.length=20:=by rw[t];rfl
  refine de.intro (λ nn E h=>∃(i:Nat)(ev:AV)(ls:List (List AV)),E=[(9,.int .i64 (i:Int)),(8,.ptr d.au 0),(4,.ptr H1.au 0),(2,.ptr H.au 0),(1,.nils)]/\nn=c.toNat-i/\i<=c.toNat/\ls.length=i/\h.get d.au=some (OR [x0,x1,x2,ev,.nils] vn)/\a9 (λ x:List AV=>x) Jd 20 h ev ls/\(∀z,aW ev z->d.au<z)/\Fr (λ z=>d.au<=z) d h/\d.au<h.au) ?_ ?_
  .exact ⟨_,_,⟨0,.nils,[],rfl,rfl,xy _,rfl,g5,Own.nil ..,λ z q=>(q.1 rfl).elim,f5.mono λ _ _ q=>q.elim,by omega⟩,by simp only[aa,bc]⟩
  rintro nn E h ⟨i,ev,ls,rfl,rfl,hi,hls,gx,ox,ol,Z,nx⟩;have gs:h.get H.au=some (OR (dI l c s w) xZ):=by rw[Z.ah _ (by omega) (by omega)];exact h1
  have P:Op.ae [.ptr H.au 1] h=some (.int .i64 c):=vd gs 1;have kxs:=fp gs (n:=4) rfl;rcases xq i c.toNat with hlt|hge
  .have q0:(i:Int)<c:=by omega
   simp only[aa,bc,Ga,P,xb q0,kxs];refine C3.q (xgt (M:=M) (i:Int) l c s w) λ v G⟨D,e6,hv6,p,L,_,f6⟩=>?_;subst hv6;obtain⟨I,e7,f7,-,-⟩:=bX G (OR D Jd);have s7:Op.store 20 [.ptr G.au 0,.agg D] (G.alloc (OR zn Jd))=some (.undef,I):=by rw[gK (n:=20) (xf G _) R p L,Iy,e7]
   have k7:=fp (show I.get G.au=some (OR D Jd)by rw[e7,xf]) p;have j:=f6.em f7;have nx7:=j.au
   have F7:Fr (λ z=>d.au<=z) d I:=Z.trans j λ _ q=>q.elim;have K:I.get d.au=some (OR [x0,x1,x2,ev,.nils] vn):=by rw[j.ah _ nx id];exact gx
   have l8:Op.ae [.ptr d.au 3] I=some ev:=vd K 3
   by_cases c6:e6=0
   case neg =>
    obtain⟨m,y,u,O⟩:=fin (e:=2) F7 T zo;simp only[aa,bc,Ga,aA,<-t,s7,c6,<-g,pN,y,u];exact O
   simp only[aa,bc,Ga,aA,<-t,s7,c6,l8,k7];refine a9.oH (bytes:=192) (Own.em ox j) (x:=.agg D) (a:=D) rfl p R L (by decide) (by omega) (by omega) λ S W o8 Y hz8=>?_;have Q:av S=true:=Sl.one (Own.sl o8);have n8:=Y.au
   have a8:At W d.au vn [x0,x1,x2,ev,.nils]:=⟨by rw[Y.ah _ (by omega) λ q=>by have:=ol _ q;omega];exact K,by omega⟩
   have s9:=a8.st 3 Q (by show 3<5;decide);have wi:aj .i64 ((i:Int)+1)=((i+1:Nat):Int):=by rw[js (by omega) (by omega)];omega
   have vl:∀z,aW S z->d.au<z:=λ z q=>(hz8 z q).elim (ol z) λ q=>by omega
   have f9:Fr (On d.au) W (W.set d.au (OR (List.set [x0,x1,x2,ev,.nils] 3 S) vn)):=cE ..;simp only[aa,bc,Ga,s9,wi];exact⟨_,_,⟨i+1,S,ls ++ [D],rfl,rfl,hlt,by rw[qv,hls];rfl,xc ..,Own.fr o8 f9 λ z q(e:z=d.au)=>by have:=vl z q;omega,vl,(F7.trans Y λ z q=>.inl (Nat.le_of_lt (ol z q))).trans f9 λ z(q:z=d.au)=>.inl (by omega),by rw[su];omega⟩,by simp only[aa,bc],by omega⟩
  .have q0:¬(i:Int)<c:=by omega
   have k8:=fp gx (n:=5) rfl;obtain⟨m,y,u,O⟩:=fin (e:=0) Z (x:=[x0,x1,x2,ev,.nils]) rfl (o5 ev (Sl.one (Own.sl ox)));have q1:¬(0:Int)<0:=by decide
   simp only[aa,bc,Ga,P,q0];refine de.intro (λ nn E Hz=>E=[(12,.int .i64 0),(8,.ptr d.au 0),(4,.ptr H1.au 0),(1,.nils)]/\nn=0/\Hz=h) ⟨_,_,⟨rfl,rfl,rfl⟩,by simp only[aa,bc]⟩ ?_;rintro nn E Hz ⟨rfl,rfl,rfl⟩;simp only[aa,bc,Ga,ln,q1,k8,y,u];exact O
end Go.Am
namespace Go.Am
open Lang Go.Proofs
variable{M:ak}[MK M]
section
variable{Hb H H':ar}{B k k' i:Nat}{bs bs':Bs}{own:Nat->Nat}{ks ks':List Ck}{V:Int->L8}{b:Bu}{cs:List Co}{c:Co}{A:Ck}
def fI{α:Type}{l:List α}{a b:α}{i:Nat}(h:(l ++ [a])[i]? = some b):l[i]? = some b\/i=l.length/\b=a:=by
 rcases xq i l.length with q|q
 .rw [jd q]at h;exact .inl h
 .rw [zh q]at h;obtain⟨e,rfl⟩:i-l.length=0/\a=b:=by
   cases d:i-l.length with
   |zero=>rw[d]at h;injection h with h;exact⟨rfl,h⟩
   |succ n=>rw[d]at h;cases h
  exact .inr ⟨by omega,rfl⟩
def jX.add(r:jX Hb H B bs own ks V k b cs)(L:dH H A.o A.p A.f A.l A.sp A.cv A.rv .nils .nili c [] k)(w:c.id=(cs.length:Int))(hl:cs.length<b.ns.length)(a0:∀z,z<H.au->A.o z≠0->mU H B bs ks z/\Hb.au<=z) :
 jX Hb H B bs own (wide (ks ++ [A]) H.au) V k b (cs ++ [c]) /\ ∀z,mU H B bs ks z->A.o z=0->mU H B bs (wide (ks ++ [A]) H.au) z:=by
 refine⟨⟨r.r,r.I,r.C,r.U,λ j d v J m=>?_,by unfold wide;simp only[xp,qv,List.length_singleton];rw[r.kl],by rw[qv,List.length_singleton];exact hl,λ j v m z e=>?_,λ j P S T a h ne z s e=>?_,λ j v m z s e=>?_⟩,λ z q e=>⟨q.lt,q.nb,λ j v a=>?_⟩⟩
 .obtain ⟨n,a,rfl⟩:=si m;rcases fI a with u|⟨W,rfl⟩
  .have N:=(qk.1 u).1;rcases fI J with h|⟨h,_⟩
   .obtain ⟨Q,R⟩:=r.co j d n h u;exact⟨Q.fr (Fr.refl H) (λ _ _ _ q=>q) (λ z s=>i6 s) (qg _),R⟩
   .rw [r.kl]at N;omega
  .rcases fI J with h|⟨h,rfl⟩
   .have:=(qk.1 h).1;rw[<-r.kl]at this;omega
   .exact ⟨L.fr (Fr.refl H) (λ _ _ _ q=>q) (λ z s=>i6 s) (qg _),by rw[w,h]⟩
 .obtain ⟨n,a,rfl⟩:=si m;refine zd λ q=>?_;obtain⟨s,q⟩:=gD q;rcases fI a with a|⟨_,rfl⟩
  .exact q (r.dj j n a z e)
  .exact (a0 z s q).1.nb e
 .obtain ⟨E,K,rfl⟩:=si a;obtain⟨F,G,rfl⟩:=si h;obtain⟨g,y⟩:=gD e;refine zd λ t=>?_;obtain⟨-,t⟩:=gD t;rcases fI K with u|⟨X,rfl⟩
  .rcases fI G with D|⟨O,rfl⟩
   .exact t (r.d2 _ _ E F u D ne z g y)
   .exact y ((a0 z g t).1.nc j E u)
  .rcases fI G with D|⟨O,rfl⟩
   .exact t ((a0 z g y).1.nc P F D)
   .omega
 .obtain ⟨n,a,rfl⟩:=si m;obtain⟨g,q⟩:=gD e;rcases fI a with a|⟨_,rfl⟩
  .exact r.lo j n a z g q
  .exact (a0 z g q).2
 .obtain ⟨n,h,rfl⟩:=si a;show aR n.o H.au 0 z=0
  rw[i6 q.lt];rcases fI h with h|⟨_,rfl⟩
  .exact q.nc j n h
  .exact e
end
def nj(p:AV×List gO):List AV:=[p.1]
def xit(p:AV×List gO):(nj p).length=1:=rfl
def Dt(l f so sf:Int)(qs:List (List gO))(n:Nat):List Co:=(List.range n).map λ i:Nat=>Ii (i:Int) l (qs.getD i []) f so sf
def Ch(l f so sf:Int)(qs:List (List gO))(n:Nat):Dt l f so sf qs (n+1)=Dt l f so sf qs n ++ [Ii (n:Int) l (qs.getD n []) f so sf]:=by
 unfold Dt;rw[List.range_succ,HJ];rfl
def SH(l f so sf:Int)(qs:List (List gO))(n:Nat):(Dt l f so sf qs n).length=n:=by unfold Dt;rw[xp,j0]
def uJ(l c s w:Int)(cv:AV)(f so sf:Int):List AV:=dI l c s w ++ [cv,.int .i64 f,.int .i64 so,.int .i64 sf]
def Ak(H:ar)(l c s w f so sf:Int)(qs:List (List gO))(v:AV)(H':ar):Prop:=Fr Em H H'/\((∃q,v=.tuple [.nilp,.nils,.nilp,.nils,.bool false,.bool q]) \/ ∃Hb B cvs bs own ks V x y,v=.tuple [.ptr B 0,cvs,x,y,.bool true,.bool false]/\pW l c s w/\(qs.length:Int)<=c/\(0<qs.length->okB f so sf)/\H.au<=Hb.au/\jX Hb H' B bs own ks V 0 (iO l c s w []) (Dt l f so sf qs qs.length)/\a9 lj vx 1 H' cvs (ks.map Ck.p) /\ ∀z,aW cvs z->mU H' B bs ks z/\Hb.au<=z)
def xjq{H:ar}{l c s w f so sf:Int}{cv:AV}{m:List (AV×List gO)}(hP:dU nj 1 H cv m)(hps:∀p∈m,dU fh 5 H p.1 p.2) :
 za M qxa [.agg (uJ l c s w cv f so sf)] H (Ak H l c s w f so sf (m.map Prod.snd)):=by
 refine xaa ?_;obtain⟨H1,e1,f1,m1,g1⟩:=bX H (OR (uJ l c s w cv f so sf) kz);have k4:∀{d:ar},d.get H.au=some (OR (uJ l c s w cv f so sf) kz)->Op.aq 4 [.ptr H.au 0] d=some (.agg (dI l c s w)):=λ g=>by rw[rq (qy g) (by show 0+4<=8;decide)];rfl
 have k3:∀{d:ar},d.get H.au=some (OR (uJ l c s w cv f so sf) kz)->Op.aq 3 [.ptr H.au 5] d=some (.agg [.int .i64 f,.int .i64 so,.int .i64 sf]):=λ g=>by rw[rq (qy g) (by show 5+3<=8;decide)];rfl
 have kc:∀{d:ar},d.get H.au=some (OR (uJ l c s w cv f so sf) kz)->Op.ae [.ptr H.au 4] d=some cv/\Op.ae [.ptr H.au 1] d=some (.int .i64 c)/\Op.ae [.ptr H.au 0] d=some (.int .i64 l):=λ g=>⟨vd g 4,vd g 1,vd g 0⟩
 have pl:=hP.len;simp only[aa,bc,yQ,<-e1,k4 g1];refine C3.q (q9f (M:=M) l c s w (fv:=.nils) (fs:=[]) ⟨rfl,rfl⟩ λ q=>absurd rfl q) λ v H2 hb=>?_;have f2:Fr Em H1 H2:=by rcases hb with⟨_,_,f⟩|⟨_,_,_,_,_,_,f⟩<;>exact f
 have g2:H2.get H.au=some (OR (uJ l c s w cv f so sf) kz):=by rw[f2.ah _ (by omega) id];exact g1
 obtain⟨bv,be,rfl,hbe⟩:∃bv be,v=.tuple [bv,.int .i64 be]/\(be=0->(pW l c s w) /\ ∃B bs own,bv=.ptr B 0/\eV H1 H2 B bs (iO l c s w []) own):=by
  rcases hb with⟨_,q,_⟩|⟨q,B,bs,own,e,r,_⟩
  .exact ⟨_,_,q,λ q=>absurd q (by decide)⟩
  .exact ⟨_,_,e,λ _=>⟨q.1,B,bs,own,rfl,r⟩⟩
 simp only[aa,bc,yQ,aA,k4 g2];refine C3.q (xj9 (M:=M) l c s w) λ v X⟨lb,eb,hv3,hlb,hob,_,f3⟩=>?_;subst hv3;have g3:X.get H.au=some (OR (uJ l c s w cv f so sf) kz):=by rw[f3.ah _ (by have:=f2.au;omega) id];exact g2
 obtain⟨J,e4,f4,m4,-⟩:=bX X (OR lb vn);have s4:Op.store 5 [.ptr X.au 0,.agg lb] (X.alloc (OR [.nils,.int .i64 0,.nils,.nils,.nils] vn))=some (.undef,J):=by rw[gK (n:=5) (xf X _) rfl hlb hob,Iy,e4]
 have g4:J.get H.au=some (OR (uJ l c s w cv f so sf) kz):=by rw[f4.ah _ (by have:=f2.au;have:=f3.au;omega) id];exact g3
 have n2:=f2.au
 have n3:=f3.au
 have F4:Fr Em H J:=((f1.em f2).em f3).em f4;have no:∀q,Ak H l c s w f so sf (m.map Prod.snd) (.tuple [.nilp,.nils,.nilp,.nils,.bool false,.bool q]) J:=λ q=>⟨F4,.inl ⟨q,rfl⟩⟩
 by_cases c0:be=0
 case neg =>
  simp only[aa,bc,yQ,aA,s4,c0];exact no _
 by_cases c1:eb=0
 case neg =>
  simp only[aa,bc,yQ,aA,s4,c0,c1];exact no _
 by_cases c2:c<(m.length:Nat)
 .simp only[aa,bc,yQ,aA,s4,c0,c1,kc g4,pl,xb c2];exact no _
 obtain⟨hok,B,bs,own,rfl,hB⟩:=hbe c0;obtain⟨⟨⟨lo2,N⟩,lc1,lc4⟩,hs4⟩:=hok;have nsl:(iO l c s w []).ns.length=c.toNat:=Sa ..;have r4:jX H1 J B bs own [] (λ _=>.zero) 0 (iO l c s w []) []:=⟨hB.em (f3.em f4),xh4 [] ⟨⟨⟨lo2,N⟩,lc1,lc4⟩,hs4⟩,xh3,xh5 (λ x q=>by cases q),λ i c A h=>(by cases h),rfl,xy _,λ i A h=>(by cases h),λ i j A A' h=>(by cases h),λ i A h=>(by cases h)⟩
 simp only[aa,bc,yQ,aA,s4,c0,c1,kc g4,pl,c2];refine de.intro (λ nn E d=>∃(i:Nat)(C dv:AV)(ks:List Ck)(ls:List (List AV)),E=[(14,.int .i64 (i:Int)),(13,dv),(12,C),(10,.ptr X.au 0),(8,.ptr B 0),(1,.ptr H.au 0)]/\nn=m.length-i/\i<=m.length/\jX H1 d B bs own ks (λ _=>.zero) 0 (iO l c s w []) (Dt l f so sf (m.map Prod.snd) i)/\a9 lj vx 1 d C (ks.map Ck.p)/\(∀z,aW C z->mU d B bs ks z/\J.au<=z /\ ¬aW dv z)/\a9 (λ x:List AV=>x) vp 60 d dv ls/\ls.length=i/\(∀z,aW dv z->mU d B bs ks z/\J.au<=z)/\Fr (λ z=>J.au<=z) J d/\(0<i->okB f so sf)) ?_ ?_
 .exact ⟨_,_,⟨0,.nils,.nils,[],[],rfl,rfl,xy _,r4,Own.nil ..,λ z q=>(q.1 rfl).elim,Own.nil ..,rfl,λ z q=>(q.1 rfl).elim,Fr.refl _,λ q=>absurd q (A9 0)⟩,by simp only[aa,bc]⟩
 rintro nn E d ⟨i,C,dv,ks,ls,rfl,rfl,hi,r,oc,F,od,hls,S,FX,hbk⟩;have nX:=FX.au
 have gx:d.get H.au=some (OR (uJ l c s w cv f so sf) kz):=by rw[FX.ah _ (by omega) (by omega)];exact g4
 have FH:Fr Em H d:=F4.trans FX λ z q=>.inr (by omega);rcases xq i m.length with hlt|hge
 .have q0:(i:Int)<((m.length:Nat):Int):=by omega
  have sP:dU nj 1 d cv m:=Sl.em hP FH;obtain⟨p,hp⟩:∃p,m[i]? = some p:=⟨_,qt hlt⟩
  have ix:=sP.idx hp (z:=(i:Int)) rfl .i64;have ld:∀{Hy:ar},Fr Em d Hy->Op.ae [.ptr (aH cv) (cG 1 cv i)] Hy=some p.1:=λ{Hy}f=>(show dU nj 1 Hy cv m from Sl.em sP f).lT xit hp (by decide);have U:=hps p (x9 hp);have ec:(m.map Prod.snd).getD i []=p.2:=by rw[zy,xj,hp];rfl
  simp only[aa,bc,yQ,kc gx,pl,xb q0,ix,ld (Fr.refl _),k3 gx];refine C3.q (q9m (M:=M) (id:=(i:Int)) (ln:=l) (f:=f) (s:=so) (o:=sf) (Sl.em U FH)) λ v Y⟨hq6,R⟩=>?_;have n6:=R.au
  have g6:Y.get H.au=some (OR (uJ l c s w cv f so sf) kz):=by rw[R.ah _ (by omega) id];exact gx
  obtain⟨pv,pe,rfl,hpe⟩:∃pv pe,v=.tuple [pv,.int .i64 pe]/\(pe=0->O8 (i:Int) p.2.length f so sf l/\CoN d (Ii (i:Int) l p.2 f so sf) (.tuple [pv,.int .i64 pe]) Y):=by
   rcases hq6 with⟨G,h6⟩|⟨_,q⟩
   .obtain ⟨O,D,l6,I,y,e,h6'⟩:=h6;exact⟨_,_,e,λ _=>⟨G,O,D,l6,I,y,rfl,h6'⟩⟩
   .exact ⟨_,_,q,λ q=>absurd q (by decide)⟩
  simp only[aa,bc,aA,kc g6,ix,ld R,k3 g6];refine C3.q (xdc (M:=M) (id:=(i:Int)) (ln:=l) (f:=f) (s:=so) (o:=sf) (Sl.em (Sl.em U FH) R)) λ v H7⟨hq7,f7⟩=>?_;have n7:=f7.au
  obtain⟨lr,er,rfl,T,hor⟩:∃lr er,v=.tuple [.agg lr,.int .i64 er]/\lr.length=60/\aJ lr=true:=by
   rcases hq7 with⟨_,q⟩|⟨_,q⟩
   .exact ⟨_,_,q,rfl,Yo (Sl.one U)⟩
   .exact ⟨_,_,q,rfl,rfl⟩
  obtain⟨H8,e8,f8,n8,-⟩:=bX H7 (OR lr vp);have s8:Op.store 60 [.ptr H7.au 0,.agg lr] (H7.alloc (OR pw vp))=some (.undef,H8):=by rw[gK (n:=60) (xf H7 _) rfl T hor,Iy,e8]
  have P:=f7.em f8;have F8:=R.em P;have no:∀q,Ak H l c s w f so sf (m.map Prod.snd) (.tuple [.nilp,.nils,.nilp,.nils,.bool false,.bool q]) H8:=λ q=>⟨FH.em F8,.inl ⟨q,rfl⟩⟩
  by_cases c5:pe=0
  case neg =>
   simp only[aa,bc,yQ,aA,s8,c5];exact no _
  by_cases c6:er=0
  case neg =>
   simp only[aa,bc,yQ,aA,s8,c5,c6];exact no _
  obtain⟨G,O,D,l6,I,y,e6,hp6,ht6⟩:=hpe c5;injection e6 with e6;injection e6 with e6 _;subst e6
  obtain⟨o6,ho6,hc6⟩:=ht6 λ _=>0;have Q:(Dt l f so sf (m.map Prod.snd) i).length=i:=SH ..;have r6:=r.em R;obtain⟨r7,k7⟩:=r6.add (A:=⟨O,D,l6,I,y,.nils,o6⟩) hc6 (by show(i:Int)=_;rw[Q]) (by rw[Q,nsl];omega) λ z zl q=>by
   have:d.au<=z:=Nat.le_of_not_lt λ e=>q ((ho6 z e).trans rfl)
   exact⟨r.new (by omega) zl,by omega⟩
  have r8:=r7.em P
  -- a block that was others' is
  have kp8:∀z,mU d B bs ks z->mU H8 B bs (wide (wide (wide ks d.au ++ [⟨O,D,l6,I,y,.nils,o6⟩]) Y.au) Y.au) z:=λ z q=>(k7 z (q.wide R.au λ q=>.inl q) ((ho6 z q.lt).trans rfl)).wide P.au λ q=>.inl q
  have kl8:(ks.map Ck.p).length=i:=by rw[xp,r.kl,Q]
  simp only[aa,bc,yQ,aA,s8,c5,c6];refine a9.oH (bytes:=8) (Own.em oc F8) (x:=.ptr O 0) (a:=O) rfl rfl rfl rfl (by decide) (by rw[kl8];omega) (by rw[kl8];omega) λ v' H9 o9 Z W=>?_;have n9:=Z.au
  have gb:H9.get H7.au=some (OR lr vp):=by rw[Z.ah _ (by omega) (λ q=>by have:=(F _ q).1.lt;omega),e8,xf]
  have lb9:=fp gb T;simp only[aa,bc,lb9];refine a9.oH (bytes:=544) (Own.fr (Own.em od F8) Z λ z q e=>(F z e).2.2 q) (x:=.agg lr) (a:=lr) rfl T rfl hor (by decide) (by omega) (by omega) λ d' H10 o10 u K=>?_;have n10:=u.au
  have wi:aj .i64 ((i:Int)+1)=((i+1:Nat):Int):=by rw[js (by omega) (by omega)];omega
  have r9:=r8.fr Z λ z q _=>⟨kp8 z (F z q).1,by have:=(F z q).2.1;omega⟩
  have kp9:∀z,mU d B bs ks z->mU H9 B bs _ z:=λ z q=>(kp8 z q).wide Z.au λ q=>.inl q
  have r10:=r9.fr u λ z q _=>⟨kp9 z (S z q).1,by have:=(S z q).2;omega⟩
  have L:∀z,mU d B bs ks z->mU H10 B bs _ z:=λ z q=>(kp9 z q).wide u.au λ q=>.inl q
  have v9:∀z,aW v' z->mU H10 B bs _ z/\J.au<=z /\ ¬aW d' z:=λ z q=>by
   have zl:=Own.lt o9 z q;have nd:¬aW d' z:=λ e=>by
    rcases K z e with e|e
    .rcases W z q with t|t
     .exact (F z t).2.2 e
     .have:=(S z e).1.lt;omega
    .omega
   rcases W z q with t|t
   .exact ⟨L z (F z t).1,(F z t).2.1,nd⟩
   .exact ⟨(r8.new t zl).wide u.au λ q=>.inl q,by omega,nd⟩
  simp only[aa,bc,yQ,wi];refine⟨_,_,⟨i+1,v',d',_,ls ++ [lr],rfl,rfl,hlt,by rw[Ch,ec];exact r10,?_,v9,o10,by rw[qv,hls];rfl,λ z q=>?_,((FX.trans F8 λ _ q=>q.elim).trans Z λ z q=>.inl (F z q).2.1).trans u λ z q=>.inl (S z q).2,λ _=>G.1⟩,by simp only[aa,bc],by omega⟩
  .have e:(wide (wide (wide (wide (wide ks d.au ++ [⟨O,D,l6,I,y,.nils,o6⟩]) Y.au) Y.au) H8.au) H9.au).map Ck.p=ks.map Ck.p ++ [O]:=by
    unfold wide;simp only[we,HJ,ji,EI];rfl
   rw[e];exact Own.fr o9 u λ z q e=>by
    rcases W z q with t|t
    .exact (F z t).2.2 e
    .have:=(S z e).1.lt;omega
  .rcases K z q with t|t
   .exact ⟨L z (S z t).1,(S z t).2⟩
   .exact ⟨r9.new t (Own.lt o10 z q),by omega⟩
 .have q0:¬(i:Int)<((m.length:Nat):Int):=by omega
  have ie:i=m.length:=by omega
  rw[ie]at r;simp only[aa,bc,yQ,kc gx,pl,q0];exact⟨FH,.inr ⟨H1,B,C,bs,own,ks,_,_,_,rfl,⟨⟨⟨lo2,N⟩,lc1,lc4⟩,hs4⟩,by rw[xp];omega,by rw[xp,<-ie];exact hbk,by omega,by rw[xp];exact r,oc,λ z q=>⟨(F z q).1,by have:=(F z q).2.1;omega⟩⟩⟩
end Go.Am
namespace Go.Am
open Lang Go.Proofs
variable{M:ak}[MK M]
section
variable{H H':ar}{o o':Nat->Nat}{p f l sp k:Nat}{cv rv ov pv:AV}{c:Co}{os:List iq}{x:Fi}
def JG(h:dH H o p f l sp cv rv ov pv c os k):∀K,C3 M true (.func X4) [.ptr p 0] H K=K true (.int .i64 c.la.lane) H:=by
 refine dW (qxu ?_);simp only[aa,bc,qxv,aA,QX h,h.bq,ik h.la]
end
end Go.Am
namespace Go.Am
open Lang Go.Proofs
variable{M:ak}[MK M]
structure Ac where
 k:Int
 n:Int
 m:Int
def qO(a:Ac):List AV:=[.int .i64 a.k,.int .i64 a.n,.int .i64 a.m]
def xis(a:Ac):(qO a).length=3:=rfl
section
variable{Hb H H':ar}{B k k' i:Nat}{bs bs':Bs}{own:Nat->Nat}{ks ks':List Ck}{V:Int->L8}{b:Bu}{cs:List Co}{c:Co}{A:Ck}{cvs:AV}
def Pl(b:Bu)(cs cs':List Co)(o:List iq):Prop:=(cs'=cs/\o=[]) \/ ∃i c,cs[i]? = some c/\cs'=cs.set i (CS.step ⟨c,b,[]⟩).1.c/\o=(CS.step ⟨c,b,[]⟩).1.o
def Ip(Hb H:ar)(B:Nat)(bs:Bs)(ks:List Ck)(k:Nat)(b:Bu)(cs:List Co)(ov:AV)(H':ar):Prop:=∃b' cs' o bs' aR ks' V',jX Hb H' B bs' aR ks' V' k b' cs'/\Pl b cs cs' o/\a9 iq.enc yv 9 H' ov o/\Fk H B bs ks H' bs' ks'/\ks'.map Ck.p=ks.map Ck.p /\ ∀z,mU H B bs ks z -> ¬aW ov z
def Fk.pre{H1:ar}{a:Bs}{d:List Ck}(h:Fk H B bs ks H1 a d)(e:Fk H1 B a d H' bs' ks'):Fk H B bs ks H' bs' ks' :=
 ⟨xu h.1 e.1,λ z q=>⟨(e.2 z (h.2 z q).1).1,(e.2 z (h.2 z q).1).2.trans (h.2 z q).2⟩⟩
def IL(n:Nat):(wide ks n).map Ck.p=ks.map Ck.p:=by unfold wide;rw[we];rfl
def jX.WN(h:jX Hb H B bs own ks V k b cs)(f:Fr Em H H'):Fk H B bs ks H' bs (wide ks H.au):=⟨f.au,λ z q=>⟨q.wide f.au λ q=>.inl q,f.ah z q.lt id⟩⟩
def Ip.of{d:Bu}{bs':Bs}{aR:Nat->Nat}{ks':List Ck}{a:Int->L8}(h:jX Hb H' B bs' aR ks' a k d cs)(f:Fk H B bs ks H' bs' ks')(e:ks'.map Ck.p=ks.map Ck.p):Ip Hb H B bs ks k b cs .nils H' :=
 ⟨d,cs,[],bs',aR,ks',a,h,.inl ⟨rfl,rfl⟩,Own.nil ..,f,e,λ z _ q=>q.1 rfl⟩
def jX.Kf{H1:ar}(h:jX Hb H B bs own ks V k b cs)(a:Fr Em H H1)(t:Bt)(d:fM t.v)(hp:kG Hb H1 B bs (b.step t) H'):Ip Hb H B bs ks (k+2) b cs .nils H':=by
 obtain⟨bs',aR,f,q,e⟩:=(h.em a).kJ t d hp;exact Ip.of (q.mono (ku _)) ((h.WN a).pre e) ((IL _).trans (IL _))
def jX.rB(h:jX Hb H B bs own ks V k b cs)(a:Fr Em H H'):Ip Hb H B bs ks (k+2) b cs .nils H' :=
 Ip.of ((h.em a).mono (Ms ..)) (h.WN a) (IL _)
def xj3(h:jX Hb H B bs own ks V k b cs)(oc:a9 lj vx 1 H cvs (ks.map Ck.p))(hk:k+1<=90000)(T:u6 H)(S:wZ<Hb.au)(a:Ac):za M ZX [.ptr B 0,cvs,.agg (qO a)] H (Ip Hb H B bs ks (k+2) b cs):=by
 refine xab ?_;obtain⟨H1,j,d,-,D⟩:=bX H (OR (qO a) qxq);have l0:Op.ae [.ptr H.au 0] H1=some (.int .i64 a.k):=vd D 0;have l1:Op.ae [.ptr H.au 1] H1=some (.int .i64 a.n):=vd D 1;have l2:Op.ae [.ptr H.au 2] H1=some (.int .i64 a.m):=vd D 2;have e:=h.em d;have l:=Own.em oc d;have ln:=(a9.sl l).len;rw[xp,h.kl]at ln;have hb:BB b:=e.C.bb e.I (by omega);have g:∀{n:Int},¬(0<=n/\n<b.ns.length)\/0<=n /\ ∃g,b.ns[n.toNat]? = some g:=λ{n}=>by
  by_cases q:0<=n/\n<b.ns.length
  .exact .inr ⟨q.1,_,qt (by omega)⟩
  .exact .inl q
 have E:¬(1:Int)=0 /\ ¬(2:Int)=0 /\ ¬(3:Int)=0 /\ ¬(2:Int)=1 /\ ¬(3:Int)=1 /\ ¬(3:Int)=2:=by decide
 by_cases t:a.k=0
 .by_cases n0:0<=a.n
  case neg =>
   simp only[aa,bc,xN,<-j,l0,l1,t,n0];exact h.rB d
  by_cases n1:a.n<(cs.length:Nat)
  case neg =>
   simp only[aa,bc,xN,<-j,l0,l1,t,n0,ln,n1];exact h.rB d
  obtain⟨i,u⟩:=z4 n0;rw[u]at l1 n0 n1;have J:i<cs.length:=by omega
  obtain⟨c,G⟩:∃c,cs[i]? = some c:=⟨_,qt J⟩
  obtain⟨A,F⟩:∃A,(wide ks H.au)[i]? = some A:=⟨_,qt (by rw[e.kl];exact J)⟩
  have K:(ks.map Ck.p)[i]? = some A.p:=by rw[<-IL H.au,xj,F];rfl
  have ix:=(a9.sl l).idx K (z:=(i:Int)) rfl .i64;have ld:=(a9.sl l).lT (enc:=lj) (size:=1) (λ _=>rfl) K (by decide);have Q:(lj A.p)[0]? = some (.ptr A.p 0):=rfl;rw[Q]at ld;simp only[aa,bc,xN,<-j,l0,l1,t,n0,ln,n1,ix,ld];refine C3.q (e.step (M:=M) hk (T.em d) S G F) λ v Y⟨ov,U,ow,bs',aR,ks',P,q,W,R,ns⟩=>?_;subst U;simp only[aa,bc,aA];exact⟨_,_,_,bs',aR,ks',P,q,.inr ⟨i,c,G,rfl,rfl⟩,ow,(h.WN d).pre W,R.trans (IL _),λ z w=>ns z (w.wide d.au λ q=>.inl q)⟩
 by_cases L:a.k=1
 .simp only[aa,bc,xN,<-j,l0,l1,L,E]
  by_cases hn:0<=a.n/\a.n<b.fl.length
  .obtain ⟨i,u⟩:=z4 hn.1;rw[u]at hn⊢;obtain⟨m,hm⟩:∃m,b.fl[i]? = some m:=⟨_,qt (by omega)⟩
   have es:b.step ⟨7,0,(i:Int),0,0⟩=b.wQ i:=by unfold Bu.step;rw[qr rfl,qr ⟨hn.1,hn.2⟩];rfl
   refine C3.q (q86 (M:=M) e.r hb e.I (λ y q=>xu (e.C.wt y q) (by omega)) hm) λ v o⟨f,hp⟩=>?_;simp only[aa,bc,xN];exact h.Kf d ⟨7,0,(i:Int),0,0⟩ bF (by rw[es];exact hp)
  .refine C3.q (xfa (M:=M) e.r hb hn) λ v o⟨f,s⟩=>?_;simp only[aa,bc,xN];exact h.rB (d.em s)
 by_cases N:a.k=2
 .simp only[aa,bc,xN,<-j,l0,l1,l2,N,E];rcases g (n:=a.n)with hn|⟨n0,g,hn⟩
  .refine C3.q (Di (M:=M) e.r hb hn a.m) λ v o⟨f,s⟩=>?_;subst s;simp only[aa,bc,xN];exact h.rB d
  .refine C3.q (AK (M:=M) e.r hb n0 hn a.m) λ v o⟨f,hp⟩=>?_;have es:b.step ⟨6,a.n,a.m,0,0⟩=b.put a.n.toNat (g.cT a.m):=TN (x:=⟨6,a.n,a.m,0,0⟩) (show(6:Int)≠7 by decide) n0 hn;simp only[aa,bc,xN];exact h.Kf d ⟨6,a.n,a.m,0,0⟩ bF (by rw[es];exact hp)
 by_cases O:a.k=3
 .simp only[aa,bc,xN,<-j,l0,l1,O,E];rcases g (n:=a.n)with hn|⟨n0,g,hn⟩
  .refine C3.q (xhf (M:=M) e.r hb hn 5) λ v o⟨f,s⟩=>?_;simp only[aa,bc,xN];exact h.rB (d.em s)
  .refine C3.q (xhg (M:=M) e.r hb n0 hn 5) λ v o⟨f,hp⟩=>?_;have es:b.step ⟨5,a.n,5,0,0⟩=b.put a.n.toNat ((g.abort 5).1,[]):=TN (x:=⟨5,a.n,5,0,0⟩) (show(5:Int)≠7 by decide) n0 hn;simp only[aa,bc,xN];exact h.Kf d ⟨5,a.n,5,0,0⟩ bF (by rw[es];exact hp)
 .simp only[aa,bc,xN,<-j,l0,t,L,N,O];exact h.rB d
end
end Go.Am
namespace Go.Am
open Lang Go.Proofs
variable{M:ak}[MK M]
structure LR(Hb H1 H:ar)(B:Nat)(bs:Bs)(own:Nat->Nat)(ks:List Ck)(V:Int->L8)(k:Nat)(b:Bu)(cs:List Co)(cvs:AV)(z:Nat)(X:List (List AV×Nat)):Prop where
 m:jX Hb H B bs own ks V k b cs
 oc:a9 lj vx 1 H cvs (ks.map Ck.p)
 cf:∀y,aW cvs y->mU H B bs ks y/\y<z
 F:Fr (λ y=>Hb.au<=y) H1 H
 bx:∀(i:Nat)x,X[i]? = some x->At H (z+i) x.2 x.1/\mU H B bs ks (z+i)
 bh:Hb.au<=z
section
variable{Hb H H1 H':ar}{B k k' i z:Nat}{bs bs':Bs}{own:Nat->Nat}{ks ks':List Ck}{V:Int->L8}{b:Bu}{cs:List Co}{c:Co}{A:Ck}{cvs:AV}{X:List (List AV×Nat)}{x:List AV×Nat}
def mU.em(h:mU H B bs ks z)(n:H.au<=H'.au):mU H' B bs (Go.Am.wide ks H.au) z:=h.wide n λ q=>.inl q
def LR.em(h:LR Hb H1 H B bs own ks V k b cs cvs z X)(f:Fr Em H H'):LR Hb H1 H' B bs own (wide ks H.au) V k b cs cvs z X :=
 ⟨h.m.em f,by rw[IL];exact Own.em h.oc f,λ y q=>⟨(h.cf y q).1.em f.au,(h.cf y q).2⟩,h.F.trans f λ y q=>q.elim,λ i x e=>⟨(h.bx i x e).1.em f,(h.bx i x e).2.em f.au⟩,h.bh⟩
def LR.set(h:LR Hb H1 H B bs own ks V k b cs cvs z X)(a:X[i]? = some x)(d:List AV):LR Hb H1 (H.set (z+i) (OR d x.2)) B bs own (wide ks H.au) V k b cs cvs z (X.set i (d,x.2)):=by
 have f:=cE H (z+i) (OR d x.2);have g:=(qk.1 a).1;have hb:=h.bh;refine⟨h.m.fr f λ y(q:y=z+i)_=>by subst q;exact⟨(h.bx i x a).2,by omega⟩,by rw[IL];exact Own.fr h.oc f λ y q(e:y=z+i)=>by have:=(h.cf y q).2;omega,λ y q=>⟨(h.cf y q).1.em f.au,(h.cf y q).2⟩,h.F.trans f λ y(q:y=z+i)=>.inl (by show _<=y;omega),λ j y e=>?_,hb⟩
 by_cases w:j=i
 .subst w;rw[xr g]at e;injection e with e;subst e
  exact⟨(h.bx j x a).1.set _,(h.bx j x a).2.em f.au⟩
 .rw [xw (λ e=>w e.symm)]at e;exact⟨(h.bx j y e).1.fr f λ(q:z+j=z+i)=>w (by omega),(h.bx j y e).2.em f.au⟩
def LR.NH(h:LR Hb H1 H B bs own ks V k b cs cvs z X){ov:AV}(hp:Ip Hb H B bs ks (k+2) b cs ov H'):∃f cs' o bs' aR ks' d,LR Hb H1 H' B bs' aR ks' d (k+2) f cs' cvs z X/\Pl b cs cs' o/\a9 iq.enc yv 9 H' ov o /\ ∀i x,X[i]? = some x -> ¬aW ov (z+i):=by
 obtain⟨f,cs',o,bs',aR,ks',d,m,pl,ow,a,j,ns⟩:=hp;refine⟨f,cs',o,bs',aR,ks',d,⟨m,?_,λ y q=>⟨(a.2 y (h.cf y q).1).1,(h.cf y q).2⟩,?_,λ i x e=>⟨⟨((a.2 _ (h.bx i x e).2).2).trans (h.bx i x e).1.1,qj (h.bx i x e).1.2 a.1⟩,(a.2 _ (h.bx i x e).2).1⟩,h.bh⟩,pl,ow,λ i x e=>ns _ (h.bx i x e).2⟩
 .rw [j];exact Own.fr h.oc (W:=λ y=>¬aW cvs y) ⟨a.1,λ y g q=>(a.2 y (h.cf y (GA.1 q)).1).2⟩ λ y q e=>e q
 .refine h.F.trans (W:=λ y=>Hb.au<=y) ⟨a.1,λ y g q=>(a.2 y ⟨g,λ w=>q (h.m.r.lo y w),λ i A e=>zd λ w=>q (h.m.lo i A e y g w)⟩).2⟩ λ y q=>.inl q
def LR.core(h:LR Hb H1 H B bs own ks V k b cs cvs z X)(d:cs[i]? = some c):∃A:Ck,dH H A.o A.p A.f A.l A.sp A.cv A.rv .nils .nili c [] k/\c.id=i/\Op.aO 1 [cvs,.int .i64 (i:Int)]=some (.ptr (aH cvs) (cG 1 cvs i))/\Op.ae [.ptr (aH cvs) (cG 1 cvs i)] H=some (.ptr A.p 0) /\ ∀{H':ar},Fr (λ y=>z<=y) H H'->Op.ae [.ptr (aH cvs) (cG 1 cvs i)] H'=some (.ptr A.p 0):=by
 obtain⟨A,a⟩:∃A,ks[i]? = some A:=⟨_,qt (by rw[h.m.kl];exact(qk.1 d).1)⟩
 obtain⟨n,r⟩:=h.m.co i c A d a;have j:(ks.map Ck.p)[i]? = some A.p:=by rw[xj,a];rfl
 have g:∀{H':ar},Fr (λ y=>z<=y) H H'->Op.ae [.ptr (aH cvs) (cG 1 cvs i)] H'=some (.ptr A.p 0):=λ{H'}f=>by
  have:=(a9.sl (Own.fr h.oc f λ y q(e:z<=y)=>by have:=(h.cf y q).2;omega)).lT (enc:=lj) (size:=1) (λ _=>rfl) j (by decide);exact this
 exact⟨A,n,r,(a9.sl h.oc).idx j (z:=(i:Int)) rfl .i64,g (Fr.refl H),g⟩
def LR.len(h:LR Hb H1 H B bs own ks V k b cs cvs z X):Op.dc [cvs]=some (.int .i64 ((cs.length:Nat):Int)):=by
 have:=(a9.sl h.oc).len;rw[xp,h.m.kl]at this;exact this
end
end Go.Am
