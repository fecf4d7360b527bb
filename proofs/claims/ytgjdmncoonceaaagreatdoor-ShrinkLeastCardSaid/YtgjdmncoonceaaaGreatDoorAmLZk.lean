import Derived.Test.YtgjdmncoonceaaaGreatDoorAmLZf
import Derived.Test.YtgjdmncoonceaaaGreatDoorAmLZj
import Derived.Test.YtgjdmncoonceaaaGreatDoorAmLZh
set_option linter.defProp false
set_option linter.unusedVariables false
set_option linter.unusedSimpArgs false
set_option linter.unusedSectionVars false
set_option maxRecDepth 100000
open Bool renaming false→B2,true→B4
open False renaming elim→Nn
open List renaming range→N5
open Nat renaming beq→JW
open Option renaming isSome→BN,none→B5,some→B1
open Nat renaming reduceEqDiff→bc
namespace Go.Am
open Lang Go.Proofs
variable{M:ak}[MK M]
def cM(p:Pr):List AV:=[.int .i64 p.a,.int .u64 p.v]
def CM(p:Pr):(cM p).length=2:=rfl
abbrev Bl(H:ar)(v:AV)(ps:List Pr):Prop:=aT cM wg 2 H v ps
def aT.pU{α:Type}{enc:α->List AV}{e size:Nat}{H:ar}{v:AV}{xs:List α}(h:aT enc e size H v xs){bytes:Nat}{zero:List AV}{x:AV}{a:α}(j:x.cells=enc a)(hs:(enc a).length=size)(q:zero.length=size)(f:aN (enc a)=B4)(k:0<size)
 (p:(xs.length+1)*bytes<=140737488355328) (i:xs.length+1<=140737488355328) {K:bE->(Nat->AV)->Bool->AV->ar->Prop} {m:Bool}
 (hk:∀d H',aT enc e size H' d (xs ++ [a])->Fr (aM v) H H'->(∀b,aM d b->aM v b\/H.au<=b)->K (.row x.cells e (0,0) B4) (Op.sliceTo 1 1) m d H') :
 jF m (Op.buildSlice e 1 zero [(0,size)] [x]) λ g o mk=>jF g (Op.append e size bytes [v,mk H.au] (H.alloc o)) (K o mk):=by
 refine nK h q (by rw[j];exact hs) (by rw[j];exact f) k p i λ d H' f l n=>hk d H' ?_ l n;unfold aT;rw[js,qv]
 simpa[j]using f
def iz:List Pr->Int->Option Nat
 |[],_=>B5
 |x::r,a=>if x.a=a then B1 0 else(iz r a).map (·+1)
def Jq:∀(ps:List Pr)(a:Int),dq ps a=(iz ps a).map λ i=>(ps.getD i ⟨0,0⟩).v
 |[],a=>rfl
 |x::r,a=>by
  unfold dq iz;split
  .rfl
  .rw [Jq r a];cases iz r a<;>rfl
def pD:∀{ps:List Pr}{a:Int}{i:Nat},iz ps a=B1 i->i<ps.length /\ ∃x,ps[i]? = B1 x/\x.a=a
 |x::r,a,i,h=>by
  unfold iz at h;split at h
  .cases h;exact⟨Nat.zero_lt_succ _,x,rfl,by assumption⟩
  .obtain ⟨j,f,rfl⟩:=xt.1 h;have⟨b,y,d,e⟩:=pD f;exact⟨Nat.succ_lt_succ b,y,d,e⟩
def Tz:∀{ps:List Pr}{a v:Int},iz ps a=B5->fU ps a v=ps ++ [⟨a,v⟩]
 |[],a,v,_=>rfl
 |x::r,a,v,h=>by
  unfold iz at h;split at h
  .cases h
  .rename_i q;rw[Option.map_eq_none_iff]at h;unfold fU;rw[qy q,Tz h];rfl
def Ua:∀{ps:List Pr}{a v:Int}{i:Nat},iz ps a=B1 i->fU ps a v=ps.set i ⟨a,v⟩
 |x::r,a,v,i,h=>by
  unfold iz at h;unfold fU;split at h
  .rename_i q;cases h;rw[xg q];rfl
  .rename_i q;obtain⟨j,b,rfl⟩:=xt.1 h;rw[qy q,Ua b];rfl
def jN:List Pr->Nat->Nat->List (AV×AV×Nat)
 |[],_,_=>[]
 |x::r,i,c=>(.int .i64 x.a,.int .i64 (i:Int),c)::jN r (i+1) (c+1)
def XY:∀(ps:List Pr)(a:Int)(i c j:Nat),findKey .int (.int .i64 a) (jN ps i c) j=B1 ((iz ps a).map λ n=>(j+n,.int .i64 ((i+n:Nat):Int)))
 |[],a,i,c,j=>rfl
 |x::r,a,i,c,j=>by
  have e:aY .int (.int .i64 a) (.int .i64 x.a)=B1 (decide (a=x.a)):=by simp only[aY,sO,kB,JW,xu,T1]
  unfold jN findKey iz;rw[e,qr]
  by_cases q:x.a=a
  .rw [yj q.symm,xg q];rfl
  .rw [ku (λ w=>q w.symm),qy q,zp,XY r a (i+1) (c+1) (j+1)];cases iz r a with
   |none=>rfl
   |some n=>simp only[Gl];rw[show j+1+n=j+(n+1)by omega,show i+1+n=i+(n+1)by omega]
def k_:∀(ps:List Pr)(x:Pr)(i c:Nat),jN (ps ++ [x]) i c=jN ps i c ++ [(.int .i64 x.a,.int .i64 ((i+ps.length:Nat):Int),c+ps.length)]
 |[],x,i,c=>rfl
 |y::r,x,i,c=>by
  show _::jN (r ++ [x]) (i+1) (c+1)=_::(jN r (i+1) (c+1)++_);rw[k_ r x,zz];congr 3;simp only[zk,AV.int.injEq,Gn];constructor<;>omega
def xhr:∀(ps:List Pr)(n:Nat)(v:Int)(i c:Nat){x:Pr},ps[n]? = B1 x->jN (ps.set n ⟨x.a,v⟩) i c=jN ps i c
 |y::r,0,v,i,c,x,h=>by cases h;rfl
 |y::r,n+1,v,i,c,x,h=>by
  show _::jN (r.set n _) (i+1) (c+1)=_;rw[xhr r n v (i+1) (c+1) h];rfl
structure vW(H:ar)(o:Nat->Nat)(t r:Nat)(ps:List Pr)(pv:AV)(mb c:Nat):Prop where
 row:At H r Kq [pv,.map mb]
 ow:Bl H pv ps
 mp:H.get mb=B1 (.map (jN ps 0 c) (c+ps.length))
 ml:mb<H.au
 le:ps.length<=128
 o0:o r=t
 o1:o mb=t+1
 o2:∀z,aM pv z->o z=t+2
section
variable{H H':ar}{o o':Nat->Nat}{t r mb c:Nat}{ps:List Pr}{pv:AV}
def vW.fr{W:Nat->Prop}(h:vW H o t r ps pv mb c)(a:Fr W H H')(hw:∀z,z<H.au->(o z=t\/o z=t+1\/o z=t+2) -> ¬W z)(ho:∀z,z<H.au->o' z=o z):vW H' o' t r ps pv mb c :=
 ⟨h.row.fr a (hw r h.row.2 (.inl h.o0)),Own.fr h.ow a λ z q=>hw z (Own.lt h.ow z q) (.inr (.inr (h.o2 z q))),(a.ah mb h.ml (hw mb h.ml (.inr (.inl h.o1)))).trans h.mp,qn h.ml a.au,h.le,(ho r h.row.2).trans h.o0,(ho mb h.ml).trans h.o1,λ z q=>(ho z (Own.lt h.ow z q)).trans (h.o2 z q)⟩
def Z2{b:Nat}{es:List (AV×AV×Nat)}{k:Nat}(h:H.get b=B1 (.map es k)):H.fj b=B1 (es,k):=by unfold ar.fj;rw[h]
def xmy(h:vW H o t r ps pv mb c)(a:Int):Op.lookup .int (.int .i64 0) B4 [.map mb,.int .i64 a] H=B1 (match iz ps a with|some i=>.tuple [.int .i64 (i:Int),.bool B4]|none=>.tuple [.int .i64 0,.bool B2]):=by
 simp only[Op.lookup,db,xu,Z2 h.mp,qr,XY];cases iz ps a<;>simp
def Cf(h:vW H o t r ps pv mb c):bR cM 2 H pv ps:=aT.sl h.ow
def yY(h:vW H o t r ps pv mb c)(a:Int):∀K,C3 M B4 (.func P_) [.ptr r 0,.int .i64 a] H K=K B4 (.tuple [.int .u64 ((dq ps a).getD 0),.bool (dq ps a).isSome]) H:=by
 refine dA (q5t ?_);have l0:=h.row.ld 0;have l1:=h.row.ld 1;rw[Jq];have f:=xmy h a;cases q:iz ps a with
 |none =>
  rw[q]at f;simp only[aa,bc,A_,av,l1,f];rfl
 |some i =>
  rw[q]at f;obtain⟨d,x,b,-⟩:=pD q;have sl:=Cf h;have ix:=sl.idx b (z:=(i:Int)) rfl .i64;have ld:Op.ae [.ptr (aF pv) (cZ 2 pv i+1)] H=B1 (.int .u64 x.v):=sl.ae CM b (j:=1) (by decide);simp only[aa,bc,A_,av,l0,l1,f,ix,ld];simp only[Gl,vp,vz,zx,b]
def Sz(H:ar)(o:Nat->Nat)(t r:Nat)(ps:List Pr)(H':ar):Prop:=∃o' pv mb c,vW H' o' t r ps pv mb c/\(∀z,z<H.au->o' z=o z)/\Fr (λ z=>o z=t\/o z=t+1\/o z=t+2) H H'
def ER(h:vW H o t r ps pv mb c):ze M wz [.ptr r 0] H λ _ H'=>Sz H o t r [] H':=by
 refine q0u ?_;have l1:=h.row.ld 1;have s1:Op.bS [.map mb] H=B1 (.tuple [],H.set mb (.map [] (c+ps.length))):=by simp only[Op.bS,Z2 h.mp,qr]
 have d:r≠mb:=λ q=>by have a:=h.o0;have b:=h.o1;rw[q]at a;omega
 have e:At (H.set mb (.map [] (c+ps.length))) r Kq [pv,.map mb]:=h.row.fr (b9 H mb _) d;have s2:=e.st 0 (v:=.nils) rfl (by simp);simp only[aa,bc,q0v,av,l1,s1,s2];refine⟨o,.nils,mb,c+ps.length,⟨e.set _,Own.nil ..,?_,h.ml,xx _,h.o0,h.o1,λ z q=>(q.1 rfl).elim⟩,λ _ _=>rfl,?_⟩
 .rw [kz d,xf];rfl
 .exact ((b9 H mb _).mono λ z _ q=>.inr (.inl ((congrArg o q).trans h.o1))).trans (b9 _ r _) λ z q=>.inl (.inl ((congrArg o q).trans h.o0))
def QN(h:vW H o t r ps pv mb c)(a v:Int)(hn:iz ps a=B5):ze M Ψ [.ptr r 0,.int .i64 a,.int .u64 v] H λ w H'=>w=.int .i64 (if ps.length=128 then 70 else 0)/\Sz H o t r (if ps.length=128 then ps else ps ++ [⟨a,v⟩]) H':=by
 refine q77 ?_;have l0:=h.row.ld 0;have l1:=h.row.ld 1;have ln:=(Cf h).len;have hle:=h.le
 by_cases q:ps.length=128
 .have p:((ps.length:Nat):Int)=128:=by omega
  rw[xg q,xg q];simp only[aa,bc,qtv,av,l0,ln,xb p];exact⟨o,pv,mb,c,h,λ _ _=>rfl,Fr.refl _⟩
 .have p:¬((ps.length:Nat):Int)=128:=by omega
  rw[qy q,qy q];have s1:Op.mapUpdate .int [.map mb,.int .i64 a,.int .i64 ((ps.length:Nat):Int)] H=B1 (.undef,H.set mb (.map (jN (ps ++ [⟨a,v⟩]) 0 c) (c+(ps ++ [(⟨a,v⟩:Pr)]).length))):=by
   simp only[Op.mapUpdate,db,xu,Z2 h.mp,qr,XY,hn,Option.map_none,k_,yf,qv,zz,j7];rfl
  obtain⟨H1,e1⟩:∃X,X=H.set mb (.map (jN (ps ++ [⟨a,v⟩]) 0 c) (c+(ps ++ [(⟨a,v⟩:Pr)]).length)):=⟨_,rfl⟩
  rw[<-e1]at s1;have j:Fr (On mb) H H1:=e1▸b9 H mb _;have u:r≠mb:=λ q=>by have a:=h.o0;have b:=h.o1;rw[q]at a;omega
  have x:At H1 r Kq [pv,.map mb]:=h.row.fr j u;have np:∀z,aM pv z->z≠mb/\z≠r:=λ z w=>⟨λ e=>by have a:=h.o2 z w;have b:=h.o1;rw[e]at a;omega,λ e=>by have a:=h.o2 z w;have b:=h.o0;rw[e]at a;omega⟩
  have n:Bl H1 pv ps:=Own.fr h.ow j λ z w=>(np z w).1;have m:=x.ld 0;have A:Op.build [.int .i64 0,.int .u64 0] [(0,1),(1,1)] [.int .i64 a,.int .u64 v]=B1 (.agg (cM ⟨a,v⟩)):=rfl;simp only[aa,bc,qtv,av,l0,ln,p,l1,s1,m,A];refine aT.pU (bytes:=16) n (a:=⟨a,v⟩) rfl rfl rfl rfl (by decide) (by omega) (by omega) λ pv' d i f s=>?_;have y:At d r Kq [pv,.map mb]:=x.fr f λ w=>(np r w).2 rfl;have one:aB pv'=true:=by have:=Sl.one (Own.sl i);exact this
  have B:=y.st 0 one (by simp);simp only[aa,bc,B];have k:Fr (On r) d (d.set r (OR [pv',.map mb] Kq)):=b9 ..;have n1:H1.au=H.au:=by rw[e1];rfl
  have l:∀z,aM pv' z->z≠r/\z≠mb:=λ z w=>(s z w).elim (λ w=>⟨(np z w).2,(np z w).1⟩) λ w=>⟨λ e=>by have:=h.row.2;omega,λ e=>by have:=h.ml;omega⟩
  refine⟨aO o H.au (t+2),pv',mb,c,⟨y.set _,Own.fr i k λ z w=>(l z w).1,?_,?_,?_,(iQ h.row.2).trans h.o0,(iQ h.ml).trans h.o1,λ z w=>?_⟩,λ z w=>iQ w,?_⟩
  .show (d.set r (OR [pv',.map mb] Kq)).get mb=_;rw[k.ah mb (by have:=f.au;have:=h.ml;omega) (λ w=>u (show mb=r from w).symm),f.ah mb (by have:=h.ml;omega) λ w=>(np mb w).1 rfl,e1,xf]
  .have:=f.au;have:=h.ml;show mb<d.au;omega
  .rw [qv];simp only[zz,j7];omega
  .rcases s z w with w|w
   .exact (iQ (by have:=Own.lt h.ow z w;exact this)).trans (h.o2 z w)
   .exact nC (by omega)
  .exact ((j.mono λ z _ q=>.inr (.inl ((congrArg o q).trans h.o1))).trans f λ z q=>.inl (.inr (.inr (h.o2 z q)))).trans k λ z q=>.inl (.inl ((congrArg o q).trans h.o0))
end
def pK(H:ar)(o:Nat->Nat)(g:Nat)(rd wr:List Pr):Prop:=∃r w v1 m1 c1 v2 m2 c2,At H g Tm [.ptr r 0,.ptr w 0]/\o g=9/\vW H o 10 r rd v1 m1 c1/\vW H o 20 w wr v2 m2 c2
def wH(H:ar)(o:Nat->Nat)(g:Nat)(rd wr:List Pr)(H':ar):Prop:=∃o',pK H' o' g rd wr/\(∀z,z<H.au->o' z=o z)/\Fr (λ z=>9<=o z/\o z<=22) H H'
section
variable{H H':ar}{o o':Nat->Nat}{g:Nat}{rd wr:List Pr}
def pK.fr{W:Nat->Prop}(h:pK H o g rd wr)(a:Fr W H H')(hw:∀z,z<H.au->9<=o z -> ¬W z)(ho:∀z,z<H.au->o' z=o z):pK H' o' g rd wr:=by
 have⟨r,w,v1,l,d,v2,m,f,b,i,j,k⟩:=h;exact⟨r,w,v1,l,d,v2,m,f,b.fr a (hw g b.2 (by omega)),(ho g b.2).trans i,j.fr a (λ z q e=>hw z q (by omega)) ho,k.fr a (λ z q e=>hw z q (by omega)) ho⟩
def pK.Gr{W:Nat->Prop}(h:pK H o g rd wr)(a:Fr W H H')(hw:∀z,z<H.au->9<=o z/\o z<=22 -> ¬W z):pK H' o g rd wr:=by
 have⟨r,w,v1,l,d,v2,m,f,b,i,j,k⟩:=h;exact⟨r,w,v1,l,d,v2,m,f,b.fr a (hw g b.2 (by omega)),i,j.fr a (λ z q e=>hw z q (by omega)) λ _ _=>rfl,k.fr a (λ z q e=>hw z q (by omega)) λ _ _=>rfl⟩
def pK.same(h:pK H o g rd wr):wH H o g rd wr H:=⟨o,h,λ _ _=>rfl,Fr.refl _⟩
def nY(h:pK H o g rd wr):∀K,C3 M B4 (.func qtd) [.ptr g 0] H K=K B4 (.bool B2) H:=by
 obtain⟨r,w,v1,e,b,v2,f,d,a,-⟩:=h;have l0:=a.ld 0;refine dA (q73 ?_);simp only[aa,bc,q74,av,l0]
def Yr(h:pK H o g rd wr)(a:Int):∀K,C3 M B4 (.func I') [.ptr g 0,.int .i64 a] H K=K B4 (.tuple [.int .u64 ((dq rd a).getD 0),.bool (dq rd a).isSome]) H:=by
 have b:=h;have⟨r,w,v1,l,f,v2,m,i,d,j,e,k⟩:=h;have l0:=d.ld 0;refine dA (xav ?_);simp only[aa,bc,xaw,av,nY b,l0,yY e]
def Q8(h:pK H o g rd wr)(a:Int):∀K,C3 M B4 (.func qtb) [.ptr g 0,.int .i64 a] H K=K B4 (.tuple [.int .u64 ((dq wr a).getD 0),.bool (dq wr a).isSome]) H:=by
 have b:=h;have⟨r,w,v1,l,f,v2,m,i,d,j,k,e⟩:=h;have l1:=d.ld 1;refine dA (q70 ?_);simp only[aa,bc,q71,av,nY b,l1,yY e]
def pK.G'{H1:ar}{g r w:Nat}{v1 v2:AV}{n j i f:Nat}{a:List Pr}(h:At H g Tm [.ptr r 0,.ptr w 0])(k:o g=9)(q:vW H o 10 r rd v1 n j)(l:vW H o 20 w wr v2 i f)(p:Sz H o 10 r a H1):wH H o g a wr H1:=by
 have⟨o',pv,mb,c,m,b,d⟩:=p;exact⟨o',⟨r,w,pv,mb,c,v2,i,f,h.fr d (by omega),(b g h.2).trans k,m,l.fr d (λ z _ e=>by omega) b⟩,b,d.mono λ z _ e=>by omega⟩
def pK.Vj{H1:ar}{g r w:Nat}{v1 v2:AV}{i f n j:Nat}{a:List Pr}(h:At H g Tm [.ptr r 0,.ptr w 0])(k:o g=9)(l:vW H o 10 r rd v1 i f)(q:vW H o 20 w wr v2 n j)(p:Sz H o 20 w a H1):wH H o g rd a H1:=by
 have⟨o',pv,mb,c,m,b,d⟩:=p;exact⟨o',⟨r,w,v1,i,f,pv,mb,c,h.fr d (by omega),(b g h.2).trans k,l.fr d (λ z _ e=>by omega) b,m⟩,b,d.mono λ z _ e=>by omega⟩
def wH.then{H1 a:ar}{e w1 f w2:List Pr}(p:wH H o g e w1 H1)(k:∀o1,pK H1 o1 g e w1->wH H1 o1 g f w2 a):wH H o g f w2 a:=by
 have⟨o1,h,b,d⟩:=p;have⟨o2,i,j,l⟩:=k o1 h;refine⟨o2,i,λ z q=>(j z (qn q d.au)).trans (b z q),d.trans l λ z q=>?_⟩;rcases za z H.au with w|w
 .rw [b z w]at q;exact .inl q
 .exact .inr w
def ML(H:ar)(o:Nat->Nat)(g:Nat)(ps:List Pr)(a:Int)(e:AV)(A:Prop)(B:Prop):Prop:=(dq ps a=B5/\ps.length=128/\e=.int .i64 70/\A)\/(¬(dq ps a=B5/\ps.length=128)/\e=.int .i64 0/\B)
def JF(h:pK H o g rd wr){a:Int}(ha:0<=a)(v:Int):ze M _z [.ptr g 0,.int .i64 a,.int .u64 v] H λ e H'=>ML H o g rd a e (wH H o g rd wr H') (wH H o g (if dq rd a=B5 then rd ++ [⟨a,v⟩]else rd) wr H'):=by
 refine q72 ?_;have f:=h;have⟨r,w,v1,p,m,v2,s,n,i,j,b,k⟩:=h;have l0:=i.ld 0;have l:¬a<0:=Gy.2 ha;cases q:dq rd a with
 |some y =>
  simp only[aa,bc,Z',av,nY f,l,l0,yY b,q,BN];refine .inr ⟨λ w=>?_,rfl,?_⟩
  .rw [q]at w;cases w.1
  .rw [qy (by simp)];exact f.same
 |none =>
  have hn:iz rd a=none:=by rw[Jq]at q;exact Option.map_eq_none_iff.1 q
  simp only[aa,bc,Z',av,nY f,l,l0,yY b,q,BN];refine C3.q (QN b a v hn) λ e H1⟨he,hp⟩=>?_;subst he;simp only[aa,bc]
  by_cases d:rd.length=128
  .rw [xg d]at hp⊢;exact .inl ⟨q,d,rfl,pK.G' i j b k hp⟩
  .rw [qy d]at hp⊢;exact .inr ⟨λ w=>d w.2,rfl,pK.G' i j b k hp⟩
def KG(h:pK H o g rd wr):ze M γ [.ptr g 0] H λ _ H'=>wH H o g [] [] H':=by
 refine q5o ?_;have x:=h;have⟨r,w,v1,F,E,v2,C,v,d,k,y,A⟩:=h;have l0:=d.ld 0;simp only[aa,bc,q5p,av,nY x,l0];refine C3.q (ER y) λ _ H1 hp=>?_;have⟨o',pv,mb,c,u,b,i⟩:=hp;have f:=A.fr i (λ z _ e=>by omega) b;have a:=d.fr i (by omega);have l1:=a.ld 1;simp only[aa,bc,av,l1];refine C3.q (ER f) λ _ D l=>?_;simp only[aa,bc];have G:wH H o g [] wr H1:=⟨o',⟨r,w,pv,mb,c,v2,C,v,a,(b g d.2).trans k,u,f⟩,b,i.mono λ z _ e=>by omega⟩
 have⟨o2,s,p,j,B,m,n⟩:=l;refine⟨o2,⟨r,w,pv,mb,c,s,p,j,a.fr n (by have:=(b g d.2).trans k;omega),(m g a.2).trans ((b g d.2).trans k),u.fr n (λ z _ e=>by omega) m,B⟩,λ z q=>(m z (qn q i.au)).trans (b z q),(i.mono λ z _ e=>by omega).trans n λ z q=>?_⟩;rcases za z H.au with w|w
 .rw [b z w]at q;exact .inl (by omega)
 .exact .inr w
def MG(h:pK H o g rd wr){a:Int}(ha:0<=a)(v:Int):ze M _M [.ptr g 0,.int .i64 a,.int .u64 v] H λ e H'=>ML H o g wr a e (wH H o g rd wr H') (wH H o g rd (fU wr a v) H'):=by
 refine q5s ?_;have C:=h;have⟨r,w,v1,L,J,v2,l,B,k,n,p,b⟩:=h;have l1:=k.ld 1;have E:¬a<0:=Gy.2 ha;have D:=b.row.ld 1;have F:=b.row.ld 0;have f:=xmy b a;cases q:iz wr a with
 |some i =>
  rw[q]at f;have⟨K,x,s,I⟩:=pD q;have sl:=Cf b;have ix:=sl.idx s (z:=(i:Int)) rfl .i64;have⟨H1,s1,A,d⟩:=aT.An CM b.ow s (j:=1) (by decide) (u:=.int .u64 v) rfl (y:=⟨x.a,v⟩) rfl;simp only[aa,bc,qrs,av,nY C,E,l1,D,f,F,ix,s1];refine .inr ⟨λ w=>(by rw[Jq,q]at w;cases w.1),rfl,?_⟩;rw[Ua q,<-I];have n1:¬aM v2 w:=λ e=>by have:=b.o2 w e;have:=b.o0;omega
  have n2:¬aM v2 l:=λ e=>by have:=b.o2 l e;have:=b.o1;omega
  refine pK.Vj k n p b ⟨o,v2,l,B,⟨b.row.fr d n1,A,?_,qn b.ml d.au,by rw[xw];exact b.le,b.o0,b.o1,b.o2⟩,λ _ _=>rfl,d.mono λ z _ q=>.inr (.inr (b.o2 z q))⟩;rw[xhr wr i v 0 B s,xw,d.ah l b.ml n2];exact b.mp
 |none =>
  have G:dq wr a=none:=by rw[Jq,q];rfl
  rw[q]at f;simp only[aa,bc,qrs,av,nY C,E,l1,D,f];refine C3.q (QN b a v q) λ e H1⟨he,hp⟩=>?_;subst he;simp only[aa,bc]
  by_cases m:wr.length=128
  .rw [xg m]at hp⊢;exact .inl ⟨G,m,rfl,pK.Vj k n p b hp⟩
  .rw [qy m]at hp⊢;rw[Tz q];exact .inr ⟨λ w=>m w.2,rfl,pK.Vj k n p b hp⟩
end
end Go.Am
namespace Go.Am
open Lang Go.Proofs
variable{M:ak}[MK M]
def N1(v:AV)(i:Nat):AV:=.ptr (aF v) (cZ 2 v i)
def T6{H1:ar}(e:Pr):Op.store 2 [.ptr H1.au 0,.agg (cM e)] (H1.alloc (OR [.int .i64 0,.int .u64 0] wg))=B1 (.undef,(H1.alloc (OR [.int .i64 0,.int .u64 0] wg)).set H1.au (OR (cM e) wg)):=(At.new H1 _ _).fG (k:=0) (n:=2) rfl (by decide) rfl
def xk6{H0:ar}{p:Nat}{v:AV}{ys:List Pr}(Z:Bl H0 v ys)(hp:H0.get p=B1 (OR [v] oq))(U:p<H0.au)(hl:ys.length<=1000000) :
 qX M vm [] [.ptr p 0] (λ x=>x=p\/aM v x) (λ _=>False) H0 ((N5 ys.length).map λ(i:Nat)=>[.int .i64 (i:Int),.agg (cM (ys.getD i ⟨0,0⟩))]):=by
 intro Y R S j H1 G K C D loc N step;have⟨p1,p2,p3⟩:=K p (.inl (.inl rfl))
 suffices h:ze M vm [.fn (.yield Y) [] [],.ptr p 0] H1 (Hq R S j (λ _=>False) H1 ((N5 ys.length).map λ(i:Nat)=>[AV.int .i64 (i:Int),AV.agg (cM (ys.getD i ⟨0,0⟩))]).length)by
  have⟨v,H',P,W',q1,q2,q3⟩:=h.elim;exact⟨v,H',W',P,q1,q2,q3⟩
 refine qoz ?_;have lp:Op.ae [.ptr p 0] H1=B1 v:=by rw[zd (xe (by rw[p2];exact hp))];rfl
 have L:∀{a:ar},Fr j H1 a->Bl a v ys:=λ{a}f =>
  Own.fr Z (⟨x9 G f.au,λ y d hw=>by
   have⟨y1,y2,y3⟩:=K y (.inl (wn.1 hw));rw[f.ah y (by omega) y3,y2]⟩:Fr (λ y=>¬(y=p\/aM v y)) H0 a) λ y d w=>w (.inr d)
 rw[xr,zw];simp only[aa,bc,SD,lp,(aT.sl (L (Fr.refl _))).len];refine cz.intro (λ n E a=>∃(i:Nat)(V:Nat->Prop),E=[(7,.int .i64 (i:Int)),(6,.int .i64 ((ys.length:Nat):Int)),(5,v),(0,.fn (.yield Y) [] []),(1,.ptr p 0)]/\n=ys.length-i/\i<=ys.length/\JE R j H1 a i V) ?_ ?_
 .exact ⟨_,_,⟨0,j,rfl,rfl,xx _,⟨C,λ b hb=>⟨D b hb,.inl hb⟩,Fr.refl _⟩⟩,by simp only[aa,bc]⟩
 rintro n E a ⟨i,V,rfl,rfl,hi,hI⟩;rcases za i ys.length with s|T
 .have B:(i:Int)<((ys.length:Nat):Int):=by omega
  obtain⟨e,he⟩:∃e,ys[i]? = B1 e:=⟨ys[i],by simp[s]⟩
  have sl:=aT.sl (L hI.fr);have ix:Op.aQ 2 [v,.int .i64 (i:Int)]=B1 (N1 v i):=sl.idx he rfl .i64;have ld:Op.aq 2 [N1 v i] a=B1 (.agg (cM e)):=sl.aq CM (by decide) he;have bx:=T6 (H1:=a) e;obtain⟨u,e2⟩:∃X,X=(a.alloc (OR [.int .i64 0,.int .u64 0] wg)).set a.au (OR (cM e) wg):=⟨_,rfl⟩
  rw[<-e2]at bx;have z:Fr Em a u:=by rw[e2];exact zR _ _
  have O:u.get a.au=B1 (OR (cM e) wg):=by rw[e2,xf]
  have I:Op.aq 2 [.ptr a.au 0] u=B1 (.agg (cM e)):=se (xe O) (by simp[cM]);have n2:=z.au;have⟨bb,J,A,hr,Q,m,W,hs⟩:=step i [.int .i64 (i:Int),.agg (cM e)] (by rw[xm,jx s,Gl,zx,he];rfl) V u (loc _ _ _ _ hI.hR (λ y d=>z.ah y (hI.hV y d).1 id) n2) (λ y d=>⟨by have:=(hI.hV y d).1;omega,(hI.hV y d).2⟩) ((hI.fr.em z).mono λ _ _ q=>.inl q);have k:Fr j H1 J:=(hI.fr.em z).trans Q λ y q=>(hI.hV y q).2;have l:∀y,A y->y<J.au/\(j y\/H1.au<=y):=λ y q=>⟨(m y q).1,(m y q).2.elim (λ w=>(hI.hV y w).2) λ w=>.inr (by have:=hI.fr.au;omega)⟩
  have wj:aj .i64 ((i:Int)+1)=((i+1:Nat):Int):=by rw[jj (by omega) (by omega)];omega
  simp only[aa,bc,SD,B,ix,ld,bx,I];refine C3.tu hr ?_;cases bb with
  |true =>
   simp only[aa,bc,SD,wj];exact⟨_,_,⟨i+1,A,rfl,rfl,by omega,⟨W rfl,l,k⟩⟩,by simp only[aa,bc],by omega⟩
  |false =>
   simp only[aa,bc];exact⟨A,k.mono λ _ _ q=>.inl q,l,.inr (hs rfl)⟩
 .have B:¬(i:Int)<((ys.length:Nat):Int):=by omega
  have F:i=ys.length:=by omega
  simp only[aa,bc,SD,B];exact⟨V,hI.fr.mono λ _ _ q=>.inl q,hI.hV,.inl (by rw[<-F];exact hI.hR)⟩
structure Te(ys:List Pr)(t:Nat)(i:Nat)(V:Nat->Prop)(Hx:ar):Prop where
 vt:V t
 lt:t<Hx.au
 ls:∃lv,Hx.get t=B1 (OR [lv] oq)/\Bl Hx lv (ys.take i) /\ ∀a,aM lv a->V a/\t<a
def Te.loc{ys:List Pr}{t i:Nat}{V:Nat->Prop}{a Hb:ar}(h:Te ys t i V a)(hs:∀x,V x->Hb.get x=a.get x)(hn:a.au<=Hb.au):Te ys t i V Hb:=by
 have⟨lv,l1,l2,l3⟩:=h.ls;refine⟨h.vt,qn h.lt hn,lv,by rw[hs _ h.vt];exact l1,?_,l3⟩;exact Own.fr l2 (⟨hn,λ b _ hw=>hs b (wn.1 hw)⟩:Fr (λ b=>¬V b) a Hb) λ x d w=>w (l3 x d).1
section
variable{H H':ar}{o o':Nat->Nat}{t r mb c:Nat}{ps:List Pr}{pv:AV}
def xls{α:Type}{enc:α->List AV}{e size:Nat}{H:ar}{v:AV}{xs:List α}(h:aT enc e size H v xs):AV.cells v=[v]:=by
 obtain⟨_,⟨_,rfl|⟨_,rfl,_⟩⟩|⟨_,rfl,_,_⟩⟩:=h<;>rfl
def yG{α:Type}{enc:α->List AV}{e size:Nat}{H:ar}{v:AV}{xs:List α}(h:aT enc e size H v xs)(a:xs≠[]):aM v (aF v):=⟨λ w=>by
 subst w;have:=(aT.sl h).len;have q:Op.cD [AV.nils]=B1 (.int .i64 0):=rfl;rw[q]at this;injection this with this;injection this with _ this
 exact a (jc.1 (by omega)),rfl⟩
def J8(h:vW H o t r ps pv mb c):ze M Sc [.ptr r 0] H λ v H'=>Bl H' v ps/\(∀z,aM v z->H.au<=z)/\Fr Em H H':=by
 refine xjp ?_;have⟨H1,e1,f1,n1,g1⟩:=cq H (OR [.nils] oq);obtain⟨D,e2,E,-,g2⟩:=cq H1 (OR [pv] oq);have n2:D.au=H.au+2:=by rw[e2,xz,n1]
 have O:D.get H.au=B1 (OR [.nils] oq):=by rw[E.ah _ (by omega) id];exact g1
 have f2:=f1.em E;have ow2:Bl D pv ps:=Own.em h.ow f2;have l0:=(h.row.em f1).ld 0;have al:ze M qte [.ptr r 0] H1 λ v H'=>v=.fn (.func vm) [] [.ptr H1.au 0]/\H'=D:=by
  refine q75 ?_;simp only[aa,bc,q76,av,l0];refine C3.q (R:=λ v H'=>v=.fn (.func vm) [] [.ptr H1.au 0]/\H'=D) ?_ λ v H' q=>?_
  .refine qr0 ?_;have mk:Op.bt vm 0 [.ptr H1.au 0]=B1 (.fn (.func vm) [] [.ptr H1.au 0]):=rfl;simp only[aa,bc,qr1,xls h.ow,<-e2];rfl
  .simp only[aa,bc];exact q
 simp only[aa,bc,WC,<-e1];refine C3.q al λ v H'⟨hv,hh⟩=>?_;subst hv;subst hh;simp only[aa,bc];have hl:=h.le;have lv:∀z,aM pv z->z<H.au:=λ z q=>Own.lt h.ow z q;refine iH.iter (fn:=TK) (lp:=Q0) (pa:=Yh 0) (pb:=WU 0) xf0 qzy.1 qzy.2 (by decide) xdf xdg
  (xk6 ow2 g2 (by omega) (by omega)) (λ i V Hx=>Te ps H.au i V Hx) (λ _ _ _=>False) (λ x=>x=H.au) (qm _) ?_ ?_ ?_ ?_ ?_ ?_ ?_ ?_
 .rintro x ((q|q)|q)
  .exact ⟨by omega,rfl,λ w=>by omega⟩
  .have:=lv x q;exact⟨by omega,rfl,λ w=>by omega⟩
  .exact q.elim
 .exact λ x U=>by omega
 .exact ⟨rfl,by omega,.nils,O,Own.nil ..,λ x q=>(q.1 rfl).elim⟩
 .exact λ i V Ha Hb h hs hn=>h.loc hs hn
 .exact λ e V Ha Hb h _ _=>h
 .intro L i lr lb x U hL V l b hV hf6 B P S;rw[xm,xt]at U;obtain⟨j,T,rfl⟩:=U;have G:i<ps.length:=by have:=(qo.1 T).1;rw[zw]at this;exact this
  rw[jx G]at T;cases T;obtain⟨e,hk⟩:∃e,ps[i]? = B1 e:=⟨ps[i],by simp[G]⟩
  have he:ps.getD i ⟨0,0⟩=e:=by rw[zx,hk];rfl
  rw[he];refine⟨_,rfl,?_⟩;obtain⟨-,wa,wb,-⟩:=WC M ⟨B1 L,Sc⟩;have bx:=T6 (H1:=l) e;obtain⟨m,K⟩:∃X,X=(l.alloc (OR [.int .i64 0,.int .u64 0] wg)).set l.au (OR (cM e) wg):=⟨_,rfl⟩
  rw[<-K]at bx;have N:Fr Em l m:=by rw[K];exact zR _ _
  have n7:m.au=l.au+1:=by rw[K];rfl
  have g7:m.get l.au=B1 (OR (cM e) wg):=by rw[K,xf]
  simp only[aa,bc,wa,bx,A6];refine⟨by rw[N.ah L P id];exact S,?_⟩;have gL:(m.set L lb).get L=B1 lb:=xf ..;have g8:(m.set L lb).get l.au=B1 (OR (cM e) wg):=by rw[kz (by omega)];exact g7
  have f8:Fr (λ y=>V y\/y=L) l (m.set L lb):=(N.mono λ _ _ q=>q.elim).set (.inl (.inr rfl)) _;have u:=b.loc (Hb:=m.set L lb) (λ y hy=>by rw[kz (λ q:L=y=>B (by rw[q];exact hy)),N.ah y (hV y hy).1 id]) (by rw[tO];omega);have n8:(m.set L lb).au=l.au+1:=by rw[tO,n7]
  generalize m.set L lb=H8 at *;have⟨f,l1,l2,l3⟩:=u.ls;have Y:Op.ae [.ptr H.au 0] H8=B1 f:=zd (xe l1) 0;have ld:Op.aq 2 [.ptr l.au 0] H8=B1 (.agg (cM e)):=se (xe g8) (by simp[cM]);have mY:(ps.take i).length<=128:=by rw[jr];omega
  simp only[aa,bc,wb,Y,ld];refine aT.pU (bytes:=16) l2 (a:=e) rfl rfl rfl rfl (by decide) (by omega) (by omega) λ k J A p F=>?_;have q9:At J H.au oq [f]:=⟨by rw[p.ah _ u.lt λ q=>by have:=(l3 _ q).2;omega];exact l1,qn u.lt p.au⟩
  have o1:aB k=true:=by have:=Sl.one (Own.sl A);exact this
  have st:=q9.st 0 o1 (by simp);obtain⟨C,n⟩:∃X,X=J.set H.au (OR ([f].set 0 k) oq):=⟨_,rfl⟩
  rw[<-n]at st;have s:Fr (On H.au) J C:=by rw[n];exact b9 ..
  simp only[aa,bc,st];have I:∀y,aM k y->H.au<y:=λ y q=>(F y q).elim (λ q=>(l3 y q).2) λ q=>by have:=b.lt;omega
  have nf:=p.au;have Z:C.au=J.au:=by rw[n];rfl
  have tk:ps.take (i+1)=ps.take i ++ [e]:=by rw[kw,hk];rfl
  refine⟨rfl,?_,λ y=>V y\/aM k y,?_,?_,.inl ⟨rfl,.inl b.vt,by have:=b.lt;omega,k,by rw[n,xf];rfl,?_,λ y q=>⟨.inr q,I y q⟩⟩⟩
  .rw [s.ah L (by omega) (λ(q:L=H.au)=>B (by rw[q];exact b.vt)),p.ah L (by omega) λ q=>B (l3 _ q).1];exact gL
  .rintro y (q|q)
   .exact ⟨by have:=(hV y q).1;omega,.inl q⟩
   .refine ⟨by rw[Z];exact Own.lt A y q,?_⟩;rcases F y q with w|w
    .exact .inl (l3 y w).1
    .exact .inr (by omega)
  .exact ((f8.trans p λ y q=>.inl (.inl (l3 y q).1)).trans s λ y(q:y=H.au)=>.inl (.inl (by rw[q];exact b.vt)))
  .rw [tk];exact Own.fr A s λ y q(w:y=H.au)=>by have:=I y q;omega
 .rintro d V H' hd Q hg p hV b;rw[xr,zw]at b;have⟨f,l1,l2,l3⟩:=b.ls;rw[LF]at l2;have hd':d≠H.au:=by omega
  have fd:Fr (On d) H' (H'.set d (.deferred B5)):=(Fr.refl H').set (W:=On d) (.inl rfl) _;have Y:Op.ae [.ptr H.au 0] H'=B1 f:=zd (xe l1) 0;simp only[aa,bc,WC,Y];refine⟨hg,Own.fr l2 fd λ z q(w:z=d)=>(hV z (l3 z q).1).2.2 w,λ z q=>?_,?_⟩
  .have:=(l3 z q).2;omega
  .exact (f2.trans (p.mono λ z _ q=>q.elim id Nn) λ z q=>.inr (by omega)).trans fd λ z(q:z=d)=>.inr (by omega)
 .rintro e d V H' he hd Q hg p hV b;exact b.elim
end
section
variable{H H':ar}{o o':Nat->Nat}{g:Nat}{rd wr:List Pr}
def KS(h:pK H o g rd wr):ze M sM [.ptr g 0] H λ v H'=>Bl H' v rd/\(∀z,aM v z->H.au<=z)/\Fr Em H H':=by
 refine q5q ?_;have a:=h;have⟨r,w,v1,k,e,v2,l,f,b,i,d,j⟩:=h;have l0:=b.ld 0;simp only[aa,bc,q5r,av,nY a,l0];refine C3.q (J8 d) λ v H1 hp=>?_;simp only[aa,bc];exact hp
def yO(h:pK H o g rd wr):ze M qpg [.ptr g 0] H λ v H'=>Bl H' v wr/\(∀z,aM v z->H.au<=z)/\Fr Em H H':=by
 refine q0s ?_;have a:=h;have⟨r,w,v1,k,e,v2,l,f,b,i,j,d⟩:=h;have l1:=b.ld 1;simp only[aa,bc,q0t,av,nY a,l1];refine C3.q (J8 d) λ v H1 hp=>?_;simp only[aa,bc];exact hp
end
end Go.Am
namespace Go.Am
open Lang Go.Proofs
variable{M:ak}[MK M]
def Bx(H:ar)(o:Nat->Nat)(b:Nat)(v:AV):Prop:=H.bW b=B1 [v]/\b<H.au/\o b=30
def By(H:ar)(o:Nat->Nat)(b:Nat)(v:AV):Prop:=(∃t,H.get b=B1 (OR [v] t))/\b<H.au/\o b=31
def lM(f:Nat)(l:List Nat):AV:=.fn (.func f) [] (l.map λ b=>.ptr b 0)
def ta(H:ar)(o:Nat->Nat)(p:Nat)(kv:AV):K0->Prop
 | .wait=>kv=.fn (.func Yj) [.ptr p 0] []
 | .left how=>∃b1 b2,kv=lM ZR [b1,b2]/\Bx H o b1 (.int .i64 how)/\Bx H o b2 (.ptr p 0)
 | .kS a=>0<=a /\ ∃b1 b2,kv=lM Vq [b1,b2]/\Bx H o b1 (.ptr p 0)/\Bx H o b2 (.int .i64 a)
 | .take=>kv=.fn (.func Yo) [.ptr p 0] []
 | .back l=>(∀x∈l,fH x.v) /\ ∃b1 b2 lv y,kv=lM V0 [b1,b2]/\Bx H o b1 (.ptr p 0)/\Bx H o b2 lv/\bR cM 2 H lv (y::l)/\aF lv<H.au/\o (aF lv)=30
 | .fin=>∃b1,kv=lM VT [b1]/\Bx H o b1 (.ptr p 0)
def Js(H:ar)(o:Nat->Nat)(p:Nat)(gv:AV):Option K0->Prop
 |none=>gv=.fn (.func W4) [.ptr p 0] []
 |some k=>∃b1 b2 kv,gv=lM N_ [b1,b2]/\Bx H o b1 (.ptr p 0)/\Bx H o b2 kv/\ta H o p kv k
structure LD(H:ar)(o:Nat->Nat)(p:Nat)(k:K0)(g:Int)(rd:List Pr)(bi bg bp bk br bs bl ba:Nat):Prop where
 hg:Bx H o bg (.int .u64 g)
 hp:Bx H o bp (.ptr p 0)
 hk:∃kv,Bx H o bk kv/\ta H o p kv k/\aB kv=B4
 hr:∃rv,Bx H o br rv/\bR cM 2 H rv rd/\(rd≠[]->aF rv<H.au/\o (aF rv)=30)/\aB rv=B4
 hs:By H o bs (lM SY [bi,br,bp,bl,ba])
 hl:Bx H o bl (lM Sy [br,bi,bp,bs])
 ha:Bx H o ba (lM UJ [bg,bp,bk])
 hn:rd.length<=128
def FR(H:ar)(o:Nat->Nat)(p:Nat)(tv:AV):Nx->Prop
 | .xU n k=>∃b1 b2 b3 kv,tv=lM qlj [b1,b2,b3]/\Bx H o b1 (.ptr p 0)/\Bx H o b2 (.int .u64 n)/\Bx H o b3 kv/\ta H o p kv k
 | .uV n k=>∃b1 b2 b3 kv,tv=lM qjb [b1,b2,b3]/\Bx H o b1 (.ptr p 0)/\Bx H o b2 (.int .u64 n)/\Bx H o b3 kv/\ta H o p kv k
 | .wT=>∃b1 b2 gv,tv=lM TO [b1,b2]/\Bx H o b1 (.ptr p 0)/\Bx H o b2 gv/\Js H o p gv B5
 | .xP k=>∃b1 b2 gv,tv=lM TO [b1,b2]/\Bx H o b1 (.ptr p 0)/\Bx H o b2 gv/\Js H o p gv (B1 k)
 | .look k g rd i=>∃bi bg bp bk br bs bl ba,tv=lM Sy [br,bi,bp,bs]/\By H o bi (.int .i64 (i:Int))/\i<rd.length/\LD H o p k g rd bi bg bp bk br bs bl ba
 | .again k g=>∃bg bp bk kv,tv=lM UJ [bg,bp,bk]/\Bx H o bg (.int .u64 g)/\Bx H o bp (.ptr p 0)/\Bx H o bk kv/\ta H o p kv k
 | .xM a=>0<=a /\ ∃b1 b2,tv=lM W_ [b1,b2]/\Bx H o b1 (.ptr p 0)/\Bx H o b2 (.int .i64 a)
 | .nT a v=>(0<=a/\fH v) /\ ∃b1 b2 b3,tv=lM T' [b1,b2,b3]/\Bx H o b1 (.ptr p 0)/\Bx H o b2 (.int .i64 a)/\Bx H o b3 (.int .u64 v)
 | .u9=>∃b1,tv=lM S' [b1]/\Bx H o b1 (.ptr p 0)
 | .Gc k=>ta H o p tv k
def Ge:Nx->Nat
 | .uV _ _=>Pz
 | .u9=>Pz
 | .Gc _=>qll
 |_=>PN
def NS(H:ar)(o:Nat->Nat)(p:Nat)(fv:AV):Option Nx->Prop
 |none=>fv=.nilf
 |some n=>∃b tv,fv=lM (Ge n) [b]/\Bx H o b tv/\FR H o p tv n
def iU(r:Rq):List AV:=[.int .i64 r.op,.int .i64 r.a,.int .u64 r.v,.int .u64 r.o]
def dK(x:So)(g:Nat)(fv:AV):List AV:=.ptr g 0::(iU x.want ++ [fv,.bool x.busy,.bool x.live,.bool x.aH,.int .u64 x.snap,.int .u64 x.value,.int .i64 x.ended,.int .i64 x.points])
structure dW(H:ar)(o:Nat->Nat)(p:Nat)(x:So)(g:Nat)(fv:AV):Prop where
 row:At H p Eg (dK x g fv)
 lg:pK H o g x.rd x.wr
 nx:NS H o p fv x.au
 op:o p=8
 one:aB fv=B4
 vu:fH x.value
 wu:∀y∈x.wr,fH y.v
 qu:fH x.want.v
def eI(H:ar)(o:Nat->Nat)(p:Nat)(x:So)(H':ar):Prop:=∃o' g fv,dW H' o' p x g fv/\(∀z,z<H.au->o' z=o z)/\Fr (λ z=>8<=o z) H H'
section
variable{H H':ar}{o o':Nat->Nat}{p g:Nat}{x y:So}{fv kv gv tv:AV}{k:K0}{n:Nx}
structure Gf(H:ar)(o:Nat->Nat)(H':ar)(o':Nat->Nat):Prop where
 ah:∀z,z<H.au->o z=30->H'.get z=H.get z
 own:∀z,z<H.au->o' z=o z
 au:H.au<=H'.au
structure pT(H:ar)(o:Nat->Nat)(H':ar)(o':Nat->Nat):Prop where
 m:Gf H o H' o'
 ah:∀z,z<H.au->o z=31->H'.get z=H.get z
def Gf.of{W:Nat->Prop}(a:Fr W H H')(hw:∀z,z<H.au->o z=30 -> ¬W z)(ho:∀z,z<H.au->o' z=o z):Gf H o H' o':=⟨λ z h q=>a.ah z h (hw z h q),ho,a.au⟩
def pT.of{W:Nat->Prop}(a:Fr W H H')(hw:∀z,z<H.au->30<=o z -> ¬W z)(ho:∀z,z<H.au->o' z=o z):pT H o H' o':=⟨Gf.of a (λ z h q=>hw z h (by omega)) ho,λ z h q=>a.ah z h (hw z h (by omega))⟩
def pT.own(a:pT H o H' o'):∀z,z<H.au->o' z=o z:=a.m.own
def Bx.km{b:Nat}{v:AV}(h:Bx H o b v)(a:Gf H o H' o'):Bx H' o' b v:=⟨(q8p (a.ah b h.2.1 h.2.2)).trans h.1,qn h.2.1 a.au,(a.own b h.2.1).trans h.2.2⟩
def Bx.ky{b:Nat}{v:AV}(h:Bx H o b v)(a:pT H o H' o'):Bx H' o' b v:=h.km a.m
def By.ky{b:Nat}{v:AV}(h:By H o b v)(a:pT H o H' o'):By H' o' b v:=⟨by rw[a.ah b h.2.1 h.2.2];exact h.1,qn h.2.1 a.m.au,(a.own b h.2.1).trans h.2.2⟩
def By.ld{b:Nat}{v:AV}(h:By H o b v):Op.ae [.ptr b 0] H=B1 v:=by have⟨t,q⟩:=h.1;exact zd (xe q) 0
def Bx.ld{b:Nat}{v:AV}(h:Bx H o b v):Op.ae [.ptr b 0] H=B1 v:=zd h.1 0
def Gf.sl{lv:AV}{b:List Pr}(a:Gf H o H' o')(h:bR cM 2 H lv b)(c:b≠[]->aF lv<H.au/\o (aF lv)=30):bR cM 2 H' lv b:=by
 cases b with
 |nil=>exact Sl.fr (W:=λ _=>True) h ⟨a.au,λ _ _ q=>(q trivial).elim⟩ (.inl rfl)
 |cons y l =>
  have⟨d,e⟩:=c (by simp);exact Sl.fr (W:=λ z=>z≠aF lv) h ⟨a.au,λ z _ q=>by rw[wn.1 q];exact a.ah _ d e⟩ (.inr λ q=>q rfl)
def ta.km(h:ta H o p kv k)(a:Gf H o H' o'):ta H' o' p kv k:=by
 cases k with
 |wait=>exact h
 |left how=>have⟨b,e,c,d,f⟩:=h;exact⟨b,e,c,d.km a,f.km a⟩
 |kS z=>have⟨i,b,e,c,d,f⟩:=h;exact⟨i,b,e,c,d.km a,f.km a⟩
 |take=>exact h
 |back l=>have⟨i,b,e,lv,y,c,d,f,q,j,m⟩:=h;exact⟨i,b,e,lv,y,c,d.km a,f.km a,a.sl q λ _=>⟨j,m⟩,qn j a.au,(a.own _ j).trans m⟩
 |fin=>have⟨b,c,d⟩:=h;exact⟨b,c,d.km a⟩
def ta.ky(h:ta H o p kv k)(a:pT H o H' o'):ta H' o' p kv k:=h.km a.m
def ta.one(h:ta H o p kv k):aB kv=true:=by
 cases k with
 |wait=>rw[show kv=_ from h];rfl
 |left how=>have⟨b,d,a,c,f⟩:=h;rw[a];rfl
 |kS z=>have⟨e,b,d,a,c,f⟩:=h;rw[a];rfl
 |take=>rw[show kv=_ from h];rfl
 |back l=>have⟨e,b,d,lv,y,a,c⟩:=h;rw[a];rfl
 |fin=>have⟨b,a,c⟩:=h;rw[a];rfl
def Js.ky{ko:Option K0}(h:Js H o p gv ko)(a:pT H o H' o'):Js H' o' p gv ko:=by
 cases ko with
 |none=>exact h
 |some k=>have⟨b,c,kv,d,e,f,i⟩:=h;exact⟨b,c,kv,d,e.ky a,f.ky a,i.ky a⟩
def LD.ky{g:Int}{rd:List Pr}{bi d f bk i bs e c:Nat}(h:LD H o p k g rd bi d f bk i bs e c)(a:pT H o H' o'):LD H' o' p k g rd bi d f bk i bs e c:=by
 have⟨kv,j,l,r⟩:=h.hk;have⟨rv,s,t,b,u⟩:=h.hr;exact⟨h.hg.ky a,h.hp.ky a,⟨kv,j.ky a,l.ky a,r⟩,⟨rv,s.ky a,a.m.sl t b,λ q=>⟨qn (b q).1 a.m.au,(a.own _ (b q).1).trans (b q).2⟩,u⟩,h.hs.ky a,h.hl.ky a,h.ha.ky a,h.hn⟩
def FR.ky(h:FR H o p tv n)(a:pT H o H' o'):FR H' o' p tv n:=by
 cases n with
 |xU m k=>have⟨d,f,l,kv,b,c,e,j,q⟩:=h;exact⟨d,f,l,kv,b,c.ky a,e.ky a,j.ky a,q.ky a⟩
 |uV m k=>have⟨d,f,l,kv,b,c,e,j,q⟩:=h;exact⟨d,f,l,kv,b,c.ky a,e.ky a,j.ky a,q.ky a⟩
 |wT=>have⟨d,f,gv,b,c,e,j⟩:=h;exact⟨d,f,gv,b,c.ky a,e.ky a,j.ky a⟩
 |xP k=>have⟨d,f,gv,b,c,e,j⟩:=h;exact⟨d,f,gv,b,c.ky a,e.ky a,j.ky a⟩
 |look k g rd i=>have⟨bi,t,w,bk,A,bs,u,s,b,c,e,j⟩:=h;exact⟨bi,t,w,bk,A,bs,u,s,b,c.ky a,e,j.ky a⟩
 |again k g=>have⟨d,f,l,kv,b,c,e,j,q⟩:=h;exact⟨d,f,l,kv,b,c.ky a,e.ky a,j.ky a,q.ky a⟩
 |xM z=>have⟨r,d,f,b,c,e⟩:=h;exact⟨r,d,f,b,c.ky a,e.ky a⟩
 |nT z v=>have⟨r,d,f,l,b,c,e,j⟩:=h;exact⟨r,d,f,l,b,c.ky a,e.ky a,j.ky a⟩
 |u9=>have⟨d,b,c⟩:=h;exact⟨d,b,c.ky a⟩
 |Gc k=>exact ta.ky h a
def NS.ky{no:Option Nx}(h:NS H o p fv no)(a:pT H o H' o'):NS H' o' p fv no:=by
 cases no with
 |none=>exact h
 |some n=>have⟨b,tv,c,d,e⟩:=h;exact⟨b,tv,c,d.ky a,e.ky a⟩
def dW.fr{W:Nat->Prop}(h:dW H o p x g fv)(a:Fr W H H')(hw:∀z,z<H.au->8<=o z -> ¬W z)(ho:∀z,z<H.au->o' z=o z):dW H' o' p x g fv :=
 ⟨h.row.fr a (hw p h.row.2 (by rw[h.op];decide)),h.lg.fr a (λ z q w=>hw z q (by omega)) ho,h.nx.ky (pT.of a (λ z q w=>hw z q (by omega)) ho),(ho p h.row.2).trans h.op,h.one,h.vu,h.wu,h.qu⟩
def dW.same(h:dW H o p x g fv):eI H o p x H:=⟨o,g,fv,h,λ _ _=>rfl,Fr.refl _⟩
def dW.box(h:dW H o p x g fv)(v:AV)(t:Nat):dW (H.alloc (OR [v] t)) (aO o H.au 30) p x g fv/\Bx (H.alloc (OR [v] t)) (aO o H.au 30) H.au v/\pT H o (H.alloc (OR [v] t)) (aO o H.au 30):=by
 have f:Fr Em H (H.alloc (OR [v] t)):=(Fr.refl H).alloc _;have ho:∀z,z<H.au->aO o H.au 30 z=o z:=λ z q=>iQ q;exact⟨h.fr f (λ _ _ _ q=>q) ho,⟨xe (xq ..),by rw[xz];omega,nC (qm _)⟩,pT.of f (λ _ _ _ q=>q) ho⟩
theorem eI.pre{H1:ar}{o1:Nat->Nat}(a:Fr Em H H1)(ho:∀z,z<H.au->o1 z=o z)(h:eI H1 o1 p y H'):eI H o p y H':=by
 have⟨o2,c,b,d,e,f⟩:=h;refine⟨o2,c,b,d,λ z q=>(e z (qn q a.au)).trans (ho z q),(a.mono λ _ _ q=>q.elim).trans f λ z q=>?_⟩;rcases za z H.au with w|w
 .exact .inl (by rw[<-ho z w];exact q)
 .exact .inr w
def eI.then{H1:ar}(a:eI H o p x H1)(b:∀o1 e c,dW H1 o1 p x e c->eI H1 o1 p y H'):eI H o p y H':=by
 have⟨o1,e,c,j,f,h⟩:=a;have⟨o2,i,d,l,m,r⟩:=b o1 e c j;refine⟨o2,i,d,l,λ z q=>(m z (qn q h.au)).trans (f z q),h.trans r λ z q=>?_⟩;rcases za z H.au with w|w
 .exact .inl (by rw[<-f z w];exact q)
 .exact .inr w
def dW.bm(h:dW H o p x g fv):Op.ae [.ptr p 0] H=B1 (.ptr g 0)/\Op.ae [.ptr p 5] H=B1 fv/\Op.ae [.ptr p 6] H=B1 (.bool x.busy)/\Op.ae [.ptr p 7] H=B1 (.bool x.live)/\Op.ae [.ptr p 8] H=B1 (.bool x.aH)/\Op.ae [.ptr p 9] H=B1 (.int .u64 x.snap)/\Op.ae [.ptr p 10] H=B1 (.int .u64 x.value)/\Op.ae [.ptr p 11] H=B1 (.int .i64 x.ended)/\Op.ae [.ptr p 12] H=B1 (.int .i64 x.points) :=
 ⟨h.row.ld 0,h.row.ld 5,h.row.ld 6,h.row.ld 7,h.row.ld 8,h.row.ld 9,h.row.ld 10,h.row.ld 11,h.row.ld 12⟩
theorem dW.put(h:dW H o p x g fv)(i:Nat){v:AV}(c:aB v=B4)(d:i<13)(he:(dK x g fv).set i v=dK y g fv)(hs:y.rd=x.rd/\y.wr=x.wr/\y.au=x.au/\y.want=x.want)(hu:fH y.value) :
 ∃H',Op.store 1 [.ptr p i,v] H=B1 (.undef,H')/\dW H' o p y g fv/\Fr (On p) H H':=by
 refine⟨_,h.row.st i c d,?_,b9 ..⟩;rw[he];have f:Fr (On p) H (H.set p (OR (dK y g fv) Eg)):=b9 ..;have np:∀z,9<=o z -> ¬On p z:=λ z q(w:z=p)=>by rw[w,h.op]at q;omega
 have⟨e1,e2,a,b⟩:=hs;exact⟨h.row.set _,by rw[e1,e2];exact h.lg.fr f (λ z _ q=>np z q) λ _ _=>rfl,by rw[a];exact h.nx.ky (pT.of f (λ z _ q=>np z (by omega)) λ _ _=>rfl),h.op,h.one,hu,by rw[e2];exact h.wu,by rw[b];exact h.qu⟩
def dW.Fm(h:dW H o p x g fv){H1:ar}(f:Fr (On p) H H1)(a:dW H1 o p y g fv):eI H o p y H1:=⟨o,g,fv,a,λ _ _=>rfl,f.mono λ z _(q:z=p)=>by rw[q,h.op];decide⟩
def Lx(h:dW H o p x g fv){r:Rq}(hr:fH r.v){nv:AV}(hn:NS H o p nv (B1 n)):ze M qq0 [.ptr p 0,.agg (iU r),nv] H λ _ H'=>eI H o p (x.ask r n) H':=by
 refine q6w ?_;obtain⟨H1,e1,d,-,-⟩:=cq H (OR (iU r) DT);have j:At H1 H.au DT (iU r):=e1▸At.new H _ _;have e:=h.fr d (λ _ _ _ q=>q) λ _ _=>rfl;have l4:=j.eH (k:=0) (n:=4) (by simp[iU]);have one:aB nv=true:=by obtain⟨b,tv,q,-⟩:=hn;rw[q];rfl
 have s1:=e.row.fG (k:=1) (n:=4) (v:=.agg (iU r)) rfl (by simp[dK,iU]) rfl;have e2:(dK x g fv).take 1++AV.cells (.agg (iU r))++(dK x g fv).drop (1+4)=dK {x with want:=r} g fv:=rfl;rw[e2]at s1;obtain⟨H2,a⟩:∃X,X=H1.set p (OR (dK {x with want:=r} g fv) Eg):=⟨_,rfl⟩
 rw[<-a]at s1;have i:At H2 p Eg (dK {x with want:=r} g fv):=a▸e.row.set _;have s2:=i.st 5 one (by simp[dK,iU]);have m:(dK {x with want:=r} g fv).set 5 nv=dK (x.ask r n) g nv:=rfl;rw[m]at s2;have l:AV.cells (.agg (iU r))=iU r:=zt _;have c:Op.aq 4 [.ptr H.au 0] H1=B1 (.agg (iU r)):=l4;simp only[aa,bc,q6x,av,l,<-e1,c,s1,s2];have s:Fr (On p) H1 H2:=a▸b9 ..;have t:Fr (On p) H2 (H2.set p (OR (dK (x.ask r n) g nv) Eg)):=b9 ..;have f:Fr (On p) H (H2.set p (OR (dK (x.ask r n) g nv) Eg)):=((d.mono λ _ _ q=>q.elim).trans s λ z q=>.inl q).trans t λ z q=>.inl q;have np:∀z,9<=o z -> ¬On p z:=λ z q(w:z=p)=>by rw[w,h.op]at q;omega
 exact⟨o,g,nv,⟨i.set _,h.lg.fr f (λ z _ q=>np z q) λ _ _=>rfl,NS.ky hn (pT.of f (λ z _ q=>np z (by omega)) λ _ _=>rfl),h.op,one,h.vu,h.wu,hr⟩,λ _ _=>rfl,f.mono λ z _(q:z=p)=>by rw[q,h.op];decide⟩
end
end Go.Am
namespace Go.Am
open Lang Go.Proofs
variable{M:ak}[MK M]
structure Mk(H:ar)(o:Nat->Nat)(H':ar)(o':Nat->Nat):Prop where
 f:Fr Em H H'
 ho:∀z,z<H.au->o' z=o z
section
variable{H H1 H2 H':ar}{o o1 o2 o':Nat->Nat}{p g:Nat}{x y:So}{fv kv gv tv:AV}{k:K0}{n:Nx}
def Mk.bk(m:Mk H o H1 o1):pT H o H1 o1:=pT.of m.f (λ _ _ _ q=>q) m.ho
theorem Mk.trans(m:Mk H o H1 o1)(w:Mk H1 o1 H2 o2):Mk H o H2 o2:=⟨m.f.em w.f,λ z q=>(w.ho z (qn q m.f.au)).trans (m.ho z q)⟩
theorem Mk.pre(m:Mk H o H1 o1)(h:eI H1 o1 p y H'):eI H o p y H':=eI.pre m.f m.ho h
def dW.bx(h:dW H o p x g fv)(v:AV)(t:Nat):∃H1 o1,H.alloc (OR [v] t)=H1/\dW H1 o1 p x g fv/\Bx H1 o1 H.au v/\Mk H o H1 o1:=by
 have⟨a,b,c⟩:=h.box v t;exact⟨_,_,rfl,a,b,(Fr.refl H).alloc _,c.own⟩
def dW.bz(h:dW H o p x g fv)(z:AV){v:AV}(a:aB v=B4)(t:Nat):∃H1 o1,Op.store 1 [.ptr H.au 0,v] (H.alloc (OR [z] t))=B1 (.undef,H1)/\dW H1 o1 p x g fv/\Bx H1 o1 H.au v/\Mk H o H1 o1:=by
 have s:=(At.new H [z] t).st 0 a (by simp);have f:Fr Em H ((H.alloc (OR [z] t)).set H.au (OR [v] t)):=((Fr.refl H).alloc _).set (.inr (qm _)) _;have ho:∀z,z<H.au->aO o H.au 30 z=o z:=λ z q=>iQ q;exact⟨_,aO o H.au 30,s,h.fr f (λ _ _ _ q=>q) ho,⟨xe (xf ..),by rw[tO,xz];omega,nC (qm _)⟩,f,ho⟩
def dW.by0(h:dW H o p x g fv)(v:AV)(t:Nat):∃H1 o1,H.alloc (OR [v] t)=H1/\dW H1 o1 p x g fv/\By H1 o1 H.au v/\Mk H o H1 o1:=by
 have f:Fr Em H (H.alloc (OR [v] t)):=(Fr.refl H).alloc _;have ho:∀z,z<H.au->aO o H.au 31 z=o z:=λ z q=>iQ q;exact⟨_,aO o H.au 31,rfl,h.fr f (λ _ _ _ q=>q) ho,⟨⟨t,xq ..⟩,by rw[xz];omega,nC (qm _)⟩,f,ho⟩
def dW.byz(h:dW H o p x g fv)(z:AV){v:AV}(a:aB v=B4)(t:Nat):∃H1 o1,Op.store 1 [.ptr H.au 0,v] (H.alloc (OR [z] t))=B1 (.undef,H1)/\dW H1 o1 p x g fv/\By H1 o1 H.au v/\Mk H o H1 o1:=by
 have s:=(At.new H [z] t).st 0 a (by simp);have f:Fr Em H ((H.alloc (OR [z] t)).set H.au (OR [v] t)):=((Fr.refl H).alloc _).set (.inr (qm _)) _;have ho:∀z,z<H.au->aO o H.au 31 z=o z:=λ z q=>iQ q;exact⟨_,aO o H.au 31,s,h.fr f (λ _ _ _ q=>q) ho,⟨⟨t,xf ..⟩,by rw[tO,xz];omega,nC (qm _)⟩,f,ho⟩
def dW._g{b:Nat}{w v:AV}(h:dW H o p x g fv)(hn:x.au=B5)(hb:By H o b w)(i:aB v=B4):∃H1,Op.store 1 [.ptr b 0,v] H=B1 (.undef,H1)/\dW H1 o p x g fv/\By H1 o b v/\Gf H o H1 o/\Fr (On b) H H1:=by
 have⟨⟨t,j⟩,c,d⟩:=hb;have a:At H b t [w]:=⟨j,c⟩
 have f:Fr (On b) H (H.set b (OR [v] t)):=b9 ..;have nb:∀z,o z≠31 -> ¬On b z:=λ z e(w:z=b)=>e (by rw[w];exact d);have nx:=h.nx;rw[hn]at nx;refine⟨_,a.st 0 i (by simp),⟨h.row.fr f (nb p (by rw[h.op];decide)),h.lg.Gr f (λ z _ e=>nb z (by omega)),by rw[hn];exact nx,h.op,h.one,h.vu,h.wu,h.qu⟩,⟨⟨t,xf ..⟩,c,d⟩,Gf.of f (λ z _ e=>nb z (by omega)) λ _ _=>rfl,f⟩
def FR.one(h:FR H o p tv n):aB tv=true:=by
 cases n with
 |xU m k=>have⟨c,d,e,kv,a,b⟩:=h;rw[a];rfl
 |uV m k=>have⟨c,d,e,kv,a,b⟩:=h;rw[a];rfl
 |wT=>have⟨c,d,gv,a,b⟩:=h;rw[a];rfl
 |xP k=>have⟨c,d,gv,a,b⟩:=h;rw[a];rfl
 |look k g rd i=>have⟨bi,l,r,bk,s,bs,q,j,a,b⟩:=h;rw[a];rfl
 |again k g=>have⟨c,d,e,kv,a,b⟩:=h;rw[a];rfl
 |xM z=>have⟨f,c,d,a,b⟩:=h;rw[a];rfl
 |nT z v=>have⟨f,c,d,e,a,b⟩:=h;rw[a];rfl
 |u9=>have⟨c,a,b⟩:=h;rw[a];rfl
 |Gc k=>exact ta.one h
def Js.one{ko:Option K0}(h:Js H o p gv ko):aB gv=true:=by
 cases ko with
 |none=>rw[show gv=_ from h];rfl
 |some k=>have⟨b,c,kv,a,d⟩:=h;rw[a];rfl
def sH(h:dW H o p x g fv)(a:Int)(b:FR H o p tv n)(hk:Ge n=PN):ze M q_ [.ptr p 0,.int .i64 a,tv] H λ _ H'=>eI H o p (x.ask ⟨1,a,0,0⟩ n) H':=by
 refine q11 ?_;have⟨H1,o1,e1,f,d,c⟩:=h.bx tv SA;have e:Op.build [.int .i64 0,.int .i64 0,.int .u64 0,.int .u64 0] [(0,1),(1,1)] [.int .i64 1,.int .i64 a]=B1 (.agg (iU ⟨1,a,0,0⟩)):=rfl;simp only[aa,bc,q12,FK b.one,e1,e];refine C3.q (Lx f bJ (n:=n) ⟨_,tv,by rw[hk];rfl,d,b.ky c.bk⟩) λ _ H2 hp=>?_;simp only[aa,bc];exact c.pre hp
def Q7(h:dW H o p x g fv)(a w:Int){v:Int}(i:fH v)(b:FR H o p tv n)(hk:Ge n=Pz):ze M qq1 [.ptr p 0,.int .i64 a,.int .u64 w,.int .u64 v,tv] H λ _ H'=>eI H o p (x.ask ⟨3,a,v,w⟩ n) H':=by
 refine q6y ?_;have⟨H1,o1,e1,f,d,c⟩:=h.bx tv Lm;have e:Op.build [.int .i64 0,.int .i64 0,.int .u64 0,.int .u64 0] [(0,1),(1,1),(2,1),(3,1)] [.int .i64 3,.int .i64 a,.int .u64 v,.int .u64 w]=B1 (.agg (iU ⟨3,a,v,w⟩)):=rfl;simp only[aa,bc,q6z,FK b.one,e1,e];refine C3.q (Lx f (r:=⟨3,a,v,w⟩) i (n:=n) ⟨_,tv,by rw[hk];rfl,d,b.ky c.bk⟩) λ _ H2 hp=>?_;simp only[aa,bc];exact c.pre hp
def Fo(h:dW H o p x g fv)(a:Int){v:Int}(i:fH v)(b:ta H o p tv k):ze M t8 [.ptr p 0,.int .i64 a,.int .u64 v,tv] H λ _ H'=>eI H o p (x.ask ⟨2,a,v,0⟩ (.Gc k)) H':=by
 refine qzf ?_;have⟨H1,o1,e1,f,d,c⟩:=h.bx tv Hu;have e:Op.build [.int .i64 0,.int .i64 0,.int .u64 0,.int .u64 0] [(0,1),(1,1),(2,1)] [.int .i64 2,.int .i64 a,.int .u64 v]=B1 (.agg (iU ⟨2,a,v,0⟩)):=rfl;simp only[aa,bc,qzg,FK b.one,e1,e];refine C3.q (Lx f (r:=⟨2,a,v,0⟩) i (n:=.Gc k) ⟨_,tv,rfl,d,b.ky c.bk⟩) λ _ H2 hp=>?_;simp only[aa,bc];exact c.pre hp
def xS(h:dW H o p x g fv)(z:Int)(hk:ta H o p kv k):ze M tr [.ptr p 0,.int .u64 z,kv] H λ _ H'=>eI H o p (x.count z k) H':=by
 refine qy5 ?_;have⟨H1,o1,e1,l,e,c⟩:=h.bx (.ptr p 0) MO;have⟨H2,o2,e2,m,f,s⟩:=l.bx (.int .u64 z) Zt;have⟨t,o3,j,r,i,d⟩:=m.bx kv Hu;have a:=s.trans d;have b:=e.ky a.bk;simp only[aa,bc,qy6,FK hk.one,e1,e2,j,b.ld];refine C3.q (sH r 1 (n:=.xU z k) ⟨_,_,_,kv,rfl,b,f.ky d.bk,i,hk.ky (c.trans a).bk⟩ rfl) λ _ u hp=>?_;simp only[aa,bc];exact(c.trans a).pre hp
def oU(h:dW H o p x g fv)(a:Int):ze M Ss [.ptr p 0,.int .i64 a] H λ _ H'=>eI H o p (x.leave a) H':=by
 refine qy9 ?_;have⟨H1,o1,e1,f,d,j⟩:=h.bx (.ptr p 0) MO;have⟨H2,o2,e2,i,e,c⟩:=f.bx (.int .i64 a) cE;have b:=d.ky c.bk;simp only[aa,bc,qza,e1,e2,b.ld];refine C3.q (xS i 18446744073709551615 (k:=.left a) ⟨_,_,rfl,e,b⟩) λ _ l hp=>?_;simp only[aa,bc];exact(j.trans c).pre hp
def KU:Option K0->Nx
 |none=>.wT
 |some k=>.xP k
def qI(h:dW H o p x g fv){ko:Option K0}(hg:Js H o p gv ko):ze M qmf [.ptr p 0,gv] H λ _ H'=>eI H o p (x.ask ⟨1,0,0,0⟩ (KU ko)) H':=by
 refine qw2 ?_;have⟨H1,o1,e1,i,f,e⟩:=h.bx (.ptr p 0) MO;have⟨H2,o2,e2,j,d,c⟩:=i.bx gv SA;have b:=f.ky c.bk;have a:=hg.ky (e.trans c).bk;have l:FR H2 o2 p (lM TO [H.au,H1.au]) (KU ko):=by
  cases ko with
  |none=>exact⟨_,_,gv,rfl,b,d,a⟩
  |some k=>exact⟨_,_,gv,rfl,b,d,a⟩
 have hk:Ge (KU ko)=PN:=by cases ko<;>rfl
 simp only[aa,bc,qw3,FK hg.one,e1,e2,b.ld];refine C3.q (sH j 0 l hk) λ _ m hp=>?_;simp only[aa,bc];exact(e.trans c).pre hp
def VW(h:dW H o p x g fv)(hk:ta H o p kv k):ze M y_ [.ptr p 0,kv] H λ _ H'=>eI H o p (x.validate k) H':=by
 refine qs5 ?_;have⟨H1,o1,e1,f,d,c⟩:=h.bx (.ptr p 0) MO;have⟨H2,o2,e2,i,e,a⟩:=f.bx kv Hu;have b:=d.ky a.bk;simp only[aa,bc,qs6,FK hk.one,e1,e2,b.ld];refine C3.q (qI i (ko:=B1 k) ⟨_,_,kv,rfl,b,e,hk.ky (c.trans a).bk⟩) λ _ j hp=>?_;simp only[aa,bc];exact(c.trans a).pre hp
def Dd(h:dW H o p x g fv){a:Int}(ha:0<=a):ze M _d [.ptr p 0,.int .i64 a] H λ _ H'=>eI H o p (x.kS a) H':=by
 refine qy7 ?_;have⟨H1,o1,e1,f,e,j⟩:=h.bx (.ptr p 0) MO;have⟨H2,o2,e2,i,b,d⟩:=f.bx (.int .i64 a) cE;have c:=e.ky d.bk;simp only[aa,bc,qy8,e1,e2,c.ld,b.ld];refine C3.q (sH i a (n:=.xM a) ⟨ha,_,_,rfl,c,b⟩ rfl) λ _ l hp=>?_;simp only[aa,bc];exact(j.trans d).pre hp
def JS(h:dW H o p x g fv):ze M Yo [.ptr p 0] H λ _ H'=>eI H o p x.take H':=by
 refine q15 ?_;have⟨H1,o1,e1,b,a,c⟩:=h.bx (.ptr p 0) MO;simp only[aa,bc,q16,av,e1,a.ld,b.bm];refine C3.q (Q7 b 0 x.snap (FV _) (n:=.u9) ⟨_,rfl,a⟩ rfl) λ _ d hp=>?_;simp only[aa,bc];exact c.pre hp
def Ro(h:dW H o p x g fv):ze M Yj [.ptr p 0] H λ _ H'=>eI H o p x.tQ H':=by
 refine q17 ?_;simp only[aa,bc,q18];refine C3.q (qI h (ko:=B5) rfl) λ _ a hp=>?_;simp only[aa,bc];exact hp
def Ji(h:dW H o p x g fv){lv:AV}{l:List Pr}(hl:bR cM 2 H lv l)(hu:∀y∈l,fH y.v)(hb:l≠[]->aF lv<H.au/\o (aF lv)=30)(one:aB lv=B4):ze M qpv [.ptr p 0,lv] H λ _ H'=>eI H o p (x.back l) H':=by
 refine q1x ?_;have⟨H1,o1,e1,B,A,D⟩:=h.bx (.ptr p 0) MO;have⟨H2,o2,e2,s,r,t⟩:=B.bx lv oq;have e:=A.ky t.bk;have d:=D.trans t;have b:=d.bk.m.sl hl hb;have ln:=b.len;cases l with
 |nil =>
  have c:¬(0:Int)<(([]:List Pr).length:Int):=by decide
  simp only[aa,bc,qp5,av,FK one,e1,e2,e.ld,r.ld,ln,c,s.bm];refine C3.q (Fo s 0 (FV _) (k:=.fin) ⟨_,rfl,e⟩) λ _ w hp=>?_;simp only[aa,bc];exact d.pre hp
 |cons y l =>
  have c:(0:Int)<((y::l).length:Int):=by rw[zz];omega
  have ix:Op.aQ 2 [lv,.int .i64 0]=B1 (.ptr (aF lv) (cZ 2 lv 0)):=b.idx (i:=0) rfl rfl .i64;have l0:Op.ae [.ptr (aF lv) (cZ 2 lv 0)] H2=B1 (.int .i64 y.a):=b.jQ CM (i:=0) rfl (by decide);have l1:Op.ae [.ptr (aF lv) (cZ 2 lv 0+1)] H2=B1 (.int .u64 y.v):=b.ae CM (i:=0) rfl (j:=1) (by decide);have⟨u,E⟩:=hb (by simp);simp only[aa,bc,qp5,FK one,e1,e2,e.ld,r.ld,ln,c,ix,l0,l1];refine C3.q (Fo s y.a (hu y (by simp)) (k:=.back l) ⟨λ z C=>hu z (by simp[C]),_,_,lv,y,rfl,e,r,b,qn u d.f.au,(d.ho _ u).trans E⟩) λ _ w hp=>?_;simp only[aa,bc];exact d.pre hp
end
end Go.Am
namespace Go.Am
open Lang Go.Proofs
variable{M:ak}[MK M]
section
variable{H H1 H2 H':ar}{o o1 o2 o':Nat->Nat}{p g:Nat}{x y:So}{fv kv gv tv:AV}{k:K0}{n:Nx}
def dW.on(h:dW H o p x g fv)(f:Fr (On p) H H1):pT H o H1 o:=pT.of f (λ z _ q(w:z=p)=>by rw[w,h.op]at q;omega) λ _ _=>rfl
def dW.w0(h:dW H o p x g fv){W:Nat->Prop}(f:Fr W H H1)(hw:∀z,W z->z=p):Fr (λ z=>8<=o z) H H1:=f.mono λ z _ q=>by rw[hw z q,h.op];decide
def eI.step(h:dW H o p x g fv)(f:Fr (On p) H H1)(b:eI H1 o p y H'):eI H o p y H':=by
 have⟨o2,c,a,d,e,i⟩:=b;exact⟨o2,c,a,d,λ z q=>e z (qn q f.au),(h.w0 f λ _ q=>q).trans i λ z q=>.inl q⟩
def dW.log{rd wr:List Pr}(h:dW H o p x g fv)(hp:wH H o g rd wr H1)(hu:∀y∈wr,fH y.v):∃o1,dW H1 o1 p {x with rd:=rd,wr:=wr} g fv/\pT H o H1 o1/\Fr (λ z=>8<=o z) H H1:=by
 have⟨o1,c,b,a⟩:=hp;have bk:pT H o H1 o1:=pT.of a (λ z _ q w=>by omega) b;exact⟨o1,⟨h.row.fr a (λ w=>by have:=h.op;omega),c,h.nx.ky bk,(b p h.row.2).trans h.op,h.one,h.vu,hu,h.qu⟩,bk,a.mono λ z _ q=>by omega⟩
def eI.after(c:∀z,z<H.au->o1 z=o z)(f:Fr (λ z=>8<=o z) H H1)(b:eI H1 o1 p y H'):eI H o p y H':=by
 have⟨o2,d,a,e,h,i⟩:=b;refine⟨o2,d,a,e,λ z q=>(h z (qn q f.au)).trans (c z q),f.trans i λ z q=>?_⟩;rcases za z H.au with w|w
 .exact .inl (by rw[<-c z w];exact q)
 .exact .inr w
def DY(h:dW H o p x g fv):ze M Uy [.ptr p 0] H λ _ H'=>dW H' o p {x with busy:=B2} g fv/\Fr (On p) H H':=by
 refine q1y ?_;have⟨H1,s1,b,a⟩:=h.put 6 (v:=.bool B2) (y:={x with busy:=B2}) rfl (by decide) rfl ⟨rfl,rfl,rfl,rfl⟩ h.vu;simp only[aa,bc,q1z,av,s1];exact⟨b,a⟩
def xV(h:dW H o p x g fv)(v:Int):ze M T2 [.ptr p 0,.int .u64 v] H λ _ H'=>dW H' o p (x.pI v) g fv/\Fr (On p) H H':=by
 refine qzb ?_;have⟨H1,s1,c,a⟩:=h.put 9 (v:=.int .u64 v) (y:={x with snap:=v}) rfl (by decide) rfl ⟨rfl,rfl,rfl,rfl⟩ h.vu;have⟨H2,s2,d,b⟩:=c.put 12 (v:=.int .i64 (aj .i64 (x.points+1))) (y:=x.pI v) rfl (by decide) rfl ⟨rfl,rfl,rfl,rfl⟩ h.vu;simp only[aa,bc,qzc,av,h.bm,s1,s2];exact⟨d,a.trans b λ z q=>.inl q⟩
def Kv(h:dW H o p x g fv)(v:Int):ze M W4 [.ptr p 0,.int .u64 v] H λ _ H'=>eI H o p {x.pI v with live:=B4,busy:=B2} H':=by
 refine qy1 ?_;simp only[aa,bc,qy2];refine C3.q (xV h v) λ _ H1⟨d,a⟩=>?_;have⟨H2,s2,e,b⟩:=d.put 7 (v:=.bool B4) (y:={x.pI v with live:=B4}) rfl (by decide) rfl ⟨rfl,rfl,rfl,rfl⟩ h.vu;simp only[aa,bc,av,s2];refine C3.q (DY e) λ _ i⟨f,c⟩=>?_;simp only[aa,bc];exact h.Fm ((a.trans b λ z q=>.inl q).trans c λ z q=>.inl q) f
def Bw(h:dW H o p x g fv)(hk:ta H o p kv k):∃f a c,kv=.fn (.func f) a c/\ze M f (a++c) H λ _ H'=>eI H o p (x.IE k) H':=by
 cases k with
 |wait=>exact⟨_,_,_,hk,Ro h⟩
 |take=>exact⟨_,_,_,hk,JS h⟩
 |left how =>
  obtain⟨d,r,rfl,b,j⟩:=hk;refine⟨_,_,_,rfl,?_⟩;show ze M ZR [.ptr d 0,.ptr r 0] H _;refine qu1 ?_;have⟨H1,s1,t,m⟩:=h.put 7 (v:=.bool B2) (y:={x with live:=B2}) rfl (by decide) rfl ⟨rfl,rfl,rfl,rfl⟩ h.vu;have d1:=b.ky (h.on m);have d2:=j.ky (h.on m);have⟨H2,s2,D,B⟩:=t.put 11 (v:=.int .i64 how) (y:={x with live:=B2,ended:=how}) rfl (by decide) rfl ⟨rfl,rfl,rfl,rfl⟩ h.vu;have e2:=d2.ky (t.on B);simp only[aa,bc,qu2,av,b.ld,j.ld,s1,d1.ld,d2.ld,s2,e2.ld];refine C3.q (DY D) λ _ u⟨E,C⟩=>?_;simp only[aa,bc];exact h.Fm ((m.trans B λ z q=>.inl q).trans C λ z q=>.inl q) E
 |kS a =>
  obtain⟨A,d,r,rfl,b,j⟩:=hk;refine⟨_,_,_,rfl,?_⟩;show ze M Vq [.ptr d 0,.ptr r 0] H _;refine qo6 ?_;simp only[aa,bc,qo7,b.ld,j.ld];refine C3.q (Dd h A) λ _ u hp=>?_;simp only[aa,bc];exact hp
 |back l =>
  obtain⟨A,d,r,lv,y,rfl,b,j,hl,F,G⟩:=hk;refine⟨_,_,_,rfl,?_⟩;show ze M V0 [.ptr d 0,.ptr r 0] H _;refine qww ?_;have⟨s,s1,i,hb⟩:=hl.from CM (k:=1) (by simp) (z:=1) rfl .i64;simp only[aa,bc,qwx,b.ld,j.ld,s1];have nb:l≠[]->aF s<H.au/\o (aF s)=30:=λ e=>by
   rcases hb with w|w
   .subst w;have:=i.len;have e2:l.length=0:=by
     have q:Op.cD [AV.nils]=B1 (.int .i64 0):=rfl;rw[q]at this;injection this with this;injection this with _ this
     simp only[List.drop_succ_cons,yx]at this;omega
    exact(e (jc.1 e2)).elim
   .rw [w];exact⟨F,G⟩
  refine C3.q (Ji h (l:=l) i A nb i.one) λ _ u hp=>?_;simp only[aa,bc];exact hp
 |fin =>
  obtain⟨d,rfl,b⟩:=hk;refine⟨_,_,_,rfl,?_⟩;show ze M VT [.ptr d 0] H _;refine qwy ?_;have⟨H1,s1,t,m⟩:=h.put 8 (v:=.bool B2) (y:={x with aH:=B2}) rfl (by decide) rfl ⟨rfl,rfl,rfl,rfl⟩ h.vu;have d1:=b.ky (h.on m);simp only[aa,bc,qwz,av,b.ld,s1,d1.ld];refine C3.q (oU t 1) λ _ u hp=>?_;simp only[aa,bc];exact eI.step h m hp
def JH{i:Nat}{e:Int}{rd:List Pr}{bi j d bk m bs l f:Nat}(h:dW H o p x g fv)(r:By H o bi (.int .i64 (i:Int)))(hle:i<=rd.length)(v:LD H o p k e rd bi j d bk m bs l f) :
 ze M SY [.ptr bi 0,.ptr m 0,.ptr d 0,.ptr l 0,.ptr f 0] H λ _ H'=>eI H o p (x.step k e rd i) H':=by
 refine qod ?_;have⟨kv,w,z,A⟩:=v.hk;have⟨rv,t,s,B,C⟩:=v.hr;have ln:=s.len;unfold So.step;rcases za i rd.length with q|q
 .have c:(i:Int)<(rd.length:Int):=by omega
  obtain⟨y,b⟩:∃y,rd[i]? = B1 y:=⟨rd[i],by simp[q]⟩
  have ix:Op.aQ 2 [rv,.int .i64 (i:Int)]=B1 (.ptr (aF rv) (cZ 2 rv i)):=s.idx b rfl .i64;have l0:Op.ae [.ptr (aF rv) (cZ 2 rv i)] H=B1 (.int .i64 y.a):=s.jQ CM b (by decide);simp only[aa,bc,qg8,r.ld,t.ld,ln,c,v.hp.ld,ix,l0,v.hl.ld,b];refine C3.q (sH h y.a (n:=.look k e rd i) ⟨bi,j,d,bk,m,bs,l,f,rfl,r,q,v⟩ rfl) λ _ u hp=>?_;simp only[aa,bc];exact hp
 .have c:¬(i:Int)<(rd.length:Int):=by omega
  have b:rd[i]? = none:=jt q;simp only[aa,bc,qg8,r.ld,t.ld,ln,c,v.hp.ld,v.ha.ld,b];refine C3.q (sH h 0 (n:=.again k e) ⟨j,d,bk,kv,rfl,v.hg,v.hp,w,z⟩ rfl) λ _ u hp=>?_;simp only[aa,bc];exact hp
end
end Go.Am
namespace Go.Am
open Lang Go.Proofs
variable{M:ak}[MK M]
section
variable{H H1 H2 H':ar}{o o1 o2 o':Nat->Nat}{p g b f:Nat}{x y:So}{fv kv gv tv:AV}{k:K0}{n:Nx}{l:List Nat}{v:Int}{ok:Bool}{R:AV->ar->Prop}
def Mm(hb:Bx H o b (lM f l))(a:ze M f (.int .u64 v::l.map λ b=>.ptr b 0) H λ _ H'=>R .undef H'):ze M PN [.int .u64 v,.bool ok,.ptr b 0] H λ _ H'=>R .undef H':=by
 refine qw0 ?_;simp only[aa,bc,qw1,hb.ld,lM];refine C3.q a λ _ c hp=>?_;simp only[aa,bc];exact hp
def u4(hb:Bx H o b (lM f l))(a:ze M f (.bool ok::l.map λ b=>.ptr b 0) H λ _ H'=>R .undef H'):ze M Pz [.int .u64 v,.bool ok,.ptr b 0] H λ _ H'=>R .undef H':=by
 refine qy3 ?_;simp only[aa,bc,qy4,hb.ld,lM];refine C3.q a λ _ c hp=>?_;simp only[aa,bc];exact hp
def pM{v:Int}(a:fH v):Op.bin .rem [.int .u64 v,.int .u64 2]=B1 (.int .u64 (v % 2)):=by
 rw[vB .u64 _ _ (by decide),UE a.1]
def son(h:dW H o p x g fv)(hn:x.au=B5)(hv:fH v)(hb:Bx H o b tv)(O:FR H o p tv n):ze M (Ge n) [.int .u64 v,.bool ok,.ptr b 0] H λ _ H'=>eI H o p (x.on v ok n) H':=by
 cases n with
 |xU m k =>
  obtain⟨E,Y,J,kv,rfl,r,A,G,hk⟩:=O;refine Mm (R:=λ _ H'=>eI H o p _ H') hb ?_;refine qux ?_;simp only[aa,bc,quy,r.ld,A.ld];refine C3.q (Q7 h 1 v (FV _) (n:=.uV m k) ⟨_,_,_,kv,rfl,r,A,G,hk⟩ rfl) λ _ d hp=>?_;simp only[aa,bc];exact hp
 |uV m k =>
  obtain⟨E,Y,J,kv,rfl,r,A,G,hk⟩:=O;refine u4 (R:=λ _ H'=>eI H o p _ H') hb ?_;refine qr4 ?_;unfold So.on;cases ok with
  |true =>
   obtain⟨N,a,c,rfl,K⟩:=Bw (M:=M) h hk;simp only[aa,bc,A0,G.ld];refine C3.q K λ _ d hp=>?_;simp only[aa,bc];exact hp
  |false =>
   simp only[aa,bc,A0,r.ld,A.ld,G.ld,zr];refine C3.q (xS h m hk) λ _ d hp=>?_;simp only[aa,bc];exact hp
 |wT =>
  obtain⟨E,Y,gv,rfl,r,A,hg⟩:=O;refine Mm (R:=λ _ H'=>eI H o p _ H') hb ?_;refine p_ ?_;unfold So.on
  by_cases q:v % 2=1
  .simp only[aa,bc,Su,pM hv,xb q,r.ld,A.ld];refine C3.q (qI h (ko:=B5) hg) λ _ d hp=>?_;simp only[aa,bc];exact hp
  .have hg:gv=_:=hg;subst hg;simp only[aa,bc,Su,pM hv,q,A.ld];refine C3.q (Kv h v) λ _ d hp=>?_;simp only[aa,bc];exact hp
 |xP k =>
  obtain⟨E,Y,gv,rfl,r,A,hg⟩:=O;refine Mm (R:=λ _ H'=>eI H o p _ H') hb ?_;refine p_ ?_;unfold So.on
  by_cases q:v % 2=1
  .simp only[aa,bc,Su,pM hv,xb q,r.ld,A.ld];refine C3.q (qI h (ko:=B1 k) hg) λ _ d hp=>?_;simp only[aa,bc];exact hp
  .obtain ⟨J,b4,kv,rfl,d1,d2,hk⟩:=hg;simp only[aa,bc,Su,pM hv,q,A.ld,lM,kh,F1];refine C3.q (R:=λ _ H'=>eI H o p (x.step k v x.rd 0) H') ?_ λ _ d hp=>?_
   .refine qqf ?_;have⟨H1,o1,e1,s,bg,C⟩:=h.bx (.int .u64 v) Zt;have d11:=d1.ky C.bk;simp only[aa,bc,qqg,av,e1,d11.ld,s.bm];refine C3.q (KS s.lg) λ rv H2⟨t,D,F⟩=>?_;have one:aB rv=true:=Sl.one (Own.sl t)
    -- what is made since
    have X:Mk H1 o1 H2 (aO o1 H1.au 30):=⟨F,λ z q=>iQ q⟩
    have T:=s.fr F (λ _ _ _ q=>q) X.ho;have hr:x.rd≠[]->aF rv<H2.au/\aO o1 H1.au 30 (aF rv)=30:=λ e=>by
     have on:=yG t e;exact⟨Own.lt t _ on,nC (D _ on)⟩
    have rt:∀{Hx ox},Mk H2 (aO o1 H1.au 30) Hx ox->bR cM 2 Hx rv x.rd/\(x.rd≠[]->aF rv<Hx.au/\ox (aF rv)=30):=λ m=>⟨m.bk.m.sl (aT.sl t) hr,λ e=>⟨qn (hr e).1 m.f.au,(m.ho _ (hr e).1).trans (hr e).2⟩⟩
    have⟨d,o3,s3,h3,br,m3⟩:=T.bz .nils one oq;have⟨u,o4,s4,h4,bi,m4⟩:=h3.byz (.int .i64 0) (v:=.int .i64 0) rfl cE;have⟨H5,o5,e5,h5,bs,m5⟩:=h4.by0 .nilf Hu;have⟨H6,o6,s6,h6,bl,m6⟩:=h5.bz .nilf (v:=lM Sy [H2.au,d.au,J,u.au]) rfl SA;have⟨H7,o7,s7,h7,ba,m7⟩:=h6.bz .nilf (v:=lM UJ [H.au,J,b4]) rfl SA;have m13:=X.trans m3;have W:=((m4.trans m5).trans m6).trans m7;have m57:=(m5.trans m6).trans m7;have m67:=m6.trans m7;have m37:=m3.trans W;have m17:=m13.trans W;have Q:=C.trans m17;have⟨H8,s8,h8,V,U,f8⟩:=h7._g hn (bs.ky m67.bk) (v:=lM SY [d.au,H2.au,J,H5.au,H6.au]) rfl;have P:=bi.ky m57.bk;have nb:d.au≠u.au:=by have:=m4.f.au;have:=bi.2.1;omega
    have bi8:By H8 o7 d.au (.int .i64 ((0:Nat):Int)):=⟨by rw[f8.ah _ P.2.1 nb];exact P.1,qn P.2.1 f8.au,P.2.2⟩
    have⟨t1,t2⟩:=rt m37;have n8:=f8.au;have one':=hk.one;have ln:=(aT.sl t).len;have B:LD H8 o7 p k v x.rd d.au H.au J b4 H2.au u.au H5.au H6.au :=
     ⟨(bg.ky m17.bk).km U,(d1.ky Q.bk).km U,⟨kv,(d2.ky Q.bk).km U,(hk.ky Q.bk).km U,one'⟩,⟨rv,(br.ky W.bk).km U,U.sl t1 t2,λ e=>⟨qn (t2 e).1 n8,(t2 e).2⟩,one⟩,V,(bl.ky m7.bk).km U,ba.km U,by have:=h.lg;have⟨_,_,_,_,_,_,_,_,_,_,q,_⟩:=this;exact q.le⟩
    have S:=V.ld;simp only[lM,kh,F1]at s6 s7 s8 S;simp only[aa,bc,s3,s4,e5,y8,yx,s6,s7,s8,S];refine C3.q (JH h8 bi8 (xx _) B) λ _ H9 hp=>?_;simp only[aa,bc];refine Q.pre ?_;have⟨o9,g9,fv9,w1,w2,w3⟩:=hp;exact⟨o9,g9,fv9,w1,λ z e=>w2 z (qn e n8),(f8.mono λ z _(e:z=u.au)=>by rw[e,V.2.2];decide).trans w3 λ z e=>.inl e⟩
   .simp only[aa,bc];exact hp
 |look k gg rd i =>
  obtain⟨bi,bg,bp,bk,br,bs,bl,ba,rfl,r,hi,B⟩:=O;refine Mm (R:=λ _ H'=>eI H o p _ H') hb ?_;refine qob ?_;have⟨rv,t,D,F,r4⟩:=B.hr;obtain⟨y,hy⟩:∃y,rd[i]? = B1 y:=⟨rd[i],by simp[hi]⟩
  have hyd:rd.getD i ⟨0,0⟩=y:=by rw[zx,hy];rfl
  have ix:Op.aQ 2 [rv,.int .i64 (i:Int)]=B1 (.ptr (aF rv) (cZ 2 rv i)):=D.idx hy rfl .i64;have l1:Op.ae [.ptr (aF rv) (cZ 2 rv i+1)] H=B1 (.int .u64 y.v):=D.ae CM hy (j:=1) (by decide);have eo:x.on v ok (.look k gg rd i)=if v≠y.v then x.leave 2 else x.step k gg rd (i+1):=by show(if v≠(rd.getD i ⟨0,0⟩).v then _ else _)=_;rw[hyd]
  rw[eo]
  by_cases q:v=y.v
  .have wj:aj .i64 ((i:Int)+1)=((i+1:Nat):Int):=by have:=B.hn;rw[jj (by omega) (by omega)];omega
   have⟨H1,s1,s,d1,C,I⟩:=h._g hn r (v:=.int .i64 ((i+1:Nat):Int)) rfl;have nb:bs≠bi:=λ e=>by
    have a1:=B.hs.ld;have a2:=r.ld;rw[e,a2]at a1;injection a1 with a1;cases a1
   have ds:By H1 o bs _:=⟨by rw[I.ah bs B.hs.2.1 nb];exact B.hs.1,qn B.hs.2.1 I.au,B.hs.2.2⟩
   have⟨kv,k1,k2,k3⟩:=B.hk;have va1:LD H1 o p k gg rd bi bg bp bk br bs bl ba:=⟨B.hg.km C,B.hp.km C,⟨kv,k1.km C,k2.km C,k3⟩,⟨rv,t.km C,C.sl D F,λ e=>⟨qn (F e).1 I.au,(F e).2⟩,r4⟩,ds,B.hl.km C,B.ha.km C,B.hn⟩
   simp only[aa,bc,M',t.ld,r.ld,ix,l1,xb q,wj,s1,ds.ld,lM,kh,F1];refine C3.q (JH s d1 hi va1) λ _ d hp=>?_;simp only[aa,bc];have⟨o2,g2,fv2,w1,w2,w3⟩:=hp;exact⟨o2,g2,fv2,w1,λ z e=>w2 z (qn e I.au),(I.mono λ z _(e:z=bi)=>by rw[e,r.2.2];decide).trans w3 λ z e=>.inl e⟩
  .simp only[aa,bc,M',t.ld,r.ld,ix,l1,q,B.hp.ld];refine C3.q (oU h 2) λ _ d hp=>?_;simp only[aa,bc];exact hp
 |again k gg =>
  obtain⟨bg,bp,bk,kv,rfl,r,A,G,hk⟩:=O;refine Mm (R:=λ _ H'=>eI H o p _ H') hb ?_;refine qoc ?_;unfold So.on
  by_cases q:v=gg
  .simp only[aa,bc,v_,r.ld,A.ld,xb q];refine C3.q (xV h gg) λ _ H1⟨s,I⟩=>?_;have c31:=G.ky (h.on I);obtain⟨N,a,c,rfl,K⟩:=Bw (M:=M) s (hk.ky (h.on I));simp only[aa,bc,c31.ld];refine C3.q K λ _ d hp=>?_;simp only[aa,bc];exact eI.step h I hp
  .simp only[aa,bc,v_,r.ld,A.ld,G.ld,q];refine C3.q (VW h hk) λ _ d hp=>?_;simp only[aa,bc];exact hp
 |xM a =>
  obtain⟨ha,E,Y,rfl,r,A⟩:=O;refine Mm (R:=λ _ H'=>eI H o p _ H') hb ?_;refine quz ?_;have⟨H1,o1,e1,s,J,C⟩:=h.bx (.int .u64 v) Zt;have d1:=r.ky C.bk;have d2:=A.ky C.bk;simp only[aa,bc,qu0,e1,d1.ld];refine C3.q (sH s 0 (n:=.nT a v) ⟨⟨ha,hv⟩,_,_,_,rfl,d1,d2,J⟩ rfl) λ _ d hp=>?_;simp only[aa,bc];exact C.pre hp
 |nT a w =>
  obtain⟨⟨ha,hw⟩,E,Y,J,rfl,r,A,G⟩:=O;refine Mm (R:=λ _ H'=>eI H o p _ H') hb ?_;refine qr5 ?_
  by_cases q:v=x.snap
  .have lw:=Yr (M:=M) h.lg a;have go:∀(l:List Pr){H1:ar}{o1:Nat->Nat},x.ah a w=B1 l->(dq x.rd a).getD w=w->dW H1 o1 p {x with rd:=l} g fv->pT H o H1 o1->Fr (λ z=>8<=o z) H H1 ->
    ∃H2,Op.store 1 [.ptr p 10,.int .u64 w] H1=B1 (.undef,H2)/\Op.ae [.ptr E 0] H1=B1 (.ptr p 0)/\Op.ae [.ptr J 0] H1=B1 (.int .u64 w)/\Op.ae [.ptr E 0] H2=B1 (.ptr p 0)/\ze M T2 [.ptr p 0,.int .u64 v] H2 λ _ d=>Op.ae [.ptr E 0] d=B1 (.ptr p 0)/\ze M Uy [.ptr p 0] d λ _ u=>eI H o p (x.on v ok (.nT a w)) u:=λ l{H1 o1}ek L s bk N=>by
    have⟨H2,s2,T,Z⟩:=s.put 10 (v:=.int .u64 w) (y:={x with rd:=l,value:=w}) rfl (by decide) rfl ⟨rfl,rfl,rfl,rfl⟩ hw;have d1:=r.ky bk;have d3:=G.ky bk;have e1:=d1.ky (s.on Z);refine⟨H2,s2,d1.ld,d3.ld,e1.ld,(xV T v).mono λ _ d⟨h3,f3⟩=>⟨(e1.ky (T.on f3)).ld,(DY h3).mono λ _ u⟨h4,f4⟩=>?_⟩⟩;have e:x.on v ok (.nT a w) = {({x with rd:=l,value:=w}:So).pI v with busy:=B2}:=by
     show(if v≠x.snap then _ else if(dq x.rd a).getD w≠w then _ else match x.ah a w with|none=>_|some l=>_)=_;rw[qy (λ e=>e q),qy (λ e=>e L),ek]
    rw[e];exact eI.after bk.own N (s.Fm ((Z.trans f3 λ z q=>.inl q).trans f4 λ z q=>.inl q) h4)
   have lv:∀{H1:ar}{o1:Nat->Nat},(dq x.rd a).getD w≠w\/(dq x.rd a).getD w=w/\x.ah a w=B5->dW H1 o1 p x g fv->pT H o H1 o1->Fr (λ z=>8<=o z) H H1->Op.ae [.ptr E 0] H1=B1 (.ptr p 0)/\ze M Ss [.ptr p 0,.int .i64 2] H1 λ _ u=>eI H o p (x.on v ok (.nT a w)) u:=λ{H1 o1}L s bk N=>by
    refine⟨(r.ky bk).ld,(oU s 2).mono λ _ u hp=>?_⟩;have e:x.on v ok (.nT a w)=x.leave 2:=by
     show(if v≠x.snap then _ else if(dq x.rd a).getD w≠w then _ else match x.ah a w with|none=>_|some l=>_)=_;rw[qy (λ e=>e q)];rcases L with L|⟨L,ek⟩
     .rw [xg L]
     .rw [qy (λ e=>e L),ek]
    rw[e];exact eI.after bk.own N hp
   have bk0:pT H o H o:=⟨⟨λ _ _ _=>rfl,λ _ _=>rfl,qm _⟩,λ _ _ _=>rfl⟩
   have rest:∀{e:AV}{H1:ar},(dq x.rd a).getD w=w->ML H o g x.rd a e (wH H o g x.rd x.wr H1) (wH H o g (if dq x.rd a=B5 then x.rd ++ [⟨a,w⟩]else x.rd) x.wr H1)->(e=.int .i64 70/\Op.ae [.ptr E 0] H1=B1 (.ptr p 0)/\ze M Ss [.ptr p 0,.int .i64 2] H1 λ _ u=>eI H o p (x.on v ok (.nT a w)) u)\/e=.int .i64 0 /\ ∃H2,Op.store 1 [.ptr p 10,.int .u64 w] H1=B1 (.undef,H2)/\Op.ae [.ptr E 0] H1=B1 (.ptr p 0)/\Op.ae [.ptr J 0] H1=B1 (.int .u64 w)/\Op.ae [.ptr E 0] H2=B1 (.ptr p 0)/\ze M T2 [.ptr p 0,.int .u64 v] H2 λ _ d=>Op.ae [.ptr E 0] d=B1 (.ptr p 0)/\ze M Uy [.ptr p 0] d λ _ u=>eI H o p (x.on v ok (.nT a w)) u:=λ L K=>by
    rcases K with⟨l1,l2,rfl,hp⟩|⟨l1,rfl,hp⟩
    .have ⟨o1,s,bk,N⟩:=h.log hp h.wu;exact .inl ⟨rfl,lv (.inr ⟨L,by unfold So.ah;rw[l1];simp only;rw[xg l2]⟩) s bk N⟩
    .have ⟨o1,s,bk,N⟩:=h.log hp h.wu;refine .inr ⟨rfl,go _ ?_ L s bk N⟩;unfold So.ah;cases hl:dq x.rd a with
     |some z=>simp only;rw[qy (by simp)]
     |none=>simp only;rw[qy λ e=>l1 ⟨hl,e⟩,xg trivial]
   cases hl:dq x.rd a with
   |some z =>
    rw[hl]at lw
    by_cases qz:z=w
    .subst qz;simp only[aa,bc,OH,av,r.ld,h.bm,xb q,A.ld,lw,G.ld,vp,vz];refine C3.q (JF h.lg ha z) λ e H1 K=>?_;rcases rest (by rw[hl];rfl) K with⟨rfl,t,D⟩|⟨rfl,H2,t,D,F,r4,r5⟩
     .have t7:¬(70:Int)=0:=by decide
      simp only[aa,bc,t7,t];refine C3.q D λ _ u hp=>?_;simp only[aa,bc];exact hp
     .simp only[aa,bc,OH,av,t,D,F,r4];refine C3.q r5 λ _ d⟨r6,r7⟩=>?_;simp only[aa,bc,r6];refine C3.q r7 λ _ u hp=>?_;simp only[aa,bc];exact hp
    .simp only[aa,bc,OH,av,r.ld,h.bm,xb q,A.ld,lw,G.ld,vp,vz,qz];refine C3.q (lv (.inl (by rw[hl];exact qz)) h bk0 (Fr.refl _)).2 λ _ u hp=>?_;simp only[aa,bc];exact hp
   |none =>
    rw[hl]at lw;simp only[aa,bc,OH,av,r.ld,h.bm,xb q,A.ld,lw,G.ld,Option.getD_none,N8];refine C3.q (JF h.lg ha w) λ e H1 K=>?_;rcases rest (by rw[hl];rfl) K with⟨rfl,t,D⟩|⟨rfl,H2,t,D,F,r4,r5⟩
    .have t7:¬(70:Int)=0:=by decide
     simp only[aa,bc,t7,t];refine C3.q D λ _ u hp=>?_;simp only[aa,bc];exact hp
    .simp only[aa,bc,OH,av,t,D,F,r4];refine C3.q r5 λ _ d⟨r6,r7⟩=>?_;simp only[aa,bc,r6];refine C3.q r7 λ _ u hp=>?_;simp only[aa,bc];exact hp
  .have e:x.on v ok (.nT a w)=x.validate (.kS a):=xg q;rw[e];simp only[aa,bc,OH,av,r.ld,h.bm,q];refine C3.q (VW h (k:=.kS a) ⟨ha,_,_,rfl,r,A⟩) λ _ d hp=>?_;simp only[aa,bc];exact hp
 |u9 =>
  obtain⟨E,rfl,r⟩:=O;refine u4 (R:=λ _ H'=>eI H o p _ H') hb ?_;refine qw4 ?_;unfold So.on;cases ok with
  |true =>
   have⟨H1,s1,s,I⟩:=h.put 12 (v:=.int .i64 (aj .i64 (x.points+1))) (y:={x with points:=aj .i64 (x.points+1)}) rfl (by decide) rfl ⟨rfl,rfl,rfl,rfl⟩ h.vu;have d1:=r.ky (h.on I);have⟨H2,s2,T,Z⟩:=s.put 8 (v:=.bool B4) (y:={x with points:=aj .i64 (x.points+1),aH:=B4}) rfl (by decide) rfl ⟨rfl,rfl,rfl,rfl⟩ h.vu;have e1:=d1.ky (s.on Z);simp only[aa,bc,U_,av,r.ld,h.bm,s1,d1.ld,s2,e1.ld,T.bm];refine C3.q (yO T.lg) λ lv d⟨t,D,F⟩=>?_;have one:aB lv=true:=Sl.one (Own.sl t);have X:Mk H2 o d (aO o H2.au 30):=⟨F,λ z q=>iQ q⟩
   have h3:=T.fr F (λ _ _ _ q=>q) X.ho;have e3:=e1.ky X.bk;have hr:x.wr≠[]->aF lv<d.au/\aO o H2.au 30 (aF lv)=30:=λ e=>by
    have on:=yG t e;exact⟨Own.lt t _ on,nC (D _ on)⟩
   simp only[aa,bc,e3.ld];refine C3.q (Ji h3 (aT.sl t) h.wu hr one) λ _ u hp=>?_;simp only[aa,bc];exact eI.step h (I.trans Z λ z q=>.inl q) (X.pre hp)
  |false =>
   simp only[aa,bc,U_,r.ld,zr];refine C3.q (VW h (k:=.take) rfl) λ _ d hp=>?_;simp only[aa,bc];exact hp
 |Gc k =>
  refine qu3 ?_;obtain⟨N,a,c,rfl,K⟩:=Bw (M:=M) h O;simp only[aa,bc,qu4,hb.ld];refine C3.q K λ _ d hp=>?_;simp only[aa,bc];exact hp
end
end Go.Am
namespace Go.Am
open Lang Go.Proofs
variable{M:ak}[MK M]
section
variable{H H1 H2 H':ar}{o o1 o2 o':Nat->Nat}{p g b f:Nat}{x y:So}{fv kv gv tv:AV}{v:Int}{ok:Bool}
def kT(h:dW H o p x g fv):∀K,C3 M B4 (.func qpx) [.ptr p 0] H K=K B4 (.bool B2) H:=by
 refine dA (q13 ?_);simp only[aa,bc,q14,av,h.bm]
def ij(h:dW H o p x g fv):∀K,C3 M B4 (.func i') [.ptr p 0] H K=K B4 (.bool x.busy) H:=by
 refine dA (q1q ?_);simp only[aa,bc,q1r,av,kT h,h.bm]
def JT(h:dW H o p x g fv):∀K,C3 M B4 (.func qli) [.ptr p 0] H K=K B4 (.bool x.aH) H:=by
 refine dA (quv ?_);simp only[aa,bc,quw,av,kT h,h.bm]
def CR(h:dW H o p x g fv):∀K,C3 M B4 (.func _A) [.ptr p 0] H K=K B4 (.int .u64 x.value) H:=by
 refine dA (qyz ?_);simp only[aa,bc,qy0,av,kT h,h.bm]
def rz(h:dW H o p x g fv):∀K,C3 M B4 (.func _l) [.ptr p 0] H K=K B4 (.int .i64 x.ended) H:=by
 refine dA (qyw ?_);simp only[aa,bc,qyx,av,kT h,h.bm]
def eT(h:dW H o p x g fv):∀K,C3 M B4 (.func qme) [.ptr p 0] H K=K B4 (.int .i64 x.points) H:=by
 refine dA (qwu ?_);simp only[aa,bc,qwv,av,kT h,h.bm]
def nq(h:dW H o p x g fv):∀K,C3 M B4 (.func qnp) [.ptr p 0] H K=K B4 (.int .i64 (if x.ready=B4 then 0 else 80)) H:=by
 refine dA (qzd ?_);unfold So.ready;cases q:x.busy<;>cases r:x.live<;>simp only[aa,bc,qze,av,kT h,h.bm,q,r,zr,Bool.true_and,Bool.false_and]
def LG(h:dW H o p x g fv)(a:Int):∀K,C3 M B4 (.func qlm) [.ptr p 0,.int .i64 a] H K=K B4 (.int .i64 (if x.ready=B4 then if 8<=a then 0 else 2 else 80)) H:=by
 refine dA (qu5 ?_);have d:¬(80:Int)=0:=by decide
 cases q:x.ready
 .simp only[aa,bc,U2,nq h,q,zr,d]
 .by_cases r:8<=a
  .have c:¬a<8:=Gy.2 r;simp only[aa,bc,U2,nq h,q,c,xb r]
  .have c:a<8:=Int.not_le.1 r;simp only[aa,bc,U2,nq h,q,xb c,r]
def OI:[AV.int .i64 0,.int .i64 0,.int .u64 0,.int .u64 0]=iU ⟨0,0,0,0⟩:=rfl
def Rb(h:dW H o p x g fv):ze M qpu [.ptr p 0] H λ w H'=>(∃q,w=.tuple [.agg (iU x.want),.bool q])/\Fr Em H H':=by
 refine q1v ?_;obtain⟨H1,e1,i,-,-⟩:=cq H (OR (iU ⟨0,0,0,0⟩) DT);have d:At H1 H.au DT _:=e1▸At.new H _ _;have c:=h.fr i (λ _ _ _ q=>q) λ _ _=>rfl;have l4:Op.aq 4 [.ptr p 1] H1=B1 (.agg (iU x.want)):=c.row.eH (k:=1) (n:=4) (by simp[dK,iU]);have s1:=d.fG (k:=0) (n:=4) (v:=.agg (iU x.want)) rfl (by simp[iU]) rfl;have e2:(iU ⟨0,0,0,0⟩).take 0++AV.cells (.agg (iU x.want))++(iU ⟨0,0,0,0⟩).drop (0+4)=iU x.want:=rfl;rw[e2]at s1;obtain⟨H2,a⟩:∃X,X=H1.set H.au (OR (iU x.want) DT):=⟨_,rfl⟩
 rw[<-a]at s1;have j:Fr Em H H2:=a▸i.set (.inr (qm _)) _;have m:At H2 H.au DT (iU x.want):=a▸d.set _;have r:=h.fr j (λ _ _ _ q=>q) λ _ _=>rfl;have t:Op.aq 4 [.ptr H.au 0] H2=B1 (.agg (iU x.want)):=m.eH (k:=0) (n:=4) (by simp[iU]);obtain⟨q,s⟩:∃q:Bool,∀H,Op.eq .func B4 [fv,.nilf] H=B1 (.bool q):=by
  have:=h.nx;cases e:x.au with
  |none=>rw[e]at this;rw[show fv=_ from this];exact⟨B2,λ _=>rfl⟩
  |some n=>rw[e]at this;obtain⟨b,tv,rfl,-⟩:=this;exact⟨B4,λ _=>rfl⟩
 simp only[aa,bc,q1w,av,OI,<-e1,kT c,l4,c.bm,r.bm,s,s1,t];exact⟨⟨q,rfl⟩,j⟩
def QC(h:dW H o p x g fv)(m:fH v):ze M d_ [.ptr p 0,.int .u64 v,.bool ok] H λ _ H'=>eI H o p (x.fQ v ok) H':=by
 refine q1s ?_;unfold So.fQ;have nx:=h.nx;cases e:x.au with
 |none =>
  rw[e]at nx;have nx:fv=.nilf:=nx;subst nx;have q:∀H,Op.eq .func B2 [.nilf,.nilf] H=B1 (.bool B4):=λ _=>rfl;simp only[aa,bc,qp4,av,kT h,h.bm,q];exact h.same
 |some n =>
  rw[e]at nx;obtain⟨b,tv,rfl,hb,j⟩:=nx;have q:∀f l H,Op.eq .func B2 [.fn f [] l,.nilf] H=B1 (.bool B2):=λ _ _ _=>rfl;have c:Op.build (iU ⟨0,0,0,0⟩) [] []=B1 (.agg (iU ⟨0,0,0,0⟩)):=rfl;have s1:=h.row.fG (k:=1) (n:=4) (v:=.agg (iU ⟨0,0,0,0⟩)) rfl (by simp[dK,iU]) rfl;have e2:(dK x g (lM (Ge n) [b])).take 1++AV.cells (.agg (iU ⟨0,0,0,0⟩))++(dK x g (lM (Ge n) [b])).drop (1+4)=dK {x with want:=⟨0,0,0,0⟩} g (lM (Ge n) [b]):=rfl;rw[e2]at s1;obtain⟨H1,e1⟩:∃X,X=H.set p (OR (dK {x with want:=⟨0,0,0,0⟩} g (lM (Ge n) [b])) Eg):=⟨_,rfl⟩
  rw[<-e1]at s1;have a:At H1 p Eg _:=e1▸h.row.set _;have s2:=a.st 5 (v:=.nilf) rfl (by simp[dK,iU]);have d:(dK {x with want:=⟨0,0,0,0⟩} g (lM (Ge n) [b])).set 5 .nilf=dK {x with want:=⟨0,0,0,0⟩,au:=B5} g .nilf:=rfl;rw[d]at s2;have f:Fr (On p) H (H1.set p (OR (dK {x with want:=⟨0,0,0,0⟩,au:=B5} g .nilf) Eg)):=(e1▸b9 H p _:Fr (On p) H H1).trans (b9 ..) λ z q=>.inl q;have bk:=h.on f;have i:dW (H1.set p (OR (dK {x with want:=⟨0,0,0,0⟩,au:=B5} g .nilf) Eg)) o p {x with want:=⟨0,0,0,0⟩,au:=B5} g .nilf:=⟨a.set _,h.lg.fr f (λ z _ w(e:z=p)=>by rw[e,h.op]at w;omega) λ _ _=>rfl,rfl,h.op,rfl,h.vu,h.wu,bJ⟩
  simp only[aa,bc,qp4,av,kT h,h.bm,q,OI,c,s1,s2,lM,kh,F1];refine C3.q (son i rfl m (hb.ky bk) (j.ky bk)) λ _ r hp=>?_;simp only[aa,bc];exact eI.step h f hp
def Nd(h:dW H o p x g fv):ze M qnj [.ptr p 0] H λ _ H'=>eI H o p x.begin H':=by
 refine qyv ?_;unfold So.begin
 by_cases q:x.busy=B4\/x.live=B4
 .rw [xg q];cases b:x.busy
  .have l:x.live=true:=q.resolve_left (by rw[b];simp);simp only[aa,bc,YK,av,kT h,h.bm,b,l];exact h.same
  .simp only[aa,bc,YK,av,kT h,h.bm,b];exact h.same
 .rw [qy q];have b:x.busy=false:=by cases r:x.busy;rfl;exact(q (.inl r)).elim
  have l:x.live=false:=by cases r:x.live;rfl;exact(q (.inr r)).elim
  simp only[aa,bc,YK,av,kT h,h.bm,b,l];refine C3.q (KG h.lg) λ _ H1 hp=>?_;have⟨o1,a,bk,i⟩:=h.log hp (λ y w=>by cases w);have⟨H2,s2,j,c⟩:=a.put 10 (v:=.int .u64 0) (y:={x with rd:=[],wr:=[],value:=0}) rfl (by decide) rfl ⟨rfl,rfl,rfl,rfl⟩ bJ;have⟨A,t,m,d⟩:=j.put 11 (v:=.int .i64 0) (y:={x with rd:=[],wr:=[],value:=0,ended:=0}) rfl (by decide) rfl ⟨rfl,rfl,rfl,rfl⟩ bJ;have⟨B,u,s,e⟩:=m.put 6 (v:=.bool B4) (y:={x with rd:=[],wr:=[],value:=0,ended:=0,busy:=B4}) rfl (by decide) rfl ⟨rfl,rfl,rfl,rfl⟩ bJ;simp only[aa,bc,av,s2,t,u];refine C3.q (xS s 1 (k:=.wait) rfl) λ _ C hp=>?_;simp only[aa,bc];simp only[l]at hp;exact eI.after bk.own i (eI.step a ((c.trans d λ z q=>.inl q).trans e λ z q=>.inl q) hp)
def xke(h:dW H o p x g fv)(a:Int):ze M vo [.ptr p 0,.int .i64 a] H λ _ H'=>eI H o p (x.load a) H':=by
 refine q1t ?_;unfold So.load;have A:¬(80:Int)=0:=by decide
 have u:¬(2:Int)=0:=by decide
 by_cases q:x.ready=B4/\8<=a
 .rw [xg q];have lk:=Q8 (M:=M) h.lg a;cases e:dq x.wr a with
  |some z =>
   rw[e]at lk;have s:fH z:=by
    rw[Jq]at e;obtain⟨i,m,rfl⟩:=xt.1 e;obtain⟨c,y,j,-⟩:=pD m;rw[zx,j];exact h.wu y (zh j)
   have⟨H1,s1,c,d⟩:=h.put 10 (v:=.int .u64 z) (y:={x with value:=z}) rfl (by decide) rfl ⟨rfl,rfl,rfl,rfl⟩ s;simp only[aa,bc,UK,av,LG h,q.1,xb q.2,h.bm,lk,vp,vz,s1];exact h.Fm d c
  |none =>
   rw[e]at lk;have⟨H1,s1,c,d⟩:=h.put 6 (v:=.bool B4) (y:={x with busy:=B4}) rfl (by decide) rfl ⟨rfl,rfl,rfl,rfl⟩ h.vu;simp only[aa,bc,UK,av,LG h,q.1,xb q.2,h.bm,lk,Option.getD_none,N8,s1];refine C3.q (Dd c (a:=a) (by omega)) λ _ B hp=>?_;simp only[aa,bc];exact eI.step h d hp
 .rw [qy q]
  by_cases r:x.ready=B4
  .have t:¬8<=a:=λ w=>q ⟨r,w⟩;simp only[aa,bc,UK,LG h,r,t,u];exact h.same
  .simp only[aa,bc,UK,LG h,qy r,A];exact h.same
def xgp(h:dW H o p x g fv)(a:Int)(j:fH v):ze M qnl [.ptr p 0,.int .i64 a,.int .u64 v] H λ _ H'=>eI H o p (x.store a v) H':=by
 refine qyy ?_;unfold So.store;have B:¬(80:Int)=0:=by decide
 have z:¬(2:Int)=0:=by decide
 have A:¬(70:Int)=0:=by decide
 by_cases q:x.ready=B4/\8<=a
 .rw [xg q];simp only[aa,bc,QE,av,LG h,q.1,xb q.2,h.bm];refine C3.q (MG h.lg (a:=a) (by omega) v) λ e H1 t=>?_;rcases t with⟨l1,l2,rfl,hp⟩|⟨l1,rfl,hp⟩
  .rw [xg ⟨l1,l2⟩];have⟨o1,c,bk,d⟩:=h.log hp h.wu;have⟨H2,s2,s,m⟩:=c.put 6 (v:=.bool B4) (y:={x with busy:=B4}) rfl (by decide) rfl ⟨rfl,rfl,rfl,rfl⟩ h.vu;simp only[aa,bc,av,A,s2];refine C3.q (oU s 2) λ _ C hp=>?_;simp only[aa,bc,QE];exact eI.after bk.own d (eI.step c m hp)
  .rw [qy l1];have hu:∀y∈fU x.wr a v,fH y.v:=λ y w=>by
    cases e:iz x.wr a with
    |none=>rw[Tz e]at w;exact(jo.1 w).elim (h.wu y) λ w=>by rw[jz.1 w];exact j
    |some i=>rw[Ua e]at w;exact(Gg w).elim (h.wu y) λ w=>by rw[w];exact j
   have⟨o1,c,bk,d⟩:=h.log hp hu;simp only[aa,bc,QE];exact⟨o1,_,_,c,bk.own,d⟩
 .rw [qy q]
  by_cases r:x.ready=B4
  .have u:¬8<=a:=λ w=>q ⟨r,w⟩;simp only[aa,bc,QE,LG h,r,u,z];exact h.same
  .simp only[aa,bc,QE,LG h,qy r,B];exact h.same
def xec(h:dW H o p x g fv):ze M y0 [.ptr p 0] H λ _ H'=>eI H o p x.bF H':=by
 refine qwt ?_;unfold So.bF;have s:¬(80:Int)=0:=by decide
 by_cases r:x.ready=B4
 .rw [xg r];have⟨H1,s1,a,e⟩:=h.put 6 (v:=.bool B4) (y:={x with busy:=B4}) rfl (by decide) rfl ⟨rfl,rfl,rfl,rfl⟩ h.vu;simp only[aa,bc,ZG,av,nq h,r,s1,a.bm];refine C3.q (yO a.lg) λ lv H2⟨m,t,d⟩=>?_;have ln:=(aT.sl m).len;have i:=a.fr d (λ _ _ _ q=>q) λ _ _=>rfl
  by_cases q:x.wr.length=0
  .have c:((x.wr.length:Nat):Int)=0:=by omega
   rw[xg q];simp only[aa,bc,ln,xb c];refine C3.q (oU i 1) λ _ j hp=>?_;simp only[aa,bc];exact eI.step h e (eI.pre d (λ _ _=>rfl) hp)
  .have c:¬((x.wr.length:Nat):Int)=0:=by omega
   rw[qy q];simp only[aa,bc,ZG,ln,c];refine C3.q (JS i) λ _ j hp=>?_;simp only[aa,bc];exact eI.step h e (eI.pre d (λ _ _=>rfl) hp)
 .rw [qy r];simp only[aa,bc,ZG,nq h,qy r,s];exact h.same
def xkh(h:dW H o p x g fv):ze M qpt [.ptr p 0] H λ _ H'=>eI H o p x.CZ H':=by
 refine q1u ?_;unfold So.CZ;have d:¬(80:Int)=0:=by decide
 by_cases r:x.ready=B4
 .rw [xg r];have⟨H1,s1,c,a⟩:=h.put 6 (v:=.bool B4) (y:={x with busy:=B4}) rfl (by decide) rfl ⟨rfl,rfl,rfl,rfl⟩ h.vu;simp only[aa,bc,WW,av,nq h,r,s1];refine C3.q (oU c 3) λ _ e hp=>?_;simp only[aa,bc,WW];exact eI.step h a hp
 .rw [qy r];simp only[aa,bc,WW,nq h,qy r,d];exact h.same
end
end Go.Am
namespace Go.Am
open Lang Go.Proofs
variable{M:ak}[MK M]
def cJ(c:Co)(f l sp:Nat)(cv rv ov pv:AV):List AV:=[.int .i64 c.id,.int .i64 c.lines,cv,.ptr f 0,.ptr l 0,.ptr sp 0,.int .i64 c.ph,.int .i64 c.want.kind,.int .i64 c.want.au,.int .i64 c.want.pA,.int .u64 c.want.value,.int .u64 c.want.addr,.int .u64 c.seq,rv,.int .i64 c.done,.bool c.wrote,.bool c.held,.bool c.said,.int .i64 c.blocks,.int .i64 c.px,.bool c.halted,.bool c.yR,ov,pv]
def tJ(ps:List Pr):Prop:=∀i x,ps[i]? = B1 x->iz ps x.a=B1 i
structure Ja(c:Co)(k:Nat):Prop where
 id:0<=c.id
 l2:2<=c.lines
 l64:c.lines<=64
 cl:c.code.length<=1024
 ru:∀y∈c.aS,fH y.v
 rl:c.aS.length<=k
 d0:0<=c.done
 wu:fH c.want.addr
 M0:tJ c.aS
structure dX(H:ar)(o:Nat->Nat)(p f l sp:Nat)(cv rv ov pv:AV)(c:Co)(os:List fh)(k:Nat):Prop where
 row:At H p HU (cJ c f l sp cv rv ov pv)
 fi:qN H o f c.fi
 la:mf H l c.la
 so:∃g fv,dW H o sp c.so g fv
 cd:bR gh 5 H cv c.code
 rd:Bl H rv c.aS
 ou:aT fh.enc jv 9 H ov os
 op:o p=1
 of:o f=2
 ol:o l=3
 qJ:∀z,aM rv z->o z=5
 rq:∀z,aM ov z->o z=6
 mN:c.code≠[]->aF cv<H.au/\o (aF cv)=7
 FL:aB pv=B4
 w:Ja c k
section
variable{H H':ar}{o o':Nat->Nat}{p f l sp k k':Nat}{cv rv ov pv:AV}{c d:Co}{os os':List fh}
def Jd{α:Type}{enc:α->List AV}{size:Nat}{W:Nat->Prop}{lv:AV}{xs:List α}(h:bR enc size H lv xs)(a:Fr W H H')(hw:xs≠[] -> ¬W (aF lv)):bR enc size H' lv xs:=by
 cases xs with
 |nil=>exact Sl.fr h a (.inl rfl)
 |cons y l=>exact Sl.fr h a (.inr (hw (by simp)))
def dX.M_{W:Nat->Prop}(h:dX H o p f l sp cv rv ov pv c os k)(a:Fr W H H')(hw:∀z,z<H.au->o z≠0->o z≠4 -> ¬W z)(ho:∀z,z<H.au->o' z=o z)(hk:k<=k'):dX H' o' p f l sp cv rv ov pv c os k':=by
 have⟨g,fv,hs⟩:=h.so;have r:=λ z(q:aM rv z)=>Own.lt h.rd z q;have u:=λ z(q:aM ov z)=>Own.lt h.ou z q;exact⟨h.row.fr a (hw p h.row.2 (by rw[h.op];decide) (by rw[h.op];decide)),h.fi.fr a h.of (λ z q e=>hw z q (by omega) (by omega)) ho,h.la.fr a (hw l h.la.at'.2 (by rw[h.ol];decide) (by rw[h.ol];decide)),⟨g,fv,hs.fr a (λ z q e=>hw z q (by omega) (by omega)) ho⟩,
  Jd h.cd a λ e=>hw _ (h.mN e).1 (by rw[(h.mN e).2];decide) (by rw[(h.mN e).2];decide),Own.fr h.rd a λ z q=>hw z (r z q) (by rw[h.qJ z q];decide) (by rw[h.qJ z q];decide),Own.fr h.ou a λ z q=>hw z (u z q) (by rw[h.rq z q];decide) (by rw[h.rq z q];decide),
  (ho p h.row.2).trans h.op,(ho f (by obtain⟨pv,q,-⟩:=h.fi.at';exact q.2)).trans h.of,(ho l h.la.at'.2).trans h.ol,λ z q=>(ho z (r z q)).trans (h.qJ z q),λ z q=>(ho z (u z q)).trans (h.rq z q),λ e=>⟨qn (h.mN e).1 a.au,(ho _ (h.mN e).1).trans (h.mN e).2⟩,h.FL,
  {h.w with rl:=x9 h.w.rl hk}⟩
def dX.fr{W:Nat->Prop}(h:dX H o p f l sp cv rv ov pv c os k)(a:Fr W H H')(hw:∀z,z<H.au->o z≠0 -> ¬W z)(ho:∀z,z<H.au->o' z=o z)(hk:k<=k'):dX H' o' p f l sp cv rv ov pv c os k':=h.M_ a (λ z q r _=>hw z q r) ho hk
def hC(H:ar)(o:Nat->Nat)(p f l sp:Nat)(cv pv:AV)(c:Co)(os:List fh)(k:Nat)(H':ar):Prop:=∃o' rv ov,dX H' o' p f l sp cv rv ov pv c os k/\(∀z,z<H.au->o' z=o z)/\Fr (λ z=>o z≠0) H H'
def dX.bm(h:dX H o p f l sp cv rv ov pv c os k):Op.ae [.ptr p 0] H=B1 (.int .i64 c.id)/\Op.ae [.ptr p 1] H=B1 (.int .i64 c.lines)/\Op.ae [.ptr p 2] H=B1 cv/\Op.ae [.ptr p 3] H=B1 (.ptr f 0)/\Op.ae [.ptr p 4] H=B1 (.ptr l 0)/\Op.ae [.ptr p 5] H=B1 (.ptr sp 0)/\Op.ae [.ptr p 6] H=B1 (.int .i64 c.ph)/\Op.ae [.ptr p 7] H=B1 (.int .i64 c.want.kind)/\Op.ae [.ptr p 12] H=B1 (.int .u64 c.seq) /\
 Op.ae [.ptr p 13] H=B1 rv/\Op.ae [.ptr p 14] H=B1 (.int .i64 c.done)/\Op.ae [.ptr p 15] H=B1 (.bool c.wrote)/\Op.ae [.ptr p 16] H=B1 (.bool c.held)/\Op.ae [.ptr p 17] H=B1 (.bool c.said)/\Op.ae [.ptr p 18] H=B1 (.int .i64 c.blocks)/\Op.ae [.ptr p 19] H=B1 (.int .i64 c.px)/\Op.ae [.ptr p 20] H=B1 (.bool c.halted)/\Op.ae [.ptr p 21] H=B1 (.bool c.yR)/\Op.ae [.ptr p 22] H=B1 ov/\Op.ae [.ptr p 23] H=B1 pv/\Op.aq 5 [.ptr p 7] H=B1 (.agg (bj c.want)) :=
 ⟨h.row.ld 0,h.row.ld 1,h.row.ld 2,h.row.ld 3,h.row.ld 4,h.row.ld 5,h.row.ld 6,h.row.ld 7,h.row.ld 12,h.row.ld 13,h.row.ld 14,h.row.ld 15,h.row.ld 16,h.row.ld 17,h.row.ld 18,h.row.ld 19,h.row.ld 20,h.row.ld 21,h.row.ld 22,h.row.ld 23,h.row.eH (k:=7) (n:=5) (by simp[cJ])⟩
def dX.np(h:dX H o p f l sp cv rv ov pv c os k):∀z,o z≠1 -> ¬On p z:=λ z e(w:z=p)=>e (by rw[w];exact h.op)
def dX.cell(h:dX H o p f l sp cv rv ov pv c os k){rv' ov' pv':AV}(hs:d.fi=c.fi/\d.la=c.la/\d.so=c.so/\d.code=c.code)(hr:Bl H rv' d.aS /\ ∀z,aM rv' z->o z=5)(hu:aT fh.enc jv 9 H ov' os' /\ ∀z,aM ov' z->o z=6)(hp:aB pv'=B4)(hw:Ja d k') :
 dX (H.set p (OR (cJ d f l sp cv rv' ov' pv') HU)) o p f l sp cv rv' ov' pv' d os' k'/\Fr (On p) H (H.set p (OR (cJ d f l sp cv rv' ov' pv') HU)):=by
 have a:Fr (On p) H (H.set p (OR (cJ d f l sp cv rv' ov' pv') HU)):=b9 ..;have⟨g,fv,b⟩:=h.so;have⟨e1,e2,j,i⟩:=hs;refine⟨⟨h.row.set _,?_,?_,⟨g,fv,?_⟩,?_,Own.fr hr.1 a λ z q=>h.np z (by rw[hr.2 z q];decide),Own.fr hu.1 a λ z q=>h.np z (by rw[hu.2 z q];decide),h.op,h.of,h.ol,hr.2,hu.2,?_,hp,hw⟩,a⟩
 .rw [e1];exact h.fi.fr a h.of (λ z q e=>h.np z (by omega)) λ _ _=>rfl
 .rw [e2];exact h.la.fr a (h.np l (by rw[h.ol];decide))
 .rw [j];exact b.fr a (λ z q e=>h.np z (by omega)) λ _ _=>rfl
 .rw [i];exact Jd h.cd a λ e=>h.np _ (by rw[(h.mN e).2];decide)
 .rw [i];exact h.mN
theorem dX.put(h:dX H o p f l sp cv rv ov pv c os k)(i:Nat){v:AV}(d:Co)(a:aB v=B4)(b:i<24)(he:(cJ c f l sp cv rv ov pv).set i v=cJ d f l sp cv rv ov pv)(hs:d.fi=c.fi/\d.la=c.la/\d.so=c.so/\d.code=c.code)(hr:d.aS=c.aS)(hw:Ja d k) :
 ∃H',Op.store 1 [.ptr p i,v] H=B1 (.undef,H')/\dX H' o p f l sp cv rv ov pv d os k/\Fr (On p) H H':=by
 have⟨e,g⟩:=h.cell (d:=d) hs (rv':=rv) ⟨by rw[hr];exact h.rd,h.qJ⟩ ⟨h.ou,h.rq⟩ h.FL hw;exact⟨_,by rw[h.row.st i a b,he],e,g⟩
def dX.Fm(h:dX H o p f l sp cv rv ov pv c os k){H1:ar}(a:Fr (On p) H H1){e b:AV}(g:dX H1 o p f l sp cv e b pv d os' k'):hC H o p f l sp cv pv d os' k' H1:=⟨o,e,b,g,λ _ _=>rfl,a.mono λ z _(q:z=p)=>by rw[q,h.op];decide⟩
def dX.GJ(h:dX H o p f l sp cv rv ov pv c os k){y:Fi}(hp:L9 H o f y H'):hC H o p f l sp cv pv {c with fi:=y} os k H':=by
 have⟨i,a⟩:=hp;have ho:∀z,z<H.au->aO o H.au 2 z=o z:=λ z q=>iQ q;have b:∀z,o z≠2 -> ¬On f z:=λ z e(w:z=f)=>e (by rw[w];exact h.of);have⟨g,fv,hs⟩:=h.so;have r:=λ z(q:aM rv z)=>Own.lt h.rd z q;have u:=λ z(q:aM ov z)=>Own.lt h.ou z q;refine⟨aO o H.au 2,rv,ov,⟨h.row.fr a (b p (by rw[h.op];decide)),i,h.la.fr a (b l (by rw[h.ol];decide)),⟨g,fv,hs.fr a (λ z q e=>b z (by omega)) ho⟩,Jd h.cd a λ e=>b _ (by rw[(h.mN e).2];decide),Own.fr h.rd a λ z q=>b z (by rw[h.qJ z q];decide),Own.fr h.ou a λ z q=>b z (by rw[h.rq z q];decide),
  (ho p h.row.2).trans h.op,(ho f (by obtain⟨pv,q,-⟩:=h.fi.at';exact q.2)).trans h.of,(ho l h.la.at'.2).trans h.ol,λ z q=>(ho z (r z q)).trans (h.qJ z q),λ z q=>(ho z (u z q)).trans (h.rq z q),λ e=>⟨qn (h.mN e).1 a.au,(ho _ (h.mN e).1).trans (h.mN e).2⟩,h.FL,{h.w with}⟩,ho,a.mono λ z _(q:z=f)=>by rw[q,h.of];decide⟩
def dX.Yb(h:dX H o p f l sp cv rv ov pv c os k){y:La}(hp:Rd H l y H'):hC H o p f l sp cv pv {c with la:=y} os k H':=by
 have⟨b,a⟩:=hp;have nl:∀z,o z≠3 -> ¬On l z:=λ z e(w:z=l)=>e (by rw[w];exact h.ol);have⟨g,fv,hs⟩:=h.so;exact⟨o,rv,ov,⟨h.row.fr a (nl p (by rw[h.op];decide)),h.fi.fr a h.of (λ z q e=>nl z (by omega)) λ _ _=>rfl,b,⟨g,fv,hs.fr a (λ z q e=>nl z (by omega)) λ _ _=>rfl⟩,Jd h.cd a λ e=>nl _ (by rw[(h.mN e).2];decide),Own.fr h.rd a λ z q=>nl z (by rw[h.qJ z q];decide),Own.fr h.ou a λ z q=>nl z (by rw[h.rq z q];decide),
  h.op,h.of,h.ol,h.qJ,h.rq,λ e=>⟨qn (h.mN e).1 a.au,(h.mN e).2⟩,h.FL,{h.w with}⟩,λ _ _=>rfl,a.mono λ z _(q:z=l)=>by rw[q,h.ol];decide⟩
def dX.NT(h:dX H o p f l sp cv rv ov pv c os k){y:So}(hp:eI H o sp y H'):hC H o p f l sp cv pv {c with so:=y} os k H':=by
 have⟨o',g,fv,b,ho,a⟩:=hp;have nl:∀z,o z<8 -> ¬(8<=o z):=λ z e w=>by omega
 have r:=λ z(q:aM rv z)=>Own.lt h.rd z q;have u:=λ z(q:aM ov z)=>Own.lt h.ou z q;exact⟨o',rv,ov,⟨h.row.fr a (nl p (by rw[h.op];decide)),h.fi.fr a h.of (λ z q e=>nl z (by omega)) ho,h.la.fr a (nl l (by rw[h.ol];decide)),⟨g,fv,b⟩,Jd h.cd a λ e=>nl _ (by rw[(h.mN e).2];decide),Own.fr h.rd a λ z q=>nl z (by rw[h.qJ z q];decide),Own.fr h.ou a λ z q=>nl z (by rw[h.rq z q];decide),
  (ho p h.row.2).trans h.op,(ho f (by obtain⟨pv,q,-⟩:=h.fi.at';exact q.2)).trans h.of,(ho l h.la.at'.2).trans h.ol,λ z q=>(ho z (r z q)).trans (h.qJ z q),λ z q=>(ho z (u z q)).trans (h.rq z q),λ e=>⟨qn (h.mN e).1 a.au,(ho _ (h.mN e).1).trans (h.mN e).2⟩,h.FL,{h.w with}⟩,ho,a.mono λ z _(q:8<=o z)=>by omega⟩
def Ja.mono(h:Ja c k)(hk:k<=k'):Ja c k':={h with rl:=x9 h.rl hk}
end
end Go.Am
namespace Go.Am
open Lang Go.Proofs
variable{M:ak}[MK M]
section
variable{H H1 H':ar}{o o1:Nat->Nat}{p f l sp k k':Nat}{cv rv ov pv:AV}{c d:Co}{os os':List fh}{s t:CS}
def dX.em(h:dX H o p f l sp cv rv ov pv c os k)(a:Fr Em H H'):dX H' o p f l sp cv rv ov pv c os k:=h.fr a (λ _ _ _ q=>q) (λ _ _=>rfl) (qm _)
def hC.then(a:hC H o p f l sp cv pv c os k H1)(b:∀o1 g e,dX H1 o1 p f l sp cv g e pv c os k->hC H1 o1 p f l sp cv pv d os' k' H'):hC H o p f l sp cv pv d os' k' H':=by
 have⟨o1,g,e,n,j,m⟩:=a;have⟨o2,i,h,r,u,v⟩:=b _ _ _ n;refine⟨o2,i,h,r,λ z q=>(u z (qn q m.au)).trans (j z q),m.trans v λ z q=>?_⟩;rcases za z H.au with w|w
 .exact .inl (by rw[<-j z w];exact q)
 .exact .inr w
theorem hC.pre(a:Fr Em H H1)(b:hC H1 o p f l sp cv pv d os' k' H'):hC H o p f l sp cv pv d os' k' H':=by
 have⟨o2,g,e,h,i,j⟩:=b;exact⟨o2,g,e,h,λ z q=>i z (qn q a.au),(a.mono λ _ _ q=>q.elim).trans j λ z q=>.inl q⟩
def e_(x:fh):x.enc.length=9:=rfl
def MF:fh:=⟨0,0,0,0,0,0,0,0,0⟩
def Wp:[AV.int .i64 0,.int .i64 0,.int .i64 0,.int .i64 0,.int .i64 0,.int .i64 0,.int .i64 0,.int .u64 0,.int .i64 0]=MF.enc:=rfl
def DC(h:dX H o p f l sp cv rv ov pv c os k):∀K,C3 M B4 (.func Xk) [.ptr p 0] H K=K B4 (.bool B2) H:=by
 refine dA (_c ?_);simp only[aa,bc,qpz,av,h.bm]
def FW(h:dX H o p f l sp cv rv ov pv s.c s.o k)(hl:s.o.length<=1000)(kd a v cd:Int):ze M Zv [.ptr p 0,.int .i64 kd,.int .i64 a,.int .u64 v,.int .i64 cd] H λ _ H'=>hC H o p f l sp cv pv (s.tell kd a v cd).c (s.tell kd a v cd).o k H':=by
 refine q0j ?_;obtain⟨H1,e1,f1,-,-⟩:=cq H (OR MF.enc jv);have O:At H1 H.au jv _:=e1▸At.new H _ _;obtain⟨e,he⟩:∃e:fh,e=⟨kd,0,s.c.id,-1,0,0,a,v,cd⟩:=⟨_,rfl⟩
 have R:Op.build MF.enc [(0,1),(2,1),(3,1),(6,1),(7,1),(8,1)] [.int .i64 kd,.int .i64 s.c.id,.int .i64 (-1),.int .i64 a,.int .u64 v,.int .i64 cd]=B1 (.agg e.enc):=by rw[he];rfl
 have s1:=O.fG (k:=0) (n:=9) (v:=.agg e.enc) rfl (by simp[fh.len]) rfl;have C:MF.enc.take 0++AV.cells (.agg e.enc)++MF.enc.drop (0+9)=e.enc:=by rw[zt];rfl
 rw[C]at s1;obtain⟨G,e2⟩:∃X,X=H1.set H.au (OR e.enc jv):=⟨_,rfl⟩
 rw[<-e2]at s1;have I:At G H.au jv e.enc:=e2▸O.set _;have J:Fr Em H G:=e2▸f1.set (.inr (qm _)) _;have B:=h.em J;have n2:H.au<G.au:=I.2
 -- the list
 have app:∀{j:ar}(x:fh),Fr Em H j -> ∀{K:bE->(Nat->AV)->Bool->AV->ar->Prop}{m:Bool},(∀r u y,Op.store 1 [.ptr p 22,r] u=B1 (.undef,y)->hC H o p f l sp cv pv s.c (s.o ++ [x]) k y->K (.row (AV.cells (.agg x.enc)) jv (0,0) B4) (Op.sliceTo 1 1) m r u) ->
  jF m (Op.buildSlice jv 1 MF.enc [(0,9)] [.agg x.enc]) λ g o mk=>jF g (Op.append jv 9 72 [ov,mk j.au] (j.alloc o)) (K o mk):=λ{j}x A{K m}hk=>by
  have b:=h.em A;refine aT.pU b.ou (x:=.agg x.enc) (a:=x) rfl rfl rfl rfl (by decide) (by omega) (by omega) λ r u W L hz=>?_;have one:aB r=true:=Sl.one (Own.sl W);have lu:=λ z(q:aM ov z)=>Own.lt b.ou z q
  -- new rows are of the told list
  have ho:∀z,z<j.au->aO o j.au 6 z=o z:=λ z q=>iQ q;have V:∀z,o z≠6 -> ¬aM ov z:=λ z q w=>q (b.rq z w);have f34:Fr (λ z=>o z≠0) j u:=L.mono λ z _ q=>by rw[b.rq z q];decide
  have⟨g,fv,hs⟩:=b.so;have lr:=λ z(q:aM rv z)=>Own.lt b.rd z q;have Y:At u p HU _:=b.row.fr L (V p (by rw[b.op];decide));have st:=Y.st 22 one (by simp[cJ]);have e5:(cJ s.c f l sp cv rv ov pv).set 22 r=cJ s.c f l sp cv rv r pv:=rfl;rw[e5]at st;obtain⟨y,N⟩:∃X,X=u.set p (OR (cJ s.c f l sp cv rv r pv) HU):=⟨_,rfl⟩
  rw[<-N]at st;have T:Fr (On p) u y:=N▸b9 ..;have i:Fr (λ z=>aM ov z\/z=p) j y:=(L.mono λ z _ q=>.inl q).trans T λ z q=>.inl (.inr q);have nw:∀z,o z≠6->o z≠1 -> ¬(aM ov z\/z=p):=λ z e6 e1 w=>w.elim (V z e6) λ w=>e1 (by rw[w];exact b.op);have no:∀z,aM r z->aO o j.au 6 z=6:=λ z q=>(hz z q).elim (λ w=>(ho z (lu z w)).trans (b.rq z w)) λ w=>nC w;refine hk r u y st (hC.pre A ⟨aO o j.au 6,rv,r,⟨N▸Y.set _,b.fi.fr i b.of (λ z q e=>nw z (by omega) (by omega)) ho,b.la.fr i (nw l (by rw[b.ol];decide) (by rw[b.ol];decide)),⟨g,fv,hs.fr i (λ z q e=>nw z (by omega) (by omega)) ho⟩,Jd b.cd i λ e=>nw _ (by rw[(b.mN e).2];decide) (by rw[(b.mN e).2];decide),Own.fr b.rd i λ z q=>nw z (by rw[b.qJ z q];decide) (by rw[b.qJ z q];decide),Own.fr W T λ z q(w:z=p)=>?_,
   (ho p b.row.2).trans b.op,(ho f (by obtain⟨pv,q,-⟩:=b.fi.at';exact q.2)).trans b.of,(ho l b.la.at'.2).trans b.ol,λ z q=>(ho z (lr z q)).trans (b.qJ z q),no,λ e=>⟨qn (b.mN e).1 i.au,(ho _ (b.mN e).1).trans (b.mN e).2⟩,b.FL,b.w⟩,ho,i.mono λ z _ q=>q.elim (λ q=>by rw[b.rq z q];decide) λ q=>by rw[q,b.op];decide⟩)
  have:=no z q;rw[w,ho p b.row.2,b.op]at this;omega
 have ld:∀{j:ar}{x:fh},At j H.au jv x.enc->Op.aq 9 [.ptr H.au 0] j=B1 (.agg x.enc):=λ a=>a.eH (k:=0) (n:=9) (by simp[fh.len])
 by_cases q:s.c.la.lane=0
 .have ev:CS.MJ s.c kd a v cd=e:=by rw[he];unfold CS.MJ;rw[xg q]
  unfold CS.tell;rw[ev];simp only[aa,bc,YV,av,Wp,<-e1,h.bm,R,s1,B.bm,iV B.la,xb q,ld I];refine app e J λ r u y st hp=>?_;simp only[aa,bc,st];exact hp
 .obtain ⟨C,D⟩:∃x:fh,x=⟨kd,0,s.c.id,aj .i64 (s.c.blocks-1),0,0,a,v,cd⟩:=⟨_,rfl⟩
  obtain⟨F,E⟩:∃x:fh,x=⟨kd,0,s.c.id,aj .i64 (s.c.blocks-1),s.c.la.tries,0,a,v,cd⟩:=⟨_,rfl⟩
  have ev:CS.MJ s.c kd a v cd=⟨kd,0,s.c.id,aj .i64 (s.c.blocks-1),s.c.la.tries,s.c.la.lane,a,v,cd⟩:=by unfold CS.MJ;rw[qy q]
  unfold CS.tell;rw[ev];simp only[aa,bc,YV,av,Wp,<-e1,h.bm,R,s1,B.bm,iV B.la,q];refine C3.q (Wu B.la) λ w j⟨hw,A⟩=>?_;subst hw;have b:=B.em A;have P:=I.em A;have Z:=P.st 3 (v:=.int .i64 (aj .i64 (s.c.blocks-1))) rfl (by simp[fh.len]);have y1:e.enc.set 3 (.int .i64 (aj .i64 (s.c.blocks-1)))=C.enc:=by rw[he,D];rfl
  rw[y1]at Z;have Q:=P.set C.enc;have t2:=Q.st 4 (v:=.int .i64 s.c.la.tries) rfl (by simp[fh.len]);have y2:C.enc.set 4 (.int .i64 s.c.la.tries)=F.enc:=by rw[D,E];rfl
  rw[y2]at t2;have S:=Q.set F.enc;have t3:=S.st 5 (v:=.int .i64 s.c.la.lane) rfl (by simp[fh.len]);have y3:F.enc.set 5 (.int .i64 s.c.la.lane)=fh.enc ⟨kd,0,s.c.id,aj .i64 (s.c.blocks-1),s.c.la.tries,s.c.la.lane,a,v,cd⟩:=by rw[E];rfl
  rw[y3]at t3;have d3:=S.set (fh.enc ⟨kd,0,s.c.id,aj .i64 (s.c.blocks-1),s.c.la.tries,s.c.la.lane,a,v,cd⟩);have U:Fr Em H _:=(((J.em A).set (.inr (qm _)) (OR C.enc jv)).set (.inr (qm _)) (OR F.enc jv)).set (.inr (qm _)) (OR (fh.enc ⟨kd,0,s.c.id,aj .i64 (s.c.blocks-1),s.c.la.tries,s.c.la.lane,a,v,cd⟩) jv);have h6:=h.em U;simp only[aa,bc,YV,av,b.bm,iV b.la,Z,t2,t3,h6.bm,ld d3];refine app _ U λ r u y st hp=>?_;simp only[aa,bc,st];exact hp
end
end Go.Am
namespace Go.Am
open Lang Go.Proofs
variable{M:ak}[MK M]
section
variable{H H1 H':ar}{o o1:Nat->Nat}{p f l sp k k':Nat}{cv rv ov pv:AV}{c d:Co}{os os':List fh}{s t:CS}
def hC.t9(a:∀z,z<H.au->o1 z=o z)(w:Fr (λ z=>o z≠0) H H1)(b:hC H1 o1 p f l sp cv pv d os' k' H'):hC H o p f l sp cv pv d os' k' H':=by
 have⟨o2,g,e,h,i,j⟩:=b;refine⟨o2,g,e,h,λ z q=>(i z (qn q w.au)).trans (a z q),w.trans j λ z q=>?_⟩;rcases za z H.au with r|r
 .exact .inl (by rw[<-a z r];exact q)
 .exact .inr r
def dX.loc(h:dX H o p f l sp cv rv ov pv c os k)(a:Fr Em H H1)(hn:H.au<H1.au):dX H1 (aO o H.au 0) p f l sp cv rv ov pv c os k/\(∀z,z<H.au->aO o H.au 0 z=o z)/\aO o H.au 0 H.au=0 :=
 ⟨h.fr a (λ _ _ _ q=>q) (λ z q=>iQ q) (qm _),λ z q=>iQ q,nC (qm _)⟩
def dX.om(h:dX H o p f l sp cv rv ov pv c os k){H1:ar}(a:Fr (On p) H H1):Fr (λ z=>o z≠0) H H1:=a.mono λ z _(q:z=p)=>by rw[q,h.op];decide
def dX.one(h:dX H o p f l sp cv rv ov pv c os k){H1:ar}(a:Fr (On p) H H1)(b:hC H1 o p f l sp cv pv d os' k' H'):hC H o p f l sp cv pv d os' k' H':=hC.t9 (λ _ _=>rfl) (h.om a) b
def KE(h:dX H o p f l sp cv rv ov pv s.c s.o k)(n:Int):ze M Y0 [.ptr p 0,.int .i64 n] H λ _ H'=>hC H o p f l sp cv pv (s.fK n).c (s.fK n).o k H':=by
 refine q0d ?_;simp only[aa,bc,q0e,av,h.bm];refine C3.q (JC h.fi n) λ _ H1 hp=>?_;have⟨o1,m,j,a,b,e⟩:=h.GJ hp;have⟨r,s2,i,g⟩:=a.put 19 (v:=.int .i64 (aj .i64 (s.c.px+1))) (s.fK n).c rfl (by decide) rfl ⟨rfl,rfl,rfl,rfl⟩ rfl {a.w with};simp only[aa,bc,av,a.bm,s2];exact hC.t9 b e (a.Fm g i)
def _n(h:dX H o p f l sp cv rv ov pv s.c s.o k):ze M qnb [.ptr p 0] H λ _ H'=>hC H o p f l sp cv pv s.leave.c s.leave.o k H':=by
 refine qxp ?_;simp only[aa,bc,qxq,av,h.bm];refine C3.q (Kz h.la) λ _ H1 hp=>?_;have⟨o1,z,x,a,g,j⟩:=h.Yb hp;simp only[aa,bc,av,a.bm];refine C3.q (RR a.fi) λ _ D hp=>?_;have⟨o2,A,y,b,i,m⟩:=a.GJ hp;have⟨E,B,e,n⟩:=b.put 16 (v:=.bool B2) {s.c with la:=s.c.la.leave,fi:=s.c.fi.drop,held:=B2} rfl (by decide) rfl ⟨rfl,rfl,rfl,rfl⟩ rfl {b.w with};have⟨F,C,u,r⟩:=e.put 6 (v:=.int .i64 0) s.leave.c rfl (by decide) rfl ⟨rfl,rfl,rfl,rfl⟩ rfl {e.w with};simp only[aa,bc,av,B,C];exact hC.t9 g j (hC.t9 i m (b.one n (e.Fm r u)))
def q4d(h:dX H o p f l sp cv rv ov pv s.c s.o k)(hl:s.o.length<=1000):ze M z' [.ptr p 0] H λ _ H'=>hC H o p f l sp cv pv s.aC.c s.aC.o k H':=by
 refine qra ?_;have fin:∀{H1:ar}{o1:Nat->Nat}{b a:AV}{t:CS},dX H1 o1 p f l sp cv b a pv t.c t.o k -> ∃r e,Op.store 1 [.ptr p 17,.bool B4] H1=B1 (.undef,r)/\Op.store 1 [.ptr p 16,.bool B2] r=B1 (.undef,e)/\hC H1 o1 p f l sp cv pv {t.c with said:=B4,held:=B2} t.o k e:=λ{H1 o1 b a t}g=>by
  have⟨e,i,n,y⟩:=g.put 17 (v:=.bool B4) {t.c with said:=B4} rfl (by decide) rfl ⟨rfl,rfl,rfl,rfl⟩ rfl {g.w with};have⟨m,j,A,z⟩:=n.put 16 (v:=.bool B2) {t.c with said:=B4,held:=B2} rfl (by decide) rfl ⟨rfl,rfl,rfl,rfl⟩ rfl {n.w with};exact⟨e,m,i,j,g.one y (n.Fm z A)⟩
 unfold CS.aC;cases q:s.c.said with
 |true =>
  have⟨e,m,i,j,hp⟩:=fin h;simp only[aa,bc,VC,av,h.bm,q,i,j];exact hp
 |false =>
  simp only[aa,bc,VC,av,h.bm,q,zr];refine C3.q (FW h hl 5 0 0 0) λ _ H1⟨o1,b,a,g,u,x⟩=>?_;have⟨e,m,i,j,hp⟩:=fin (t:=s.tell 5 0 0 0) g;simp only[aa,bc,VC,av,i,j];exact hC.t9 u x hp
def xfa(s:CS):s.aC.o.length<=s.o.length+1:=by
 unfold CS.aC;simp only;split
 .omega
 .show (s.o ++ [_]).length<=_;rw[qv];simp
def xcl(s:CS):s.aC.leave.c.fi.pc=s.c.fi.pc:=by
 unfold CS.aC;simp only;split<;>rfl
def P4(h:dX H o p f l sp cv rv ov pv s.c s.o k)(hl:s.o.length<=1000):ze M U' [.ptr p 0] H λ _ H'=>hC H o p f l sp cv pv s.cW.c s.cW.o k H':=by
 refine qt4 ?_;simp only[aa,bc,qt5];refine C3.q (q4d h hl) λ _ H1⟨o1,C,z,x,g,m⟩=>?_;simp only[aa,bc];refine C3.q (_n x) λ _ G⟨o2,D,A,a,i,n⟩=>?_;have e:=xcl s;simp only[aa,bc,av,a.bm,fpc a.fi,e];refine C3.q (JC a.fi (aj .i64 (s.c.fi.pc+1))) λ _ I hp=>?_;have⟨o3,E,B,b,j,r⟩:=a.GJ hp;have⟨J,F,y,u⟩:=b.put 19 (v:=.int .i64 (aj .i64 (s.aC.leave.c.px+1))) s.cW.c rfl (by decide) rfl ⟨rfl,rfl,rfl,rfl⟩ rfl {b.w with};simp only[aa,bc,av,b.bm,F];exact hC.t9 g m (hC.t9 i n (hC.t9 j r (b.Fm u y)))
def xll(h:dX H o p f l sp cv rv ov pv s.c s.o k)(hl:s.o.length<=1000)(cd:Int):ze M Y5 [.ptr p 0,.int .i64 cd] H λ _ H'=>hC H o p f l sp cv pv (s.abort cd).c (s.abort cd).o k H':=by
 refine qxk ?_;simp only[aa,bc,qxl];refine C3.q (FW h hl 6 0 0 cd) λ _ H1⟨o1,B,y,a,g,m⟩=>?_;simp only[aa,bc,av,a.bm];refine C3.q (xhf a.fi) λ _ F hp=>?_;have⟨o2,C,z,b,i,n⟩:=a.GJ hp;simp only[aa,bc,av,b.bm];refine C3.q (Ku b.la cd) λ _ G hp=>?_;have⟨o3,D,A,e,j,r⟩:=b.Yb hp;have⟨I,E,x,u⟩:=e.put 6 (v:=.int .i64 1) (s.abort cd).c rfl (by decide) rfl ⟨rfl,rfl,rfl,rfl⟩ rfl {e.w with};simp only[aa,bc,av,E];exact hC.t9 g m (hC.t9 i n (hC.t9 j r (e.Fm u x)))
def VX(h:dX H o p f l sp cv rv ov pv s.c s.o k)(hl:s.o.length<=1000):ze M Z_ [.ptr p 0] H λ _ H'=>hC H o p f l sp cv pv s.breaks.c s.breaks.o k H':=by
 refine qvt ?_;simp only[aa,bc,qvu];refine C3.q (FW h hl 6 0 0 7) λ _ H1⟨o1,D,A,a,g,m⟩=>?_;simp only[aa,bc,av,a.bm];refine C3.q (xhf a.fi) λ _ J hp=>?_;have⟨o2,E,B,y,i,n⟩:=a.GJ hp;simp only[aa,bc];refine C3.q (_n (s:=(s.tell 6 0 0 7).fi .restore) y) λ _ K⟨o3,F,C,b,j,r⟩=>?_;have⟨L,G,e,u⟩:=b.put 20 (v:=.bool B4) {((s.tell 6 0 0 7).fi .restore).leave.c with halted:=B4} rfl (by decide) rfl ⟨rfl,rfl,rfl,rfl⟩ rfl {b.w with};have⟨N,I,z,x⟩:=e.put 21 (v:=.bool B4) s.breaks.c rfl (by decide) rfl ⟨rfl,rfl,rfl,rfl⟩ rfl {e.w with};simp only[aa,bc,av,G,I];exact hC.t9 g m (hC.t9 i n (hC.t9 j r (b.one u (e.Fm x z))))
def Ri(h:dX H o p f l sp cv rv ov pv c os k){u:Int}(hu:fH u):∀K,C3 M B4 (.func qs8) [.ptr p 0,.int .u64 u] H K=K B4 (.tuple [.int .i64 (if CS.Hm c u=B4 then 8+u else 0),.bool (CS.Hm c u)]) H:=by
 refine dA (q7m ?_);have g:=h.w.l2;have i:=h.w.l64;have w1:aj .i64 (c.lines-1)=c.lines-1:=jj (by omega) (by omega);have w2:aj .i64 ((c.lines-1)*8)=(c.lines-1)*8:=jj (by omega) (by omega);have b:aj .u64 ((c.lines-1)*8)=(c.lines-1)*8:=sW (by omega) (by omega);unfold CS.Hm
 by_cases q:(c.lines-1)*8<=u
 .have a:¬u<(c.lines-1)*8:=Gy.2 q;simp only[aa,bc,ξ,av,h.bm,w1,w2,b,xb q,a,zr]
 .have a:u<(c.lines-1)*8:=Int.not_le.1 q;have w4:aj .i64 u=u:=jj (by have:=hu.1;omega) (by omega);have e:aj .i64 (8+u)=8+u:=jj (by have:=hu.1;omega) (by omega);simp only[aa,bc,ξ,av,h.bm,w1,w2,b,q,xb a,w4,e]
def Ts(h:dX H o p f l sp cv rv ov pv s.c s.o k)(hl:s.o.length<=1000)(e:pE)(hu:fH e.addr){v:Int}(R:fH v):ze M Zs [.ptr p 0,.agg (bj e),.int .u64 v] H λ _ H'=>hC H o p f l sp cv pv (s.eW e v).c (s.eW e v).o k H':=by
 refine qvx ?_;obtain⟨H1,e1,G,-,-⟩:=cq H (OR (bj e) jm);have y:At H1 H.au jm _:=e1▸At.new H _ _;have⟨n,N,n1⟩:=h.loc G (show H.au<H1.au from y.2);have l4:Op.ae [.ptr H.au 4] H1=B1 (.int .u64 e.addr):=y.ld 4;have ce:AV.cells (.agg (bj e))=bj e:=zt _;obtain⟨kd,b⟩:∃kd:Int,kd=if s.c.la.lane=0 then 7 else 2:=⟨_,rfl⟩
 obtain⟨a,ha⟩:∃a:Int,a=if CS.Hm s.c e.addr=B4 then 8+e.addr else 0:=⟨_,rfl⟩
 have m:=Ri (M:=M) n hu;rw[<-ha]at m;have main:∀{K:Bool->AV->ar->Prop},(∀w j o2 i g,dX j o2 p f l sp cv i g pv (s.tell kd a v 0).c (s.tell kd a v 0).o k->Op.ae [.ptr p 3] j=B1 (.ptr f 0)->Op.ae [.ptr H.au 2] j=B1 (.int .i64 e.pA)->(ze M U1 [.ptr f 0,.int .i64 e.pA,.int .u64 v] j λ _ u=>Op.ae [.ptr H.au 1] u=B1 (.int .i64 e.au)/\ze M Y0 [.ptr p 0,.int .i64 e.au] u λ _ x=>hC H o p f l sp cv pv (s.eW e v).c (s.eW e v).o k x)->K B4 w j)->C3 M B4 (.func Zv) [.ptr p 0,.int .i64 kd,.int .i64 a,.int .u64 v,.int .i64 0] H1 K:=λ hk=>by
  refine C3.q (FW n hl kd a v 0) λ w j⟨o2,i,g,r,F,I⟩=>?_;have E:=y.fr I (λ q=>q n1);have n2:o2 H.au=0:=(F _ y.2).trans n1;refine hk w j o2 i g r r.bm.2.2.2.1 (E.ld 2) ((Lv r.fi e.pA R).mono λ _ u hp=>?_);have⟨o3,T,S,Q,O,J⟩:=r.GJ hp;have L:=E.fr J (λ q=>q n2);refine⟨L.ld 1,(KE (s:=(s.tell kd a v 0).fi (·.set e.pA v)) Q e.au).mono λ _ x hp=>?_⟩;have P:s.eW e v=((s.tell kd a v 0).fi (·.set e.pA v)).fK e.au:=by rw[b,ha];rfl
  rw[P];exact hC.t9 N (G.mono λ _ _ q=>q.elim) (hC.t9 F I (hC.t9 O J hp))
 by_cases q:s.c.la.lane=0
 .rw [xg q]at b;subst b;simp only[aa,bc,Ξ,av,ce,<-e1,l4,m,n.bm,iV n.la,xb q];refine main λ w j o2 i g r z A B=>?_;simp only[aa,bc,av,z,A];refine C3.q B λ _ u⟨C,D⟩=>?_;simp only[aa,bc,C];refine C3.q D λ _ x hp=>?_;simp only[aa,bc];exact hp
 .rw [qy q]at b;subst b;simp only[aa,bc,Ξ,av,ce,<-e1,l4,m,n.bm,iV n.la,q];refine main λ w j o2 i g r z A B=>?_;simp only[aa,bc,av,z,A];refine C3.q B λ _ u⟨C,D⟩=>?_;simp only[aa,bc,C];refine C3.q D λ _ x hp=>?_;simp only[aa,bc];exact hp
def Rw(h:dX H o p f l sp cv rv ov pv s.c s.o k)(hl:s.o.length<=1000)(kd:Int)(e:pE)(a:Int):ze M qmb [.ptr p 0,.int .i64 kd,.agg (bj e),.int .i64 a] H λ _ H'=>hC H o p f l sp cv pv (s.stored kd e a).c (s.stored kd e a).o k H':=by
 refine qvz ?_;obtain⟨H1,e1,g,-,-⟩:=cq H (OR (bj e) jm);have b:At H1 H.au jm _:=e1▸At.new H _ _;have⟨r,m,n1⟩:=h.loc g (show H.au<H1.au from b.2);have l3:Op.ae [.ptr H.au 3] H1=B1 (.int .u64 e.value):=b.ld 3;have ce:AV.cells (.agg (bj e))=bj e:=zt _;simp only[aa,bc,qv0,ce,<-e1,l3];refine C3.q (FW r hl kd a e.value 0) λ _ j⟨o2,w,v,u,n,i⟩=>?_;have l1:Op.ae [.ptr H.au 1] j=B1 (.int .i64 e.au):=(b.fr i (λ q=>q n1)).ld 1;simp only[aa,bc,l1];refine C3.q (KE (s:=s.tell kd a e.value 0) u e.au) λ _ x hp=>?_;simp only[aa,bc];exact hC.t9 m (g.mono λ _ _ q=>q.elim) (hC.t9 n i hp)
end
end Go.Am
