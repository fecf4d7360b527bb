import Derived.Test.YtgjdmncoonceaaaGreatDoorAmEZf
import Derived.Test.YtgjdmncoonceaaaGreatDoorAmEZj
import Derived.Test.YtgjdmncoonceaaaGreatDoorAmEZh
set_option linter.defProp false
set_option linter.unusedVariables false
set_option linter.unusedSimpArgs false
set_option linter.unusedSectionVars false
set_option maxRecDepth 100000
open Bool renaming false→B2,true→B4
open False renaming elim→NR
open List renaming range→N2
open Nat renaming beq→I4
open Option renaming isSome→BX,none→B5,some→B1
open Nat renaming reduceEqDiff→bc
namespace Go.Am
open Lang Go.Proofs
variable{M:ak}[MK M]
def cN(p:Pr):List AV:=[.int .i64 p.a,.int .u64 p.v]
def ER(p:Pr):(cN p).length=2:=rfl
abbrev Db(H:ar)(v:AV)(ps:List Pr):Prop:=aO cN vz 2 H v ps
def aO.pK{α:Type}{enc:α->List AV}{e size:Nat}{H:ar}{v:AV}{xs:List α}(h:aO enc e size H v xs){bytes:Nat}{zero:List AV}{x:AV}{a:α}(j:x.cells=enc a)(hs:(enc a).length=size)(q:zero.length=size)(f:aN (enc a)=B4)(k:0<size)
 (p:(xs.length+1)*bytes<=140737488355328) (i:xs.length+1<=140737488355328) {K:bE->(Nat->AV)->Bool->AV->ar->Prop} {m:Bool}
 (hk:∀d H',aO enc e size H' d (xs ++ [a])->Fr (aM v) H H'->(∀b,aM d b->aM v b\/H.au<=b)->K (.row x.cells e (0,0) B4) (Op.sliceTo 1 1) m d H') :
 jB m (Op.buildSlice e 1 zero [(0,size)] [x]) λ g o mk=>jB g (Op.append e size bytes [v,mk H.au] (H.alloc o)) (K o mk):=by
 refine nH h q (by rw[j];exact hs) (by rw[j];exact f) k p i λ d H' f l n=>hk d H' ?_ l n;unfold aO;rw[kh,xe]
 simpa[j]using f
def iv:List Pr->Int->Option Nat
 |[],_=>B5
 |x::r,a=>if x.a=a then B1 0 else(iv r a).map (·+1)
def JB:∀(ps:List Pr)(a:Int),dq ps a=(iv ps a).map λ i=>(ps.getD i ⟨0,0⟩).v
 |[],a=>rfl
 |x::r,a=>by
  unfold dq iv;split
  .rfl
  .rw [JB r a];cases iv r a<;>rfl
def pH:∀{ps:List Pr}{a:Int}{i:Nat},iv ps a=B1 i->i<ps.length /\ ∃x,ps[i]? = B1 x/\x.a=a
 |x::r,a,i,h=>by
  unfold iv at h;split at h
  .cases h;exact⟨Nat.zero_lt_succ _,x,rfl,by assumption⟩
  .obtain ⟨j,f,rfl⟩:=xr.1 h;have⟨b,y,d,e⟩:=pH f;exact⟨Nat.succ_lt_succ b,y,d,e⟩
def TP:∀{ps:List Pr}{a v:Int},iv ps a=B5->fQ ps a v=ps ++ [⟨a,v⟩]
 |[],a,v,_=>rfl
 |x::r,a,v,h=>by
  unfold iv at h;split at h
  .cases h
  .rename_i q;rw[Option.map_eq_none_iff]at h;unfold fQ;rw[qy q,TP h];rfl
def Uy:∀{ps:List Pr}{a v:Int}{i:Nat},iv ps a=B1 i->fQ ps a v=ps.set i ⟨a,v⟩
 |x::r,a,v,i,h=>by
  unfold iv at h;unfold fQ;split at h
  .rename_i q;cases h;rw[xg q];rfl
  .rename_i q;obtain⟨j,b,rfl⟩:=xr.1 h;rw[qy q,Uy b];rfl
def jT:List Pr->Nat->Nat->List (AV×AV×Nat)
 |[],_,_=>[]
 |x::r,i,c=>(.int .i64 x.a,.int .i64 (i:Int),c)::jT r (i+1) (c+1)
def Y3:∀(ps:List Pr)(a:Int)(i c j:Nat),findKey .int (.int .i64 a) (jT ps i c) j=B1 ((iv ps a).map λ n=>(j+n,.int .i64 ((i+n:Nat):Int)))
 |[],a,i,c,j=>rfl
 |x::r,a,i,c,j=>by
  have e:aY .int (.int .i64 a) (.int .i64 x.a)=B1 (decide (a=x.a)):=by simp only[aY,sF,jN,I4,xt,Tv]
  unfold jT findKey iv;rw[e,qr]
  by_cases q:x.a=a
  .rw [ke q.symm,xg q];rfl
  .rw [ju (λ w=>q w.symm),qy q,zo,Y3 r a (i+1) (c+1) (j+1)];cases iv r a with
   |none=>rfl
   |some n=>simp only[Gs];rw[show j+1+n=j+(n+1)by omega,show i+1+n=i+(n+1)by omega]
def ν:∀(ps:List Pr)(x:Pr)(i c:Nat),jT (ps ++ [x]) i c=jT ps i c ++ [(.int .i64 x.a,.int .i64 ((i+ps.length:Nat):Int),c+ps.length)]
 |[],x,i,c=>rfl
 |y::r,x,i,c=>by
  show _::jT (r ++ [x]) (i+1) (c+1)=_::(jT r (i+1) (c+1)++_);rw[ν r x,zt];congr 3;simp only[zi,AV.int.injEq,Gc];constructor<;>omega
def xhl:∀(ps:List Pr)(n:Nat)(v:Int)(i c:Nat){x:Pr},ps[n]? = B1 x->jT (ps.set n ⟨x.a,v⟩) i c=jT ps i c
 |y::r,0,v,i,c,x,h=>by cases h;rfl
 |y::r,n+1,v,i,c,x,h=>by
  show _::jT (r.set n _) (i+1) (c+1)=_;rw[xhl r n v (i+1) (c+1) h];rfl
structure vQ(H:ar)(o:Nat->Nat)(t r:Nat)(ps:List Pr)(pv:AV)(mb c:Nat):Prop where
 row:At H r JL [pv,.map mb]
 ow:Db H pv ps
 mp:H.get mb=B1 (.map (jT ps 0 c) (c+ps.length))
 ml:mb<H.au
 le:ps.length<=128
 o0:o r=t
 o1:o mb=t+1
 o2:∀z,aM pv z->o z=t+2
section
variable{H H':ar}{o o':Nat->Nat}{t r mb c:Nat}{ps:List Pr}{pv:AV}
def vQ.fr{W:Nat->Prop}(h:vQ H o t r ps pv mb c)(a:Fr W H H')(hw:∀z,z<H.au->(o z=t\/o z=t+1\/o z=t+2) -> ¬W z)(ho:∀z,z<H.au->o' z=o z):vQ H' o' t r ps pv mb c :=
 ⟨h.row.fr a (hw r h.row.2 (.inl h.o0)),Own.fr h.ow a λ z q=>hw z (Own.lt h.ow z q) (.inr (.inr (h.o2 z q))),(a.ah mb h.ml (hw mb h.ml (.inr (.inl h.o1)))).trans h.mp,qn h.ml a.au,h.le,(ho r h.row.2).trans h.o0,(ho mb h.ml).trans h.o1,λ z q=>(ho z (Own.lt h.ow z q)).trans (h.o2 z q)⟩
def Xb{b:Nat}{es:List (AV×AV×Nat)}{k:Nat}(h:H.get b=B1 (.map es k)):H.fA b=B1 (es,k):=by unfold ar.fA;rw[h]
def xi(h:vQ H o t r ps pv mb c)(a:Int):Op.lookup .int (.int .i64 0) B4 [.map mb,.int .i64 a] H=B1 (match iv ps a with|some i=>.tuple [.int .i64 (i:Int),.bool B4]|none=>.tuple [.int .i64 0,.bool B2]):=by
 simp only[Op.lookup,de,xt,Xb h.mp,qr,Y3];cases iv ps a<;>simp
def B8(h:vQ H o t r ps pv mb c):bN cN 2 H pv ps:=aO.sl h.ow
def zB(h:vQ H o t r ps pv mb c)(a:Int):∀K,C3 M B4 (.func qqo) [.ptr r 0,.int .i64 a] H K=K B4 (.tuple [.int .u64 ((dq ps a).getD 0),.bool (dq ps a).isSome]) H:=by
 refine dA (q5n ?_);have l0:=h.row.ld 0;have l1:=h.row.ld 1;rw[JB];have f:=xi h a;cases q:iv ps a with
 |none =>
  rw[q]at f;simp only[aa,bc,qrp,aw,l1,f];rfl
 |some i =>
  rw[q]at f;obtain⟨d,x,b,-⟩:=pH q;have sl:=B8 h;have ix:=sl.idx b (z:=(i:Int)) rfl .i64;have ld:Op.ae [.ptr (aG pv) (cJ 2 pv i+1)] H=B1 (.int .u64 x.v):=sl.ae ER b (j:=1) (by decide);simp only[aa,bc,qrp,aw,l0,l1,f,ix,ld];simp only[Gs,vp,vx,zw,b]
def TN(H:ar)(o:Nat->Nat)(t r:Nat)(ps:List Pr)(H':ar):Prop:=∃o' pv mb c,vQ H' o' t r ps pv mb c/\(∀z,z<H.au->o' z=o z)/\Fr (λ z=>o z=t\/o z=t+1\/o z=t+2) H H'
def DF(h:vQ H o t r ps pv mb c):zb M _1 [.ptr r 0] H λ _ H'=>TN H o t r [] H':=by
 refine q0r ?_;have l1:=h.row.ld 1;have s1:Op.bU [.map mb] H=B1 (.tuple [],H.set mb (.map [] (c+ps.length))):=by simp only[Op.bU,Xb h.mp,qr]
 have d:r≠mb:=λ q=>by have a:=h.o0;have b:=h.o1;rw[q]at a;omega
 have e:At (H.set mb (.map [] (c+ps.length))) r JL [pv,.map mb]:=h.row.fr (cm H mb _) d;have s2:=e.st 0 (v:=.nils) rfl (by simp);simp only[aa,bc,q0s,aw,l1,s1,s2];refine⟨o,.nils,mb,c+ps.length,⟨e.set _,Own.nil ..,?_,h.ml,xw _,h.o0,h.o1,λ z q=>(q.1 rfl).elim⟩,λ _ _=>rfl,?_⟩
 .rw [kr d,xb];rfl
 .exact ((cm H mb _).mono λ z _ q=>.inr (.inl ((congrArg o q).trans h.o1))).trans (cm _ r _) λ z q=>.inl (.inl ((congrArg o q).trans h.o0))
def OD(h:vQ H o t r ps pv mb c)(a v:Int)(hn:iv ps a=B5):zb M qtc [.ptr r 0,.int .i64 a,.int .u64 v] H λ w H'=>w=.int .i64 (if ps.length=128 then 70 else 0)/\TN H o t r (if ps.length=128 then ps else ps ++ [⟨a,v⟩]) H':=by
 refine q70 ?_;have l0:=h.row.ld 0;have l1:=h.row.ld 1;have ln:=(B8 h).len;have hle:=h.le
 by_cases q:ps.length=128
 .have p:((ps.length:Nat):Int)=128:=by omega
  rw[xg q,xg q];simp only[aa,bc,qts,aw,l0,ln,qv p];exact⟨o,pv,mb,c,h,λ _ _=>rfl,Fr.refl _⟩
 .have p:¬((ps.length:Nat):Int)=128:=by omega
  rw[qy q,qy q];have s1:Op.mapUpdate .int [.map mb,.int .i64 a,.int .i64 ((ps.length:Nat):Int)] H=B1 (.undef,H.set mb (.map (jT (ps ++ [⟨a,v⟩]) 0 c) (c+(ps ++ [(⟨a,v⟩:Pr)]).length))):=by
   simp only[Op.mapUpdate,de,xt,Xb h.mp,qr,Y3,hn,Option.map_none,ν,ya,xe,zt,jo];rfl
  obtain⟨H1,e1⟩:∃X,X=H.set mb (.map (jT (ps ++ [⟨a,v⟩]) 0 c) (c+(ps ++ [(⟨a,v⟩:Pr)]).length)):=⟨_,rfl⟩
  rw[<-e1]at s1;have j:Fr (On mb) H H1:=e1▸cm H mb _;have u:r≠mb:=λ q=>by have a:=h.o0;have b:=h.o1;rw[q]at a;omega
  have x:At H1 r JL [pv,.map mb]:=h.row.fr j u;have np:∀z,aM pv z->z≠mb/\z≠r:=λ z w=>⟨λ e=>by have a:=h.o2 z w;have b:=h.o1;rw[e]at a;omega,λ e=>by have a:=h.o2 z w;have b:=h.o0;rw[e]at a;omega⟩
  have n:Db H1 pv ps:=Own.fr h.ow j λ z w=>(np z w).1;have m:=x.ld 0;have A:Op.build [.int .i64 0,.int .u64 0] [(0,1),(1,1)] [.int .i64 a,.int .u64 v]=B1 (.agg (cN ⟨a,v⟩)):=rfl;simp only[aa,bc,qts,aw,l0,ln,p,l1,s1,m,A];refine aO.pK (bytes:=16) n (a:=⟨a,v⟩) rfl rfl rfl rfl (by decide) (by omega) (by omega) λ pv' d i f s=>?_;have y:At d r JL [pv,.map mb]:=x.fr f λ w=>(np r w).2 rfl;have one:aB pv'=true:=by have:=Sl.one (Own.sl i);exact this
  have B:=y.st 0 one (by simp);simp only[aa,bc,B];have k:Fr (On r) d (d.set r (OR [pv',.map mb] JL)):=cm ..;have n1:H1.au=H.au:=by rw[e1];rfl
  have l:∀z,aM pv' z->z≠r/\z≠mb:=λ z w=>(s z w).elim (λ w=>⟨(np z w).2,(np z w).1⟩) λ w=>⟨λ e=>by have:=h.row.2;omega,λ e=>by have:=h.ml;omega⟩
  refine⟨aP o H.au (t+2),pv',mb,c,⟨y.set _,Own.fr i k λ z w=>(l z w).1,?_,?_,?_,(iT h.row.2).trans h.o0,(iT h.ml).trans h.o1,λ z w=>?_⟩,λ z w=>iT w,?_⟩
  .show (d.set r (OR [pv',.map mb] JL)).get mb=_;rw[k.ah mb (by have:=f.au;have:=h.ml;omega) (λ w=>u (show mb=r from w).symm),f.ah mb (by have:=h.ml;omega) λ w=>(np mb w).1 rfl,e1,xb]
  .have:=f.au;have:=h.ml;show mb<d.au;omega
  .rw [xe];simp only[zt,jo];omega
  .rcases s z w with w|w
   .exact (iT (by have:=Own.lt h.ow z w;exact this)).trans (h.o2 z w)
   .exact nh (by omega)
  .exact ((j.mono λ z _ q=>.inr (.inl ((congrArg o q).trans h.o1))).trans f λ z q=>.inl (.inr (.inr (h.o2 z q)))).trans k λ z q=>.inl (.inl ((congrArg o q).trans h.o0))
end
def pE(H:ar)(o:Nat->Nat)(g:Nat)(rd wr:List Pr):Prop:=∃r w v1 m1 c1 v2 m2 c2,At H g Sb [.ptr r 0,.ptr w 0]/\o g=9/\vQ H o 10 r rd v1 m1 c1/\vQ H o 20 w wr v2 m2 c2
def vU(H:ar)(o:Nat->Nat)(g:Nat)(rd wr:List Pr)(H':ar):Prop:=∃o',pE H' o' g rd wr/\(∀z,z<H.au->o' z=o z)/\Fr (λ z=>9<=o z/\o z<=22) H H'
section
variable{H H':ar}{o o':Nat->Nat}{g:Nat}{rd wr:List Pr}
def pE.fr{W:Nat->Prop}(h:pE H o g rd wr)(a:Fr W H H')(hw:∀z,z<H.au->9<=o z -> ¬W z)(ho:∀z,z<H.au->o' z=o z):pE H' o' g rd wr:=by
 have⟨r,w,v1,l,d,v2,m,f,b,i,j,k⟩:=h;exact⟨r,w,v1,l,d,v2,m,f,b.fr a (hw g b.2 (by omega)),(ho g b.2).trans i,j.fr a (λ z q e=>hw z q (by omega)) ho,k.fr a (λ z q e=>hw z q (by omega)) ho⟩
def pE.Fx{W:Nat->Prop}(h:pE H o g rd wr)(a:Fr W H H')(hw:∀z,z<H.au->9<=o z/\o z<=22 -> ¬W z):pE H' o g rd wr:=by
 have⟨r,w,v1,l,d,v2,m,f,b,i,j,k⟩:=h;exact⟨r,w,v1,l,d,v2,m,f,b.fr a (hw g b.2 (by omega)),i,j.fr a (λ z q e=>hw z q (by omega)) λ _ _=>rfl,k.fr a (λ z q e=>hw z q (by omega)) λ _ _=>rfl⟩
def pE.same(h:pE H o g rd wr):vU H o g rd wr H:=⟨o,h,λ _ _=>rfl,Fr.refl _⟩
def nT(h:pE H o g rd wr):∀K,C3 M B4 (.func V2) [.ptr g 0] H K=K B4 (.bool B2) H:=by
 obtain⟨r,w,v1,e,b,v2,f,d,a,-⟩:=h;have l0:=a.ld 0;refine dA (q7w ?_);simp only[aa,bc,q7x,aw,l0]
def XV(h:pE H o g rd wr)(a:Int):∀K,C3 M B4 (.func qvc) [.ptr g 0,.int .i64 a] H K=K B4 (.tuple [.int .u64 ((dq rd a).getD 0),.bool (dq rd a).isSome]) H:=by
 have b:=h;have⟨r,w,v1,l,f,v2,m,i,d,j,e,k⟩:=h;have l0:=d.ld 0;refine dA (xak ?_);simp only[aa,bc,xal,aw,nT b,l0,zB e]
def Pv(h:pE H o g rd wr)(a:Int):∀K,C3 M B4 (.func qs8) [.ptr g 0,.int .i64 a] H K=K B4 (.tuple [.int .u64 ((dq wr a).getD 0),.bool (dq wr a).isSome]) H:=by
 have b:=h;have⟨r,w,v1,l,f,v2,m,i,d,j,k,e⟩:=h;have l1:=d.ld 1;refine dA (q7t ?_);simp only[aa,bc,q7u,aw,nT b,l1,zB e]
def pE.ofR{H1:ar}{g r w:Nat}{v1 v2:AV}{n j i f:Nat}{a:List Pr}(h:At H g Sb [.ptr r 0,.ptr w 0])(k:o g=9)(q:vQ H o 10 r rd v1 n j)(l:vQ H o 20 w wr v2 i f)(p:TN H o 10 r a H1):vU H o g a wr H1:=by
 have⟨o',pv,mb,c,m,b,d⟩:=p;exact⟨o',⟨r,w,pv,mb,c,v2,i,f,h.fr d (by omega),(b g h.2).trans k,m,l.fr d (λ z _ e=>by omega) b⟩,b,d.mono λ z _ e=>by omega⟩
def pE.VA{H1:ar}{g r w:Nat}{v1 v2:AV}{i f n j:Nat}{a:List Pr}(h:At H g Sb [.ptr r 0,.ptr w 0])(k:o g=9)(l:vQ H o 10 r rd v1 i f)(q:vQ H o 20 w wr v2 n j)(p:TN H o 20 w a H1):vU H o g rd a H1:=by
 have⟨o',pv,mb,c,m,b,d⟩:=p;exact⟨o',⟨r,w,v1,i,f,pv,mb,c,h.fr d (by omega),(b g h.2).trans k,l.fr d (λ z _ e=>by omega) b,m⟩,b,d.mono λ z _ e=>by omega⟩
def vU.then{H1 a:ar}{e w1 f w2:List Pr}(p:vU H o g e w1 H1)(k:∀o1,pE H1 o1 g e w1->vU H1 o1 g f w2 a):vU H o g f w2 a:=by
 have⟨o1,h,b,d⟩:=p;have⟨o2,i,j,l⟩:=k o1 h;refine⟨o2,i,λ z q=>(j z (qn q d.au)).trans (b z q),d.trans l λ z q=>?_⟩;rcases xz z H.au with w|w
 .rw [b z w]at q;exact .inl q
 .exact .inr w
def Mh(H:ar)(o:Nat->Nat)(g:Nat)(ps:List Pr)(a:Int)(e:AV)(A:Prop)(B:Prop):Prop:=(dq ps a=B5/\ps.length=128/\e=.int .i64 70/\A)\/(¬(dq ps a=B5/\ps.length=128)/\e=.int .i64 0/\B)
def I9(h:pE H o g rd wr){a:Int}(ha:0<=a)(v:Int):zb M qs9 [.ptr g 0,.int .i64 a,.int .u64 v] H λ e H'=>Mh H o g rd a e (vU H o g rd wr H') (vU H o g (if dq rd a=B5 then rd ++ [⟨a,v⟩]else rd) wr H'):=by
 refine q7v ?_;have f:=h;have⟨r,w,v1,p,m,v2,s,n,i,j,b,k⟩:=h;have l0:=i.ld 0;have l:¬a<0:=JJ.2 ha;cases q:dq rd a with
 |some y =>
  simp only[aa,bc,iw,aw,nT f,l,l0,zB b,q,BX];refine .inr ⟨λ w=>?_,rfl,?_⟩
  .rw [q]at w;cases w.1
  .rw [qy (by simp)];exact f.same
 |none =>
  have hn:iv rd a=none:=by rw[JB]at q;exact Option.map_eq_none_iff.1 q
  simp only[aa,bc,iw,aw,nT f,l,l0,zB b,q,BX];refine C3.q (OD b a v hn) λ e H1⟨he,hp⟩=>?_;subst he;simp only[aa,bc]
  by_cases d:rd.length=128
  .rw [xg d]at hp⊢;exact .inl ⟨q,d,rfl,pE.ofR i j b k hp⟩
  .rw [qy d]at hp⊢;exact .inr ⟨λ w=>d w.2,rfl,pE.ofR i j b k hp⟩
def MS(h:pE H o g rd wr):zb M qql [.ptr g 0] H λ _ H'=>vU H o g [] [] H':=by
 refine q5i ?_;have x:=h;have⟨r,w,v1,F,E,v2,C,v,d,k,y,A⟩:=h;have l0:=d.ld 0;simp only[aa,bc,q5j,aw,nT x,l0];refine C3.q (DF y) λ _ H1 hp=>?_;have⟨o',pv,mb,c,u,b,i⟩:=hp;have f:=A.fr i (λ z _ e=>by omega) b;have a:=d.fr i (by omega);have l1:=a.ld 1;simp only[aa,bc,aw,l1];refine C3.q (DF f) λ _ D l=>?_;simp only[aa,bc];have G:vU H o g [] wr H1:=⟨o',⟨r,w,pv,mb,c,v2,C,v,a,(b g d.2).trans k,u,f⟩,b,i.mono λ z _ e=>by omega⟩
 have⟨o2,s,p,j,B,m,n⟩:=l;refine⟨o2,⟨r,w,pv,mb,c,s,p,j,a.fr n (by have:=(b g d.2).trans k;omega),(m g a.2).trans ((b g d.2).trans k),u.fr n (λ z _ e=>by omega) m,B⟩,λ z q=>(m z (qn q i.au)).trans (b z q),(i.mono λ z _ e=>by omega).trans n λ z q=>?_⟩;rcases xz z H.au with w|w
 .rw [b z w]at q;exact .inl (by omega)
 .exact .inr w
def MG(h:pE H o g rd wr){a:Int}(ha:0<=a)(v:Int):zb M m_ [.ptr g 0,.int .i64 a,.int .u64 v] H λ e H'=>Mh H o g wr a e (vU H o g rd wr H') (vU H o g rd (fQ wr a v) H'):=by
 refine q5m ?_;have C:=h;have⟨r,w,v1,L,J,v2,l,B,k,n,p,b⟩:=h;have l1:=k.ld 1;have E:¬a<0:=JJ.2 ha;have D:=b.row.ld 1;have F:=b.row.ld 0;have f:=xi b a;cases q:iv wr a with
 |some i =>
  rw[q]at f;have⟨K,x,s,I⟩:=pH q;have sl:=B8 b;have ix:=sl.idx s (z:=(i:Int)) rfl .i64;have⟨H1,s1,A,d⟩:=aO.zT ER b.ow s (j:=1) (by decide) (u:=.int .u64 v) rfl (y:=⟨x.a,v⟩) rfl;simp only[aa,bc,ι,aw,nT C,E,l1,D,f,F,ix,s1];refine .inr ⟨λ w=>(by rw[JB,q]at w;cases w.1),rfl,?_⟩;rw[Uy q,<-I];have n1:¬aM v2 w:=λ e=>by have:=b.o2 w e;have:=b.o0;omega
  have n2:¬aM v2 l:=λ e=>by have:=b.o2 l e;have:=b.o1;omega
  refine pE.VA k n p b ⟨o,v2,l,B,⟨b.row.fr d n1,A,?_,qn b.ml d.au,by rw[zg];exact b.le,b.o0,b.o1,b.o2⟩,λ _ _=>rfl,d.mono λ z _ q=>.inr (.inr (b.o2 z q))⟩;rw[xhl wr i v 0 B s,zg,d.ah l b.ml n2];exact b.mp
 |none =>
  have G:dq wr a=none:=by rw[JB,q];rfl
  rw[q]at f;simp only[aa,bc,ι,aw,nT C,E,l1,D,f];refine C3.q (OD b a v q) λ e H1⟨he,hp⟩=>?_;subst he;simp only[aa,bc]
  by_cases m:wr.length=128
  .rw [xg m]at hp⊢;exact .inl ⟨G,m,rfl,pE.VA k n p b hp⟩
  .rw [qy m]at hp⊢;rw[TP q];exact .inr ⟨λ w=>m w.2,rfl,pE.VA k n p b hp⟩
end
end Go.Am
namespace Go.Am
open Lang Go.Proofs
variable{M:ak}[MK M]
def Nm(v:AV)(i:Nat):AV:=.ptr (aG v) (cJ 2 v i)
def Uw{H1:ar}(e:Pr):Op.store 2 [.ptr H1.au 0,.agg (cN e)] (H1.alloc (OR [.int .i64 0,.int .u64 0] vz))=B1 (.undef,(H1.alloc (OR [.int .i64 0,.int .u64 0] vz)).set H1.au (OR (cN e) vz)):=(At.new H1 _ _).fH (k:=0) (n:=2) rfl (by decide) rfl
def xk2{H0:ar}{p:Nat}{v:AV}{ys:List Pr}(Z:Db H0 v ys)(hp:H0.get p=B1 (OR [v] nJ))(U:p<H0.au)(hl:ys.length<=1000000) :
 qU M vn [] [.ptr p 0] (λ x=>x=p\/aM v x) (λ _=>False) H0 ((N2 ys.length).map λ(i:Nat)=>[.int .i64 (i:Int),.agg (cN (ys.getD i ⟨0,0⟩))]):=by
 intro Y R S j H1 G K C D loc N step;have⟨p1,p2,p3⟩:=K p (.inl (.inl rfl))
 suffices h:zb M vn [.fn (.yield Y) [] [],.ptr p 0] H1 (Iv R S j (λ _=>False) H1 ((N2 ys.length).map λ(i:Nat)=>[AV.int .i64 (i:Int),AV.agg (cN (ys.getD i ⟨0,0⟩))]).length)by
  have⟨v,H',P,W',q1,q2,q3⟩:=h.elim;exact⟨v,H',W',P,q1,q2,q3⟩
 refine qov ?_;have lp:Op.ae [.ptr p 0] H1=B1 v:=by rw[x9 (xc (by rw[p2];exact hp))];rfl
 have L:∀{a:ar},Fr j H1 a->Db a v ys:=λ{a}f =>
  Own.fr Z (⟨xx G f.au,λ y d hw=>by
   have⟨y1,y2,y3⟩:=K y (.inl (wh.1 hw));rw[f.ah y (by omega) y3,y2]⟩:Fr (λ y=>¬(y=p\/aM v y)) H0 a) λ y d w=>w (.inr d)
 rw[xu,jd];simp only[aa,bc,Uz,lp,(aO.sl (L (Fr.refl _))).len];refine b9.intro (λ n E a=>∃(i:Nat)(V:Nat->Prop),E=[(7,.int .i64 (i:Int)),(6,.int .i64 ((ys.length:Nat):Int)),(5,v),(0,.fn (.yield Y) [] []),(1,.ptr p 0)]/\n=ys.length-i/\i<=ys.length/\Jw R j H1 a i V) ?_ ?_
 .exact ⟨_,_,⟨0,j,rfl,rfl,xw _,⟨C,λ b hb=>⟨D b hb,.inl hb⟩,Fr.refl _⟩⟩,by simp only[aa,bc]⟩
 rintro n E a ⟨i,V,rfl,rfl,hi,hI⟩;rcases xz i ys.length with s|T
 .have B:(i:Int)<((ys.length:Nat):Int):=by omega
  obtain⟨e,he⟩:∃e,ys[i]? = B1 e:=⟨ys[i],by simp[s]⟩
  have sl:=aO.sl (L hI.fr);have ix:Op.aR 2 [v,.int .i64 (i:Int)]=B1 (Nm v i):=sl.idx he rfl .i64;have ld:Op.aq 2 [Nm v i] a=B1 (.agg (cN e)):=sl.aq ER (by decide) he;have bx:=Uw (H1:=a) e;obtain⟨u,e2⟩:∃X,X=(a.alloc (OR [.int .i64 0,.int .u64 0] vz)).set a.au (OR (cN e) vz):=⟨_,rfl⟩
  rw[<-e2]at bx;have z:Fr Em a u:=by rw[e2];exact zK _ _
  have O:u.get a.au=B1 (OR (cN e) vz):=by rw[e2,xb]
  have I:Op.aq 2 [.ptr a.au 0] u=B1 (.agg (cN e)):=rT (xc O) (by simp[cN]);have n2:=z.au;have⟨bb,J,A,hr,Q,m,W,hs⟩:=step i [.int .i64 (i:Int),.agg (cN e)] (by rw[xq,kj s,Gs,zw,he];rfl) V u (loc _ _ _ _ hI.hR (λ y d=>z.ah y (hI.hV y d).1 id) n2) (λ y d=>⟨by have:=(hI.hV y d).1;omega,(hI.hV y d).2⟩) ((hI.fr.em z).mono λ _ _ q=>.inl q);have k:Fr j H1 J:=(hI.fr.em z).trans Q λ y q=>(hI.hV y q).2;have l:∀y,A y->y<J.au/\(j y\/H1.au<=y):=λ y q=>⟨(m y q).1,(m y q).2.elim (λ w=>(hI.hV y w).2) λ w=>.inr (by have:=hI.fr.au;omega)⟩
  have wj:aj .i64 ((i:Int)+1)=((i+1:Nat):Int):=by rw[jb (by omega) (by omega)];omega
  simp only[aa,bc,Uz,B,ix,ld,bx,I];refine C3.tR hr ?_;cases bb with
  |true =>
   simp only[aa,bc,Uz,wj];exact⟨_,_,⟨i+1,A,rfl,rfl,by omega,⟨W rfl,l,k⟩⟩,by simp only[aa,bc],by omega⟩
  |false =>
   simp only[aa,bc];exact⟨A,k.mono λ _ _ q=>.inl q,l,.inr (hs rfl)⟩
 .have B:¬(i:Int)<((ys.length:Nat):Int):=by omega
  have F:i=ys.length:=by omega
  simp only[aa,bc,Uz,B];exact⟨V,hI.fr.mono λ _ _ q=>.inl q,hI.hV,.inl (by rw[<-F];exact hI.hR)⟩
structure Tt(ys:List Pr)(t:Nat)(i:Nat)(V:Nat->Prop)(Hx:ar):Prop where
 vt:V t
 lt:t<Hx.au
 ls:∃lv,Hx.get t=B1 (OR [lv] nJ)/\Db Hx lv (ys.take i) /\ ∀a,aM lv a->V a/\t<a
def Tt.loc{ys:List Pr}{t i:Nat}{V:Nat->Prop}{a Hb:ar}(h:Tt ys t i V a)(hs:∀x,V x->Hb.get x=a.get x)(hn:a.au<=Hb.au):Tt ys t i V Hb:=by
 have⟨lv,l1,l2,l3⟩:=h.ls;refine⟨h.vt,qn h.lt hn,lv,by rw[hs _ h.vt];exact l1,?_,l3⟩;exact Own.fr l2 (⟨hn,λ b _ hw=>hs b (wh.1 hw)⟩:Fr (λ b=>¬V b) a Hb) λ x d w=>w (l3 x d).1
section
variable{H H':ar}{o o':Nat->Nat}{t r mb c:Nat}{ps:List Pr}{pv:AV}
def xlm{α:Type}{enc:α->List AV}{e size:Nat}{H:ar}{v:AV}{xs:List α}(h:aO enc e size H v xs):AV.cells v=[v]:=by
 obtain⟨_,⟨_,rfl|⟨_,rfl,_⟩⟩|⟨_,rfl,_,_⟩⟩:=h<;>rfl
def yW{α:Type}{enc:α->List AV}{e size:Nat}{H:ar}{v:AV}{xs:List α}(h:aO enc e size H v xs)(a:xs≠[]):aM v (aG v):=⟨λ w=>by
 subst w;have:=(aO.sl h).len;have q:Op.cw [AV.nils]=B1 (.int .i64 0):=rfl;rw[q]at this;injection this with this;injection this with _ this
 exact a (js.1 (by omega)),rfl⟩
def JS(h:vQ H o t r ps pv mb c):zb M Ql [.ptr r 0] H λ v H'=>Db H' v ps/\(∀z,aM v z->H.au<=z)/\Fr Em H H':=by
 refine xjk ?_;have⟨H1,e1,f1,n1,g1⟩:=cq H (OR [.nils] nJ);obtain⟨D,e2,E,-,g2⟩:=cq H1 (OR [pv] nJ);have n2:D.au=H.au+2:=by rw[e2,xy,n1]
 have O:D.get H.au=B1 (OR [.nils] nJ):=by rw[E.ah _ (by omega) id];exact g1
 have f2:=f1.em E;have ow2:Db D pv ps:=Own.em h.ow f2;have l0:=(h.row.em f1).ld 0;have al:zb M S1 [.ptr r 0] H1 λ v H'=>v=.fn (.func vn) [] [.ptr H1.au 0]/\H'=D:=by
  refine q7y ?_;simp only[aa,bc,q7z,aw,l0];refine C3.q (R:=λ v H'=>v=.fn (.func vn) [] [.ptr H1.au 0]/\H'=D) ?_ λ v H' q=>?_
  .refine qrw ?_;have mk:Op.bH vn 0 [.ptr H1.au 0]=B1 (.fn (.func vn) [] [.ptr H1.au 0]):=rfl;simp only[aa,bc,qrx,xlm h.ow,<-e2];rfl
  .simp only[aa,bc];exact q
 simp only[aa,bc,Zv,<-e1];refine C3.q al λ v H'⟨hv,hh⟩=>?_;subst hv;subst hh;simp only[aa,bc];have hl:=h.le;have lv:∀z,aM pv z->z<H.au:=λ z q=>Own.lt h.ow z q;refine iE.iter (fn:=Si) (lp:=OS) (pa:=XS 0) (pb:=YM 0) xfu qzw.1 qzw.2 (by decide) xc6 xc7
  (xk2 ow2 g2 (by omega) (by omega)) (λ i V Hx=>Tt ps H.au i V Hx) (λ _ _ _=>False) (λ x=>x=H.au) (qm _) ?_ ?_ ?_ ?_ ?_ ?_ ?_ ?_
 .rintro x ((q|q)|q)
  .exact ⟨by omega,rfl,λ w=>by omega⟩
  .have:=lv x q;exact⟨by omega,rfl,λ w=>by omega⟩
  .exact q.elim
 .exact λ x U=>by omega
 .exact ⟨rfl,by omega,.nils,O,Own.nil ..,λ x q=>(q.1 rfl).elim⟩
 .exact λ i V Ha Hb h hs hn=>h.loc hs hn
 .exact λ e V Ha Hb h _ _=>h
 .intro L i lr lb x U hL V l b hV hf6 B P S;rw[xq,xr]at U;obtain⟨j,T,rfl⟩:=U;have G:i<ps.length:=by have:=(qt.1 T).1;rw[jd]at this;exact this
  rw[kj G]at T;cases T;obtain⟨e,hk⟩:∃e,ps[i]? = B1 e:=⟨ps[i],by simp[G]⟩
  have he:ps.getD i ⟨0,0⟩=e:=by rw[zw,hk];rfl
  rw[he];refine⟨_,rfl,?_⟩;obtain⟨-,wa,wb,-⟩:=Zv M ⟨B1 L,Ql⟩;have bx:=Uw (H1:=l) e;obtain⟨m,K⟩:∃X,X=(l.alloc (OR [.int .i64 0,.int .u64 0] vz)).set l.au (OR (cN e) vz):=⟨_,rfl⟩
  rw[<-K]at bx;have N:Fr Em l m:=by rw[K];exact zK _ _
  have n7:m.au=l.au+1:=by rw[K];rfl
  have g7:m.get l.au=B1 (OR (cN e) vz):=by rw[K,xb]
  simp only[aa,bc,wa,bx,A9];refine⟨by rw[N.ah L P id];exact S,?_⟩;have gL:(m.set L lb).get L=B1 lb:=xb ..;have g8:(m.set L lb).get l.au=B1 (OR (cN e) vz):=by rw[kr (by omega)];exact g7
  have f8:Fr (λ y=>V y\/y=L) l (m.set L lb):=(N.mono λ _ _ q=>q.elim).set (.inl (.inr rfl)) _;have u:=b.loc (Hb:=m.set L lb) (λ y hy=>by rw[kr (λ q:L=y=>B (by rw[q];exact hy)),N.ah y (hV y hy).1 id]) (by rw[tj];omega);have n8:(m.set L lb).au=l.au+1:=by rw[tj,n7]
  generalize m.set L lb=H8 at *;have⟨f,l1,l2,l3⟩:=u.ls;have Y:Op.ae [.ptr H.au 0] H8=B1 f:=x9 (xc l1) 0;have ld:Op.aq 2 [.ptr l.au 0] H8=B1 (.agg (cN e)):=rT (xc g8) (by simp[cN]);have nj:(ps.take i).length<=128:=by rw[jx];omega
  simp only[aa,bc,wb,Y,ld];refine aO.pK (bytes:=16) l2 (a:=e) rfl rfl rfl rfl (by decide) (by omega) (by omega) λ k J A p F=>?_;have q9:At J H.au nJ [f]:=⟨by rw[p.ah _ u.lt λ q=>by have:=(l3 _ q).2;omega];exact l1,qn u.lt p.au⟩
  have o1:aB k=true:=by have:=Sl.one (Own.sl A);exact this
  have st:=q9.st 0 o1 (by simp);obtain⟨C,n⟩:∃X,X=J.set H.au (OR ([f].set 0 k) nJ):=⟨_,rfl⟩
  rw[<-n]at st;have s:Fr (On H.au) J C:=by rw[n];exact cm ..
  simp only[aa,bc,st];have I:∀y,aM k y->H.au<y:=λ y q=>(F y q).elim (λ q=>(l3 y q).2) λ q=>by have:=b.lt;omega
  have nf:=p.au;have Z:C.au=J.au:=by rw[n];rfl
  have tk:ps.take (i+1)=ps.take i ++ [e]:=by rw[kq,hk];rfl
  refine⟨rfl,?_,λ y=>V y\/aM k y,?_,?_,.inl ⟨rfl,.inl b.vt,by have:=b.lt;omega,k,by rw[n,xb];rfl,?_,λ y q=>⟨.inr q,I y q⟩⟩⟩
  .rw [s.ah L (by omega) (λ(q:L=H.au)=>B (by rw[q];exact b.vt)),p.ah L (by omega) λ q=>B (l3 _ q).1];exact gL
  .rintro y (q|q)
   .exact ⟨by have:=(hV y q).1;omega,.inl q⟩
   .refine ⟨by rw[Z];exact Own.lt A y q,?_⟩;rcases F y q with w|w
    .exact .inl (l3 y w).1
    .exact .inr (by omega)
  .exact ((f8.trans p λ y q=>.inl (.inl (l3 y q).1)).trans s λ y(q:y=H.au)=>.inl (.inl (by rw[q];exact b.vt)))
  .rw [tk];exact Own.fr A s λ y q(w:y=H.au)=>by have:=I y q;omega
 .rintro d V H' hd Q hg p hV b;rw[xu,jd]at b;have⟨f,l1,l2,l3⟩:=b.ls;rw[KP]at l2;have hd':d≠H.au:=by omega
  have fd:Fr (On d) H' (H'.set d (.deferred B5)):=(Fr.refl H').set (W:=On d) (.inl rfl) _;have Y:Op.ae [.ptr H.au 0] H'=B1 f:=x9 (xc l1) 0;simp only[aa,bc,Zv,Y];refine⟨hg,Own.fr l2 fd λ z q(w:z=d)=>(hV z (l3 z q).1).2.2 w,λ z q=>?_,?_⟩
  .have:=(l3 z q).2;omega
  .exact (f2.trans (p.mono λ z _ q=>q.elim id NR) λ z q=>.inr (by omega)).trans fd λ z(q:z=d)=>.inr (by omega)
 .rintro e d V H' he hd Q hg p hV b;exact b.elim
end
section
variable{H H':ar}{o o':Nat->Nat}{g:Nat}{rd wr:List Pr}
def Mx(h:pE H o g rd wr):zb M _X [.ptr g 0] H λ v H'=>Db H' v rd/\(∀z,aM v z->H.au<=z)/\Fr Em H H':=by
 refine q5k ?_;have a:=h;have⟨r,w,v1,k,e,v2,l,f,b,i,d,j⟩:=h;have l0:=b.ld 0;simp only[aa,bc,q5l,aw,nT a,l0];refine C3.q (JS d) λ v H1 hp=>?_;simp only[aa,bc];exact hp
def xS(h:pE H o g rd wr):zb M Y' [.ptr g 0] H λ v H'=>Db H' v wr/\(∀z,aM v z->H.au<=z)/\Fr Em H H':=by
 refine q0p ?_;have a:=h;have⟨r,w,v1,k,e,v2,l,f,b,i,j,d⟩:=h;have l1:=b.ld 1;simp only[aa,bc,q0q,aw,nT a,l1];refine C3.q (JS d) λ v H1 hp=>?_;simp only[aa,bc];exact hp
end
end Go.Am
namespace Go.Am
open Lang Go.Proofs
variable{M:ak}[MK M]
def Bx(H:ar)(o:Nat->Nat)(b:Nat)(v:AV):Prop:=H.bX b=B1 [v]/\b<H.au/\o b=30
def By(H:ar)(o:Nat->Nat)(b:Nat)(v:AV):Prop:=(∃t,H.get b=B1 (OR [v] t))/\b<H.au/\o b=31
def mr(f:Nat)(l:List Nat):AV:=.fn (.func f) [] (l.map λ b=>.ptr b 0)
def sV(H:ar)(o:Nat->Nat)(p:Nat)(kv:AV):K0->Prop
 | .wait=>kv=.fn (.func VE) [.ptr p 0] []
 | .left how=>∃b1 b2,kv=mr UY [b1,b2]/\Bx H o b1 (.int .i64 how)/\Bx H o b2 (.ptr p 0)
 | .kX a=>0<=a /\ ∃b1 b2,kv=mr XC [b1,b2]/\Bx H o b1 (.ptr p 0)/\Bx H o b2 (.int .i64 a)
 | .take=>kv=.fn (.func YY) [.ptr p 0] []
 | .back l=>(∀x∈l,fI x.v) /\ ∃b1 b2 lv y,kv=mr VG [b1,b2]/\Bx H o b1 (.ptr p 0)/\Bx H o b2 lv/\bN cN 2 H lv (y::l)/\aG lv<H.au/\o (aG lv)=30
 | .fin=>∃b1,kv=mr Z0 [b1]/\Bx H o b1 (.ptr p 0)
def Jc(H:ar)(o:Nat->Nat)(p:Nat)(gv:AV):Option K0->Prop
 |none=>gv=.fn (.func Vj) [.ptr p 0] []
 |some k=>∃b1 b2 kv,gv=mr qh4 [b1,b2]/\Bx H o b1 (.ptr p 0)/\Bx H o b2 kv/\sV H o p kv k
structure K1(H:ar)(o:Nat->Nat)(p:Nat)(k:K0)(g:Int)(rd:List Pr)(bi bg bp bk br bs bl ba:Nat):Prop where
 hg:Bx H o bg (.int .u64 g)
 hp:Bx H o bp (.ptr p 0)
 hk:∃kv,Bx H o bk kv/\sV H o p kv k/\aB kv=B4
 hr:∃rv,Bx H o br rv/\bN cN 2 H rv rd/\(rd≠[]->aG rv<H.au/\o (aG rv)=30)/\aB rv=B4
 hs:By H o bs (mr T5 [bi,br,bp,bl,ba])
 hl:Bx H o bl (mr SQ [br,bi,bp,bs])
 ha:Bx H o ba (mr TH [bg,bp,bk])
 hn:rd.length<=128
def FE(H:ar)(o:Nat->Nat)(p:Nat)(tv:AV):Nx->Prop
 | .wJ n k=>∃b1 b2 b3 kv,tv=mr γ [b1,b2,b3]/\Bx H o b1 (.ptr p 0)/\Bx H o b2 (.int .u64 n)/\Bx H o b3 kv/\sV H o p kv k
 | .uX n k=>∃b1 b2 b3 kv,tv=mr _G [b1,b2,b3]/\Bx H o b1 (.ptr p 0)/\Bx H o b2 (.int .u64 n)/\Bx H o b3 kv/\sV H o p kv k
 | .wU=>∃b1 b2 gv,tv=mr SH [b1,b2]/\Bx H o b1 (.ptr p 0)/\Bx H o b2 gv/\Jc H o p gv B5
 | .xB k=>∃b1 b2 gv,tv=mr SH [b1,b2]/\Bx H o b1 (.ptr p 0)/\Bx H o b2 gv/\Jc H o p gv (B1 k)
 | .look k g rd i=>∃bi bg bp bk br bs bl ba,tv=mr SQ [br,bi,bp,bs]/\By H o bi (.int .i64 (i:Int))/\i<rd.length/\K1 H o p k g rd bi bg bp bk br bs bl ba
 | .again k g=>∃bg bp bk kv,tv=mr TH [bg,bp,bk]/\Bx H o bg (.int .u64 g)/\Bx H o bp (.ptr p 0)/\Bx H o bk kv/\sV H o p kv k
 | .wY a=>0<=a /\ ∃b1 b2,tv=mr _e [b1,b2]/\Bx H o b1 (.ptr p 0)/\Bx H o b2 (.int .i64 a)
 | .oi a v=>(0<=a/\fI v) /\ ∃b1 b2 b3,tv=mr V_ [b1,b2,b3]/\Bx H o b1 (.ptr p 0)/\Bx H o b2 (.int .i64 a)/\Bx H o b3 (.int .u64 v)
 | .uT=>∃b1,tv=mr ql8 [b1]/\Bx H o b1 (.ptr p 0)
 | .Gd k=>sV H o p tv k
def FU:Nx->Nat
 | .uX _ _=>Oy
 | .uT=>Oy
 | .Gd _=>Z8
 |_=>Qp
def NS(H:ar)(o:Nat->Nat)(p:Nat)(fv:AV):Option Nx->Prop
 |none=>fv=.nilf
 |some n=>∃b tv,fv=mr (FU n) [b]/\Bx H o b tv/\FE H o p tv n
def iS(r:Rq):List AV:=[.int .i64 r.op,.int .i64 r.a,.int .u64 r.v,.int .u64 r.o]
def dL(x:So)(g:Nat)(fv:AV):List AV:=.ptr g 0::(iS x.want ++ [fv,.bool x.busy,.bool x.live,.bool x.aJ,.int .u64 x.snap,.int .u64 x.value,.int .i64 x.ended,.int .i64 x.points])
structure dX(H:ar)(o:Nat->Nat)(p:Nat)(x:So)(g:Nat)(fv:AV):Prop where
 row:At H p Dv (dL x g fv)
 lg:pE H o g x.rd x.wr
 nx:NS H o p fv x.au
 op:o p=8
 one:aB fv=B4
 vu:fI x.value
 wu:∀y∈x.wr,fI y.v
 qu:fI x.want.v
def eM(H:ar)(o:Nat->Nat)(p:Nat)(x:So)(H':ar):Prop:=∃o' g fv,dX H' o' p x g fv/\(∀z,z<H.au->o' z=o z)/\Fr (λ z=>8<=o z) H H'
section
variable{H H':ar}{o o':Nat->Nat}{p g:Nat}{x y:So}{fv kv gv tv:AV}{k:K0}{n:Nx}
structure FK(H:ar)(o:Nat->Nat)(H':ar)(o':Nat->Nat):Prop where
 ah:∀z,z<H.au->o z=30->H'.get z=H.get z
 own:∀z,z<H.au->o' z=o z
 au:H.au<=H'.au
structure pN(H:ar)(o:Nat->Nat)(H':ar)(o':Nat->Nat):Prop where
 m:FK H o H' o'
 ah:∀z,z<H.au->o z=31->H'.get z=H.get z
def FK.of{W:Nat->Prop}(a:Fr W H H')(hw:∀z,z<H.au->o z=30 -> ¬W z)(ho:∀z,z<H.au->o' z=o z):FK H o H' o':=⟨λ z h q=>a.ah z h (hw z h q),ho,a.au⟩
def pN.of{W:Nat->Prop}(a:Fr W H H')(hw:∀z,z<H.au->30<=o z -> ¬W z)(ho:∀z,z<H.au->o' z=o z):pN H o H' o':=⟨FK.of a (λ z h q=>hw z h (by omega)) ho,λ z h q=>a.ah z h (hw z h (by omega))⟩
def pN.own(a:pN H o H' o'):∀z,z<H.au->o' z=o z:=a.m.own
def Bx.km{b:Nat}{v:AV}(h:Bx H o b v)(a:FK H o H' o'):Bx H' o' b v:=⟨(q8j (a.ah b h.2.1 h.2.2)).trans h.1,qn h.2.1 a.au,(a.own b h.2.1).trans h.2.2⟩
def Bx.ky{b:Nat}{v:AV}(h:Bx H o b v)(a:pN H o H' o'):Bx H' o' b v:=h.km a.m
def By.ky{b:Nat}{v:AV}(h:By H o b v)(a:pN H o H' o'):By H' o' b v:=⟨by rw[a.ah b h.2.1 h.2.2];exact h.1,qn h.2.1 a.m.au,(a.own b h.2.1).trans h.2.2⟩
def By.ld{b:Nat}{v:AV}(h:By H o b v):Op.ae [.ptr b 0] H=B1 v:=by have⟨t,q⟩:=h.1;exact x9 (xc q) 0
def Bx.ld{b:Nat}{v:AV}(h:Bx H o b v):Op.ae [.ptr b 0] H=B1 v:=x9 h.1 0
def FK.sl{lv:AV}{b:List Pr}(a:FK H o H' o')(h:bN cN 2 H lv b)(c:b≠[]->aG lv<H.au/\o (aG lv)=30):bN cN 2 H' lv b:=by
 cases b with
 |nil=>exact Sl.fr (W:=λ _=>True) h ⟨a.au,λ _ _ q=>(q trivial).elim⟩ (.inl rfl)
 |cons y l =>
  have⟨d,e⟩:=c (by simp);exact Sl.fr (W:=λ z=>z≠aG lv) h ⟨a.au,λ z _ q=>by rw[wh.1 q];exact a.ah _ d e⟩ (.inr λ q=>q rfl)
def sV.km(h:sV H o p kv k)(a:FK H o H' o'):sV H' o' p kv k:=by
 cases k with
 |wait=>exact h
 |left how=>have⟨b,e,c,d,f⟩:=h;exact⟨b,e,c,d.km a,f.km a⟩
 |kX z=>have⟨i,b,e,c,d,f⟩:=h;exact⟨i,b,e,c,d.km a,f.km a⟩
 |take=>exact h
 |back l=>have⟨i,b,e,lv,y,c,d,f,q,j,m⟩:=h;exact⟨i,b,e,lv,y,c,d.km a,f.km a,a.sl q λ _=>⟨j,m⟩,qn j a.au,(a.own _ j).trans m⟩
 |fin=>have⟨b,c,d⟩:=h;exact⟨b,c,d.km a⟩
def sV.ky(h:sV H o p kv k)(a:pN H o H' o'):sV H' o' p kv k:=h.km a.m
def sV.one(h:sV H o p kv k):aB kv=true:=by
 cases k with
 |wait=>rw[show kv=_ from h];rfl
 |left how=>have⟨b,d,a,c,f⟩:=h;rw[a];rfl
 |kX z=>have⟨e,b,d,a,c,f⟩:=h;rw[a];rfl
 |take=>rw[show kv=_ from h];rfl
 |back l=>have⟨e,b,d,lv,y,a,c⟩:=h;rw[a];rfl
 |fin=>have⟨b,a,c⟩:=h;rw[a];rfl
def Jc.ky{ko:Option K0}(h:Jc H o p gv ko)(a:pN H o H' o'):Jc H' o' p gv ko:=by
 cases ko with
 |none=>exact h
 |some k=>have⟨b,c,kv,d,e,f,i⟩:=h;exact⟨b,c,kv,d,e.ky a,f.ky a,i.ky a⟩
def K1.ky{g:Int}{rd:List Pr}{bi d f bk i bs e c:Nat}(h:K1 H o p k g rd bi d f bk i bs e c)(a:pN H o H' o'):K1 H' o' p k g rd bi d f bk i bs e c:=by
 have⟨kv,j,l,r⟩:=h.hk;have⟨rv,s,t,b,u⟩:=h.hr;exact⟨h.hg.ky a,h.hp.ky a,⟨kv,j.ky a,l.ky a,r⟩,⟨rv,s.ky a,a.m.sl t b,λ q=>⟨qn (b q).1 a.m.au,(a.own _ (b q).1).trans (b q).2⟩,u⟩,h.hs.ky a,h.hl.ky a,h.ha.ky a,h.hn⟩
def FE.ky(h:FE H o p tv n)(a:pN H o H' o'):FE H' o' p tv n:=by
 cases n with
 |wJ m k=>have⟨d,f,l,kv,b,c,e,j,q⟩:=h;exact⟨d,f,l,kv,b,c.ky a,e.ky a,j.ky a,q.ky a⟩
 |uX m k=>have⟨d,f,l,kv,b,c,e,j,q⟩:=h;exact⟨d,f,l,kv,b,c.ky a,e.ky a,j.ky a,q.ky a⟩
 |wU=>have⟨d,f,gv,b,c,e,j⟩:=h;exact⟨d,f,gv,b,c.ky a,e.ky a,j.ky a⟩
 |xB k=>have⟨d,f,gv,b,c,e,j⟩:=h;exact⟨d,f,gv,b,c.ky a,e.ky a,j.ky a⟩
 |look k g rd i=>have⟨bi,t,w,bk,A,bs,u,s,b,c,e,j⟩:=h;exact⟨bi,t,w,bk,A,bs,u,s,b,c.ky a,e,j.ky a⟩
 |again k g=>have⟨d,f,l,kv,b,c,e,j,q⟩:=h;exact⟨d,f,l,kv,b,c.ky a,e.ky a,j.ky a,q.ky a⟩
 |wY z=>have⟨r,d,f,b,c,e⟩:=h;exact⟨r,d,f,b,c.ky a,e.ky a⟩
 |oi z v=>have⟨r,d,f,l,b,c,e,j⟩:=h;exact⟨r,d,f,l,b,c.ky a,e.ky a,j.ky a⟩
 |uT=>have⟨d,b,c⟩:=h;exact⟨d,b,c.ky a⟩
 |Gd k=>exact sV.ky h a
def NS.ky{no:Option Nx}(h:NS H o p fv no)(a:pN H o H' o'):NS H' o' p fv no:=by
 cases no with
 |none=>exact h
 |some n=>have⟨b,tv,c,d,e⟩:=h;exact⟨b,tv,c,d.ky a,e.ky a⟩
def dX.fr{W:Nat->Prop}(h:dX H o p x g fv)(a:Fr W H H')(hw:∀z,z<H.au->8<=o z -> ¬W z)(ho:∀z,z<H.au->o' z=o z):dX H' o' p x g fv :=
 ⟨h.row.fr a (hw p h.row.2 (by rw[h.op];decide)),h.lg.fr a (λ z q w=>hw z q (by omega)) ho,h.nx.ky (pN.of a (λ z q w=>hw z q (by omega)) ho),(ho p h.row.2).trans h.op,h.one,h.vu,h.wu,h.qu⟩
def dX.same(h:dX H o p x g fv):eM H o p x H:=⟨o,g,fv,h,λ _ _=>rfl,Fr.refl _⟩
def dX.box(h:dX H o p x g fv)(v:AV)(t:Nat):dX (H.alloc (OR [v] t)) (aP o H.au 30) p x g fv/\Bx (H.alloc (OR [v] t)) (aP o H.au 30) H.au v/\pN H o (H.alloc (OR [v] t)) (aP o H.au 30):=by
 have f:Fr Em H (H.alloc (OR [v] t)):=(Fr.refl H).alloc _;have ho:∀z,z<H.au->aP o H.au 30 z=o z:=λ z q=>iT q;exact⟨h.fr f (λ _ _ _ q=>q) ho,⟨xc (xp ..),by rw[xy];omega,nh (qm _)⟩,pN.of f (λ _ _ _ q=>q) ho⟩
theorem eM.pre{H1:ar}{o1:Nat->Nat}(a:Fr Em H H1)(ho:∀z,z<H.au->o1 z=o z)(h:eM H1 o1 p y H'):eM H o p y H':=by
 have⟨o2,c,b,d,e,f⟩:=h;refine⟨o2,c,b,d,λ z q=>(e z (qn q a.au)).trans (ho z q),(a.mono λ _ _ q=>q.elim).trans f λ z q=>?_⟩;rcases xz z H.au with w|w
 .exact .inl (by rw[<-ho z w];exact q)
 .exact .inr w
def eM.then{H1:ar}(a:eM H o p x H1)(b:∀o1 e c,dX H1 o1 p x e c->eM H1 o1 p y H'):eM H o p y H':=by
 have⟨o1,e,c,j,f,h⟩:=a;have⟨o2,i,d,l,m,r⟩:=b o1 e c j;refine⟨o2,i,d,l,λ z q=>(m z (qn q h.au)).trans (f z q),h.trans r λ z q=>?_⟩;rcases xz z H.au with w|w
 .exact .inl (by rw[<-f z w];exact q)
 .exact .inr w
def dX.bm(h:dX H o p x g fv):Op.ae [.ptr p 0] H=B1 (.ptr g 0)/\Op.ae [.ptr p 5] H=B1 fv/\Op.ae [.ptr p 6] H=B1 (.bool x.busy)/\Op.ae [.ptr p 7] H=B1 (.bool x.live)/\Op.ae [.ptr p 8] H=B1 (.bool x.aJ)/\Op.ae [.ptr p 9] H=B1 (.int .u64 x.snap)/\Op.ae [.ptr p 10] H=B1 (.int .u64 x.value)/\Op.ae [.ptr p 11] H=B1 (.int .i64 x.ended)/\Op.ae [.ptr p 12] H=B1 (.int .i64 x.points) :=
 ⟨h.row.ld 0,h.row.ld 5,h.row.ld 6,h.row.ld 7,h.row.ld 8,h.row.ld 9,h.row.ld 10,h.row.ld 11,h.row.ld 12⟩
theorem dX.put(h:dX H o p x g fv)(i:Nat){v:AV}(c:aB v=B4)(d:i<13)(he:(dL x g fv).set i v=dL y g fv)(hs:y.rd=x.rd/\y.wr=x.wr/\y.au=x.au/\y.want=x.want)(hu:fI y.value) :
 ∃H',Op.store 1 [.ptr p i,v] H=B1 (.undef,H')/\dX H' o p y g fv/\Fr (On p) H H':=by
 refine⟨_,h.row.st i c d,?_,cm ..⟩;rw[he];have f:Fr (On p) H (H.set p (OR (dL y g fv) Dv)):=cm ..;have np:∀z,9<=o z -> ¬On p z:=λ z q(w:z=p)=>by rw[w,h.op]at q;omega
 have⟨e1,e2,a,b⟩:=hs;exact⟨h.row.set _,by rw[e1,e2];exact h.lg.fr f (λ z _ q=>np z q) λ _ _=>rfl,by rw[a];exact h.nx.ky (pN.of f (λ z _ q=>np z (by omega)) λ _ _=>rfl),h.op,h.one,hu,by rw[e2];exact h.wu,by rw[b];exact h.qu⟩
def dX.Cp(h:dX H o p x g fv){H1:ar}(f:Fr (On p) H H1)(a:dX H1 o p y g fv):eM H o p y H1:=⟨o,g,fv,a,λ _ _=>rfl,f.mono λ z _(q:z=p)=>by rw[q,h.op];decide⟩
def Kj(h:dX H o p x g fv){r:Rq}(hr:fI r.v){nv:AV}(hn:NS H o p nv (B1 n)):zb M v_ [.ptr p 0,.agg (iS r),nv] H λ _ H'=>eM H o p (x.ask r n) H':=by
 refine q6r ?_;obtain⟨H1,e1,d,-,-⟩:=cq H (OR (iS r) EK);have j:At H1 H.au EK (iS r):=e1▸At.new H _ _;have e:=h.fr d (λ _ _ _ q=>q) λ _ _=>rfl;have l4:=j.eI (k:=0) (n:=4) (by simp[iS]);have one:aB nv=true:=by obtain⟨b,tv,q,-⟩:=hn;rw[q];rfl
 have s1:=e.row.fH (k:=1) (n:=4) (v:=.agg (iS r)) rfl (by simp[dL,iS]) rfl;have e2:(dL x g fv).take 1++AV.cells (.agg (iS r))++(dL x g fv).drop (1+4)=dL {x with want:=r} g fv:=rfl;rw[e2]at s1;obtain⟨H2,a⟩:∃X,X=H1.set p (OR (dL {x with want:=r} g fv) Dv):=⟨_,rfl⟩
 rw[<-a]at s1;have i:At H2 p Dv (dL {x with want:=r} g fv):=a▸e.row.set _;have s2:=i.st 5 one (by simp[dL,iS]);have m:(dL {x with want:=r} g fv).set 5 nv=dL (x.ask r n) g nv:=rfl;rw[m]at s2;have l:AV.cells (.agg (iS r))=iS r:=zp _;have c:Op.aq 4 [.ptr H.au 0] H1=B1 (.agg (iS r)):=l4;simp only[aa,bc,q6s,aw,l,<-e1,c,s1,s2];have s:Fr (On p) H1 H2:=a▸cm ..;have t:Fr (On p) H2 (H2.set p (OR (dL (x.ask r n) g nv) Dv)):=cm ..;have f:Fr (On p) H (H2.set p (OR (dL (x.ask r n) g nv) Dv)):=((d.mono λ _ _ q=>q.elim).trans s λ z q=>.inl q).trans t λ z q=>.inl q;have np:∀z,9<=o z -> ¬On p z:=λ z q(w:z=p)=>by rw[w,h.op]at q;omega
 exact⟨o,g,nv,⟨i.set _,h.lg.fr f (λ z _ q=>np z q) λ _ _=>rfl,NS.ky hn (pN.of f (λ z _ q=>np z (by omega)) λ _ _=>rfl),h.op,one,h.vu,h.wu,hr⟩,λ _ _=>rfl,f.mono λ z _(q:z=p)=>by rw[q,h.op];decide⟩
end
end Go.Am
namespace Go.Am
open Lang Go.Proofs
variable{M:ak}[MK M]
structure Mk(H:ar)(o:Nat->Nat)(H':ar)(o':Nat->Nat):Prop where
 f:Fr Em H H'
 ho:∀z,z<H.au->o' z=o z
section
variable{H H1 H2 H':ar}{o o1 o2 o':Nat->Nat}{p g:Nat}{x y:So}{fv kv gv tv:AV}{k:K0}{n:Nx}
def Mk.bk(m:Mk H o H1 o1):pN H o H1 o1:=pN.of m.f (λ _ _ _ q=>q) m.ho
theorem Mk.trans(m:Mk H o H1 o1)(w:Mk H1 o1 H2 o2):Mk H o H2 o2:=⟨m.f.em w.f,λ z q=>(w.ho z (qn q m.f.au)).trans (m.ho z q)⟩
theorem Mk.pre(m:Mk H o H1 o1)(h:eM H1 o1 p y H'):eM H o p y H':=eM.pre m.f m.ho h
def dX.bx(h:dX H o p x g fv)(v:AV)(t:Nat):∃H1 o1,H.alloc (OR [v] t)=H1/\dX H1 o1 p x g fv/\Bx H1 o1 H.au v/\Mk H o H1 o1:=by
 have⟨a,b,c⟩:=h.box v t;exact⟨_,_,rfl,a,b,(Fr.refl H).alloc _,c.own⟩
def dX.bz(h:dX H o p x g fv)(z:AV){v:AV}(a:aB v=B4)(t:Nat):∃H1 o1,Op.store 1 [.ptr H.au 0,v] (H.alloc (OR [z] t))=B1 (.undef,H1)/\dX H1 o1 p x g fv/\Bx H1 o1 H.au v/\Mk H o H1 o1:=by
 have s:=(At.new H [z] t).st 0 a (by simp);have f:Fr Em H ((H.alloc (OR [z] t)).set H.au (OR [v] t)):=((Fr.refl H).alloc _).set (.inr (qm _)) _;have ho:∀z,z<H.au->aP o H.au 30 z=o z:=λ z q=>iT q;exact⟨_,aP o H.au 30,s,h.fr f (λ _ _ _ q=>q) ho,⟨xc (xb ..),by rw[tj,xy];omega,nh (qm _)⟩,f,ho⟩
def dX.by0(h:dX H o p x g fv)(v:AV)(t:Nat):∃H1 o1,H.alloc (OR [v] t)=H1/\dX H1 o1 p x g fv/\By H1 o1 H.au v/\Mk H o H1 o1:=by
 have f:Fr Em H (H.alloc (OR [v] t)):=(Fr.refl H).alloc _;have ho:∀z,z<H.au->aP o H.au 31 z=o z:=λ z q=>iT q;exact⟨_,aP o H.au 31,rfl,h.fr f (λ _ _ _ q=>q) ho,⟨⟨t,xp ..⟩,by rw[xy];omega,nh (qm _)⟩,f,ho⟩
def dX.byz(h:dX H o p x g fv)(z:AV){v:AV}(a:aB v=B4)(t:Nat):∃H1 o1,Op.store 1 [.ptr H.au 0,v] (H.alloc (OR [z] t))=B1 (.undef,H1)/\dX H1 o1 p x g fv/\By H1 o1 H.au v/\Mk H o H1 o1:=by
 have s:=(At.new H [z] t).st 0 a (by simp);have f:Fr Em H ((H.alloc (OR [z] t)).set H.au (OR [v] t)):=((Fr.refl H).alloc _).set (.inr (qm _)) _;have ho:∀z,z<H.au->aP o H.au 31 z=o z:=λ z q=>iT q;exact⟨_,aP o H.au 31,s,h.fr f (λ _ _ _ q=>q) ho,⟨⟨t,xb ..⟩,by rw[tj,xy];omega,nh (qm _)⟩,f,ho⟩
def dX.sty{b:Nat}{w v:AV}(h:dX H o p x g fv)(hn:x.au=B5)(hb:By H o b w)(i:aB v=B4):∃H1,Op.store 1 [.ptr b 0,v] H=B1 (.undef,H1)/\dX H1 o p x g fv/\By H1 o b v/\FK H o H1 o/\Fr (On b) H H1:=by
 have⟨⟨t,j⟩,c,d⟩:=hb;have a:At H b t [w]:=⟨j,c⟩
 have f:Fr (On b) H (H.set b (OR [v] t)):=cm ..;have nb:∀z,o z≠31 -> ¬On b z:=λ z e(w:z=b)=>e (by rw[w];exact d);have nx:=h.nx;rw[hn]at nx;refine⟨_,a.st 0 i (by simp),⟨h.row.fr f (nb p (by rw[h.op];decide)),h.lg.Fx f (λ z _ e=>nb z (by omega)),by rw[hn];exact nx,h.op,h.one,h.vu,h.wu,h.qu⟩,⟨⟨t,xb ..⟩,c,d⟩,FK.of f (λ z _ e=>nb z (by omega)) λ _ _=>rfl,f⟩
def FE.one(h:FE H o p tv n):aB tv=true:=by
 cases n with
 |wJ m k=>have⟨c,d,e,kv,a,b⟩:=h;rw[a];rfl
 |uX m k=>have⟨c,d,e,kv,a,b⟩:=h;rw[a];rfl
 |wU=>have⟨c,d,gv,a,b⟩:=h;rw[a];rfl
 |xB k=>have⟨c,d,gv,a,b⟩:=h;rw[a];rfl
 |look k g rd i=>have⟨bi,l,r,bk,s,bs,q,j,a,b⟩:=h;rw[a];rfl
 |again k g=>have⟨c,d,e,kv,a,b⟩:=h;rw[a];rfl
 |wY z=>have⟨f,c,d,a,b⟩:=h;rw[a];rfl
 |oi z v=>have⟨f,c,d,e,a,b⟩:=h;rw[a];rfl
 |uT=>have⟨c,a,b⟩:=h;rw[a];rfl
 |Gd k=>exact sV.one h
def Jc.one{ko:Option K0}(h:Jc H o p gv ko):aB gv=true:=by
 cases ko with
 |none=>rw[show gv=_ from h];rfl
 |some k=>have⟨b,c,kv,a,d⟩:=h;rw[a];rfl
def sK(h:dX H o p x g fv)(a:Int)(b:FE H o p tv n)(hk:FU n=Qp):zb M _3 [.ptr p 0,.int .i64 a,tv] H λ _ H'=>eM H o p (x.ask ⟨1,a,0,0⟩ n) H':=by
 refine q1x ?_;have⟨H1,o1,e1,f,d,c⟩:=h.bx tv Sz;have e:Op.build [.int .i64 0,.int .i64 0,.int .u64 0,.int .u64 0] [(0,1),(1,1)] [.int .i64 1,.int .i64 a]=B1 (.agg (iS ⟨1,a,0,0⟩)):=rfl;simp only[aa,bc,q1y,Ft b.one,e1,e];refine C3.q (Kj f bI (n:=n) ⟨_,tv,by rw[hk];rfl,d,b.ky c.bk⟩) λ _ H2 hp=>?_;simp only[aa,bc];exact c.pre hp
def Ox(h:dX H o p x g fv)(a w:Int){v:Int}(i:fI v)(b:FE H o p tv n)(hk:FU n=Oy):zb M qqy [.ptr p 0,.int .i64 a,.int .u64 w,.int .u64 v,tv] H λ _ H'=>eM H o p (x.ask ⟨3,a,v,w⟩ n) H':=by
 refine q6t ?_;have⟨H1,o1,e1,f,d,c⟩:=h.bx tv LX;have e:Op.build [.int .i64 0,.int .i64 0,.int .u64 0,.int .u64 0] [(0,1),(1,1),(2,1),(3,1)] [.int .i64 3,.int .i64 a,.int .u64 v,.int .u64 w]=B1 (.agg (iS ⟨3,a,v,w⟩)):=rfl;simp only[aa,bc,q6u,Ft b.one,e1,e];refine C3.q (Kj f (r:=⟨3,a,v,w⟩) i (n:=n) ⟨_,tv,by rw[hk];rfl,d,b.ky c.bk⟩) λ _ H2 hp=>?_;simp only[aa,bc];exact c.pre hp
def Dr(h:dX H o p x g fv)(a:Int){v:Int}(i:fI v)(b:sV H o p tv k):zb M qnj [.ptr p 0,.int .i64 a,.int .u64 v,tv] H λ _ H'=>eM H o p (x.ask ⟨2,a,v,0⟩ (.Gd k)) H':=by
 refine qzc ?_;have⟨H1,o1,e1,f,d,c⟩:=h.bx tv HO;have e:Op.build [.int .i64 0,.int .i64 0,.int .u64 0,.int .u64 0] [(0,1),(1,1),(2,1)] [.int .i64 2,.int .i64 a,.int .u64 v]=B1 (.agg (iS ⟨2,a,v,0⟩)):=rfl;simp only[aa,bc,qzd,Ft b.one,e1,e];refine C3.q (Kj f (r:=⟨2,a,v,0⟩) i (n:=.Gd k) ⟨_,tv,rfl,d,b.ky c.bk⟩) λ _ H2 hp=>?_;simp only[aa,bc];exact c.pre hp
def wL(h:dX H o p x g fv)(z:Int)(hk:sV H o p kv k):zb M qng [.ptr p 0,.int .u64 z,kv] H λ _ H'=>eM H o p (x.count z k) H':=by
 refine qy2 ?_;have⟨H1,o1,e1,l,e,c⟩:=h.bx (.ptr p 0) Mc;have⟨H2,o2,e2,m,f,s⟩:=l.bx (.int .u64 z) Yr;have⟨t,o3,j,r,i,d⟩:=m.bx kv HO;have a:=s.trans d;have b:=e.ky a.bk;simp only[aa,bc,qy3,Ft hk.one,e1,e2,j,b.ld];refine C3.q (sK r 1 (n:=.wJ z k) ⟨_,_,_,kv,rfl,b,f.ky d.bk,i,hk.ky (c.trans a).bk⟩ rfl) λ _ u hp=>?_;simp only[aa,bc];exact(c.trans a).pre hp
def oQ(h:dX H o p x g fv)(a:Int):zb M Tw [.ptr p 0,.int .i64 a] H λ _ H'=>eM H o p (x.leave a) H':=by
 refine qy6 ?_;have⟨H1,o1,e1,f,d,j⟩:=h.bx (.ptr p 0) Mc;have⟨H2,o2,e2,i,e,c⟩:=f.bx (.int .i64 a) cF;have b:=d.ky c.bk;simp only[aa,bc,qy7,e1,e2,b.ld];refine C3.q (wL i 18446744073709551615 (k:=.left a) ⟨_,_,rfl,e,b⟩) λ _ l hp=>?_;simp only[aa,bc];exact(j.trans c).pre hp
def MM:Option K0->Nx
 |none=>.wU
 |some k=>.xB k
def qH(h:dX H o p x g fv){ko:Option K0}(hg:Jc H o p gv ko):zb M C_ [.ptr p 0,gv] H λ _ H'=>eM H o p (x.ask ⟨1,0,0,0⟩ (MM ko)) H':=by
 refine qwy ?_;have⟨H1,o1,e1,i,f,e⟩:=h.bx (.ptr p 0) Mc;have⟨H2,o2,e2,j,d,c⟩:=i.bx gv Sz;have b:=f.ky c.bk;have a:=hg.ky (e.trans c).bk;have l:FE H2 o2 p (mr SH [H.au,H1.au]) (MM ko):=by
  cases ko with
  |none=>exact⟨_,_,gv,rfl,b,d,a⟩
  |some k=>exact⟨_,_,gv,rfl,b,d,a⟩
 have hk:FU (MM ko)=Qp:=by cases ko<;>rfl
 simp only[aa,bc,qwz,Ft hg.one,e1,e2,b.ld];refine C3.q (sK j 0 l hk) λ _ m hp=>?_;simp only[aa,bc];exact(e.trans c).pre hp
def ZB(h:dX H o p x g fv)(hk:sV H o p kv k):zb M Y_ [.ptr p 0,kv] H λ _ H'=>eM H o p (x.validate k) H':=by
 refine qs1 ?_;have⟨H1,o1,e1,f,d,c⟩:=h.bx (.ptr p 0) Mc;have⟨H2,o2,e2,i,e,a⟩:=f.bx kv HO;have b:=d.ky a.bk;simp only[aa,bc,qs2,Ft hk.one,e1,e2,b.ld];refine C3.q (qH i (ko:=B1 k) ⟨_,_,kv,rfl,b,e,hk.ky (c.trans a).bk⟩) λ _ j hp=>?_;simp only[aa,bc];exact(c.trans a).pre hp
def Be(h:dX H o p x g fv){a:Int}(ha:0<=a):zb M mo [.ptr p 0,.int .i64 a] H λ _ H'=>eM H o p (x.kX a) H':=by
 refine qy4 ?_;have⟨H1,o1,e1,f,e,j⟩:=h.bx (.ptr p 0) Mc;have⟨H2,o2,e2,i,b,d⟩:=f.bx (.int .i64 a) cF;have c:=e.ky d.bk;simp only[aa,bc,qy5,e1,e2,c.ld,b.ld];refine C3.q (sK i a (n:=.wY a) ⟨ha,_,_,rfl,c,b⟩ rfl) λ _ l hp=>?_;simp only[aa,bc];exact(j.trans d).pre hp
def J4(h:dX H o p x g fv):zb M YY [.ptr p 0] H λ _ H'=>eM H o p x.take H':=by
 refine q12 ?_;have⟨H1,o1,e1,b,a,c⟩:=h.bx (.ptr p 0) Mc;simp only[aa,bc,q13,aw,e1,a.ld,b.bm];refine C3.q (Ox b 0 x.snap (FT _) (n:=.uT) ⟨_,rfl,a⟩ rfl) λ _ d hp=>?_;simp only[aa,bc];exact c.pre hp
def QG(h:dX H o p x g fv):zb M VE [.ptr p 0] H λ _ H'=>eM H o p x.tE H':=by
 refine q14 ?_;simp only[aa,bc,q15];refine C3.q (qH h (ko:=B5) rfl) λ _ a hp=>?_;simp only[aa,bc];exact hp
def JV(h:dX H o p x g fv){lv:AV}{l:List Pr}(hl:bN cN 2 H lv l)(hu:∀y∈l,fI y.v)(hb:l≠[]->aG lv<H.au/\o (aG lv)=30)(one:aB lv=B4):zb M oy [.ptr p 0,lv] H λ _ H'=>eM H o p (x.back l) H':=by
 refine q1u ?_;have⟨H1,o1,e1,B,A,D⟩:=h.bx (.ptr p 0) Mc;have⟨H2,o2,e2,s,r,t⟩:=B.bx lv nJ;have e:=A.ky t.bk;have d:=D.trans t;have b:=d.bk.m.sl hl hb;have ln:=b.len;cases l with
 |nil =>
  have c:¬(0:Int)<(([]:List Pr).length:Int):=by decide
  simp only[aa,bc,_n,aw,Ft one,e1,e2,e.ld,r.ld,ln,c,s.bm];refine C3.q (Dr s 0 (FT _) (k:=.fin) ⟨_,rfl,e⟩) λ _ w hp=>?_;simp only[aa,bc];exact d.pre hp
 |cons y l =>
  have c:(0:Int)<((y::l).length:Int):=by rw[zt];omega
  have ix:Op.aR 2 [lv,.int .i64 0]=B1 (.ptr (aG lv) (cJ 2 lv 0)):=b.idx (i:=0) rfl rfl .i64;have l0:Op.ae [.ptr (aG lv) (cJ 2 lv 0)] H2=B1 (.int .i64 y.a):=b.iR ER (i:=0) rfl (by decide);have l1:Op.ae [.ptr (aG lv) (cJ 2 lv 0+1)] H2=B1 (.int .u64 y.v):=b.ae ER (i:=0) rfl (j:=1) (by decide);have⟨u,E⟩:=hb (by simp);simp only[aa,bc,_n,Ft one,e1,e2,e.ld,r.ld,ln,c,ix,l0,l1];refine C3.q (Dr s y.a (hu y (by simp)) (k:=.back l) ⟨λ z C=>hu z (by simp[C]),_,_,lv,y,rfl,e,r,b,qn u d.f.au,(d.ho _ u).trans E⟩) λ _ w hp=>?_;simp only[aa,bc];exact d.pre hp
end
end Go.Am
namespace Go.Am
open Lang Go.Proofs
variable{M:ak}[MK M]
section
variable{H H1 H2 H':ar}{o o1 o2 o':Nat->Nat}{p g:Nat}{x y:So}{fv kv gv tv:AV}{k:K0}{n:Nx}
def dX.on(h:dX H o p x g fv)(f:Fr (On p) H H1):pN H o H1 o:=pN.of f (λ z _ q(w:z=p)=>by rw[w,h.op]at q;omega) λ _ _=>rfl
def dX.w0(h:dX H o p x g fv){W:Nat->Prop}(f:Fr W H H1)(hw:∀z,W z->z=p):Fr (λ z=>8<=o z) H H1:=f.mono λ z _ q=>by rw[hw z q,h.op];decide
def eM.step(h:dX H o p x g fv)(f:Fr (On p) H H1)(b:eM H1 o p y H'):eM H o p y H':=by
 have⟨o2,c,a,d,e,i⟩:=b;exact⟨o2,c,a,d,λ z q=>e z (qn q f.au),(h.w0 f λ _ q=>q).trans i λ z q=>.inl q⟩
def dX.log{rd wr:List Pr}(h:dX H o p x g fv)(hp:vU H o g rd wr H1)(hu:∀y∈wr,fI y.v):∃o1,dX H1 o1 p {x with rd:=rd,wr:=wr} g fv/\pN H o H1 o1/\Fr (λ z=>8<=o z) H H1:=by
 have⟨o1,c,b,a⟩:=hp;have bk:pN H o H1 o1:=pN.of a (λ z _ q w=>by omega) b;exact⟨o1,⟨h.row.fr a (λ w=>by have:=h.op;omega),c,h.nx.ky bk,(b p h.row.2).trans h.op,h.one,h.vu,hu,h.qu⟩,bk,a.mono λ z _ q=>by omega⟩
def eM.after(c:∀z,z<H.au->o1 z=o z)(f:Fr (λ z=>8<=o z) H H1)(b:eM H1 o1 p y H'):eM H o p y H':=by
 have⟨o2,d,a,e,h,i⟩:=b;refine⟨o2,d,a,e,λ z q=>(h z (qn q f.au)).trans (c z q),f.trans i λ z q=>?_⟩;rcases xz z H.au with w|w
 .exact .inl (by rw[<-c z w];exact q)
 .exact .inr w
def Fk(h:dX H o p x g fv):zb M Tx [.ptr p 0] H λ _ H'=>dX H' o p {x with busy:=B2} g fv/\Fr (On p) H H':=by
 refine q1v ?_;have⟨H1,s1,b,a⟩:=h.put 6 (v:=.bool B2) (y:={x with busy:=B2}) rfl (by decide) rfl ⟨rfl,rfl,rfl,rfl⟩ h.vu;simp only[aa,bc,q1w,aw,s1];exact⟨b,a⟩
def wR(h:dX H o p x g fv)(v:Int):zb M TO [.ptr p 0,.int .u64 v] H λ _ H'=>dX H' o p (x.pG v) g fv/\Fr (On p) H H':=by
 refine qy8 ?_;have⟨H1,s1,c,a⟩:=h.put 9 (v:=.int .u64 v) (y:={x with snap:=v}) rfl (by decide) rfl ⟨rfl,rfl,rfl,rfl⟩ h.vu;have⟨H2,s2,d,b⟩:=c.put 12 (v:=.int .i64 (aj .i64 (x.points+1))) (y:=x.pG v) rfl (by decide) rfl ⟨rfl,rfl,rfl,rfl⟩ h.vu;simp only[aa,bc,qy9,aw,h.bm,s1,s2];exact⟨d,a.trans b λ z q=>.inl q⟩
def Lj(h:dX H o p x g fv)(v:Int):zb M Vj [.ptr p 0,.int .u64 v] H λ _ H'=>eM H o p {x.pG v with live:=B4,busy:=B2} H':=by
 refine qyy ?_;simp only[aa,bc,qyz];refine C3.q (wR h v) λ _ H1⟨d,a⟩=>?_;have⟨H2,s2,e,b⟩:=d.put 7 (v:=.bool B4) (y:={x.pG v with live:=B4}) rfl (by decide) rfl ⟨rfl,rfl,rfl,rfl⟩ h.vu;simp only[aa,bc,aw,s2];refine C3.q (Fk e) λ _ i⟨f,c⟩=>?_;simp only[aa,bc];exact h.Cp ((a.trans b λ z q=>.inl q).trans c λ z q=>.inl q) f
def Ei(h:dX H o p x g fv)(hk:sV H o p kv k):∃f a c,kv=.fn (.func f) a c/\zb M f (a++c) H λ _ H'=>eM H o p (x.Gp k) H':=by
 cases k with
 |wait=>exact⟨_,_,_,hk,QG h⟩
 |take=>exact⟨_,_,_,hk,J4 h⟩
 |left how =>
  obtain⟨d,r,rfl,b,j⟩:=hk;refine⟨_,_,_,rfl,?_⟩;show zb M UY [.ptr d 0,.ptr r 0] H _;refine quy ?_;have⟨H1,s1,t,m⟩:=h.put 7 (v:=.bool B2) (y:={x with live:=B2}) rfl (by decide) rfl ⟨rfl,rfl,rfl,rfl⟩ h.vu;have d1:=b.ky (h.on m);have d2:=j.ky (h.on m);have⟨H2,s2,D,B⟩:=t.put 11 (v:=.int .i64 how) (y:={x with live:=B2,ended:=how}) rfl (by decide) rfl ⟨rfl,rfl,rfl,rfl⟩ h.vu;have e2:=d2.ky (t.on B);simp only[aa,bc,quz,aw,b.ld,j.ld,s1,d1.ld,d2.ld,s2,e2.ld];refine C3.q (Fk D) λ _ u⟨E,C⟩=>?_;simp only[aa,bc];exact h.Cp ((m.trans B λ z q=>.inl q).trans C λ z q=>.inl q) E
 |kX a =>
  obtain⟨A,d,r,rfl,b,j⟩:=hk;refine⟨_,_,_,rfl,?_⟩;show zb M XC [.ptr d 0,.ptr r 0] H _;refine qo2 ?_;simp only[aa,bc,qo3,b.ld,j.ld];refine C3.q (Be h A) λ _ u hp=>?_;simp only[aa,bc];exact hp
 |back l =>
  obtain⟨A,d,r,lv,y,rfl,b,j,hl,F,G⟩:=hk;refine⟨_,_,_,rfl,?_⟩;show zb M VG [.ptr d 0,.ptr r 0] H _;refine qws ?_;have⟨s,s1,i,hb⟩:=hl.from ER (k:=1) (by simp) (z:=1) rfl .i64;simp only[aa,bc,qwt,b.ld,j.ld,s1];have nb:l≠[]->aG s<H.au/\o (aG s)=30:=λ e=>by
   rcases hb with w|w
   .subst w;have:=i.len;have e2:l.length=0:=by
     have q:Op.cw [AV.nils]=B1 (.int .i64 0):=rfl;rw[q]at this;injection this with this;injection this with _ this
     simp only[List.drop_succ_cons,yx]at this;omega
    exact(e (js.1 e2)).elim
   .rw [w];exact⟨F,G⟩
  refine C3.q (JV h (l:=l) i A nb i.one) λ _ u hp=>?_;simp only[aa,bc];exact hp
 |fin =>
  obtain⟨d,rfl,b⟩:=hk;refine⟨_,_,_,rfl,?_⟩;show zb M Z0 [.ptr d 0] H _;refine qwu ?_;have⟨H1,s1,t,m⟩:=h.put 8 (v:=.bool B2) (y:={x with aJ:=B2}) rfl (by decide) rfl ⟨rfl,rfl,rfl,rfl⟩ h.vu;have d1:=b.ky (h.on m);simp only[aa,bc,qwv,aw,b.ld,s1,d1.ld];refine C3.q (oQ t 1) λ _ u hp=>?_;simp only[aa,bc];exact eM.step h m hp
def JU{i:Nat}{e:Int}{rd:List Pr}{bi j d bk m bs l f:Nat}(h:dX H o p x g fv)(r:By H o bi (.int .i64 (i:Int)))(hle:i<=rd.length)(v:K1 H o p k e rd bi j d bk m bs l f) :
 zb M T5 [.ptr bi 0,.ptr m 0,.ptr d 0,.ptr l 0,.ptr f 0] H λ _ H'=>eM H o p (x.step k e rd i) H':=by
 refine qn7 ?_;have⟨kv,w,z,A⟩:=v.hk;have⟨rv,t,s,B,C⟩:=v.hr;have ln:=s.len;unfold So.step;rcases xz i rd.length with q|q
 .have c:(i:Int)<(rd.length:Int):=by omega
  obtain⟨y,b⟩:∃y,rd[i]? = B1 y:=⟨rd[i],by simp[q]⟩
  have ix:Op.aR 2 [rv,.int .i64 (i:Int)]=B1 (.ptr (aG rv) (cJ 2 rv i)):=s.idx b rfl .i64;have l0:Op.ae [.ptr (aG rv) (cJ 2 rv i)] H=B1 (.int .i64 y.a):=s.iR ER b (by decide);simp only[aa,bc,qg3,r.ld,t.ld,ln,c,v.hp.ld,ix,l0,v.hl.ld,b];refine C3.q (sK h y.a (n:=.look k e rd i) ⟨bi,j,d,bk,m,bs,l,f,rfl,r,q,v⟩ rfl) λ _ u hp=>?_;simp only[aa,bc];exact hp
 .have c:¬(i:Int)<(rd.length:Int):=by omega
  have b:rd[i]? = none:=jp q;simp only[aa,bc,qg3,r.ld,t.ld,ln,c,v.hp.ld,v.ha.ld,b];refine C3.q (sK h 0 (n:=.again k e) ⟨j,d,bk,kv,rfl,v.hg,v.hp,w,z⟩ rfl) λ _ u hp=>?_;simp only[aa,bc];exact hp
end
end Go.Am
namespace Go.Am
open Lang Go.Proofs
variable{M:ak}[MK M]
section
variable{H H1 H2 H':ar}{o o1 o2 o':Nat->Nat}{p g b f:Nat}{x y:So}{fv kv gv tv:AV}{k:K0}{n:Nx}{l:List Nat}{v:Int}{ok:Bool}{R:AV->ar->Prop}
def Ls(hb:Bx H o b (mr f l))(a:zb M f (.int .u64 v::l.map λ b=>.ptr b 0) H λ _ H'=>R .undef H'):zb M Qp [.int .u64 v,.bool ok,.ptr b 0] H λ _ H'=>R .undef H':=by
 refine qww ?_;simp only[aa,bc,qwx,hb.ld,mr];refine C3.q a λ _ c hp=>?_;simp only[aa,bc];exact hp
def xn1(hb:Bx H o b (mr f l))(a:zb M f (.bool ok::l.map λ b=>.ptr b 0) H λ _ H'=>R .undef H'):zb M Oy [.int .u64 v,.bool ok,.ptr b 0] H λ _ H'=>R .undef H':=by
 refine qy0 ?_;simp only[aa,bc,qy1,hb.ld,mr];refine C3.q a λ _ c hp=>?_;simp only[aa,bc];exact hp
def pB{v:Int}(a:fI v):Op.bin .rem [.int .u64 v,.int .u64 2]=B1 (.int .u64 (v % 2)):=by
 rw[uR .u64 _ _ (by decide),Int.tmod_eq_emod_of_nonneg a.1]
def son(h:dX H o p x g fv)(hn:x.au=B5)(hv:fI v)(hb:Bx H o b tv)(O:FE H o p tv n):zb M (FU n) [.int .u64 v,.bool ok,.ptr b 0] H λ _ H'=>eM H o p (x.on v ok n) H':=by
 cases n with
 |wJ m k =>
  obtain⟨E,Y,J,kv,rfl,r,A,G,hk⟩:=O;refine Ls (R:=λ _ H'=>eM H o p _ H') hb ?_;refine quu ?_;simp only[aa,bc,quv,r.ld,A.ld];refine C3.q (Ox h 1 v (FT _) (n:=.uX m k) ⟨_,_,_,kv,rfl,r,A,G,hk⟩ rfl) λ _ d hp=>?_;simp only[aa,bc];exact hp
 |uX m k =>
  obtain⟨E,Y,J,kv,rfl,r,A,G,hk⟩:=O;refine xn1 (R:=λ _ H'=>eM H o p _ H') hb ?_;refine qr0 ?_;unfold So.on;cases ok with
  |true =>
   obtain⟨N,a,c,rfl,K⟩:=Ei (M:=M) h hk;simp only[aa,bc,_K,G.ld];refine C3.q K λ _ d hp=>?_;simp only[aa,bc];exact hp
  |false =>
   simp only[aa,bc,_K,r.ld,A.ld,G.ld,ja];refine C3.q (wL h m hk) λ _ d hp=>?_;simp only[aa,bc];exact hp
 |wU =>
  obtain⟨E,Y,gv,rfl,r,A,hg⟩:=O;refine Ls (R:=λ _ H'=>eM H o p _ H') hb ?_;refine _I ?_;unfold So.on
  by_cases q:v % 2=1
  .simp only[aa,bc,TT,pB hv,qv q,r.ld,A.ld];refine C3.q (qH h (ko:=B5) hg) λ _ d hp=>?_;simp only[aa,bc];exact hp
  .have hg:gv=_:=hg;subst hg;simp only[aa,bc,TT,pB hv,q,A.ld];refine C3.q (Lj h v) λ _ d hp=>?_;simp only[aa,bc];exact hp
 |xB k =>
  obtain⟨E,Y,gv,rfl,r,A,hg⟩:=O;refine Ls (R:=λ _ H'=>eM H o p _ H') hb ?_;refine _I ?_;unfold So.on
  by_cases q:v % 2=1
  .simp only[aa,bc,TT,pB hv,qv q,r.ld,A.ld];refine C3.q (qH h (ko:=B1 k) hg) λ _ d hp=>?_;simp only[aa,bc];exact hp
  .obtain ⟨J,b4,kv,rfl,d1,d2,hk⟩:=hg;simp only[aa,bc,TT,pB hv,q,A.ld,mr,j6,FB];refine C3.q (R:=λ _ H'=>eM H o p (x.step k v x.rd 0) H') ?_ λ _ d hp=>?_
   .refine qqc ?_;have⟨H1,o1,e1,s,bg,C⟩:=h.bx (.int .u64 v) Yr;have d11:=d1.ky C.bk;simp only[aa,bc,qqd,aw,e1,d11.ld,s.bm];refine C3.q (Mx s.lg) λ rv H2⟨t,D,F⟩=>?_;have one:aB rv=true:=Sl.one (Own.sl t)
    -- what is made since
    have X:Mk H1 o1 H2 (aP o1 H1.au 30):=⟨F,λ z q=>iT q⟩
    have T:=s.fr F (λ _ _ _ q=>q) X.ho;have hr:x.rd≠[]->aG rv<H2.au/\aP o1 H1.au 30 (aG rv)=30:=λ e=>by
     have on:=yW t e;exact⟨Own.lt t _ on,nh (D _ on)⟩
    have rt:∀{Hx ox},Mk H2 (aP o1 H1.au 30) Hx ox->bN cN 2 Hx rv x.rd/\(x.rd≠[]->aG rv<Hx.au/\ox (aG rv)=30):=λ m=>⟨m.bk.m.sl (aO.sl t) hr,λ e=>⟨qn (hr e).1 m.f.au,(m.ho _ (hr e).1).trans (hr e).2⟩⟩
    have⟨d,o3,s3,h3,br,m3⟩:=T.bz .nils one nJ;have⟨u,o4,s4,h4,bi,m4⟩:=h3.byz (.int .i64 0) (v:=.int .i64 0) rfl cF;have⟨H5,o5,e5,h5,bs,m5⟩:=h4.by0 .nilf HO;have⟨H6,o6,s6,h6,bl,m6⟩:=h5.bz .nilf (v:=mr SQ [H2.au,d.au,J,u.au]) rfl Sz;have⟨H7,o7,s7,h7,ba,m7⟩:=h6.bz .nilf (v:=mr TH [H.au,J,b4]) rfl Sz;have m13:=X.trans m3;have W:=((m4.trans m5).trans m6).trans m7;have m57:=(m5.trans m6).trans m7;have m67:=m6.trans m7;have m37:=m3.trans W;have m17:=m13.trans W;have Q:=C.trans m17;have⟨H8,s8,h8,V,U,f8⟩:=h7.sty hn (bs.ky m67.bk) (v:=mr T5 [d.au,H2.au,J,H5.au,H6.au]) rfl;have P:=bi.ky m57.bk;have nb:d.au≠u.au:=by have:=m4.f.au;have:=bi.2.1;omega
    have bi8:By H8 o7 d.au (.int .i64 ((0:Nat):Int)):=⟨by rw[f8.ah _ P.2.1 nb];exact P.1,qn P.2.1 f8.au,P.2.2⟩
    have⟨t1,t2⟩:=rt m37;have n8:=f8.au;have one':=hk.one;have ln:=(aO.sl t).len;have B:K1 H8 o7 p k v x.rd d.au H.au J b4 H2.au u.au H5.au H6.au :=
     ⟨(bg.ky m17.bk).km U,(d1.ky Q.bk).km U,⟨kv,(d2.ky Q.bk).km U,(hk.ky Q.bk).km U,one'⟩,⟨rv,(br.ky W.bk).km U,U.sl t1 t2,λ e=>⟨qn (t2 e).1 n8,(t2 e).2⟩,one⟩,V,(bl.ky m7.bk).km U,ba.km U,by have:=h.lg;have⟨_,_,_,_,_,_,_,_,_,_,q,_⟩:=this;exact q.le⟩
    have S:=V.ld;simp only[mr,j6,FB]at s6 s7 s8 S;simp only[aa,bc,s3,s4,e5,yo,yx,s6,s7,s8,S];refine C3.q (JU h8 bi8 (xw _) B) λ _ H9 hp=>?_;simp only[aa,bc];refine Q.pre ?_;have⟨o9,g9,fv9,w1,w2,w3⟩:=hp;exact⟨o9,g9,fv9,w1,λ z e=>w2 z (qn e n8),(f8.mono λ z _(e:z=u.au)=>by rw[e,V.2.2];decide).trans w3 λ z e=>.inl e⟩
   .simp only[aa,bc];exact hp
 |look k gg rd i =>
  obtain⟨bi,bg,bp,bk,br,bs,bl,ba,rfl,r,hi,B⟩:=O;refine Ls (R:=λ _ H'=>eM H o p _ H') hb ?_;refine qn5 ?_;have⟨rv,t,D,F,r4⟩:=B.hr;obtain⟨y,hy⟩:∃y,rd[i]? = B1 y:=⟨rd[i],by simp[hi]⟩
  have hyd:rd.getD i ⟨0,0⟩=y:=by rw[zw,hy];rfl
  have ix:Op.aR 2 [rv,.int .i64 (i:Int)]=B1 (.ptr (aG rv) (cJ 2 rv i)):=D.idx hy rfl .i64;have l1:Op.ae [.ptr (aG rv) (cJ 2 rv i+1)] H=B1 (.int .u64 y.v):=D.ae ER hy (j:=1) (by decide);have eo:x.on v ok (.look k gg rd i)=if v≠y.v then x.leave 2 else x.step k gg rd (i+1):=by show(if v≠(rd.getD i ⟨0,0⟩).v then _ else _)=_;rw[hyd]
  rw[eo]
  by_cases q:v=y.v
  .have wj:aj .i64 ((i:Int)+1)=((i+1:Nat):Int):=by have:=B.hn;rw[jb (by omega) (by omega)];omega
   have⟨H1,s1,s,d1,C,I⟩:=h.sty hn r (v:=.int .i64 ((i+1:Nat):Int)) rfl;have nb:bs≠bi:=λ e=>by
    have a1:=B.hs.ld;have a2:=r.ld;rw[e,a2]at a1;injection a1 with a1;cases a1
   have ds:By H1 o bs _:=⟨by rw[I.ah bs B.hs.2.1 nb];exact B.hs.1,qn B.hs.2.1 I.au,B.hs.2.2⟩
   have⟨kv,k1,k2,k3⟩:=B.hk;have va1:K1 H1 o p k gg rd bi bg bp bk br bs bl ba:=⟨B.hg.km C,B.hp.km C,⟨kv,k1.km C,k2.km C,k3⟩,⟨rv,t.km C,C.sl D F,λ e=>⟨qn (F e).1 I.au,(F e).2⟩,r4⟩,ds,B.hl.km C,B.ha.km C,B.hn⟩
   simp only[aa,bc,qg1,t.ld,r.ld,ix,l1,qv q,wj,s1,ds.ld,mr,j6,FB];refine C3.q (JU s d1 hi va1) λ _ d hp=>?_;simp only[aa,bc];have⟨o2,g2,fv2,w1,w2,w3⟩:=hp;exact⟨o2,g2,fv2,w1,λ z e=>w2 z (qn e I.au),(I.mono λ z _(e:z=bi)=>by rw[e,r.2.2];decide).trans w3 λ z e=>.inl e⟩
  .simp only[aa,bc,qg1,t.ld,r.ld,ix,l1,q,B.hp.ld];refine C3.q (oQ h 2) λ _ d hp=>?_;simp only[aa,bc];exact hp
 |again k gg =>
  obtain⟨bg,bp,bk,kv,rfl,r,A,G,hk⟩:=O;refine Ls (R:=λ _ H'=>eM H o p _ H') hb ?_;refine qn6 ?_;unfold So.on
  by_cases q:v=gg
  .simp only[aa,bc,I_,r.ld,A.ld,qv q];refine C3.q (wR h gg) λ _ H1⟨s,I⟩=>?_;have c31:=G.ky (h.on I);obtain⟨N,a,c,rfl,K⟩:=Ei (M:=M) s (hk.ky (h.on I));simp only[aa,bc,c31.ld];refine C3.q K λ _ d hp=>?_;simp only[aa,bc];exact eM.step h I hp
  .simp only[aa,bc,I_,r.ld,A.ld,G.ld,q];refine C3.q (ZB h hk) λ _ d hp=>?_;simp only[aa,bc];exact hp
 |wY a =>
  obtain⟨ha,E,Y,rfl,r,A⟩:=O;refine Ls (R:=λ _ H'=>eM H o p _ H') hb ?_;refine quw ?_;have⟨H1,o1,e1,s,J,C⟩:=h.bx (.int .u64 v) Yr;have d1:=r.ky C.bk;have d2:=A.ky C.bk;simp only[aa,bc,qux,e1,d1.ld];refine C3.q (sK s 0 (n:=.oi a v) ⟨⟨ha,hv⟩,_,_,_,rfl,d1,d2,J⟩ rfl) λ _ d hp=>?_;simp only[aa,bc];exact C.pre hp
 |oi a w =>
  obtain⟨⟨ha,hw⟩,E,Y,J,rfl,r,A,G⟩:=O;refine Ls (R:=λ _ H'=>eM H o p _ H') hb ?_;refine qr1 ?_
  by_cases q:v=x.snap
  .have lw:=XV (M:=M) h.lg a;have go:∀(l:List Pr){H1:ar}{o1:Nat->Nat},x.ah a w=B1 l->(dq x.rd a).getD w=w->dX H1 o1 p {x with rd:=l} g fv->pN H o H1 o1->Fr (λ z=>8<=o z) H H1 ->
    ∃H2,Op.store 1 [.ptr p 10,.int .u64 w] H1=B1 (.undef,H2)/\Op.ae [.ptr E 0] H1=B1 (.ptr p 0)/\Op.ae [.ptr J 0] H1=B1 (.int .u64 w)/\Op.ae [.ptr E 0] H2=B1 (.ptr p 0)/\zb M TO [.ptr p 0,.int .u64 v] H2 λ _ d=>Op.ae [.ptr E 0] d=B1 (.ptr p 0)/\zb M Tx [.ptr p 0] d λ _ u=>eM H o p (x.on v ok (.oi a w)) u:=λ l{H1 o1}ek L s bk N=>by
    have⟨H2,s2,T,Z⟩:=s.put 10 (v:=.int .u64 w) (y:={x with rd:=l,value:=w}) rfl (by decide) rfl ⟨rfl,rfl,rfl,rfl⟩ hw;have d1:=r.ky bk;have d3:=G.ky bk;have e1:=d1.ky (s.on Z);refine⟨H2,s2,d1.ld,d3.ld,e1.ld,(wR T v).mono λ _ d⟨h3,f3⟩=>⟨(e1.ky (T.on f3)).ld,(Fk h3).mono λ _ u⟨h4,f4⟩=>?_⟩⟩;have e:x.on v ok (.oi a w) = {({x with rd:=l,value:=w}:So).pG v with busy:=B2}:=by
     show(if v≠x.snap then _ else if(dq x.rd a).getD w≠w then _ else match x.ah a w with|none=>_|some l=>_)=_;rw[qy (λ e=>e q),qy (λ e=>e L),ek]
    rw[e];exact eM.after bk.own N (s.Cp ((Z.trans f3 λ z q=>.inl q).trans f4 λ z q=>.inl q) h4)
   have lv:∀{H1:ar}{o1:Nat->Nat},(dq x.rd a).getD w≠w\/(dq x.rd a).getD w=w/\x.ah a w=B5->dX H1 o1 p x g fv->pN H o H1 o1->Fr (λ z=>8<=o z) H H1->Op.ae [.ptr E 0] H1=B1 (.ptr p 0)/\zb M Tw [.ptr p 0,.int .i64 2] H1 λ _ u=>eM H o p (x.on v ok (.oi a w)) u:=λ{H1 o1}L s bk N=>by
    refine⟨(r.ky bk).ld,(oQ s 2).mono λ _ u hp=>?_⟩;have e:x.on v ok (.oi a w)=x.leave 2:=by
     show(if v≠x.snap then _ else if(dq x.rd a).getD w≠w then _ else match x.ah a w with|none=>_|some l=>_)=_;rw[qy (λ e=>e q)];rcases L with L|⟨L,ek⟩
     .rw [xg L]
     .rw [qy (λ e=>e L),ek]
    rw[e];exact eM.after bk.own N hp
   have bk0:pN H o H o:=⟨⟨λ _ _ _=>rfl,λ _ _=>rfl,qm _⟩,λ _ _ _=>rfl⟩
   have rest:∀{e:AV}{H1:ar},(dq x.rd a).getD w=w->Mh H o g x.rd a e (vU H o g x.rd x.wr H1) (vU H o g (if dq x.rd a=B5 then x.rd ++ [⟨a,w⟩]else x.rd) x.wr H1)->(e=.int .i64 70/\Op.ae [.ptr E 0] H1=B1 (.ptr p 0)/\zb M Tw [.ptr p 0,.int .i64 2] H1 λ _ u=>eM H o p (x.on v ok (.oi a w)) u)\/e=.int .i64 0 /\ ∃H2,Op.store 1 [.ptr p 10,.int .u64 w] H1=B1 (.undef,H2)/\Op.ae [.ptr E 0] H1=B1 (.ptr p 0)/\Op.ae [.ptr J 0] H1=B1 (.int .u64 w)/\Op.ae [.ptr E 0] H2=B1 (.ptr p 0)/\zb M TO [.ptr p 0,.int .u64 v] H2 λ _ d=>Op.ae [.ptr E 0] d=B1 (.ptr p 0)/\zb M Tx [.ptr p 0] d λ _ u=>eM H o p (x.on v ok (.oi a w)) u:=λ L K=>by
    rcases K with⟨l1,l2,rfl,hp⟩|⟨l1,rfl,hp⟩
    .have ⟨o1,s,bk,N⟩:=h.log hp h.wu;exact .inl ⟨rfl,lv (.inr ⟨L,by unfold So.ah;rw[l1];simp only;rw[xg l2]⟩) s bk N⟩
    .have ⟨o1,s,bk,N⟩:=h.log hp h.wu;refine .inr ⟨rfl,go _ ?_ L s bk N⟩;unfold So.ah;cases hl:dq x.rd a with
     |some z=>simp only;rw[qy (by simp)]
     |none=>simp only;rw[qy λ e=>l1 ⟨hl,e⟩,xg trivial]
   cases hl:dq x.rd a with
   |some z =>
    rw[hl]at lw
    by_cases qz:z=w
    .subst qz;simp only[aa,bc,NV,aw,r.ld,h.bm,qv q,A.ld,lw,G.ld,vp,vx];refine C3.q (I9 h.lg ha z) λ e H1 K=>?_;rcases rest (by rw[hl];rfl) K with⟨rfl,t,D⟩|⟨rfl,H2,t,D,F,r4,r5⟩
     .have t7:¬(70:Int)=0:=by decide
      simp only[aa,bc,t7,t];refine C3.q D λ _ u hp=>?_;simp only[aa,bc];exact hp
     .simp only[aa,bc,NV,aw,t,D,F,r4];refine C3.q r5 λ _ d⟨r6,r7⟩=>?_;simp only[aa,bc,r6];refine C3.q r7 λ _ u hp=>?_;simp only[aa,bc];exact hp
    .simp only[aa,bc,NV,aw,r.ld,h.bm,qv q,A.ld,lw,G.ld,vp,vx,qz];refine C3.q (lv (.inl (by rw[hl];exact qz)) h bk0 (Fr.refl _)).2 λ _ u hp=>?_;simp only[aa,bc];exact hp
   |none =>
    rw[hl]at lw;simp only[aa,bc,NV,aw,r.ld,h.bm,qv q,A.ld,lw,G.ld,Option.getD_none,Nj];refine C3.q (I9 h.lg ha w) λ e H1 K=>?_;rcases rest (by rw[hl];rfl) K with⟨rfl,t,D⟩|⟨rfl,H2,t,D,F,r4,r5⟩
    .have t7:¬(70:Int)=0:=by decide
     simp only[aa,bc,t7,t];refine C3.q D λ _ u hp=>?_;simp only[aa,bc];exact hp
    .simp only[aa,bc,NV,aw,t,D,F,r4];refine C3.q r5 λ _ d⟨r6,r7⟩=>?_;simp only[aa,bc,r6];refine C3.q r7 λ _ u hp=>?_;simp only[aa,bc];exact hp
  .have e:x.on v ok (.oi a w)=x.validate (.kX a):=xg q;rw[e];simp only[aa,bc,NV,aw,r.ld,h.bm,q];refine C3.q (ZB h (k:=.kX a) ⟨ha,_,_,rfl,r,A⟩) λ _ d hp=>?_;simp only[aa,bc];exact hp
 |uT =>
  obtain⟨E,rfl,r⟩:=O;refine xn1 (R:=λ _ H'=>eM H o p _ H') hb ?_;refine qw0 ?_;unfold So.on;cases ok with
  |true =>
   have⟨H1,s1,s,I⟩:=h.put 12 (v:=.int .i64 (aj .i64 (x.points+1))) (y:={x with points:=aj .i64 (x.points+1)}) rfl (by decide) rfl ⟨rfl,rfl,rfl,rfl⟩ h.vu;have d1:=r.ky (h.on I);have⟨H2,s2,T,Z⟩:=s.put 8 (v:=.bool B4) (y:={x with points:=aj .i64 (x.points+1),aJ:=B4}) rfl (by decide) rfl ⟨rfl,rfl,rfl,rfl⟩ h.vu;have e1:=d1.ky (s.on Z);simp only[aa,bc,R1,aw,r.ld,h.bm,s1,d1.ld,s2,e1.ld,T.bm];refine C3.q (xS T.lg) λ lv d⟨t,D,F⟩=>?_;have one:aB lv=true:=Sl.one (Own.sl t);have X:Mk H2 o d (aP o H2.au 30):=⟨F,λ z q=>iT q⟩
   have h3:=T.fr F (λ _ _ _ q=>q) X.ho;have e3:=e1.ky X.bk;have hr:x.wr≠[]->aG lv<d.au/\aP o H2.au 30 (aG lv)=30:=λ e=>by
    have on:=yW t e;exact⟨Own.lt t _ on,nh (D _ on)⟩
   simp only[aa,bc,e3.ld];refine C3.q (JV h3 (aO.sl t) h.wu hr one) λ _ u hp=>?_;simp only[aa,bc];exact eM.step h (I.trans Z λ z q=>.inl q) (X.pre hp)
  |false =>
   simp only[aa,bc,R1,r.ld,ja];refine C3.q (ZB h (k:=.take) rfl) λ _ d hp=>?_;simp only[aa,bc];exact hp
 |Gd k =>
  refine qu0 ?_;obtain⟨N,a,c,rfl,K⟩:=Ei (M:=M) h O;simp only[aa,bc,qu1,hb.ld];refine C3.q K λ _ d hp=>?_;simp only[aa,bc];exact hp
end
end Go.Am
namespace Go.Am
open Lang Go.Proofs
variable{M:ak}[MK M]
section
variable{H H1 H2 H':ar}{o o1 o2 o':Nat->Nat}{p g b f:Nat}{x y:So}{fv kv gv tv:AV}{v:Int}{ok:Bool}
def lf(h:dX H o p x g fv):∀K,C3 M B4 (.func t5) [.ptr p 0] H K=K B4 (.bool B2) H:=by
 refine dA (q1z ?_);simp only[aa,bc,q11,aw,h.bm]
def ig(h:dX H o p x g fv):∀K,C3 M B4 (.func qpn) [.ptr p 0] H K=K B4 (.bool x.busy) H:=by
 refine dA (q1n ?_);simp only[aa,bc,q1o,aw,lf h,h.bm]
def JM(h:dX H o p x g fv):∀K,C3 M B4 (.func qk9) [.ptr p 0] H K=K B4 (.bool x.aJ) H:=by
 refine dA (qus ?_);simp only[aa,bc,qut,aw,lf h,h.bm]
def BO(h:dX H o p x g fv):∀K,C3 M B4 (.func qnf) [.ptr p 0] H K=K B4 (.int .u64 x.value) H:=by
 refine dA (qyw ?_);simp only[aa,bc,qyx,aw,lf h,h.bm]
def rF(h:dX H o p x g fv):∀K,C3 M B4 (.func sA) [.ptr p 0] H K=K B4 (.int .i64 x.ended) H:=by
 refine dA (qyt ?_);simp only[aa,bc,qyu,aw,lf h,h.bm]
def eU(h:dX H o p x g fv):∀K,C3 M B4 (.func ql6) [.ptr p 0] H K=K B4 (.int .i64 x.points) H:=by
 refine dA (qwq ?_);simp only[aa,bc,qwr,aw,lf h,h.bm]
def mW(h:dX H o p x g fv):∀K,C3 M B4 (.func F1) [.ptr p 0] H K=K B4 (.int .i64 (if x.ready=B4 then 0 else 80)) H:=by
 refine dA (qza ?_);unfold So.ready;cases q:x.busy<;>cases r:x.live<;>simp only[aa,bc,qzb,aw,lf h,h.bm,q,r,ja,Bool.true_and,Bool.false_and]
def KL(h:dX H o p x g fv)(a:Int):∀K,C3 M B4 (.func qld) [.ptr p 0,.int .i64 a] H K=K B4 (.int .i64 (if x.ready=B4 then if 8<=a then 0 else 2 else 80)) H:=by
 refine dA (qu2 ?_);have d:¬(80:Int)=0:=by decide
 cases q:x.ready
 .simp only[aa,bc,Vm,mW h,q,ja,d]
 .by_cases r:8<=a
  .have c:¬a<8:=JJ.2 r;simp only[aa,bc,Vm,mW h,q,c,qv r]
  .have c:a<8:=Int.not_le.1 r;simp only[aa,bc,Vm,mW h,q,qv c,r]
def Nt:[AV.int .i64 0,.int .i64 0,.int .u64 0,.int .u64 0]=iS ⟨0,0,0,0⟩:=rfl
def Pl(h:dX H o p x g fv):zb M _T [.ptr p 0] H λ w H'=>(∃q,w=.tuple [.agg (iS x.want),.bool q])/\Fr Em H H':=by
 refine q1s ?_;obtain⟨H1,e1,i,-,-⟩:=cq H (OR (iS ⟨0,0,0,0⟩) EK);have d:At H1 H.au EK _:=e1▸At.new H _ _;have c:=h.fr i (λ _ _ _ q=>q) λ _ _=>rfl;have l4:Op.aq 4 [.ptr p 1] H1=B1 (.agg (iS x.want)):=c.row.eI (k:=1) (n:=4) (by simp[dL,iS]);have s1:=d.fH (k:=0) (n:=4) (v:=.agg (iS x.want)) rfl (by simp[iS]) rfl;have e2:(iS ⟨0,0,0,0⟩).take 0++AV.cells (.agg (iS x.want))++(iS ⟨0,0,0,0⟩).drop (0+4)=iS x.want:=rfl;rw[e2]at s1;obtain⟨H2,a⟩:∃X,X=H1.set H.au (OR (iS x.want) EK):=⟨_,rfl⟩
 rw[<-a]at s1;have j:Fr Em H H2:=a▸i.set (.inr (qm _)) _;have m:At H2 H.au EK (iS x.want):=a▸d.set _;have r:=h.fr j (λ _ _ _ q=>q) λ _ _=>rfl;have t:Op.aq 4 [.ptr H.au 0] H2=B1 (.agg (iS x.want)):=m.eI (k:=0) (n:=4) (by simp[iS]);obtain⟨q,s⟩:∃q:Bool,∀H,Op.eq .func B4 [fv,.nilf] H=B1 (.bool q):=by
  have:=h.nx;cases e:x.au with
  |none=>rw[e]at this;rw[show fv=_ from this];exact⟨B2,λ _=>rfl⟩
  |some n=>rw[e]at this;obtain⟨b,tv,rfl,-⟩:=this;exact⟨B4,λ _=>rfl⟩
 simp only[aa,bc,q1t,aw,Nt,<-e1,lf c,l4,c.bm,r.bm,s,s1,t];exact⟨⟨q,rfl⟩,j⟩
def PA(h:dX H o p x g fv)(m:fI v):zb M Δ [.ptr p 0,.int .u64 v,.bool ok] H λ _ H'=>eM H o p (x.fK v ok) H':=by
 refine q1p ?_;unfold So.fK;have nx:=h.nx;cases e:x.au with
 |none =>
  rw[e]at nx;have nx:fv=.nilf:=nx;subst nx;have q:∀H,Op.eq .func B2 [.nilf,.nilf] H=B1 (.bool B4):=λ _=>rfl;simp only[aa,bc,qp1,aw,lf h,h.bm,q];exact h.same
 |some n =>
  rw[e]at nx;obtain⟨b,tv,rfl,hb,j⟩:=nx;have q:∀f l H,Op.eq .func B2 [.fn f [] l,.nilf] H=B1 (.bool B2):=λ _ _ _=>rfl;have c:Op.build (iS ⟨0,0,0,0⟩) [] []=B1 (.agg (iS ⟨0,0,0,0⟩)):=rfl;have s1:=h.row.fH (k:=1) (n:=4) (v:=.agg (iS ⟨0,0,0,0⟩)) rfl (by simp[dL,iS]) rfl;have e2:(dL x g (mr (FU n) [b])).take 1++AV.cells (.agg (iS ⟨0,0,0,0⟩))++(dL x g (mr (FU n) [b])).drop (1+4)=dL {x with want:=⟨0,0,0,0⟩} g (mr (FU n) [b]):=rfl;rw[e2]at s1;obtain⟨H1,e1⟩:∃X,X=H.set p (OR (dL {x with want:=⟨0,0,0,0⟩} g (mr (FU n) [b])) Dv):=⟨_,rfl⟩
  rw[<-e1]at s1;have a:At H1 p Dv _:=e1▸h.row.set _;have s2:=a.st 5 (v:=.nilf) rfl (by simp[dL,iS]);have d:(dL {x with want:=⟨0,0,0,0⟩} g (mr (FU n) [b])).set 5 .nilf=dL {x with want:=⟨0,0,0,0⟩,au:=B5} g .nilf:=rfl;rw[d]at s2;have f:Fr (On p) H (H1.set p (OR (dL {x with want:=⟨0,0,0,0⟩,au:=B5} g .nilf) Dv)):=(e1▸cm H p _:Fr (On p) H H1).trans (cm ..) λ z q=>.inl q;have bk:=h.on f;have i:dX (H1.set p (OR (dL {x with want:=⟨0,0,0,0⟩,au:=B5} g .nilf) Dv)) o p {x with want:=⟨0,0,0,0⟩,au:=B5} g .nilf:=⟨a.set _,h.lg.fr f (λ z _ w(e:z=p)=>by rw[e,h.op]at w;omega) λ _ _=>rfl,rfl,h.op,rfl,h.vu,h.wu,bI⟩
  simp only[aa,bc,qp1,aw,lf h,h.bm,q,Nt,c,s1,s2,mr,j6,FB];refine C3.q (son i rfl m (hb.ky bk) (j.ky bk)) λ _ r hp=>?_;simp only[aa,bc];exact eM.step h f hp
def Lh(h:dX H o p x g fv):zb M n_ [.ptr p 0] H λ _ H'=>eM H o p x.begin H':=by
 refine qys ?_;unfold So.begin
 by_cases q:x.busy=B4\/x.live=B4
 .rw [xg q];cases b:x.busy
  .have l:x.live=true:=q.resolve_left (by rw[b];simp);simp only[aa,bc,VM,aw,lf h,h.bm,b,l];exact h.same
  .simp only[aa,bc,VM,aw,lf h,h.bm,b];exact h.same
 .rw [qy q];have b:x.busy=false:=by cases r:x.busy;rfl;exact(q (.inl r)).elim
  have l:x.live=false:=by cases r:x.live;rfl;exact(q (.inr r)).elim
  simp only[aa,bc,VM,aw,lf h,h.bm,b,l];refine C3.q (MS h.lg) λ _ H1 hp=>?_;have⟨o1,a,bk,i⟩:=h.log hp (λ y w=>by cases w);have⟨H2,s2,j,c⟩:=a.put 10 (v:=.int .u64 0) (y:={x with rd:=[],wr:=[],value:=0}) rfl (by decide) rfl ⟨rfl,rfl,rfl,rfl⟩ bI;have⟨A,t,m,d⟩:=j.put 11 (v:=.int .i64 0) (y:={x with rd:=[],wr:=[],value:=0,ended:=0}) rfl (by decide) rfl ⟨rfl,rfl,rfl,rfl⟩ bI;have⟨B,u,s,e⟩:=m.put 6 (v:=.bool B4) (y:={x with rd:=[],wr:=[],value:=0,ended:=0,busy:=B4}) rfl (by decide) rfl ⟨rfl,rfl,rfl,rfl⟩ bI;simp only[aa,bc,aw,s2,t,u];refine C3.q (wL s 1 (k:=.wait) rfl) λ _ C hp=>?_;simp only[aa,bc];simp only[l]at hp;exact eM.after bk.own i (eM.step a ((c.trans d λ z q=>.inl q).trans e λ z q=>.inl q) hp)
def xka(h:dX H o p x g fv)(a:Int):zb M qpp [.ptr p 0,.int .i64 a] H λ _ H'=>eM H o p (x.load a) H':=by
 refine q1q ?_;unfold So.load;have A:¬(80:Int)=0:=by decide
 have u:¬(2:Int)=0:=by decide
 by_cases q:x.ready=B4/\8<=a
 .rw [xg q];have lk:=Pv (M:=M) h.lg a;cases e:dq x.wr a with
  |some z =>
   rw[e]at lk;have s:fI z:=by
    rw[JB]at e;obtain⟨i,m,rfl⟩:=xr.1 e;obtain⟨c,y,j,-⟩:=pH m;rw[zw,j];exact h.wu y (ze j)
   have⟨H1,s1,c,d⟩:=h.put 10 (v:=.int .u64 z) (y:={x with value:=z}) rfl (by decide) rfl ⟨rfl,rfl,rfl,rfl⟩ s;simp only[aa,bc,SG,aw,KL h,q.1,qv q.2,h.bm,lk,vp,vx,s1];exact h.Cp d c
  |none =>
   rw[e]at lk;have⟨H1,s1,c,d⟩:=h.put 6 (v:=.bool B4) (y:={x with busy:=B4}) rfl (by decide) rfl ⟨rfl,rfl,rfl,rfl⟩ h.vu;simp only[aa,bc,SG,aw,KL h,q.1,qv q.2,h.bm,lk,Option.getD_none,Nj,s1];refine C3.q (Be c (a:=a) (by omega)) λ _ B hp=>?_;simp only[aa,bc];exact eM.step h d hp
 .rw [qy q]
  by_cases r:x.ready=B4
  .have t:¬8<=a:=λ w=>q ⟨r,w⟩;simp only[aa,bc,SG,KL h,r,t,u];exact h.same
  .simp only[aa,bc,SG,KL h,qy r,A];exact h.same
def xgj(h:dX H o p x g fv)(a:Int)(j:fI v):zb M qne [.ptr p 0,.int .i64 a,.int .u64 v] H λ _ H'=>eM H o p (x.store a v) H':=by
 refine qyv ?_;unfold So.store;have B:¬(80:Int)=0:=by decide
 have z:¬(2:Int)=0:=by decide
 have A:¬(70:Int)=0:=by decide
 by_cases q:x.ready=B4/\8<=a
 .rw [xg q];simp only[aa,bc,Pj,aw,KL h,q.1,qv q.2,h.bm];refine C3.q (MG h.lg (a:=a) (by omega) v) λ e H1 t=>?_;rcases t with⟨l1,l2,rfl,hp⟩|⟨l1,rfl,hp⟩
  .rw [xg ⟨l1,l2⟩];have⟨o1,c,bk,d⟩:=h.log hp h.wu;have⟨H2,s2,s,m⟩:=c.put 6 (v:=.bool B4) (y:={x with busy:=B4}) rfl (by decide) rfl ⟨rfl,rfl,rfl,rfl⟩ h.vu;simp only[aa,bc,aw,A,s2];refine C3.q (oQ s 2) λ _ C hp=>?_;simp only[aa,bc,Pj];exact eM.after bk.own d (eM.step c m hp)
  .rw [qy l1];have hu:∀y∈fQ x.wr a v,fI y.v:=λ y w=>by
    cases e:iv x.wr a with
    |none=>rw[TP e]at w;exact(jq.1 w).elim (h.wu y) λ w=>by rw[vi.1 w];exact j
    |some i=>rw[Uy e]at w;exact(FN w).elim (h.wu y) λ w=>by rw[w];exact j
   have⟨o1,c,bk,d⟩:=h.log hp hu;simp only[aa,bc,Pj];exact⟨o1,_,_,c,bk.own,d⟩
 .rw [qy q]
  by_cases r:x.ready=B4
  .have u:¬8<=a:=λ w=>q ⟨r,w⟩;simp only[aa,bc,Pj,KL h,r,u,z];exact h.same
  .simp only[aa,bc,Pj,KL h,qy r,B];exact h.same
def xd4(h:dX H o p x g fv):zb M N_ [.ptr p 0] H λ _ H'=>eM H o p x.bt H':=by
 refine qwp ?_;unfold So.bt;have s:¬(80:Int)=0:=by decide
 by_cases r:x.ready=B4
 .rw [xg r];have⟨H1,s1,a,e⟩:=h.put 6 (v:=.bool B4) (y:={x with busy:=B4}) rfl (by decide) rfl ⟨rfl,rfl,rfl,rfl⟩ h.vu;simp only[aa,bc,WT,aw,mW h,r,s1,a.bm];refine C3.q (xS a.lg) λ lv H2⟨m,t,d⟩=>?_;have ln:=(aO.sl m).len;have i:=a.fr d (λ _ _ _ q=>q) λ _ _=>rfl
  by_cases q:x.wr.length=0
  .have c:((x.wr.length:Nat):Int)=0:=by omega
   rw[xg q];simp only[aa,bc,ln,qv c];refine C3.q (oQ i 1) λ _ j hp=>?_;simp only[aa,bc];exact eM.step h e (eM.pre d (λ _ _=>rfl) hp)
  .have c:¬((x.wr.length:Nat):Int)=0:=by omega
   rw[qy q];simp only[aa,bc,WT,ln,c];refine C3.q (J4 i) λ _ j hp=>?_;simp only[aa,bc];exact eM.step h e (eM.pre d (λ _ _=>rfl) hp)
 .rw [qy r];simp only[aa,bc,WT,mW h,qy r,s];exact h.same
def xkd(h:dX H o p x g fv):zb M qpq [.ptr p 0] H λ _ H'=>eM H o p x.Cf H':=by
 refine q1r ?_;unfold So.Cf;have d:¬(80:Int)=0:=by decide
 by_cases r:x.ready=B4
 .rw [xg r];have⟨H1,s1,c,a⟩:=h.put 6 (v:=.bool B4) (y:={x with busy:=B4}) rfl (by decide) rfl ⟨rfl,rfl,rfl,rfl⟩ h.vu;simp only[aa,bc,VS,aw,mW h,r,s1];refine C3.q (oQ c 3) λ _ e hp=>?_;simp only[aa,bc,VS];exact eM.step h a hp
 .rw [qy r];simp only[aa,bc,VS,mW h,qy r,d];exact h.same
end
end Go.Am
namespace Go.Am
open Lang Go.Proofs
variable{M:ak}[MK M]
def cO(c:Co)(f l sp:Nat)(cv rv ov pv:AV):List AV:=[.int .i64 c.id,.int .i64 c.lines,cv,.ptr f 0,.ptr l 0,.ptr sp 0,.int .i64 c.ph,.int .i64 c.want.kind,.int .i64 c.want.au,.int .i64 c.want.pO,.int .u64 c.want.value,.int .u64 c.want.addr,.int .u64 c.seq,rv,.int .i64 c.done,.bool c.wrote,.bool c.held,.bool c.said,.int .i64 c.blocks,.int .i64 c.oX,.bool c.halted,.bool c.zA,ov,pv]
def tt(ps:List Pr):Prop:=∀i x,ps[i]? = B1 x->iv ps x.a=B1 i
structure I8(c:Co)(k:Nat):Prop where
 id:0<=c.id
 l2:2<=c.lines
 l64:c.lines<=64
 cl:c.code.length<=1024
 ru:∀y∈c.aU,fI y.v
 rl:c.aU.length<=k
 d0:0<=c.done
 wu:fI c.want.addr
 Lp:tt c.aU
structure dP(H:ar)(o:Nat->Nat)(p f l sp:Nat)(cv rv ov pv:AV)(c:Co)(os:List fh)(k:Nat):Prop where
 row:At H p Gj (cO c f l sp cv rv ov pv)
 fi:qC H o f c.fi
 la:lV H l c.la
 so:∃g fv,dX H o sp c.so g fv
 cd:bN gn 5 H cv c.code
 rd:Db H rv c.aU
 ou:aO fh.enc jr 9 H ov os
 op:o p=1
 of:o f=2
 ol:o l=3
 qF:∀z,aM rv z->o z=5
 rB:∀z,aM ov z->o z=6
 mJ:c.code≠[]->aG cv<H.au/\o (aG cv)=7
 Gb:aB pv=B4
 w:I8 c k
section
variable{H H':ar}{o o':Nat->Nat}{p f l sp k k':Nat}{cv rv ov pv:AV}{c d:Co}{os os':List fh}
def IU{α:Type}{enc:α->List AV}{size:Nat}{W:Nat->Prop}{lv:AV}{xs:List α}(h:bN enc size H lv xs)(a:Fr W H H')(hw:xs≠[] -> ¬W (aG lv)):bN enc size H' lv xs:=by
 cases xs with
 |nil=>exact Sl.fr h a (.inl rfl)
 |cons y l=>exact Sl.fr h a (.inr (hw (by simp)))
def dP.fr4{W:Nat->Prop}(h:dP H o p f l sp cv rv ov pv c os k)(a:Fr W H H')(hw:∀z,z<H.au->o z≠0->o z≠4 -> ¬W z)(ho:∀z,z<H.au->o' z=o z)(hk:k<=k'):dP H' o' p f l sp cv rv ov pv c os k':=by
 have⟨g,fv,hs⟩:=h.so;have r:=λ z(q:aM rv z)=>Own.lt h.rd z q;have u:=λ z(q:aM ov z)=>Own.lt h.ou z q;exact⟨h.row.fr a (hw p h.row.2 (by rw[h.op];decide) (by rw[h.op];decide)),h.fi.fr a h.of (λ z q e=>hw z q (by omega) (by omega)) ho,h.la.fr a (hw l h.la.at'.2 (by rw[h.ol];decide) (by rw[h.ol];decide)),⟨g,fv,hs.fr a (λ z q e=>hw z q (by omega) (by omega)) ho⟩,
  IU h.cd a λ e=>hw _ (h.mJ e).1 (by rw[(h.mJ e).2];decide) (by rw[(h.mJ e).2];decide),Own.fr h.rd a λ z q=>hw z (r z q) (by rw[h.qF z q];decide) (by rw[h.qF z q];decide),Own.fr h.ou a λ z q=>hw z (u z q) (by rw[h.rB z q];decide) (by rw[h.rB z q];decide),
  (ho p h.row.2).trans h.op,(ho f (by obtain⟨pv,q,-⟩:=h.fi.at';exact q.2)).trans h.of,(ho l h.la.at'.2).trans h.ol,λ z q=>(ho z (r z q)).trans (h.qF z q),λ z q=>(ho z (u z q)).trans (h.rB z q),λ e=>⟨qn (h.mJ e).1 a.au,(ho _ (h.mJ e).1).trans (h.mJ e).2⟩,h.Gb,
  {h.w with rl:=xx h.w.rl hk}⟩
def dP.fr{W:Nat->Prop}(h:dP H o p f l sp cv rv ov pv c os k)(a:Fr W H H')(hw:∀z,z<H.au->o z≠0 -> ¬W z)(ho:∀z,z<H.au->o' z=o z)(hk:k<=k'):dP H' o' p f l sp cv rv ov pv c os k':=h.fr4 a (λ z q r _=>hw z q r) ho hk
def hC(H:ar)(o:Nat->Nat)(p f l sp:Nat)(cv pv:AV)(c:Co)(os:List fh)(k:Nat)(H':ar):Prop:=∃o' rv ov,dP H' o' p f l sp cv rv ov pv c os k/\(∀z,z<H.au->o' z=o z)/\Fr (λ z=>o z≠0) H H'
def dP.bm(h:dP H o p f l sp cv rv ov pv c os k):Op.ae [.ptr p 0] H=B1 (.int .i64 c.id)/\Op.ae [.ptr p 1] H=B1 (.int .i64 c.lines)/\Op.ae [.ptr p 2] H=B1 cv/\Op.ae [.ptr p 3] H=B1 (.ptr f 0)/\Op.ae [.ptr p 4] H=B1 (.ptr l 0)/\Op.ae [.ptr p 5] H=B1 (.ptr sp 0)/\Op.ae [.ptr p 6] H=B1 (.int .i64 c.ph)/\Op.ae [.ptr p 7] H=B1 (.int .i64 c.want.kind)/\Op.ae [.ptr p 12] H=B1 (.int .u64 c.seq) /\
 Op.ae [.ptr p 13] H=B1 rv/\Op.ae [.ptr p 14] H=B1 (.int .i64 c.done)/\Op.ae [.ptr p 15] H=B1 (.bool c.wrote)/\Op.ae [.ptr p 16] H=B1 (.bool c.held)/\Op.ae [.ptr p 17] H=B1 (.bool c.said)/\Op.ae [.ptr p 18] H=B1 (.int .i64 c.blocks)/\Op.ae [.ptr p 19] H=B1 (.int .i64 c.oX)/\Op.ae [.ptr p 20] H=B1 (.bool c.halted)/\Op.ae [.ptr p 21] H=B1 (.bool c.zA)/\Op.ae [.ptr p 22] H=B1 ov/\Op.ae [.ptr p 23] H=B1 pv/\Op.aq 5 [.ptr p 7] H=B1 (.agg (bj c.want)) :=
 ⟨h.row.ld 0,h.row.ld 1,h.row.ld 2,h.row.ld 3,h.row.ld 4,h.row.ld 5,h.row.ld 6,h.row.ld 7,h.row.ld 12,h.row.ld 13,h.row.ld 14,h.row.ld 15,h.row.ld 16,h.row.ld 17,h.row.ld 18,h.row.ld 19,h.row.ld 20,h.row.ld 21,h.row.ld 22,h.row.ld 23,h.row.eI (k:=7) (n:=5) (by simp[cO])⟩
def dP.np(h:dP H o p f l sp cv rv ov pv c os k):∀z,o z≠1 -> ¬On p z:=λ z e(w:z=p)=>e (by rw[w];exact h.op)
def dP.cell(h:dP H o p f l sp cv rv ov pv c os k){rv' ov' pv':AV}(hs:d.fi=c.fi/\d.la=c.la/\d.so=c.so/\d.code=c.code)(hr:Db H rv' d.aU /\ ∀z,aM rv' z->o z=5)(hu:aO fh.enc jr 9 H ov' os' /\ ∀z,aM ov' z->o z=6)(hp:aB pv'=B4)(hw:I8 d k') :
 dP (H.set p (OR (cO d f l sp cv rv' ov' pv') Gj)) o p f l sp cv rv' ov' pv' d os' k'/\Fr (On p) H (H.set p (OR (cO d f l sp cv rv' ov' pv') Gj)):=by
 have a:Fr (On p) H (H.set p (OR (cO d f l sp cv rv' ov' pv') Gj)):=cm ..;have⟨g,fv,b⟩:=h.so;have⟨e1,e2,j,i⟩:=hs;refine⟨⟨h.row.set _,?_,?_,⟨g,fv,?_⟩,?_,Own.fr hr.1 a λ z q=>h.np z (by rw[hr.2 z q];decide),Own.fr hu.1 a λ z q=>h.np z (by rw[hu.2 z q];decide),h.op,h.of,h.ol,hr.2,hu.2,?_,hp,hw⟩,a⟩
 .rw [e1];exact h.fi.fr a h.of (λ z q e=>h.np z (by omega)) λ _ _=>rfl
 .rw [e2];exact h.la.fr a (h.np l (by rw[h.ol];decide))
 .rw [j];exact b.fr a (λ z q e=>h.np z (by omega)) λ _ _=>rfl
 .rw [i];exact IU h.cd a λ e=>h.np _ (by rw[(h.mJ e).2];decide)
 .rw [i];exact h.mJ
theorem dP.put(h:dP H o p f l sp cv rv ov pv c os k)(i:Nat){v:AV}(d:Co)(a:aB v=B4)(b:i<24)(he:(cO c f l sp cv rv ov pv).set i v=cO d f l sp cv rv ov pv)(hs:d.fi=c.fi/\d.la=c.la/\d.so=c.so/\d.code=c.code)(hr:d.aU=c.aU)(hw:I8 d k) :
 ∃H',Op.store 1 [.ptr p i,v] H=B1 (.undef,H')/\dP H' o p f l sp cv rv ov pv d os k/\Fr (On p) H H':=by
 have⟨e,g⟩:=h.cell (d:=d) hs (rv':=rv) ⟨by rw[hr];exact h.rd,h.qF⟩ ⟨h.ou,h.rB⟩ h.Gb hw;exact⟨_,by rw[h.row.st i a b,he],e,g⟩
def dP.Cp(h:dP H o p f l sp cv rv ov pv c os k){H1:ar}(a:Fr (On p) H H1){e b:AV}(g:dP H1 o p f l sp cv e b pv d os' k'):hC H o p f l sp cv pv d os' k' H1:=⟨o,e,b,g,λ _ _=>rfl,a.mono λ z _(q:z=p)=>by rw[q,h.op];decide⟩
def dP.HH(h:dP H o p f l sp cv rv ov pv c os k){y:Fi}(hp:Lw H o f y H'):hC H o p f l sp cv pv {c with fi:=y} os k H':=by
 have⟨i,a⟩:=hp;have ho:∀z,z<H.au->aP o H.au 2 z=o z:=λ z q=>iT q;have b:∀z,o z≠2 -> ¬On f z:=λ z e(w:z=f)=>e (by rw[w];exact h.of);have⟨g,fv,hs⟩:=h.so;have r:=λ z(q:aM rv z)=>Own.lt h.rd z q;have u:=λ z(q:aM ov z)=>Own.lt h.ou z q;refine⟨aP o H.au 2,rv,ov,⟨h.row.fr a (b p (by rw[h.op];decide)),i,h.la.fr a (b l (by rw[h.ol];decide)),⟨g,fv,hs.fr a (λ z q e=>b z (by omega)) ho⟩,IU h.cd a λ e=>b _ (by rw[(h.mJ e).2];decide),Own.fr h.rd a λ z q=>b z (by rw[h.qF z q];decide),Own.fr h.ou a λ z q=>b z (by rw[h.rB z q];decide),
  (ho p h.row.2).trans h.op,(ho f (by obtain⟨pv,q,-⟩:=h.fi.at';exact q.2)).trans h.of,(ho l h.la.at'.2).trans h.ol,λ z q=>(ho z (r z q)).trans (h.qF z q),λ z q=>(ho z (u z q)).trans (h.rB z q),λ e=>⟨qn (h.mJ e).1 a.au,(ho _ (h.mJ e).1).trans (h.mJ e).2⟩,h.Gb,{h.w with}⟩,ho,a.mono λ z _(q:z=f)=>by rw[q,h.of];decide⟩
def dP.XX(h:dP H o p f l sp cv rv ov pv c os k){y:La}(hp:P1 H l y H'):hC H o p f l sp cv pv {c with la:=y} os k H':=by
 have⟨b,a⟩:=hp;have nl:∀z,o z≠3 -> ¬On l z:=λ z e(w:z=l)=>e (by rw[w];exact h.ol);have⟨g,fv,hs⟩:=h.so;exact⟨o,rv,ov,⟨h.row.fr a (nl p (by rw[h.op];decide)),h.fi.fr a h.of (λ z q e=>nl z (by omega)) λ _ _=>rfl,b,⟨g,fv,hs.fr a (λ z q e=>nl z (by omega)) λ _ _=>rfl⟩,IU h.cd a λ e=>nl _ (by rw[(h.mJ e).2];decide),Own.fr h.rd a λ z q=>nl z (by rw[h.qF z q];decide),Own.fr h.ou a λ z q=>nl z (by rw[h.rB z q];decide),
  h.op,h.of,h.ol,h.qF,h.rB,λ e=>⟨qn (h.mJ e).1 a.au,(h.mJ e).2⟩,h.Gb,{h.w with}⟩,λ _ _=>rfl,a.mono λ z _(q:z=l)=>by rw[q,h.ol];decide⟩
def dP.MV(h:dP H o p f l sp cv rv ov pv c os k){y:So}(hp:eM H o sp y H'):hC H o p f l sp cv pv {c with so:=y} os k H':=by
 have⟨o',g,fv,b,ho,a⟩:=hp;have nl:∀z,o z<8 -> ¬(8<=o z):=λ z e w=>by omega
 have r:=λ z(q:aM rv z)=>Own.lt h.rd z q;have u:=λ z(q:aM ov z)=>Own.lt h.ou z q;exact⟨o',rv,ov,⟨h.row.fr a (nl p (by rw[h.op];decide)),h.fi.fr a h.of (λ z q e=>nl z (by omega)) ho,h.la.fr a (nl l (by rw[h.ol];decide)),⟨g,fv,b⟩,IU h.cd a λ e=>nl _ (by rw[(h.mJ e).2];decide),Own.fr h.rd a λ z q=>nl z (by rw[h.qF z q];decide),Own.fr h.ou a λ z q=>nl z (by rw[h.rB z q];decide),
  (ho p h.row.2).trans h.op,(ho f (by obtain⟨pv,q,-⟩:=h.fi.at';exact q.2)).trans h.of,(ho l h.la.at'.2).trans h.ol,λ z q=>(ho z (r z q)).trans (h.qF z q),λ z q=>(ho z (u z q)).trans (h.rB z q),λ e=>⟨qn (h.mJ e).1 a.au,(ho _ (h.mJ e).1).trans (h.mJ e).2⟩,h.Gb,{h.w with}⟩,ho,a.mono λ z _(q:8<=o z)=>by omega⟩
def I8.mono(h:I8 c k)(hk:k<=k'):I8 c k':={h with rl:=xx h.rl hk}
end
end Go.Am
namespace Go.Am
open Lang Go.Proofs
variable{M:ak}[MK M]
section
variable{H H1 H':ar}{o o1:Nat->Nat}{p f l sp k k':Nat}{cv rv ov pv:AV}{c d:Co}{os os':List fh}{s t:CS}
def dP.em(h:dP H o p f l sp cv rv ov pv c os k)(a:Fr Em H H'):dP H' o p f l sp cv rv ov pv c os k:=h.fr a (λ _ _ _ q=>q) (λ _ _=>rfl) (qm _)
def dP.same(h:dP H o p f l sp cv rv ov pv c os k):hC H o p f l sp cv pv c os k H:=⟨o,rv,ov,h,λ _ _=>rfl,Fr.refl _⟩
def hC.then(a:hC H o p f l sp cv pv c os k H1)(b:∀o1 g e,dP H1 o1 p f l sp cv g e pv c os k->hC H1 o1 p f l sp cv pv d os' k' H'):hC H o p f l sp cv pv d os' k' H':=by
 have⟨o1,g,e,n,j,m⟩:=a;have⟨o2,i,h,r,u,v⟩:=b _ _ _ n;refine⟨o2,i,h,r,λ z q=>(u z (qn q m.au)).trans (j z q),m.trans v λ z q=>?_⟩;rcases xz z H.au with w|w
 .exact .inl (by rw[<-j z w];exact q)
 .exact .inr w
theorem hC.pre(a:Fr Em H H1)(b:hC H1 o p f l sp cv pv d os' k' H'):hC H o p f l sp cv pv d os' k' H':=by
 have⟨o2,g,e,h,i,j⟩:=b;exact⟨o2,g,e,h,λ z q=>i z (qn q a.au),(a.mono λ _ _ q=>q.elim).trans j λ z q=>.inl q⟩
def Ta(x:fh):x.enc.length=9:=rfl
def Lu:fh:=⟨0,0,0,0,0,0,0,0,0⟩
def Xn:[AV.int .i64 0,.int .i64 0,.int .i64 0,.int .i64 0,.int .i64 0,.int .i64 0,.int .i64 0,.int .u64 0,.int .i64 0]=Lu.enc:=rfl
def C0(h:dP H o p f l sp cv rv ov pv c os k):∀K,C3 M B4 (.func Xm) [.ptr p 0] H K=K B4 (.bool B2) H:=by
 refine dA (oS ?_);simp only[aa,bc,tN,aw,h.bm]
def FA(h:dP H o p f l sp cv rv ov pv s.c s.o k)(hl:s.o.length<=1000)(kd a v cd:Int):zb M U6 [.ptr p 0,.int .i64 kd,.int .i64 a,.int .u64 v,.int .i64 cd] H λ _ H'=>hC H o p f l sp cv pv (s.tell kd a v cd).c (s.tell kd a v cd).o k H':=by
 refine q0g ?_;obtain⟨H1,e1,f1,-,-⟩:=cq H (OR Lu.enc jr);have O:At H1 H.au jr _:=e1▸At.new H _ _;obtain⟨e,he⟩:∃e:fh,e=⟨kd,0,s.c.id,-1,0,0,a,v,cd⟩:=⟨_,rfl⟩
 have R:Op.build Lu.enc [(0,1),(2,1),(3,1),(6,1),(7,1),(8,1)] [.int .i64 kd,.int .i64 s.c.id,.int .i64 (-1),.int .i64 a,.int .u64 v,.int .i64 cd]=B1 (.agg e.enc):=by rw[he];rfl
 have s1:=O.fH (k:=0) (n:=9) (v:=.agg e.enc) rfl (by simp[fh.len]) rfl;have C:Lu.enc.take 0++AV.cells (.agg e.enc)++Lu.enc.drop (0+9)=e.enc:=by rw[zp];rfl
 rw[C]at s1;obtain⟨G,e2⟩:∃X,X=H1.set H.au (OR e.enc jr):=⟨_,rfl⟩
 rw[<-e2]at s1;have I:At G H.au jr e.enc:=e2▸O.set _;have J:Fr Em H G:=e2▸f1.set (.inr (qm _)) _;have B:=h.em J;have n2:H.au<G.au:=I.2
 -- the list
 have app:∀{j:ar}(x:fh),Fr Em H j -> ∀{K:bE->(Nat->AV)->Bool->AV->ar->Prop}{m:Bool},(∀r u y,Op.store 1 [.ptr p 22,r] u=B1 (.undef,y)->hC H o p f l sp cv pv s.c (s.o ++ [x]) k y->K (.row (AV.cells (.agg x.enc)) jr (0,0) B4) (Op.sliceTo 1 1) m r u) ->
  jB m (Op.buildSlice jr 1 Lu.enc [(0,9)] [.agg x.enc]) λ g o mk=>jB g (Op.append jr 9 72 [ov,mk j.au] (j.alloc o)) (K o mk):=λ{j}x A{K m}hk=>by
  have b:=h.em A;refine aO.pK b.ou (x:=.agg x.enc) (a:=x) rfl rfl rfl rfl (by decide) (by omega) (by omega) λ r u W L hz=>?_;have one:aB r=true:=Sl.one (Own.sl W);have lu:=λ z(q:aM ov z)=>Own.lt b.ou z q
  -- new rows are of the told list
  have ho:∀z,z<j.au->aP o j.au 6 z=o z:=λ z q=>iT q;have V:∀z,o z≠6 -> ¬aM ov z:=λ z q w=>q (b.rB z w);have f34:Fr (λ z=>o z≠0) j u:=L.mono λ z _ q=>by rw[b.rB z q];decide
  have⟨g,fv,hs⟩:=b.so;have lr:=λ z(q:aM rv z)=>Own.lt b.rd z q;have Y:At u p Gj _:=b.row.fr L (V p (by rw[b.op];decide));have st:=Y.st 22 one (by simp[cO]);have e5:(cO s.c f l sp cv rv ov pv).set 22 r=cO s.c f l sp cv rv r pv:=rfl;rw[e5]at st;obtain⟨y,N⟩:∃X,X=u.set p (OR (cO s.c f l sp cv rv r pv) Gj):=⟨_,rfl⟩
  rw[<-N]at st;have T:Fr (On p) u y:=N▸cm ..;have i:Fr (λ z=>aM ov z\/z=p) j y:=(L.mono λ z _ q=>.inl q).trans T λ z q=>.inl (.inr q);have nw:∀z,o z≠6->o z≠1 -> ¬(aM ov z\/z=p):=λ z e6 e1 w=>w.elim (V z e6) λ w=>e1 (by rw[w];exact b.op);have no:∀z,aM r z->aP o j.au 6 z=6:=λ z q=>(hz z q).elim (λ w=>(ho z (lu z w)).trans (b.rB z w)) λ w=>nh w;refine hk r u y st (hC.pre A ⟨aP o j.au 6,rv,r,⟨N▸Y.set _,b.fi.fr i b.of (λ z q e=>nw z (by omega) (by omega)) ho,b.la.fr i (nw l (by rw[b.ol];decide) (by rw[b.ol];decide)),⟨g,fv,hs.fr i (λ z q e=>nw z (by omega) (by omega)) ho⟩,IU b.cd i λ e=>nw _ (by rw[(b.mJ e).2];decide) (by rw[(b.mJ e).2];decide),Own.fr b.rd i λ z q=>nw z (by rw[b.qF z q];decide) (by rw[b.qF z q];decide),Own.fr W T λ z q(w:z=p)=>?_,
   (ho p b.row.2).trans b.op,(ho f (by obtain⟨pv,q,-⟩:=b.fi.at';exact q.2)).trans b.of,(ho l b.la.at'.2).trans b.ol,λ z q=>(ho z (lr z q)).trans (b.qF z q),no,λ e=>⟨qn (b.mJ e).1 i.au,(ho _ (b.mJ e).1).trans (b.mJ e).2⟩,b.Gb,b.w⟩,ho,i.mono λ z _ q=>q.elim (λ q=>by rw[b.rB z q];decide) λ q=>by rw[q,b.op];decide⟩)
  have:=no z q;rw[w,ho p b.row.2,b.op]at this;omega
 have ld:∀{j:ar}{x:fh},At j H.au jr x.enc->Op.aq 9 [.ptr H.au 0] j=B1 (.agg x.enc):=λ a=>a.eI (k:=0) (n:=9) (by simp[fh.len])
 by_cases q:s.c.la.lane=0
 .have ev:CS.KV s.c kd a v cd=e:=by rw[he];unfold CS.KV;rw[xg q]
  unfold CS.tell;rw[ev];simp only[aa,bc,Xg,aw,Xn,<-e1,h.bm,R,s1,B.bm,iY B.la,qv q,ld I];refine app e J λ r u y st hp=>?_;simp only[aa,bc,st];exact hp
 .obtain ⟨C,D⟩:∃x:fh,x=⟨kd,0,s.c.id,aj .i64 (s.c.blocks-1),0,0,a,v,cd⟩:=⟨_,rfl⟩
  obtain⟨F,E⟩:∃x:fh,x=⟨kd,0,s.c.id,aj .i64 (s.c.blocks-1),s.c.la.tries,0,a,v,cd⟩:=⟨_,rfl⟩
  have ev:CS.KV s.c kd a v cd=⟨kd,0,s.c.id,aj .i64 (s.c.blocks-1),s.c.la.tries,s.c.la.lane,a,v,cd⟩:=by unfold CS.KV;rw[qy q]
  unfold CS.tell;rw[ev];simp only[aa,bc,Xg,aw,Xn,<-e1,h.bm,R,s1,B.bm,iY B.la,q];refine C3.q (Vd B.la) λ w j⟨hw,A⟩=>?_;subst hw;have b:=B.em A;have P:=I.em A;have Z:=P.st 3 (v:=.int .i64 (aj .i64 (s.c.blocks-1))) rfl (by simp[fh.len]);have y1:e.enc.set 3 (.int .i64 (aj .i64 (s.c.blocks-1)))=C.enc:=by rw[he,D];rfl
  rw[y1]at Z;have Q:=P.set C.enc;have t2:=Q.st 4 (v:=.int .i64 s.c.la.tries) rfl (by simp[fh.len]);have y2:C.enc.set 4 (.int .i64 s.c.la.tries)=F.enc:=by rw[D,E];rfl
  rw[y2]at t2;have S:=Q.set F.enc;have t3:=S.st 5 (v:=.int .i64 s.c.la.lane) rfl (by simp[fh.len]);have y3:F.enc.set 5 (.int .i64 s.c.la.lane)=fh.enc ⟨kd,0,s.c.id,aj .i64 (s.c.blocks-1),s.c.la.tries,s.c.la.lane,a,v,cd⟩:=by rw[E];rfl
  rw[y3]at t3;have d3:=S.set (fh.enc ⟨kd,0,s.c.id,aj .i64 (s.c.blocks-1),s.c.la.tries,s.c.la.lane,a,v,cd⟩);have U:Fr Em H _:=(((J.em A).set (.inr (qm _)) (OR C.enc jr)).set (.inr (qm _)) (OR F.enc jr)).set (.inr (qm _)) (OR (fh.enc ⟨kd,0,s.c.id,aj .i64 (s.c.blocks-1),s.c.la.tries,s.c.la.lane,a,v,cd⟩) jr);have h6:=h.em U;simp only[aa,bc,Xg,aw,b.bm,iY b.la,Z,t2,t3,h6.bm,ld d3];refine app _ U λ r u y st hp=>?_;simp only[aa,bc,st];exact hp
end
end Go.Am
namespace Go.Am
open Lang Go.Proofs
variable{M:ak}[MK M]
section
variable{H H1 H':ar}{o o1:Nat->Nat}{p f l sp k k':Nat}{cv rv ov pv:AV}{c d:Co}{os os':List fh}{s t:CS}
def hC.tT(a:∀z,z<H.au->o1 z=o z)(w:Fr (λ z=>o z≠0) H H1)(b:hC H1 o1 p f l sp cv pv d os' k' H'):hC H o p f l sp cv pv d os' k' H':=by
 have⟨o2,g,e,h,i,j⟩:=b;refine⟨o2,g,e,h,λ z q=>(i z (qn q w.au)).trans (a z q),w.trans j λ z q=>?_⟩;rcases xz z H.au with r|r
 .exact .inl (by rw[<-a z r];exact q)
 .exact .inr r
def dP.loc(h:dP H o p f l sp cv rv ov pv c os k)(a:Fr Em H H1)(hn:H.au<H1.au):dP H1 (aP o H.au 0) p f l sp cv rv ov pv c os k/\(∀z,z<H.au->aP o H.au 0 z=o z)/\aP o H.au 0 H.au=0 :=
 ⟨h.fr a (λ _ _ _ q=>q) (λ z q=>iT q) (qm _),λ z q=>iT q,nh (qm _)⟩
def dP.oH(h:dP H o p f l sp cv rv ov pv c os k){H1:ar}(a:Fr (On p) H H1):Fr (λ z=>o z≠0) H H1:=a.mono λ z _(q:z=p)=>by rw[q,h.op];decide
def dP.one(h:dP H o p f l sp cv rv ov pv c os k){H1:ar}(a:Fr (On p) H H1)(b:hC H1 o p f l sp cv pv d os' k' H'):hC H o p f l sp cv pv d os' k' H':=hC.tT (λ _ _=>rfl) (h.oH a) b
def KU(h:dP H o p f l sp cv rv ov pv s.c s.o k)(n:Int):zb M YO [.ptr p 0,.int .i64 n] H λ _ H'=>hC H o p f l sp cv pv (s.fR n).c (s.fR n).o k H':=by
 refine q0a ?_;simp only[aa,bc,q0b,aw,h.bm];refine C3.q (IZ h.fi n) λ _ H1 hp=>?_;have⟨o1,m,j,a,b,e⟩:=h.HH hp;have⟨r,s2,i,g⟩:=a.put 19 (v:=.int .i64 (aj .i64 (s.c.oX+1))) (s.fR n).c rfl (by decide) rfl ⟨rfl,rfl,rfl,rfl⟩ rfl {a.w with};simp only[aa,bc,aw,a.bm,s2];exact hC.tT b e (a.Cp g i)
def qw(h:dP H o p f l sp cv rv ov pv s.c s.o k):zb M qm4 [.ptr p 0] H λ _ H'=>hC H o p f l sp cv pv s.leave.c s.leave.o k H':=by
 refine qxl ?_;simp only[aa,bc,qxm,aw,h.bm];refine C3.q (Mn h.la) λ _ H1 hp=>?_;have⟨o1,z,x,a,g,j⟩:=h.XX hp;simp only[aa,bc,aw,a.bm];refine C3.q (Q6 a.fi) λ _ D hp=>?_;have⟨o2,A,y,b,i,m⟩:=a.HH hp;have⟨E,B,e,n⟩:=b.put 16 (v:=.bool B2) {s.c with la:=s.c.la.leave,fi:=s.c.fi.drop,held:=B2} rfl (by decide) rfl ⟨rfl,rfl,rfl,rfl⟩ rfl {b.w with};have⟨F,C,u,r⟩:=e.put 6 (v:=.int .i64 0) s.leave.c rfl (by decide) rfl ⟨rfl,rfl,rfl,rfl⟩ rfl {e.w with};simp only[aa,bc,aw,B,C];exact hC.tT g j (hC.tT i m (b.one n (e.Cp r u)))
def o_(h:dP H o p f l sp cv rv ov pv s.c s.o k)(hl:s.o.length<=1000):zb M O_ [.ptr p 0] H λ _ H'=>hC H o p f l sp cv pv s.aD.c s.aD.o k H':=by
 refine qq5 ?_;have fin:∀{H1:ar}{o1:Nat->Nat}{b a:AV}{t:CS},dP H1 o1 p f l sp cv b a pv t.c t.o k -> ∃r e,Op.store 1 [.ptr p 17,.bool B4] H1=B1 (.undef,r)/\Op.store 1 [.ptr p 16,.bool B2] r=B1 (.undef,e)/\hC H1 o1 p f l sp cv pv {t.c with said:=B4,held:=B2} t.o k e:=λ{H1 o1 b a t}g=>by
  have⟨e,i,n,y⟩:=g.put 17 (v:=.bool B4) {t.c with said:=B4} rfl (by decide) rfl ⟨rfl,rfl,rfl,rfl⟩ rfl {g.w with};have⟨m,j,A,z⟩:=n.put 16 (v:=.bool B2) {t.c with said:=B4,held:=B2} rfl (by decide) rfl ⟨rfl,rfl,rfl,rfl⟩ rfl {n.w with};exact⟨e,m,i,j,g.one y (n.Cp z A)⟩
 unfold CS.aD;cases q:s.c.said with
 |true =>
  have⟨e,m,i,j,hp⟩:=fin h;simp only[aa,bc,Zx,aw,h.bm,q,i,j];exact hp
 |false =>
  simp only[aa,bc,Zx,aw,h.bm,q,ja];refine C3.q (FA h hl 5 0 0 0) λ _ H1⟨o1,b,a,g,u,x⟩=>?_;have⟨e,m,i,j,hp⟩:=fin (t:=s.tell 5 0 0 0) g;simp only[aa,bc,Zx,aw,i,j];exact hC.tT u x hp
def xe4(s:CS):s.aD.o.length<=s.o.length+1:=by
 unfold CS.aD;simp only;split
 .omega
 .show (s.o ++ [_]).length<=_;rw[xe];simp
def xca(s:CS):s.aD.leave.c.fi.pc=s.c.fi.pc:=by
 unfold CS.aD;simp only;split<;>rfl
def ON(h:dP H o p f l sp cv rv ov pv s.c s.o k)(hl:s.o.length<=1000):zb M B_ [.ptr p 0] H λ _ H'=>hC H o p f l sp cv pv s.cX.c s.cX.o k H':=by
 refine qt2 ?_;simp only[aa,bc,qt3];refine C3.q (o_ h hl) λ _ H1⟨o1,C,z,x,g,m⟩=>?_;simp only[aa,bc];refine C3.q (qw x) λ _ G⟨o2,D,A,a,i,n⟩=>?_;have e:=xca s;simp only[aa,bc,aw,a.bm,U_ a.fi,e];refine C3.q (IZ a.fi (aj .i64 (s.c.fi.pc+1))) λ _ I hp=>?_;have⟨o3,E,B,b,j,r⟩:=a.HH hp;have⟨J,F,y,u⟩:=b.put 19 (v:=.int .i64 (aj .i64 (s.aD.leave.c.oX+1))) s.cX.c rfl (by decide) rfl ⟨rfl,rfl,rfl,rfl⟩ rfl {b.w with};simp only[aa,bc,aw,b.bm,F];exact hC.tT g m (hC.tT i n (hC.tT j r (b.Cp u y)))
def xlh(h:dP H o p f l sp cv rv ov pv s.c s.o k)(hl:s.o.length<=1000)(cd:Int):zb M Wc [.ptr p 0,.int .i64 cd] H λ _ H'=>hC H o p f l sp cv pv (s.abort cd).c (s.abort cd).o k H':=by
 refine qxg ?_;simp only[aa,bc,qxh];refine C3.q (FA h hl 6 0 0 cd) λ _ H1⟨o1,B,y,a,g,m⟩=>?_;simp only[aa,bc,aw,a.bm];refine C3.q (σ a.fi) λ _ F hp=>?_;have⟨o2,C,z,b,i,n⟩:=a.HH hp;simp only[aa,bc,aw,b.bm];refine C3.q (Ka b.la cd) λ _ G hp=>?_;have⟨o3,D,A,e,j,r⟩:=b.XX hp;have⟨I,E,x,u⟩:=e.put 6 (v:=.int .i64 1) (s.abort cd).c rfl (by decide) rfl ⟨rfl,rfl,rfl,rfl⟩ rfl {e.w with};simp only[aa,bc,aw,E];exact hC.tT g m (hC.tT i n (hC.tT j r (e.Cp u x)))
def YK(h:dP H o p f l sp cv rv ov pv s.c s.o k)(hl:s.o.length<=1000):zb M ql1 [.ptr p 0] H λ _ H'=>hC H o p f l sp cv pv s.breaks.c s.breaks.o k H':=by
 refine qvp ?_;simp only[aa,bc,qvq];refine C3.q (FA h hl 6 0 0 7) λ _ H1⟨o1,D,A,a,g,m⟩=>?_;simp only[aa,bc,aw,a.bm];refine C3.q (σ a.fi) λ _ J hp=>?_;have⟨o2,E,B,y,i,n⟩:=a.HH hp;simp only[aa,bc];refine C3.q (qw (s:=(s.tell 6 0 0 7).fi .restore) y) λ _ K⟨o3,F,C,b,j,r⟩=>?_;have⟨L,G,e,u⟩:=b.put 20 (v:=.bool B4) {((s.tell 6 0 0 7).fi .restore).leave.c with halted:=B4} rfl (by decide) rfl ⟨rfl,rfl,rfl,rfl⟩ rfl {b.w with};have⟨N,I,z,x⟩:=e.put 21 (v:=.bool B4) s.breaks.c rfl (by decide) rfl ⟨rfl,rfl,rfl,rfl⟩ rfl {e.w with};simp only[aa,bc,aw,G,I];exact hC.tT g m (hC.tT i n (hC.tT j r (b.one u (e.Cp x z))))
def RJ(h:dP H o p f l sp cv rv ov pv c os k){u:Int}(hu:fI u):∀K,C3 M B4 (.func L_) [.ptr p 0,.int .u64 u] H K=K B4 (.tuple [.int .i64 (if CS.GA c u=B4 then 8+u else 0),.bool (CS.GA c u)]) H:=by
 refine dA (q7e ?_);have g:=h.w.l2;have i:=h.w.l64;have w1:aj .i64 (c.lines-1)=c.lines-1:=jb (by omega) (by omega);have w2:aj .i64 ((c.lines-1)*8)=(c.lines-1)*8:=jb (by omega) (by omega);have b:aj .u64 ((c.lines-1)*8)=(c.lines-1)*8:=xh6 (by omega) (by omega);unfold CS.GA
 by_cases q:(c.lines-1)*8<=u
 .have a:¬u<(c.lines-1)*8:=JJ.2 q;simp only[aa,bc,qtl,aw,h.bm,w1,w2,b,qv q,a,ja]
 .have a:u<(c.lines-1)*8:=Int.not_le.1 q;have w4:aj .i64 u=u:=jb (by have:=hu.1;omega) (by omega);have e:aj .i64 (8+u)=8+u:=jb (by have:=hu.1;omega) (by omega);simp only[aa,bc,qtl,aw,h.bm,w1,w2,b,q,qv a,w4,e]
def Se(h:dP H o p f l sp cv rv ov pv s.c s.o k)(hl:s.o.length<=1000)(e:py)(hu:fI e.addr){v:Int}(R:fI v):zb M Wp [.ptr p 0,.agg (bj e),.int .u64 v] H λ _ H'=>hC H o p f l sp cv pv (s.eW e v).c (s.eW e v).o k H':=by
 refine qvt ?_;obtain⟨H1,e1,G,-,-⟩:=cq H (OR (bj e) jm);have y:At H1 H.au jm _:=e1▸At.new H _ _;have⟨n,N,n1⟩:=h.loc G (show H.au<H1.au from y.2);have l4:Op.ae [.ptr H.au 4] H1=B1 (.int .u64 e.addr):=y.ld 4;have ce:AV.cells (.agg (bj e))=bj e:=zp _;obtain⟨kd,b⟩:∃kd:Int,kd=if s.c.la.lane=0 then 7 else 2:=⟨_,rfl⟩
 obtain⟨a,ha⟩:∃a:Int,a=if CS.GA s.c e.addr=B4 then 8+e.addr else 0:=⟨_,rfl⟩
 have m:=RJ (M:=M) n hu;rw[<-ha]at m;have main:∀{K:Bool->AV->ar->Prop},(∀w j o2 i g,dP j o2 p f l sp cv i g pv (s.tell kd a v 0).c (s.tell kd a v 0).o k->Op.ae [.ptr p 3] j=B1 (.ptr f 0)->Op.ae [.ptr H.au 2] j=B1 (.int .i64 e.pO)->(zb M Zs [.ptr f 0,.int .i64 e.pO,.int .u64 v] j λ _ u=>Op.ae [.ptr H.au 1] u=B1 (.int .i64 e.au)/\zb M YO [.ptr p 0,.int .i64 e.au] u λ _ x=>hC H o p f l sp cv pv (s.eW e v).c (s.eW e v).o k x)->K B4 w j)->C3 M B4 (.func U6) [.ptr p 0,.int .i64 kd,.int .i64 a,.int .u64 v,.int .i64 0] H1 K:=λ hk=>by
  refine C3.q (FA n hl kd a v 0) λ w j⟨o2,i,g,r,F,I⟩=>?_;have E:=y.fr I (λ q=>q n1);have n2:o2 H.au=0:=(F _ y.2).trans n1;refine hk w j o2 i g r r.bm.2.2.2.1 (E.ld 2) ((Le r.fi e.pO R).mono λ _ u hp=>?_);have⟨o3,T,S,Q,O,J⟩:=r.HH hp;have L:=E.fr J (λ q=>q n2);refine⟨L.ld 1,(KU (s:=(s.tell kd a v 0).fi (·.set e.pO v)) Q e.au).mono λ _ x hp=>?_⟩;have P:s.eW e v=((s.tell kd a v 0).fi (·.set e.pO v)).fR e.au:=by rw[b,ha];rfl
  rw[P];exact hC.tT N (G.mono λ _ _ q=>q.elim) (hC.tT F I (hC.tT O J hp))
 by_cases q:s.c.la.lane=0
 .rw [xg q]at b;subst b;simp only[aa,bc,iu,aw,ce,<-e1,l4,m,n.bm,iY n.la,qv q];refine main λ w j o2 i g r z A B=>?_;simp only[aa,bc,aw,z,A];refine C3.q B λ _ u⟨C,D⟩=>?_;simp only[aa,bc,C];refine C3.q D λ _ x hp=>?_;simp only[aa,bc];exact hp
 .rw [qy q]at b;subst b;simp only[aa,bc,iu,aw,ce,<-e1,l4,m,n.bm,iY n.la,q];refine main λ w j o2 i g r z A B=>?_;simp only[aa,bc,aw,z,A];refine C3.q B λ _ u⟨C,D⟩=>?_;simp only[aa,bc,C];refine C3.q D λ _ x hp=>?_;simp only[aa,bc];exact hp
def Rb(h:dP H o p f l sp cv rv ov pv s.c s.o k)(hl:s.o.length<=1000)(kd:Int)(e:py)(a:Int):zb M ql3 [.ptr p 0,.int .i64 kd,.agg (bj e),.int .i64 a] H λ _ H'=>hC H o p f l sp cv pv (s.stored kd e a).c (s.stored kd e a).o k H':=by
 refine qvv ?_;obtain⟨H1,e1,g,-,-⟩:=cq H (OR (bj e) jm);have b:At H1 H.au jm _:=e1▸At.new H _ _;have⟨r,m,n1⟩:=h.loc g (show H.au<H1.au from b.2);have l3:Op.ae [.ptr H.au 3] H1=B1 (.int .u64 e.value):=b.ld 3;have ce:AV.cells (.agg (bj e))=bj e:=zp _;simp only[aa,bc,qvw,ce,<-e1,l3];refine C3.q (FA r hl kd a e.value 0) λ _ j⟨o2,w,v,u,n,i⟩=>?_;have l1:Op.ae [.ptr H.au 1] j=B1 (.int .i64 e.au):=(b.fr i (λ q=>q n1)).ld 1;simp only[aa,bc,l1];refine C3.q (KU (s:=s.tell kd a e.value 0) u e.au) λ _ x hp=>?_;simp only[aa,bc];exact hC.tT m (g.mono λ _ _ q=>q.elim) (hC.tT n i hp)
end
end Go.Am
