import Derived.Test.YtgjdmncoonceaaaGreatDoorAmTZf
import Derived.Test.YtgjdmncoonceaaaGreatDoorAmTZj
import Derived.Test.YtgjdmncoonceaaaGreatDoorAmTZh
set_option linter.defProp false
set_option linter.unusedVariables false
set_option linter.unusedSimpArgs false
set_option linter.unusedSectionVars false
set_option maxRecDepth 100000
open Bool renaming false→B2,true→B4
open False renaming elim→ND
open List renaming range→MX
open Nat renaming beq→JW
open Option renaming isSome→BL,none→B5,some→B1
open Nat renaming reduceEqDiff→bc
namespace Go.Am
open Lang Go.Proofs
variable{M:ak}[MK M]
def cO(p:Pr):List AV:=[.int .i64 p.a,.int .u64 p.v]
def D9(p:Pr):(cO p).length=2:=rfl
abbrev BW(H:ar)(v:AV)(ps:List Pr):Prop:=aO cO vx 2 H v ps
def aO.oi{α:Type}{enc:α->List AV}{e size:Nat}{H:ar}{v:AV}{xs:List α}(h:aO enc e size H v xs){bytes:Nat}{zero:List AV}{x:AV}{a:α}(j:x.cells=enc a)(hs:(enc a).length=size)(q:zero.length=size)(f:aL (enc a)=B4)(k:0<size)
 (p:(xs.length+1)*bytes<=140737488355328) (i:xs.length+1<=140737488355328) {K:bE->(Nat->AV)->Bool->AV->ar->Prop} {m:Bool}
 (hk:∀d H',aO enc e size H' d (xs ++ [a])->Fr (aM v) H H'->(∀b,aM d b->aM v b\/H.au<=b)->K (.row x.cells e (0,0) B4) (Op.sliceTo 1 1) m d H') :
 jF m (Op.buildSlice e 1 zero [(0,size)] [x]) λ g o mk=>jF g (Op.append e size bytes [v,mk H.au] (H.alloc o)) (K o mk):=by
 refine nR h q (by rw[j];exact hs) (by rw[j];exact f) k p i λ d H' f l n=>hk d H' ?_ l n;unfold aO;rw[ki,xe]
 simpa[j]using f
def iA:List Pr->Int->Option Nat
 |[],_=>B5
 |x::r,a=>if x.a=a then B1 0 else(iA r a).map (·+1)
def J5:∀(ps:List Pr)(a:Int),dy ps a=(iA ps a).map λ i=>(ps.getD i ⟨0,0⟩).v
 |[],a=>rfl
 |x::r,a=>by
  unfold dy iA;split
  .rfl
  .rw [J5 r a];cases iA r a<;>rfl
def pL:∀{ps:List Pr}{a:Int}{i:Nat},iA ps a=B1 i->i<ps.length /\ ∃x,ps[i]? = B1 x/\x.a=a
 |x::r,a,i,h=>by
  unfold iA at h;split at h
  .cases h;exact⟨Nat.zero_lt_succ _,x,rfl,by assumption⟩
  .obtain ⟨j,f,rfl⟩:=xr.1 h;have⟨b,y,d,e⟩:=pL f;exact⟨Nat.succ_lt_succ b,y,d,e⟩
def T5:∀{ps:List Pr}{a v:Int},iA ps a=B5->fV ps a v=ps ++ [⟨a,v⟩]
 |[],a,v,_=>rfl
 |x::r,a,v,h=>by
  unfold iA at h;split at h
  .cases h
  .rename_i q;rw[Option.map_eq_none_iff]at h;unfold fV;rw[qy q,T5 h];rfl
def Ua:∀{ps:List Pr}{a v:Int}{i:Nat},iA ps a=B1 i->fV ps a v=ps.set i ⟨a,v⟩
 |x::r,a,v,i,h=>by
  unfold iA at h;unfold fV;split at h
  .rename_i q;cases h;rw[xg q];rfl
  .rename_i q;obtain⟨j,b,rfl⟩:=xr.1 h;rw[qy q,Ua b];rfl
def jS:List Pr->Nat->Nat->List (AV×AV×Nat)
 |[],_,_=>[]
 |x::r,i,c=>(.int .i64 x.a,.int .i64 (i:Int),c)::jS r (i+1) (c+1)
def UJ:∀(ps:List Pr)(a:Int)(i c j:Nat),findKey .int (.int .i64 a) (jS ps i c) j=B1 ((iA ps a).map λ n=>(j+n,.int .i64 ((i+n:Nat):Int)))
 |[],a,i,c,j=>rfl
 |x::r,a,i,c,j=>by
  have e:aY .int (.int .i64 a) (.int .i64 x.a)=B1 (decide (a=x.a)):=by simp only[aY,sJ,jQ,JW,xt,Sc]
  unfold jS findKey iA;rw[e,qr]
  by_cases q:x.a=a
  .rw [ke q.symm,xg q];rfl
  .rw [ju (λ w=>q w.symm),qy q,zn,UJ r a (i+1) (c+1) (j+1)];cases iA r a with
   |none=>rfl
   |some n=>simp only[GA];rw[show j+1+n=j+(n+1)by omega,show i+1+n=i+(n+1)by omega]
def S':∀(ps:List Pr)(x:Pr)(i c:Nat),jS (ps ++ [x]) i c=jS ps i c ++ [(.int .i64 x.a,.int .i64 ((i+ps.length:Nat):Int),c+ps.length)]
 |[],x,i,c=>rfl
 |y::r,x,i,c=>by
  show _::jS (r ++ [x]) (i+1) (c+1)=_::(jS r (i+1) (c+1)++_);rw[S' r x,zu];congr 3;simp only[zh,AV.int.injEq,FO];constructor<;>omega
def V1:∀(ps:List Pr)(n:Nat)(v:Int)(i c:Nat){x:Pr},ps[n]? = B1 x->jS (ps.set n ⟨x.a,v⟩) i c=jS ps i c
 |y::r,0,v,i,c,x,h=>by cases h;rfl
 |y::r,n+1,v,i,c,x,h=>by
  show _::jS (r.set n _) (i+1) (c+1)=_;rw[V1 r n v (i+1) (c+1) h];rfl
structure vQ(H:ar)(o:Nat->Nat)(t r:Nat)(ps:List Pr)(pv:AV)(mb c:Nat):Prop where
 row:At H r IX [pv,.map mb]
 ow:BW H pv ps
 mp:H.get mb=B1 (.map (jS ps 0 c) (c+ps.length))
 ml:mb<H.au
 le:ps.length<=128
 o0:o r=t
 o1:o mb=t+1
 o2:∀z,aM pv z->o z=t+2
section
variable{H H':ar}{o o':Nat->Nat}{t r mb c:Nat}{ps:List Pr}{pv:AV}
def vQ.fr{W:Nat->Prop}(h:vQ H o t r ps pv mb c)(a:Fr W H H')(hw:∀z,z<H.au->(o z=t\/o z=t+1\/o z=t+2) -> ¬W z)(ho:∀z,z<H.au->o' z=o z):vQ H' o' t r ps pv mb c :=
 ⟨h.row.fr a (hw r h.row.2 (.inl h.o0)),Own.fr h.ow a λ z q=>hw z (Own.lt h.ow z q) (.inr (.inr (h.o2 z q))),(a.ah mb h.ml (hw mb h.ml (.inr (.inl h.o1)))).trans h.mp,qn h.ml a.au,h.le,(ho r h.row.2).trans h.o0,(ho mb h.ml).trans h.o1,λ z q=>(ho z (Own.lt h.ow z q)).trans (h.o2 z q)⟩
def VH{b:Nat}{es:List (AV×AV×Nat)}{k:Nat}(h:H.get b=B1 (.map es k)):H.fC b=B1 (es,k):=by unfold ar.fC;rw[h]
def T_(h:vQ H o t r ps pv mb c)(a:Int):Op.lookup .int (.int .i64 0) B4 [.map mb,.int .i64 a] H=B1 (match iA ps a with|some i=>.tuple [.int .i64 (i:Int),.bool B4]|none=>.tuple [.int .i64 0,.bool B2]):=by
 simp only[Op.lookup,dh,xt,VH h.mp,qr,UJ];cases iA ps a<;>simp
def Ey(h:vQ H o t r ps pv mb c):bI cO 2 H pv ps:=aO.sl h.ow
def yB(h:vQ H o t r ps pv mb c)(a:Int):∀K,C3 M B4 (.func N_) [.ptr r 0,.int .i64 a] H K=K B4 (.tuple [.int .u64 ((dy ps a).getD 0),.bool (dy ps a).isSome]) H:=by
 refine dC (q5d ?_);have l0:=h.row.ld 0;have l1:=h.row.ld 1;rw[J5];have f:=T_ h a;cases q:iA ps a with
 |none =>
  rw[q]at f;simp only[aa,bc,φ,aw,l1,f];rfl
 |some i =>
  rw[q]at f;obtain⟨d,x,b,-⟩:=pL q;have sl:=Ey h;have ix:=sl.idx b (z:=(i:Int)) rfl .i64;have ld:Op.ae [.ptr (aE pv) (cK 2 pv i+1)] H=B1 (.int .u64 x.v):=sl.ae D9 b (j:=1) (by decide);simp only[aa,bc,φ,aw,l0,l1,f,ix,ld];simp only[GA,vk,vq,zt,b]
def SW(H:ar)(o:Nat->Nat)(t r:Nat)(ps:List Pr)(H':ar):Prop:=∃o' pv mb c,vQ H' o' t r ps pv mb c/\(∀z,z<H.au->o' z=o z)/\Fr (λ z=>o z=t\/o z=t+1\/o z=t+2) H H'
def DR(h:vQ H o t r ps pv mb c):zb M qo5 [.ptr r 0] H λ _ H'=>SW H o t r [] H':=by
 refine q0i ?_;have l1:=h.row.ld 1;have s1:Op.bW [.map mb] H=B1 (.tuple [],H.set mb (.map [] (c+ps.length))):=by simp only[Op.bW,VH h.mp,qr]
 have d:r≠mb:=λ q=>by have a:=h.o0;have b:=h.o1;rw[q]at a;omega
 have e:At (H.set mb (.map [] (c+ps.length))) r IX [pv,.map mb]:=h.row.fr (cI H mb _) d;have s2:=e.st 0 (v:=.nils) rfl (by simp);simp only[aa,bc,q0j,aw,l1,s1,s2];refine⟨o,.nils,mb,c+ps.length,⟨e.set _,Own.nil ..,?_,h.ml,xw _,h.o0,h.o1,λ z q=>(q.1 rfl).elim⟩,λ _ _=>rfl,?_⟩
 .rw [yd d,xc];rfl
 .exact ((cI H mb _).mono λ z _ q=>.inr (.inl ((congrArg o q).trans h.o1))).trans (cI _ r _) λ z q=>.inl (.inl ((congrArg o q).trans h.o0))
def Pu(h:vQ H o t r ps pv mb c)(a v:Int)(hn:iA ps a=B5):zb M qs4 [.ptr r 0,.int .i64 a,.int .u64 v] H λ w H'=>w=.int .i64 (if ps.length=128 then 70 else 0)/\SW H o t r (if ps.length=128 then ps else ps ++ [⟨a,v⟩]) H':=by
 refine q7o ?_;have l0:=h.row.ld 0;have l1:=h.row.ld 1;have ln:=(Ey h).len;have hle:=h.le
 by_cases q:ps.length=128
 .have p:((ps.length:Nat):Int)=128:=by omega
  rw[xg q,xg q];simp only[aa,bc,qtl,aw,l0,ln,qv p];exact⟨o,pv,mb,c,h,λ _ _=>rfl,Fr.refl _⟩
 .have p:¬((ps.length:Nat):Int)=128:=by omega
  rw[qy q,qy q];have s1:Op.mapUpdate .int [.map mb,.int .i64 a,.int .i64 ((ps.length:Nat):Int)] H=B1 (.undef,H.set mb (.map (jS (ps ++ [⟨a,v⟩]) 0 c) (c+(ps ++ [(⟨a,v⟩:Pr)]).length))):=by
   simp only[Op.mapUpdate,dh,xt,VH h.mp,qr,UJ,hn,Option.map_none,S',yg,xe,zu,jq];rfl
  obtain⟨H1,e1⟩:∃X,X=H.set mb (.map (jS (ps ++ [⟨a,v⟩]) 0 c) (c+(ps ++ [(⟨a,v⟩:Pr)]).length)):=⟨_,rfl⟩
  rw[<-e1]at s1;have j:Fr (On mb) H H1:=e1▸cI H mb _;have u:r≠mb:=λ q=>by have a:=h.o0;have b:=h.o1;rw[q]at a;omega
  have x:At H1 r IX [pv,.map mb]:=h.row.fr j u;have np:∀z,aM pv z->z≠mb/\z≠r:=λ z w=>⟨λ e=>by have a:=h.o2 z w;have b:=h.o1;rw[e]at a;omega,λ e=>by have a:=h.o2 z w;have b:=h.o0;rw[e]at a;omega⟩
  have n:BW H1 pv ps:=Own.fr h.ow j λ z w=>(np z w).1;have m:=x.ld 0;have A:Op.build [.int .i64 0,.int .u64 0] [(0,1),(1,1)] [.int .i64 a,.int .u64 v]=B1 (.agg (cO ⟨a,v⟩)):=rfl;simp only[aa,bc,qtl,aw,l0,ln,p,l1,s1,m,A];refine aO.oi (bytes:=16) n (a:=⟨a,v⟩) rfl rfl rfl rfl (by decide) (by omega) (by omega) λ pv' d i f s=>?_;have y:At d r IX [pv,.map mb]:=x.fr f λ w=>(np r w).2 rfl;have one:aD pv'=true:=by have:=Sl.one (Own.sl i);exact this
  have B:=y.st 0 one (by simp);simp only[aa,bc,B];have k:Fr (On r) d (d.set r (OR [pv',.map mb] IX)):=cI ..;have n1:H1.au=H.au:=by rw[e1];rfl
  have l:∀z,aM pv' z->z≠r/\z≠mb:=λ z w=>(s z w).elim (λ w=>⟨(np z w).2,(np z w).1⟩) λ w=>⟨λ e=>by have:=h.row.2;omega,λ e=>by have:=h.ml;omega⟩
  refine⟨aQ o H.au (t+2),pv',mb,c,⟨y.set _,Own.fr i k λ z w=>(l z w).1,?_,?_,?_,(ww h.row.2).trans h.o0,(ww h.ml).trans h.o1,λ z w=>?_⟩,λ z w=>ww w,?_⟩
  .show (d.set r (OR [pv',.map mb] IX)).get mb=_;rw[k.ah mb (by have:=f.au;have:=h.ml;omega) (λ w=>u (show mb=r from w).symm),f.ah mb (by have:=h.ml;omega) λ w=>(np mb w).1 rfl,e1,xc]
  .have:=f.au;have:=h.ml;show mb<d.au;omega
  .rw [xe];simp only[zu,jq];omega
  .rcases s z w with w|w
   .exact (ww (by have:=Own.lt h.ow z w;exact this)).trans (h.o2 z w)
   .exact ny (by omega)
  .exact ((j.mono λ z _ q=>.inr (.inl ((congrArg o q).trans h.o1))).trans f λ z q=>.inl (.inr (.inr (h.o2 z q)))).trans k λ z q=>.inl (.inl ((congrArg o q).trans h.o0))
end
def pF(H:ar)(o:Nat->Nat)(g:Nat)(rd wr:List Pr):Prop:=∃r w v1 m1 c1 v2 m2 c2,At H g TL [.ptr r 0,.ptr w 0]/\o g=9/\vQ H o 10 r rd v1 m1 c1/\vQ H o 20 w wr v2 m2 c2
def vU(H:ar)(o:Nat->Nat)(g:Nat)(rd wr:List Pr)(H':ar):Prop:=∃o',pF H' o' g rd wr/\(∀z,z<H.au->o' z=o z)/\Fr (λ z=>9<=o z/\o z<=22) H H'
section
variable{H H':ar}{o o':Nat->Nat}{g:Nat}{rd wr:List Pr}
def pF.fr{W:Nat->Prop}(h:pF H o g rd wr)(a:Fr W H H')(hw:∀z,z<H.au->9<=o z -> ¬W z)(ho:∀z,z<H.au->o' z=o z):pF H' o' g rd wr:=by
 have⟨r,w,v1,l,d,v2,m,f,b,i,j,k⟩:=h;exact⟨r,w,v1,l,d,v2,m,f,b.fr a (hw g b.2 (by omega)),(ho g b.2).trans i,j.fr a (λ z q e=>hw z q (by omega)) ho,k.fr a (λ z q e=>hw z q (by omega)) ho⟩
def pF.FP{W:Nat->Prop}(h:pF H o g rd wr)(a:Fr W H H')(hw:∀z,z<H.au->9<=o z/\o z<=22 -> ¬W z):pF H' o g rd wr:=by
 have⟨r,w,v1,l,d,v2,m,f,b,i,j,k⟩:=h;exact⟨r,w,v1,l,d,v2,m,f,b.fr a (hw g b.2 (by omega)),i,j.fr a (λ z q e=>hw z q (by omega)) λ _ _=>rfl,k.fr a (λ z q e=>hw z q (by omega)) λ _ _=>rfl⟩
def pF.same(h:pF H o g rd wr):vU H o g rd wr H:=⟨o,h,λ _ _=>rfl,Fr.refl _⟩
def nQ(h:pF H o g rd wr):∀K,C3 M B4 (.func qs2) [.ptr g 0] H K=K B4 (.bool B2) H:=by
 obtain⟨r,w,v1,e,b,v2,f,d,a,-⟩:=h;have l0:=a.ld 0;refine dC (q7k ?_);simp only[aa,bc,q7l,aw,l0]
def UP(h:pF H o g rd wr)(a:Int):∀K,C3 M B4 (.func qu7) [.ptr g 0,.int .i64 a] H K=K B4 (.tuple [.int .u64 ((dy rd a).getD 0),.bool (dy rd a).isSome]) H:=by
 have b:=h;have⟨r,w,v1,l,f,v2,m,i,d,j,e,k⟩:=h;have l0:=d.ld 0;refine dC (q99 ?_);simp only[aa,bc,xaa,aw,nQ b,l0,yB e]
def PE(h:pF H o g rd wr)(a:Int):∀K,C3 M B4 (.func qs0) [.ptr g 0,.int .i64 a] H K=K B4 (.tuple [.int .u64 ((dy wr a).getD 0),.bool (dy wr a).isSome]) H:=by
 have b:=h;have⟨r,w,v1,l,f,v2,m,i,d,j,k,e⟩:=h;have l1:=d.ld 1;refine dC (q7h ?_);simp only[aa,bc,q7i,aw,nQ b,l1,yB e]
def pF.M_{H1:ar}{g r w:Nat}{v1 v2:AV}{n j i f:Nat}{a:List Pr}(h:At H g TL [.ptr r 0,.ptr w 0])(k:o g=9)(q:vQ H o 10 r rd v1 n j)(l:vQ H o 20 w wr v2 i f)(p:SW H o 10 r a H1):vU H o g a wr H1:=by
 have⟨o',pv,mb,c,m,b,d⟩:=p;exact⟨o',⟨r,w,pv,mb,c,v2,i,f,h.fr d (by omega),(b g h.2).trans k,m,l.fr d (λ z _ e=>by omega) b⟩,b,d.mono λ z _ e=>by omega⟩
def pF.WZ{H1:ar}{g r w:Nat}{v1 v2:AV}{i f n j:Nat}{a:List Pr}(h:At H g TL [.ptr r 0,.ptr w 0])(k:o g=9)(l:vQ H o 10 r rd v1 i f)(q:vQ H o 20 w wr v2 n j)(p:SW H o 20 w a H1):vU H o g rd a H1:=by
 have⟨o',pv,mb,c,m,b,d⟩:=p;exact⟨o',⟨r,w,v1,i,f,pv,mb,c,h.fr d (by omega),(b g h.2).trans k,l.fr d (λ z _ e=>by omega) b,m⟩,b,d.mono λ z _ e=>by omega⟩
def vU.then{H1 a:ar}{e w1 f w2:List Pr}(p:vU H o g e w1 H1)(k:∀o1,pF H1 o1 g e w1->vU H1 o1 g f w2 a):vU H o g f w2 a:=by
 have⟨o1,h,b,d⟩:=p;have⟨o2,i,j,l⟩:=k o1 h;refine⟨o2,i,λ z q=>(j z (qn q d.au)).trans (b z q),d.trans l λ z q=>?_⟩;rcases xz z H.au with w|w
 .rw [b z w]at q;exact .inl q
 .exact .inr w
def MN(H:ar)(o:Nat->Nat)(g:Nat)(ps:List Pr)(a:Int)(e:AV)(A:Prop)(B:Prop):Prop:=(dy ps a=B5/\ps.length=128/\e=.int .i64 70/\A)\/(¬(dy ps a=B5/\ps.length=128)/\e=.int .i64 0/\B)
def Jn(h:pF H o g rd wr){a:Int}(ha:0<=a)(v:Int):zb M qs1 [.ptr g 0,.int .i64 a,.int .u64 v] H λ e H'=>MN H o g rd a e (vU H o g rd wr H') (vU H o g (if dy rd a=B5 then rd ++ [⟨a,v⟩]else rd) wr H'):=by
 refine q7j ?_;have f:=h;have⟨r,w,v1,p,m,v2,s,n,i,j,b,k⟩:=h;have l0:=i.ld 0;have l:¬a<0:=I3.2 ha;cases q:dy rd a with
 |some y =>
  simp only[aa,bc,S2,aw,nQ f,l,l0,yB b,q,BL];refine .inr ⟨λ w=>?_,rfl,?_⟩
  .rw [q]at w;cases w.1
  .rw [qy (by simp)];exact f.same
 |none =>
  have hn:iA rd a=none:=by rw[J5]at q;exact Option.map_eq_none_iff.1 q
  simp only[aa,bc,S2,aw,nQ f,l,l0,yB b,q,BL];refine C3.q (Pu b a v hn) λ e H1⟨he,hp⟩=>?_;subst he;simp only[aa,bc]
  by_cases d:rd.length=128
  .rw [xg d]at hp⊢;exact .inl ⟨q,d,rfl,pF.M_ i j b k hp⟩
  .rw [qy d]at hp⊢;exact .inr ⟨λ w=>d w.2,rfl,pF.M_ i j b k hp⟩
def LL(h:pF H o g rd wr):zb M F_ [.ptr g 0] H λ _ H'=>vU H o g [] [] H':=by
 refine q48 ?_;have x:=h;have⟨r,w,v1,F,E,v2,C,v,d,k,y,A⟩:=h;have l0:=d.ld 0;simp only[aa,bc,q49,aw,nQ x,l0];refine C3.q (DR y) λ _ H1 hp=>?_;have⟨o',pv,mb,c,u,b,i⟩:=hp;have f:=A.fr i (λ z _ e=>by omega) b;have a:=d.fr i (by omega);have l1:=a.ld 1;simp only[aa,bc,aw,l1];refine C3.q (DR f) λ _ D l=>?_;simp only[aa,bc];have G:vU H o g [] wr H1:=⟨o',⟨r,w,pv,mb,c,v2,C,v,a,(b g d.2).trans k,u,f⟩,b,i.mono λ z _ e=>by omega⟩
 have⟨o2,s,p,j,B,m,n⟩:=l;refine⟨o2,⟨r,w,pv,mb,c,s,p,j,a.fr n (by have:=(b g d.2).trans k;omega),(m g a.2).trans ((b g d.2).trans k),u.fr n (λ z _ e=>by omega) m,B⟩,λ z q=>(m z (qn q i.au)).trans (b z q),(i.mono λ z _ e=>by omega).trans n λ z q=>?_⟩;rcases xz z H.au with w|w
 .rw [b z w]at q;exact .inl (by omega)
 .exact .inr w
def LD(h:pF H o g rd wr){a:Int}(ha:0<=a)(v:Int):zb M qqe [.ptr g 0,.int .i64 a,.int .u64 v] H λ e H'=>MN H o g wr a e (vU H o g rd wr H') (vU H o g rd (fV wr a v) H'):=by
 refine q5c ?_;have C:=h;have⟨r,w,v1,L,J,v2,l,B,k,n,p,b⟩:=h;have l1:=k.ld 1;have E:¬a<0:=I3.2 ha;have D:=b.row.ld 1;have F:=b.row.ld 0;have f:=T_ b a;cases q:iA wr a with
 |some i =>
  rw[q]at f;have⟨K,x,s,I⟩:=pL q;have sl:=Ey b;have ix:=sl.idx s (z:=(i:Int)) rfl .i64;have⟨H1,s1,A,d⟩:=aO.zU D9 b.ow s (j:=1) (by decide) (u:=.int .u64 v) rfl (y:=⟨x.a,v⟩) rfl;simp only[aa,bc,R1,aw,nQ C,E,l1,D,f,F,ix,s1];refine .inr ⟨λ w=>(by rw[J5,q]at w;cases w.1),rfl,?_⟩;rw[Ua q,<-I];have n1:¬aM v2 w:=λ e=>by have:=b.o2 w e;have:=b.o0;omega
  have n2:¬aM v2 l:=λ e=>by have:=b.o2 l e;have:=b.o1;omega
  refine pF.WZ k n p b ⟨o,v2,l,B,⟨b.row.fr d n1,A,?_,qn b.ml d.au,by rw[ze];exact b.le,b.o0,b.o1,b.o2⟩,λ _ _=>rfl,d.mono λ z _ q=>.inr (.inr (b.o2 z q))⟩;rw[V1 wr i v 0 B s,ze,d.ah l b.ml n2];exact b.mp
 |none =>
  have G:dy wr a=none:=by rw[J5,q];rfl
  rw[q]at f;simp only[aa,bc,R1,aw,nQ C,E,l1,D,f];refine C3.q (Pu b a v q) λ e H1⟨he,hp⟩=>?_;subst he;simp only[aa,bc]
  by_cases m:wr.length=128
  .rw [xg m]at hp⊢;exact .inl ⟨G,m,rfl,pF.WZ k n p b hp⟩
  .rw [qy m]at hp⊢;rw[T5 q];exact .inr ⟨λ w=>m w.2,rfl,pF.WZ k n p b hp⟩
end
end Go.Am
namespace Go.Am
open Lang Go.Proofs
variable{M:ak}[MK M]
def NC(v:AV)(i:Nat):AV:=.ptr (aE v) (cK 2 v i)
def S6{H1:ar}(e:Pr):Op.store 2 [.ptr H1.au 0,.agg (cO e)] (H1.alloc (OR [.int .i64 0,.int .u64 0] vx))=B1 (.undef,(H1.alloc (OR [.int .i64 0,.int .u64 0] vx)).set H1.au (OR (cO e) vx)):=(At.new H1 _ _).fK (k:=0) (n:=2) rfl (by decide) rfl
def xkh{H0:ar}{p:Nat}{v:AV}{ys:List Pr}(Z:BW H0 v ys)(hp:H0.get p=B1 (OR [v] oq))(U:p<H0.au)(hl:ys.length<=1000000) :
 qQ M vj [] [.ptr p 0] (λ x=>x=p\/aM v x) (λ _=>False) H0 ((MX ys.length).map λ(i:Nat)=>[.int .i64 (i:Int),.agg (cO (ys.getD i ⟨0,0⟩))]):=by
 intro Y R S j H1 G K C D loc N step;have⟨p1,p2,p3⟩:=K p (.inl (.inl rfl))
 suffices h:zb M vj [.fn (.yield Y) [] [],.ptr p 0] H1 (I4 R S j (λ _=>False) H1 ((MX ys.length).map λ(i:Nat)=>[AV.int .i64 (i:Int),AV.agg (cO (ys.getD i ⟨0,0⟩))]).length)by
  have⟨v,H',P,W',q1,q2,q3⟩:=h.elim;exact⟨v,H',W',P,q1,q2,q3⟩
 refine qon ?_;have lp:Op.ae [.ptr p 0] H1=B1 v:=by rw[x9 (xb (by rw[p2];exact hp))];rfl
 have L:∀{a:ar},Fr j H1 a->BW a v ys:=λ{a}f =>
  Own.fr Z (⟨xx G f.au,λ y d hw=>by
   have⟨y1,y2,y3⟩:=K y (.inl (we.1 hw));rw[f.ah y (by omega) y3,y2]⟩:Fr (λ y=>¬(y=p\/aM v y)) H0 a) λ y d w=>w (.inr d)
 rw[xu,jj];simp only[aa,bc,T4,lp,(aO.sl (L (Fr.refl _))).len];refine cu.intro (λ n E a=>∃(i:Nat)(V:Nat->Prop),E=[(7,.int .i64 (i:Int)),(6,.int .i64 ((ys.length:Nat):Int)),(5,v),(0,.fn (.yield Y) [] []),(1,.ptr p 0)]/\n=ys.length-i/\i<=ys.length/\LH R j H1 a i V) ?_ ?_
 .exact ⟨_,_,⟨0,j,rfl,rfl,xw _,⟨C,λ b hb=>⟨D b hb,.inl hb⟩,Fr.refl _⟩⟩,by simp only[aa,bc]⟩
 rintro n E a ⟨i,V,rfl,rfl,hi,hI⟩;rcases xz i ys.length with s|T
 .have B:(i:Int)<((ys.length:Nat):Int):=by omega
  obtain⟨e,he⟩:∃e,ys[i]? = B1 e:=⟨ys[i],by simp[s]⟩
  have sl:=aO.sl (L hI.fr);have ix:Op.aR 2 [v,.int .i64 (i:Int)]=B1 (NC v i):=sl.idx he rfl .i64;have ld:Op.aq 2 [NC v i] a=B1 (.agg (cO e)):=sl.aq D9 (by decide) he;have bx:=S6 (H1:=a) e;obtain⟨u,e2⟩:∃X,X=(a.alloc (OR [.int .i64 0,.int .u64 0] vx)).set a.au (OR (cO e) vx):=⟨_,rfl⟩
  rw[<-e2]at bx;have z:Fr Em a u:=by rw[e2];exact yU _ _
  have O:u.get a.au=B1 (OR (cO e) vx):=by rw[e2,xc]
  have I:Op.aq 2 [.ptr a.au 0] u=B1 (.agg (cO e)):=rS (xb O) (by simp[cO]);have n2:=z.au;have⟨bb,J,A,hr,Q,m,W,hs⟩:=step i [.int .i64 (i:Int),.agg (cO e)] (by rw[xq,kj s,GA,zt,he];rfl) V u (loc _ _ _ _ hI.hR (λ y d=>z.ah y (hI.hV y d).1 id) n2) (λ y d=>⟨by have:=(hI.hV y d).1;omega,(hI.hV y d).2⟩) ((hI.fr.em z).mono λ _ _ q=>.inl q);have k:Fr j H1 J:=(hI.fr.em z).trans Q λ y q=>(hI.hV y q).2;have l:∀y,A y->y<J.au/\(j y\/H1.au<=y):=λ y q=>⟨(m y q).1,(m y q).2.elim (λ w=>(hI.hV y w).2) λ w=>.inr (by have:=hI.fr.au;omega)⟩
  have wj:aj .i64 ((i:Int)+1)=((i+1:Nat):Int):=by rw[jc (by omega) (by omega)];omega
  simp only[aa,bc,T4,B,ix,ld,bx,I];refine C3.uZ hr ?_;cases bb with
  |true =>
   simp only[aa,bc,T4,wj];exact⟨_,_,⟨i+1,A,rfl,rfl,by omega,⟨W rfl,l,k⟩⟩,by simp only[aa,bc],by omega⟩
  |false =>
   simp only[aa,bc];exact⟨A,k.mono λ _ _ q=>.inl q,l,.inr (hs rfl)⟩
 .have B:¬(i:Int)<((ys.length:Nat):Int):=by omega
  have F:i=ys.length:=by omega
  simp only[aa,bc,T4,B];exact⟨V,hI.fr.mono λ _ _ q=>.inl q,hI.hV,.inl (by rw[<-F];exact hI.hR)⟩
structure Um(ys:List Pr)(t:Nat)(i:Nat)(V:Nat->Prop)(Hx:ar):Prop where
 vt:V t
 lt:t<Hx.au
 ls:∃lv,Hx.get t=B1 (OR [lv] oq)/\BW Hx lv (ys.take i) /\ ∀a,aM lv a->V a/\t<a
def Um.loc{ys:List Pr}{t i:Nat}{V:Nat->Prop}{a Hb:ar}(h:Um ys t i V a)(hs:∀x,V x->Hb.get x=a.get x)(hn:a.au<=Hb.au):Um ys t i V Hb:=by
 have⟨lv,l1,l2,l3⟩:=h.ls;refine⟨h.vt,qn h.lt hn,lv,by rw[hs _ h.vt];exact l1,?_,l3⟩;exact Own.fr l2 (⟨hn,λ b _ hw=>hs b (we.1 hw)⟩:Fr (λ b=>¬V b) a Hb) λ x d w=>w (l3 x d).1
section
variable{H H':ar}{o o':Nat->Nat}{t r mb c:Nat}{ps:List Pr}{pv:AV}
def xk1{α:Type}{enc:α->List AV}{e size:Nat}{H:ar}{v:AV}{xs:List α}(h:aO enc e size H v xs):AV.cells v=[v]:=by
 obtain⟨_,⟨_,rfl|⟨_,rfl,_⟩⟩|⟨_,rfl,_,_⟩⟩:=h<;>rfl
def zK{α:Type}{enc:α->List AV}{e size:Nat}{H:ar}{v:AV}{xs:List α}(h:aO enc e size H v xs)(a:xs≠[]):aM v (aE v):=⟨λ w=>by
 subst w;have:=(aO.sl h).len;have q:Op.cG [AV.nils]=B1 (.int .i64 0):=rfl;rw[q]at this;injection this with this;injection this with _ this
 exact a (jz.1 (by omega)),rfl⟩
def IP(h:vQ H o t r ps pv mb c):zb M Pc [.ptr r 0] H λ v H'=>BW H' v ps/\(∀z,aM v z->H.au<=z)/\Fr Em H H':=by
 refine xiz ?_;have⟨H1,e1,f1,n1,g1⟩:=bZ H (OR [.nils] oq);obtain⟨D,e2,E,-,g2⟩:=bZ H1 (OR [pv] oq);have n2:D.au=H.au+2:=by rw[e2,xy,n1]
 have O:D.get H.au=B1 (OR [.nils] oq):=by rw[E.ah _ (by omega) id];exact g1
 have f2:=f1.em E;have ow2:BW D pv ps:=Own.em h.ow f2;have l0:=(h.row.em f1).ld 0;have al:zb M qs3 [.ptr r 0] H1 λ v H'=>v=.fn (.func vj) [] [.ptr H1.au 0]/\H'=D:=by
  refine q7m ?_;simp only[aa,bc,q7n,aw,l0];refine C3.q (R:=λ v H'=>v=.fn (.func vj) [] [.ptr H1.au 0]/\H'=D) ?_ λ v H' q=>?_
  .refine qrp ?_;have mk:Op.bK vj 0 [.ptr H1.au 0]=B1 (.fn (.func vj) [] [.ptr H1.au 0]):=rfl;simp only[aa,bc,qrq,xk1 h.ow,<-e2];rfl
  .simp only[aa,bc];exact q
 simp only[aa,bc,Uw,<-e1];refine C3.q al λ v H'⟨hv,hh⟩=>?_;subst hv;subst hh;simp only[aa,bc];have hl:=h.le;have lv:∀z,aM pv z->z<H.au:=λ z q=>Own.lt h.ow z q;refine iP.iter (fn:=S8) (lp:=PM) (pa:=YJ 0) (pb:=Zv 0) xff qzo.1 qzo.2 (by decide) xcp xcq
  (xkh ow2 g2 (by omega) (by omega)) (λ i V Hx=>Um ps H.au i V Hx) (λ _ _ _=>False) (λ x=>x=H.au) (qm _) ?_ ?_ ?_ ?_ ?_ ?_ ?_ ?_
 .rintro x ((q|q)|q)
  .exact ⟨by omega,rfl,λ w=>by omega⟩
  .have:=lv x q;exact⟨by omega,rfl,λ w=>by omega⟩
  .exact q.elim
 .exact λ x U=>by omega
 .exact ⟨rfl,by omega,.nils,O,Own.nil ..,λ x q=>(q.1 rfl).elim⟩
 .exact λ i V Ha Hb h hs hn=>h.loc hs hn
 .exact λ e V Ha Hb h _ _=>h
 .intro L i lr lb x U hL V l b hV hf6 B P S;rw[xq,xr]at U;obtain⟨j,T,rfl⟩:=U;have G:i<ps.length:=by have:=(qt.1 T).1;rw[jj]at this;exact this
  rw[kj G]at T;cases T;obtain⟨e,hk⟩:∃e,ps[i]? = B1 e:=⟨ps[i],by simp[G]⟩
  have he:ps.getD i ⟨0,0⟩=e:=by rw[zt,hk];rfl
  rw[he];refine⟨_,rfl,?_⟩;obtain⟨-,wa,wb,-⟩:=Uw M ⟨B1 L,Pc⟩;have bx:=S6 (H1:=l) e;obtain⟨m,K⟩:∃X,X=(l.alloc (OR [.int .i64 0,.int .u64 0] vx)).set l.au (OR (cO e) vx):=⟨_,rfl⟩
  rw[<-K]at bx;have N:Fr Em l m:=by rw[K];exact yU _ _
  have n7:m.au=l.au+1:=by rw[K];rfl
  have g7:m.get l.au=B1 (OR (cO e) vx):=by rw[K,xc]
  simp only[aa,bc,wa,bx,Ct];refine⟨by rw[N.ah L P id];exact S,?_⟩;have gL:(m.set L lb).get L=B1 lb:=xc ..;have g8:(m.set L lb).get l.au=B1 (OR (cO e) vx):=by rw[yd (by omega)];exact g7
  have f8:Fr (λ y=>V y\/y=L) l (m.set L lb):=(N.mono λ _ _ q=>q.elim).set (.inl (.inr rfl)) _;have u:=b.loc (Hb:=m.set L lb) (λ y hy=>by rw[yd (λ q:L=y=>B (by rw[q];exact hy)),N.ah y (hV y hy).1 id]) (by rw[t9];omega);have n8:(m.set L lb).au=l.au+1:=by rw[t9,n7]
  generalize m.set L lb=H8 at *;have⟨f,l1,l2,l3⟩:=u.ls;have Y:Op.ae [.ptr H.au 0] H8=B1 f:=x9 (xb l1) 0;have ld:Op.aq 2 [.ptr l.au 0] H8=B1 (.agg (cO e)):=rS (xb g8) (by simp[cO]);have mX:(ps.take i).length<=128:=by rw[js];omega
  simp only[aa,bc,wb,Y,ld];refine aO.oi (bytes:=16) l2 (a:=e) rfl rfl rfl rfl (by decide) (by omega) (by omega) λ k J A p F=>?_;have q9:At J H.au oq [f]:=⟨by rw[p.ah _ u.lt λ q=>by have:=(l3 _ q).2;omega];exact l1,qn u.lt p.au⟩
  have o1:aD k=true:=by have:=Sl.one (Own.sl A);exact this
  have st:=q9.st 0 o1 (by simp);obtain⟨C,n⟩:∃X,X=J.set H.au (OR ([f].set 0 k) oq):=⟨_,rfl⟩
  rw[<-n]at st;have s:Fr (On H.au) J C:=by rw[n];exact cI ..
  simp only[aa,bc,st];have I:∀y,aM k y->H.au<y:=λ y q=>(F y q).elim (λ q=>(l3 y q).2) λ q=>by have:=b.lt;omega
  have nf:=p.au;have Z:C.au=J.au:=by rw[n];rfl
  have tk:ps.take (i+1)=ps.take i ++ [e]:=by rw[j7,hk];rfl
  refine⟨rfl,?_,λ y=>V y\/aM k y,?_,?_,.inl ⟨rfl,.inl b.vt,by have:=b.lt;omega,k,by rw[n,xc];rfl,?_,λ y q=>⟨.inr q,I y q⟩⟩⟩
  .rw [s.ah L (by omega) (λ(q:L=H.au)=>B (by rw[q];exact b.vt)),p.ah L (by omega) λ q=>B (l3 _ q).1];exact gL
  .rintro y (q|q)
   .exact ⟨by have:=(hV y q).1;omega,.inl q⟩
   .refine ⟨by rw[Z];exact Own.lt A y q,?_⟩;rcases F y q with w|w
    .exact .inl (l3 y w).1
    .exact .inr (by omega)
  .exact ((f8.trans p λ y q=>.inl (.inl (l3 y q).1)).trans s λ y(q:y=H.au)=>.inl (.inl (by rw[q];exact b.vt)))
  .rw [tk];exact Own.fr A s λ y q(w:y=H.au)=>by have:=I y q;omega
 .rintro d V H' hd Q hg p hV b;rw[xu,jj]at b;have⟨f,l1,l2,l3⟩:=b.ls;rw[LU]at l2;have hd':d≠H.au:=by omega
  have fd:Fr (On d) H' (H'.set d (.deferred B5)):=(Fr.refl H').set (W:=On d) (.inl rfl) _;have Y:Op.ae [.ptr H.au 0] H'=B1 f:=x9 (xb l1) 0;simp only[aa,bc,Uw,Y];refine⟨hg,Own.fr l2 fd λ z q(w:z=d)=>(hV z (l3 z q).1).2.2 w,λ z q=>?_,?_⟩
  .have:=(l3 z q).2;omega
  .exact (f2.trans (p.mono λ z _ q=>q.elim id ND) λ z q=>.inr (by omega)).trans fd λ z(q:z=d)=>.inr (by omega)
 .rintro e d V H' he hd Q hg p hV b;exact b.elim
end
section
variable{H H':ar}{o o':Nat->Nat}{g:Nat}{rd wr:List Pr}
def Me(h:pF H o g rd wr):zb M M' [.ptr g 0] H λ v H'=>BW H' v rd/\(∀z,aM v z->H.au<=z)/\Fr Em H H':=by
 refine q5a ?_;have a:=h;have⟨r,w,v1,k,e,v2,l,f,b,i,d,j⟩:=h;have l0:=b.ld 0;simp only[aa,bc,q5b,aw,nQ a,l0];refine C3.q (IP d) λ v H1 hp=>?_;simp only[aa,bc];exact hp
def yY(h:pF H o g rd wr):zb M κ [.ptr g 0] H λ v H'=>BW H' v wr/\(∀z,aM v z->H.au<=z)/\Fr Em H H':=by
 refine q0g ?_;have a:=h;have⟨r,w,v1,k,e,v2,l,f,b,i,j,d⟩:=h;have l1:=b.ld 1;simp only[aa,bc,q0h,aw,nQ a,l1];refine C3.q (IP d) λ v H1 hp=>?_;simp only[aa,bc];exact hp
end
end Go.Am
namespace Go.Am
open Lang Go.Proofs
variable{M:ak}[MK M]
def Bx(H:ar)(o:Nat->Nat)(b:Nat)(v:AV):Prop:=H.bX b=B1 [v]/\b<H.au/\o b=30
def By(H:ar)(o:Nat->Nat)(b:Nat)(v:AV):Prop:=(∃t,H.get b=B1 (OR [v] t))/\b<H.au/\o b=31
def lM(f:Nat)(l:List Nat):AV:=.fn (.func f) [] (l.map λ b=>.ptr b 0)
def sK(H:ar)(o:Nat->Nat)(p:Nat)(kv:AV):K0->Prop
 | .wait=>kv=.fn (.func Vc) [.ptr p 0] []
 | .left how=>∃b1 b2,kv=lM Wx [b1,b2]/\Bx H o b1 (.int .i64 how)/\Bx H o b2 (.ptr p 0)
 | .kY a=>0<=a /\ ∃b1 b2,kv=lM YF [b1,b2]/\Bx H o b1 (.ptr p 0)/\Bx H o b2 (.int .i64 a)
 | .take=>kv=.fn (.func U7) [.ptr p 0] []
 | .back l=>(∀x∈l,fL x.v) /\ ∃b1 b2 lv y,kv=lM X8 [b1,b2]/\Bx H o b1 (.ptr p 0)/\Bx H o b2 lv/\bI cO 2 H lv (y::l)/\aE lv<H.au/\o (aE lv)=30
 | .fin=>∃b1,kv=lM Vd [b1]/\Bx H o b1 (.ptr p 0)
def IM(H:ar)(o:Nat->Nat)(p:Nat)(gv:AV):Option K0->Prop
 |none=>gv=.fn (.func Yg) [.ptr p 0] []
 |some k=>∃b1 b2 kv,gv=lM sg [b1,b2]/\Bx H o b1 (.ptr p 0)/\Bx H o b2 kv/\sK H o p kv k
structure KX(H:ar)(o:Nat->Nat)(p:Nat)(k:K0)(g:Int)(rd:List Pr)(bi bg bp bk br bs bl ba:Nat):Prop where
 hg:Bx H o bg (.int .u64 g)
 hp:Bx H o bp (.ptr p 0)
 hk:∃kv,Bx H o bk kv/\sK H o p kv k/\aD kv=B4
 hr:∃rv,Bx H o br rv/\bI cO 2 H rv rd/\(rd≠[]->aE rv<H.au/\o (aE rv)=30)/\aD rv=B4
 hs:By H o bs (lM TD [bi,br,bp,bl,ba])
 hl:Bx H o bl (lM SY [br,bi,bp,bs])
 ha:Bx H o ba (lM SE [bg,bp,bk])
 hn:rd.length<=128
def F0(H:ar)(o:Nat->Nat)(p:Nat)(tv:AV):Nx->Prop
 | .wF n k=>∃b1 b2 b3 kv,tv=lM K_ [b1,b2,b3]/\Bx H o b1 (.ptr p 0)/\Bx H o b2 (.int .u64 n)/\Bx H o b3 kv/\sK H o p kv k
 | .uG n k=>∃b1 b2 b3 kv,tv=lM qi3 [b1,b2,b3]/\Bx H o b1 (.ptr p 0)/\Bx H o b2 (.int .u64 n)/\Bx H o b3 kv/\sK H o p kv k
 | .xF=>∃b1 b2 gv,tv=lM TE [b1,b2]/\Bx H o b1 (.ptr p 0)/\Bx H o b2 gv/\IM H o p gv B5
 | .wX k=>∃b1 b2 gv,tv=lM TE [b1,b2]/\Bx H o b1 (.ptr p 0)/\Bx H o b2 gv/\IM H o p gv (B1 k)
 | .look k g rd i=>∃bi bg bp bk br bs bl ba,tv=lM SY [br,bi,bp,bs]/\By H o bi (.int .i64 (i:Int))/\i<rd.length/\KX H o p k g rd bi bg bp bk br bs bl ba
 | .again k g=>∃bg bp bk kv,tv=lM SE [bg,bp,bk]/\Bx H o bg (.int .u64 g)/\Bx H o bp (.ptr p 0)/\Bx H o bk kv/\sK H o p kv k
 | .xH a=>0<=a /\ ∃b1 b2,tv=lM qk5 [b1,b2]/\Bx H o b1 (.ptr p 0)/\Bx H o b2 (.int .i64 a)
 | .nU a v=>(0<=a/\fL v) /\ ∃b1 b2 b3,tv=lM qi4 [b1,b2,b3]/\Bx H o b1 (.ptr p 0)/\Bx H o b2 (.int .i64 a)/\Bx H o b3 (.int .u64 v)
 | .ur=>∃b1,tv=lM lx [b1]/\Bx H o b1 (.ptr p 0)
 | .FD k=>sK H o p tv k
def FM:Nx->Nat
 | .uG _ _=>Py
 | .ur=>Py
 | .FD _=>qk6
 |_=>Pq
def Ob(H:ar)(o:Nat->Nat)(p:Nat)(fv:AV):Option Nx->Prop
 |none=>fv=.nilf
 |some n=>∃b tv,fv=lM (FM n) [b]/\Bx H o b tv/\F0 H o p tv n
def iU(r:Rq):List AV:=[.int .i64 r.op,.int .i64 r.a,.int .u64 r.v,.int .u64 r.o]
def dO(x:So)(g:Nat)(fv:AV):List AV:=.ptr g 0::(iU x.want ++ [fv,.bool x.busy,.bool x.live,.bool x.aH,.int .u64 x.snap,.int .u64 x.value,.int .i64 x.ended,.int .i64 x.points])
structure dY(H:ar)(o:Nat->Nat)(p:Nat)(x:So)(g:Nat)(fv:AV):Prop where
 row:At H p BS (dO x g fv)
 lg:pF H o g x.rd x.wr
 nx:Ob H o p fv x.au
 op:o p=8
 one:aD fv=B4
 vu:fL x.value
 wu:∀y∈x.wr,fL y.v
 qu:fL x.want.v
def eK(H:ar)(o:Nat->Nat)(p:Nat)(x:So)(H':ar):Prop:=∃o' g fv,dY H' o' p x g fv/\(∀z,z<H.au->o' z=o z)/\Fr (λ z=>8<=o z) H H'
section
variable{H H':ar}{o o':Nat->Nat}{p g:Nat}{x y:So}{fv kv gv tv:AV}{k:K0}{n:Nx}
structure FI(H:ar)(o:Nat->Nat)(H':ar)(o':Nat->Nat):Prop where
 ah:∀z,z<H.au->o z=30->H'.get z=H.get z
 own:∀z,z<H.au->o' z=o z
 au:H.au<=H'.au
structure pw(H:ar)(o:Nat->Nat)(H':ar)(o':Nat->Nat):Prop where
 m:FI H o H' o'
 ah:∀z,z<H.au->o z=31->H'.get z=H.get z
def FI.of{W:Nat->Prop}(a:Fr W H H')(hw:∀z,z<H.au->o z=30 -> ¬W z)(ho:∀z,z<H.au->o' z=o z):FI H o H' o':=⟨λ z h q=>a.ah z h (hw z h q),ho,a.au⟩
def pw.of{W:Nat->Prop}(a:Fr W H H')(hw:∀z,z<H.au->30<=o z -> ¬W z)(ho:∀z,z<H.au->o' z=o z):pw H o H' o':=⟨FI.of a (λ z h q=>hw z h (by omega)) ho,λ z h q=>a.ah z h (hw z h (by omega))⟩
def pw.own(a:pw H o H' o'):∀z,z<H.au->o' z=o z:=a.m.own
def Bx.km{b:Nat}{v:AV}(h:Bx H o b v)(a:FI H o H' o'):Bx H' o' b v:=⟨(tN (a.ah b h.2.1 h.2.2)).trans h.1,qn h.2.1 a.au,(a.own b h.2.1).trans h.2.2⟩
def Bx.ky{b:Nat}{v:AV}(h:Bx H o b v)(a:pw H o H' o'):Bx H' o' b v:=h.km a.m
def By.ky{b:Nat}{v:AV}(h:By H o b v)(a:pw H o H' o'):By H' o' b v:=⟨by rw[a.ah b h.2.1 h.2.2];exact h.1,qn h.2.1 a.m.au,(a.own b h.2.1).trans h.2.2⟩
def By.ld{b:Nat}{v:AV}(h:By H o b v):Op.ae [.ptr b 0] H=B1 v:=by have⟨t,q⟩:=h.1;exact x9 (xb q) 0
def Bx.ld{b:Nat}{v:AV}(h:Bx H o b v):Op.ae [.ptr b 0] H=B1 v:=x9 h.1 0
def FI.sl{lv:AV}{b:List Pr}(a:FI H o H' o')(h:bI cO 2 H lv b)(c:b≠[]->aE lv<H.au/\o (aE lv)=30):bI cO 2 H' lv b:=by
 cases b with
 |nil=>exact Sl.fr (W:=λ _=>True) h ⟨a.au,λ _ _ q=>(q trivial).elim⟩ (.inl rfl)
 |cons y l =>
  have⟨d,e⟩:=c (by simp);exact Sl.fr (W:=λ z=>z≠aE lv) h ⟨a.au,λ z _ q=>by rw[we.1 q];exact a.ah _ d e⟩ (.inr λ q=>q rfl)
def sK.km(h:sK H o p kv k)(a:FI H o H' o'):sK H' o' p kv k:=by
 cases k with
 |wait=>exact h
 |left how=>have⟨b,e,c,d,f⟩:=h;exact⟨b,e,c,d.km a,f.km a⟩
 |kY z=>have⟨i,b,e,c,d,f⟩:=h;exact⟨i,b,e,c,d.km a,f.km a⟩
 |take=>exact h
 |back l=>have⟨i,b,e,lv,y,c,d,f,q,j,m⟩:=h;exact⟨i,b,e,lv,y,c,d.km a,f.km a,a.sl q λ _=>⟨j,m⟩,qn j a.au,(a.own _ j).trans m⟩
 |fin=>have⟨b,c,d⟩:=h;exact⟨b,c,d.km a⟩
def sK.ky(h:sK H o p kv k)(a:pw H o H' o'):sK H' o' p kv k:=h.km a.m
def sK.one(h:sK H o p kv k):aD kv=true:=by
 cases k with
 |wait=>rw[show kv=_ from h];rfl
 |left how=>have⟨b,d,a,c,f⟩:=h;rw[a];rfl
 |kY z=>have⟨e,b,d,a,c,f⟩:=h;rw[a];rfl
 |take=>rw[show kv=_ from h];rfl
 |back l=>have⟨e,b,d,lv,y,a,c⟩:=h;rw[a];rfl
 |fin=>have⟨b,a,c⟩:=h;rw[a];rfl
def IM.ky{ko:Option K0}(h:IM H o p gv ko)(a:pw H o H' o'):IM H' o' p gv ko:=by
 cases ko with
 |none=>exact h
 |some k=>have⟨b,c,kv,d,e,f,i⟩:=h;exact⟨b,c,kv,d,e.ky a,f.ky a,i.ky a⟩
def KX.ky{g:Int}{rd:List Pr}{bi d f bk i bs e c:Nat}(h:KX H o p k g rd bi d f bk i bs e c)(a:pw H o H' o'):KX H' o' p k g rd bi d f bk i bs e c:=by
 have⟨kv,j,l,r⟩:=h.hk;have⟨rv,s,t,b,u⟩:=h.hr;exact⟨h.hg.ky a,h.hp.ky a,⟨kv,j.ky a,l.ky a,r⟩,⟨rv,s.ky a,a.m.sl t b,λ q=>⟨qn (b q).1 a.m.au,(a.own _ (b q).1).trans (b q).2⟩,u⟩,h.hs.ky a,h.hl.ky a,h.ha.ky a,h.hn⟩
def F0.ky(h:F0 H o p tv n)(a:pw H o H' o'):F0 H' o' p tv n:=by
 cases n with
 |wF m k=>have⟨d,f,l,kv,b,c,e,j,q⟩:=h;exact⟨d,f,l,kv,b,c.ky a,e.ky a,j.ky a,q.ky a⟩
 |uG m k=>have⟨d,f,l,kv,b,c,e,j,q⟩:=h;exact⟨d,f,l,kv,b,c.ky a,e.ky a,j.ky a,q.ky a⟩
 |xF=>have⟨d,f,gv,b,c,e,j⟩:=h;exact⟨d,f,gv,b,c.ky a,e.ky a,j.ky a⟩
 |wX k=>have⟨d,f,gv,b,c,e,j⟩:=h;exact⟨d,f,gv,b,c.ky a,e.ky a,j.ky a⟩
 |look k g rd i=>have⟨bi,t,w,bk,A,bs,u,s,b,c,e,j⟩:=h;exact⟨bi,t,w,bk,A,bs,u,s,b,c.ky a,e,j.ky a⟩
 |again k g=>have⟨d,f,l,kv,b,c,e,j,q⟩:=h;exact⟨d,f,l,kv,b,c.ky a,e.ky a,j.ky a,q.ky a⟩
 |xH z=>have⟨r,d,f,b,c,e⟩:=h;exact⟨r,d,f,b,c.ky a,e.ky a⟩
 |nU z v=>have⟨r,d,f,l,b,c,e,j⟩:=h;exact⟨r,d,f,l,b,c.ky a,e.ky a,j.ky a⟩
 |ur=>have⟨d,b,c⟩:=h;exact⟨d,b,c.ky a⟩
 |FD k=>exact sK.ky h a
def Ob.ky{no:Option Nx}(h:Ob H o p fv no)(a:pw H o H' o'):Ob H' o' p fv no:=by
 cases no with
 |none=>exact h
 |some n=>have⟨b,tv,c,d,e⟩:=h;exact⟨b,tv,c,d.ky a,e.ky a⟩
def dY.fr{W:Nat->Prop}(h:dY H o p x g fv)(a:Fr W H H')(hw:∀z,z<H.au->8<=o z -> ¬W z)(ho:∀z,z<H.au->o' z=o z):dY H' o' p x g fv :=
 ⟨h.row.fr a (hw p h.row.2 (by rw[h.op];decide)),h.lg.fr a (λ z q w=>hw z q (by omega)) ho,h.nx.ky (pw.of a (λ z q w=>hw z q (by omega)) ho),(ho p h.row.2).trans h.op,h.one,h.vu,h.wu,h.qu⟩
def dY.same(h:dY H o p x g fv):eK H o p x H:=⟨o,g,fv,h,λ _ _=>rfl,Fr.refl _⟩
def dY.box(h:dY H o p x g fv)(v:AV)(t:Nat):dY (H.alloc (OR [v] t)) (aQ o H.au 30) p x g fv/\Bx (H.alloc (OR [v] t)) (aQ o H.au 30) H.au v/\pw H o (H.alloc (OR [v] t)) (aQ o H.au 30):=by
 have f:Fr Em H (H.alloc (OR [v] t)):=(Fr.refl H).alloc _;have ho:∀z,z<H.au->aQ o H.au 30 z=o z:=λ z q=>ww q;exact⟨h.fr f (λ _ _ _ q=>q) ho,⟨xb (xp ..),by rw[xy];omega,ny (qm _)⟩,pw.of f (λ _ _ _ q=>q) ho⟩
theorem eK.pre{H1:ar}{o1:Nat->Nat}(a:Fr Em H H1)(ho:∀z,z<H.au->o1 z=o z)(h:eK H1 o1 p y H'):eK H o p y H':=by
 have⟨o2,c,b,d,e,f⟩:=h;refine⟨o2,c,b,d,λ z q=>(e z (qn q a.au)).trans (ho z q),(a.mono λ _ _ q=>q.elim).trans f λ z q=>?_⟩;rcases xz z H.au with w|w
 .exact .inl (by rw[<-ho z w];exact q)
 .exact .inr w
def eK.then{H1:ar}(a:eK H o p x H1)(b:∀o1 e c,dY H1 o1 p x e c->eK H1 o1 p y H'):eK H o p y H':=by
 have⟨o1,e,c,j,f,h⟩:=a;have⟨o2,i,d,l,m,r⟩:=b o1 e c j;refine⟨o2,i,d,l,λ z q=>(m z (qn q h.au)).trans (f z q),h.trans r λ z q=>?_⟩;rcases xz z H.au with w|w
 .exact .inl (by rw[<-f z w];exact q)
 .exact .inr w
def dY.bm(h:dY H o p x g fv):Op.ae [.ptr p 0] H=B1 (.ptr g 0)/\Op.ae [.ptr p 5] H=B1 fv/\Op.ae [.ptr p 6] H=B1 (.bool x.busy)/\Op.ae [.ptr p 7] H=B1 (.bool x.live)/\Op.ae [.ptr p 8] H=B1 (.bool x.aH)/\Op.ae [.ptr p 9] H=B1 (.int .u64 x.snap)/\Op.ae [.ptr p 10] H=B1 (.int .u64 x.value)/\Op.ae [.ptr p 11] H=B1 (.int .i64 x.ended)/\Op.ae [.ptr p 12] H=B1 (.int .i64 x.points) :=
 ⟨h.row.ld 0,h.row.ld 5,h.row.ld 6,h.row.ld 7,h.row.ld 8,h.row.ld 9,h.row.ld 10,h.row.ld 11,h.row.ld 12⟩
theorem dY.put(h:dY H o p x g fv)(i:Nat){v:AV}(c:aD v=B4)(d:i<13)(he:(dO x g fv).set i v=dO y g fv)(hs:y.rd=x.rd/\y.wr=x.wr/\y.au=x.au/\y.want=x.want)(hu:fL y.value) :
 ∃H',Op.store 1 [.ptr p i,v] H=B1 (.undef,H')/\dY H' o p y g fv/\Fr (On p) H H':=by
 refine⟨_,h.row.st i c d,?_,cI ..⟩;rw[he];have f:Fr (On p) H (H.set p (OR (dO y g fv) BS)):=cI ..;have np:∀z,9<=o z -> ¬On p z:=λ z q(w:z=p)=>by rw[w,h.op]at q;omega
 have⟨e1,e2,a,b⟩:=hs;exact⟨h.row.set _,by rw[e1,e2];exact h.lg.fr f (λ z _ q=>np z q) λ _ _=>rfl,by rw[a];exact h.nx.ky (pw.of f (λ z _ q=>np z (by omega)) λ _ _=>rfl),h.op,h.one,hu,by rw[e2];exact h.wu,by rw[b];exact h.qu⟩
def dY.Br(h:dY H o p x g fv){H1:ar}(f:Fr (On p) H H1)(a:dY H1 o p y g fv):eK H o p y H1:=⟨o,g,fv,a,λ _ _=>rfl,f.mono λ z _(q:z=p)=>by rw[q,h.op];decide⟩
def LV(h:dY H o p x g fv){r:Rq}(hr:fL r.v){nv:AV}(hn:Ob H o p nv (B1 n)):zb M na [.ptr p 0,.agg (iU r),nv] H λ _ H'=>eK H o p (x.ask r n) H':=by
 refine q6f ?_;obtain⟨H1,e1,d,-,-⟩:=bZ H (OR (iU r) BG);have j:At H1 H.au BG (iU r):=e1▸At.new H _ _;have e:=h.fr d (λ _ _ _ q=>q) λ _ _=>rfl;have l4:=j.eJ (k:=0) (n:=4) (by simp[iU]);have one:aD nv=true:=by obtain⟨b,tv,q,-⟩:=hn;rw[q];rfl
 have s1:=e.row.fK (k:=1) (n:=4) (v:=.agg (iU r)) rfl (by simp[dO,iU]) rfl;have e2:(dO x g fv).take 1++AV.cells (.agg (iU r))++(dO x g fv).drop (1+4)=dO {x with want:=r} g fv:=rfl;rw[e2]at s1;obtain⟨H2,a⟩:∃X,X=H1.set p (OR (dO {x with want:=r} g fv) BS):=⟨_,rfl⟩
 rw[<-a]at s1;have i:At H2 p BS (dO {x with want:=r} g fv):=a▸e.row.set _;have s2:=i.st 5 one (by simp[dO,iU]);have m:(dO {x with want:=r} g fv).set 5 nv=dO (x.ask r n) g nv:=rfl;rw[m]at s2;have l:AV.cells (.agg (iU r))=iU r:=zo _;have c:Op.aq 4 [.ptr H.au 0] H1=B1 (.agg (iU r)):=l4;simp only[aa,bc,q6g,aw,l,<-e1,c,s1,s2];have s:Fr (On p) H1 H2:=a▸cI ..;have t:Fr (On p) H2 (H2.set p (OR (dO (x.ask r n) g nv) BS)):=cI ..;have f:Fr (On p) H (H2.set p (OR (dO (x.ask r n) g nv) BS)):=((d.mono λ _ _ q=>q.elim).trans s λ z q=>.inl q).trans t λ z q=>.inl q;have np:∀z,9<=o z -> ¬On p z:=λ z q(w:z=p)=>by rw[w,h.op]at q;omega
 exact⟨o,g,nv,⟨i.set _,h.lg.fr f (λ z _ q=>np z q) λ _ _=>rfl,Ob.ky hn (pw.of f (λ z _ q=>np z (by omega)) λ _ _=>rfl),h.op,one,h.vu,h.wu,hr⟩,λ _ _=>rfl,f.mono λ z _(q:z=p)=>by rw[q,h.op];decide⟩
end
end Go.Am
namespace Go.Am
open Lang Go.Proofs
variable{M:ak}[MK M]
structure Mk(H:ar)(o:Nat->Nat)(H':ar)(o':Nat->Nat):Prop where
 f:Fr Em H H'
 ho:∀z,z<H.au->o' z=o z
section
variable{H H1 H2 H':ar}{o o1 o2 o':Nat->Nat}{p g:Nat}{x y:So}{fv kv gv tv:AV}{k:K0}{n:Nx}
def Mk.bk(m:Mk H o H1 o1):pw H o H1 o1:=pw.of m.f (λ _ _ _ q=>q) m.ho
theorem Mk.trans(m:Mk H o H1 o1)(w:Mk H1 o1 H2 o2):Mk H o H2 o2:=⟨m.f.em w.f,λ z q=>(w.ho z (qn q m.f.au)).trans (m.ho z q)⟩
theorem Mk.pre(m:Mk H o H1 o1)(h:eK H1 o1 p y H'):eK H o p y H':=eK.pre m.f m.ho h
def dY.bx(h:dY H o p x g fv)(v:AV)(t:Nat):∃H1 o1,H.alloc (OR [v] t)=H1/\dY H1 o1 p x g fv/\Bx H1 o1 H.au v/\Mk H o H1 o1:=by
 have⟨a,b,c⟩:=h.box v t;exact⟨_,_,rfl,a,b,(Fr.refl H).alloc _,c.own⟩
def dY.bz(h:dY H o p x g fv)(z:AV){v:AV}(a:aD v=B4)(t:Nat):∃H1 o1,Op.store 1 [.ptr H.au 0,v] (H.alloc (OR [z] t))=B1 (.undef,H1)/\dY H1 o1 p x g fv/\Bx H1 o1 H.au v/\Mk H o H1 o1:=by
 have s:=(At.new H [z] t).st 0 a (by simp);have f:Fr Em H ((H.alloc (OR [z] t)).set H.au (OR [v] t)):=((Fr.refl H).alloc _).set (.inr (qm _)) _;have ho:∀z,z<H.au->aQ o H.au 30 z=o z:=λ z q=>ww q;exact⟨_,aQ o H.au 30,s,h.fr f (λ _ _ _ q=>q) ho,⟨xb (xc ..),by rw[t9,xy];omega,ny (qm _)⟩,f,ho⟩
def dY.by0(h:dY H o p x g fv)(v:AV)(t:Nat):∃H1 o1,H.alloc (OR [v] t)=H1/\dY H1 o1 p x g fv/\By H1 o1 H.au v/\Mk H o H1 o1:=by
 have f:Fr Em H (H.alloc (OR [v] t)):=(Fr.refl H).alloc _;have ho:∀z,z<H.au->aQ o H.au 31 z=o z:=λ z q=>ww q;exact⟨_,aQ o H.au 31,rfl,h.fr f (λ _ _ _ q=>q) ho,⟨⟨t,xp ..⟩,by rw[xy];omega,ny (qm _)⟩,f,ho⟩
def dY.byz(h:dY H o p x g fv)(z:AV){v:AV}(a:aD v=B4)(t:Nat):∃H1 o1,Op.store 1 [.ptr H.au 0,v] (H.alloc (OR [z] t))=B1 (.undef,H1)/\dY H1 o1 p x g fv/\By H1 o1 H.au v/\Mk H o H1 o1:=by
 have s:=(At.new H [z] t).st 0 a (by simp);have f:Fr Em H ((H.alloc (OR [z] t)).set H.au (OR [v] t)):=((Fr.refl H).alloc _).set (.inr (qm _)) _;have ho:∀z,z<H.au->aQ o H.au 31 z=o z:=λ z q=>ww q;exact⟨_,aQ o H.au 31,s,h.fr f (λ _ _ _ q=>q) ho,⟨⟨t,xc ..⟩,by rw[t9,xy];omega,ny (qm _)⟩,f,ho⟩
def dY.ε{b:Nat}{w v:AV}(h:dY H o p x g fv)(hn:x.au=B5)(hb:By H o b w)(i:aD v=B4):∃H1,Op.store 1 [.ptr b 0,v] H=B1 (.undef,H1)/\dY H1 o p x g fv/\By H1 o b v/\FI H o H1 o/\Fr (On b) H H1:=by
 have⟨⟨t,j⟩,c,d⟩:=hb;have a:At H b t [w]:=⟨j,c⟩
 have f:Fr (On b) H (H.set b (OR [v] t)):=cI ..;have nb:∀z,o z≠31 -> ¬On b z:=λ z e(w:z=b)=>e (by rw[w];exact d);have nx:=h.nx;rw[hn]at nx;refine⟨_,a.st 0 i (by simp),⟨h.row.fr f (nb p (by rw[h.op];decide)),h.lg.FP f (λ z _ e=>nb z (by omega)),by rw[hn];exact nx,h.op,h.one,h.vu,h.wu,h.qu⟩,⟨⟨t,xc ..⟩,c,d⟩,FI.of f (λ z _ e=>nb z (by omega)) λ _ _=>rfl,f⟩
def F0.one(h:F0 H o p tv n):aD tv=true:=by
 cases n with
 |wF m k=>have⟨c,d,e,kv,a,b⟩:=h;rw[a];rfl
 |uG m k=>have⟨c,d,e,kv,a,b⟩:=h;rw[a];rfl
 |xF=>have⟨c,d,gv,a,b⟩:=h;rw[a];rfl
 |wX k=>have⟨c,d,gv,a,b⟩:=h;rw[a];rfl
 |look k g rd i=>have⟨bi,l,r,bk,s,bs,q,j,a,b⟩:=h;rw[a];rfl
 |again k g=>have⟨c,d,e,kv,a,b⟩:=h;rw[a];rfl
 |xH z=>have⟨f,c,d,a,b⟩:=h;rw[a];rfl
 |nU z v=>have⟨f,c,d,e,a,b⟩:=h;rw[a];rfl
 |ur=>have⟨c,a,b⟩:=h;rw[a];rfl
 |FD k=>exact sK.one h
def IM.one{ko:Option K0}(h:IM H o p gv ko):aD gv=true:=by
 cases ko with
 |none=>rw[show gv=_ from h];rfl
 |some k=>have⟨b,c,kv,a,d⟩:=h;rw[a];rfl
def sZ(h:dY H o p x g fv)(a:Int)(b:F0 H o p tv n)(hk:FM n=Pq):zb M Z_ [.ptr p 0,.int .i64 a,tv] H λ _ H'=>eK H o p (x.ask ⟨1,a,0,0⟩ n) H':=by
 refine q1n ?_;have⟨H1,o1,e1,f,d,c⟩:=h.bx tv Ub;have e:Op.build [.int .i64 0,.int .i64 0,.int .u64 0,.int .u64 0] [(0,1),(1,1)] [.int .i64 1,.int .i64 a]=B1 (.agg (iU ⟨1,a,0,0⟩)):=rfl;simp only[aa,bc,q1o,FL b.one,e1,e];refine C3.q (LV f bJ (n:=n) ⟨_,tv,by rw[hk];rfl,d,b.ky c.bk⟩) λ _ H2 hp=>?_;simp only[aa,bc];exact c.pre hp
def Rd(h:dY H o p x g fv)(a w:Int){v:Int}(i:fL v)(b:F0 H o p tv n)(hk:FM n=Py):zb M c_ [.ptr p 0,.int .i64 a,.int .u64 w,.int .u64 v,tv] H λ _ H'=>eK H o p (x.ask ⟨3,a,v,w⟩ n) H':=by
 refine q6h ?_;have⟨H1,o1,e1,f,d,c⟩:=h.bx tv Kf;have e:Op.build [.int .i64 0,.int .i64 0,.int .u64 0,.int .u64 0] [(0,1),(1,1),(2,1),(3,1)] [.int .i64 3,.int .i64 a,.int .u64 v,.int .u64 w]=B1 (.agg (iU ⟨3,a,v,w⟩)):=rfl;simp only[aa,bc,q6i,FL b.one,e1,e];refine C3.q (LV f (r:=⟨3,a,v,w⟩) i (n:=n) ⟨_,tv,by rw[hk];rfl,d,b.ky c.bk⟩) λ _ H2 hp=>?_;simp only[aa,bc];exact c.pre hp
def Cu(h:dY H o p x g fv)(a:Int){v:Int}(i:fL v)(b:sK H o p tv k):zb M p_ [.ptr p 0,.int .i64 a,.int .u64 v,tv] H λ _ H'=>eK H o p (x.ask ⟨2,a,v,0⟩ (.FD k)) H':=by
 refine qy4 ?_;have⟨H1,o1,e1,f,d,c⟩:=h.bx tv Iw;have e:Op.build [.int .i64 0,.int .i64 0,.int .u64 0,.int .u64 0] [(0,1),(1,1),(2,1)] [.int .i64 2,.int .i64 a,.int .u64 v]=B1 (.agg (iU ⟨2,a,v,0⟩)):=rfl;simp only[aa,bc,qy5,FL b.one,e1,e];refine C3.q (LV f (r:=⟨2,a,v,0⟩) i (n:=.FD k) ⟨_,tv,rfl,d,b.ky c.bk⟩) λ _ H2 hp=>?_;simp only[aa,bc];exact c.pre hp
def wT(h:dY H o p x g fv)(z:Int)(hk:sK H o p kv k):zb M qm9 [.ptr p 0,.int .u64 z,kv] H λ _ H'=>eK H o p (x.count z k) H':=by
 refine qyu ?_;have⟨H1,o1,e1,l,e,c⟩:=h.bx (.ptr p 0) Ld;have⟨H2,o2,e2,m,f,s⟩:=l.bx (.int .u64 z) YP;have⟨t,o3,j,r,i,d⟩:=m.bx kv Iw;have a:=s.trans d;have b:=e.ky a.bk;simp only[aa,bc,qyv,FL hk.one,e1,e2,j,b.ld];refine C3.q (sZ r 1 (n:=.wF z k) ⟨_,_,_,kv,rfl,b,f.ky d.bk,i,hk.ky (c.trans a).bk⟩ rfl) λ _ u hp=>?_;simp only[aa,bc];exact(c.trans a).pre hp
def oO(h:dY H o p x g fv)(a:Int):zb M Si [.ptr p 0,.int .i64 a] H λ _ H'=>eK H o p (x.leave a) H':=by
 refine qyy ?_;have⟨H1,o1,e1,f,d,j⟩:=h.bx (.ptr p 0) Ld;have⟨H2,o2,e2,i,e,c⟩:=f.bx (.int .i64 a) cH;have b:=d.ky c.bk;simp only[aa,bc,qyz,e1,e2,b.ld];refine C3.q (wT i 18446744073709551615 (k:=.left a) ⟨_,_,rfl,e,b⟩) λ _ l hp=>?_;simp only[aa,bc];exact(j.trans c).pre hp
def LZ:Option K0->Nx
 |none=>.xF
 |some k=>.wX k
def qG(h:dY H o p x g fv){ko:Option K0}(hg:IM H o p gv ko):zb M ql1 [.ptr p 0,gv] H λ _ H'=>eK H o p (x.ask ⟨1,0,0,0⟩ (LZ ko)) H':=by
 refine qwr ?_;have⟨H1,o1,e1,i,f,e⟩:=h.bx (.ptr p 0) Ld;have⟨H2,o2,e2,j,d,c⟩:=i.bx gv Ub;have b:=f.ky c.bk;have a:=hg.ky (e.trans c).bk;have l:F0 H2 o2 p (lM TE [H.au,H1.au]) (LZ ko):=by
  cases ko with
  |none=>exact⟨_,_,gv,rfl,b,d,a⟩
  |some k=>exact⟨_,_,gv,rfl,b,d,a⟩
 have hk:FM (LZ ko)=Pq:=by cases ko<;>rfl
 simp only[aa,bc,qws,FL hg.one,e1,e2,b.ld];refine C3.q (sZ j 0 l hk) λ _ m hp=>?_;simp only[aa,bc];exact(e.trans c).pre hp
def Xa(h:dY H o p x g fv)(hk:sK H o p kv k):zb M sW [.ptr p 0,kv] H λ _ H'=>eK H o p (x.validate k) H':=by
 refine qst ?_;have⟨H1,o1,e1,f,d,c⟩:=h.bx (.ptr p 0) Ld;have⟨H2,o2,e2,i,e,a⟩:=f.bx kv Iw;have b:=d.ky a.bk;simp only[aa,bc,qsu,FL hk.one,e1,e2,b.ld];refine C3.q (qG i (ko:=B1 k) ⟨_,_,kv,rfl,b,e,hk.ky (c.trans a).bk⟩) λ _ j hp=>?_;simp only[aa,bc];exact(c.trans a).pre hp
def DF(h:dY H o p x g fv){a:Int}(ha:0<=a):zb M qna [.ptr p 0,.int .i64 a] H λ _ H'=>eK H o p (x.kY a) H':=by
 refine qyw ?_;have⟨H1,o1,e1,f,e,j⟩:=h.bx (.ptr p 0) Ld;have⟨H2,o2,e2,i,b,d⟩:=f.bx (.int .i64 a) cH;have c:=e.ky d.bk;simp only[aa,bc,qyx,e1,e2,c.ld,b.ld];refine C3.q (sZ i a (n:=.xH a) ⟨ha,_,_,rfl,c,b⟩ rfl) λ _ l hp=>?_;simp only[aa,bc];exact(j.trans d).pre hp
def I6(h:dY H o p x g fv):zb M U7 [.ptr p 0] H λ _ H'=>eK H o p x.take H':=by
 refine q1r ?_;have⟨H1,o1,e1,b,a,c⟩:=h.bx (.ptr p 0) Ld;simp only[aa,bc,q1s,aw,e1,a.ld,b.bm];refine C3.q (Rd b 0 x.snap (Fz _) (n:=.ur) ⟨_,rfl,a⟩ rfl) λ _ d hp=>?_;simp only[aa,bc];exact c.pre hp
def O9(h:dY H o p x g fv):zb M Vc [.ptr p 0] H λ _ H'=>eK H o p x.tI H':=by
 refine q1t ?_;simp only[aa,bc,q1u];refine C3.q (qG h (ko:=B5) rfl) λ _ a hp=>?_;simp only[aa,bc];exact hp
def JF(h:dY H o p x g fv){lv:AV}{l:List Pr}(hl:bI cO 2 H lv l)(hu:∀y∈l,fL y.v)(hb:l≠[]->aE lv<H.au/\o (aE lv)=30)(one:aD lv=B4):zb M qpj [.ptr p 0,lv] H λ _ H'=>eK H o p (x.back l) H':=by
 refine q1k ?_;have⟨H1,o1,e1,B,A,D⟩:=h.bx (.ptr p 0) Ld;have⟨H2,o2,e2,s,r,t⟩:=B.bx lv oq;have e:=A.ky t.bk;have d:=D.trans t;have b:=d.bk.m.sl hl hb;have ln:=b.len;cases l with
 |nil =>
  have c:¬(0:Int)<(([]:List Pr).length:Int):=by decide
  simp only[aa,bc,Z9,aw,FL one,e1,e2,e.ld,r.ld,ln,c,s.bm];refine C3.q (Cu s 0 (Fz _) (k:=.fin) ⟨_,rfl,e⟩) λ _ w hp=>?_;simp only[aa,bc];exact d.pre hp
 |cons y l =>
  have c:(0:Int)<((y::l).length:Int):=by rw[zu];omega
  have ix:Op.aR 2 [lv,.int .i64 0]=B1 (.ptr (aE lv) (cK 2 lv 0)):=b.idx (i:=0) rfl rfl .i64;have l0:Op.ae [.ptr (aE lv) (cK 2 lv 0)] H2=B1 (.int .i64 y.a):=b.ig D9 (i:=0) rfl (by decide);have l1:Op.ae [.ptr (aE lv) (cK 2 lv 0+1)] H2=B1 (.int .u64 y.v):=b.ae D9 (i:=0) rfl (j:=1) (by decide);have⟨u,E⟩:=hb (by simp);simp only[aa,bc,Z9,FL one,e1,e2,e.ld,r.ld,ln,c,ix,l0,l1];refine C3.q (Cu s y.a (hu y (by simp)) (k:=.back l) ⟨λ z C=>hu z (by simp[C]),_,_,lv,y,rfl,e,r,b,qn u d.f.au,(d.ho _ u).trans E⟩) λ _ w hp=>?_;simp only[aa,bc];exact d.pre hp
end
end Go.Am
namespace Go.Am
open Lang Go.Proofs
variable{M:ak}[MK M]
section
variable{H H1 H2 H':ar}{o o1 o2 o':Nat->Nat}{p g:Nat}{x y:So}{fv kv gv tv:AV}{k:K0}{n:Nx}
def dY.on(h:dY H o p x g fv)(f:Fr (On p) H H1):pw H o H1 o:=pw.of f (λ z _ q(w:z=p)=>by rw[w,h.op]at q;omega) λ _ _=>rfl
def dY.w0(h:dY H o p x g fv){W:Nat->Prop}(f:Fr W H H1)(hw:∀z,W z->z=p):Fr (λ z=>8<=o z) H H1:=f.mono λ z _ q=>by rw[hw z q,h.op];decide
def eK.step(h:dY H o p x g fv)(f:Fr (On p) H H1)(b:eK H1 o p y H'):eK H o p y H':=by
 have⟨o2,c,a,d,e,i⟩:=b;exact⟨o2,c,a,d,λ z q=>e z (qn q f.au),(h.w0 f λ _ q=>q).trans i λ z q=>.inl q⟩
def dY.log{rd wr:List Pr}(h:dY H o p x g fv)(hp:vU H o g rd wr H1)(hu:∀y∈wr,fL y.v):∃o1,dY H1 o1 p {x with rd:=rd,wr:=wr} g fv/\pw H o H1 o1/\Fr (λ z=>8<=o z) H H1:=by
 have⟨o1,c,b,a⟩:=hp;have bk:pw H o H1 o1:=pw.of a (λ z _ q w=>by omega) b;exact⟨o1,⟨h.row.fr a (λ w=>by have:=h.op;omega),c,h.nx.ky bk,(b p h.row.2).trans h.op,h.one,h.vu,hu,h.qu⟩,bk,a.mono λ z _ q=>by omega⟩
def eK.after(c:∀z,z<H.au->o1 z=o z)(f:Fr (λ z=>8<=o z) H H1)(b:eK H1 o1 p y H'):eK H o p y H':=by
 have⟨o2,d,a,e,h,i⟩:=b;refine⟨o2,d,a,e,λ z q=>(h z (qn q f.au)).trans (c z q),f.trans i λ z q=>?_⟩;rcases xz z H.au with w|w
 .exact .inl (by rw[<-c z w];exact q)
 .exact .inr w
def Dg(h:dY H o p x g fv):zb M Tf [.ptr p 0] H λ _ H'=>dY H' o p {x with busy:=B2} g fv/\Fr (On p) H H':=by
 refine q1l ?_;have⟨H1,s1,b,a⟩:=h.put 6 (v:=.bool B2) (y:={x with busy:=B2}) rfl (by decide) rfl ⟨rfl,rfl,rfl,rfl⟩ h.vu;simp only[aa,bc,q1m,aw,s1];exact⟨b,a⟩
def wJ(h:dY H o p x g fv)(v:Int):zb M T3 [.ptr p 0,.int .u64 v] H λ _ H'=>dY H' o p (x.pK v) g fv/\Fr (On p) H H':=by
 refine qy0 ?_;have⟨H1,s1,c,a⟩:=h.put 9 (v:=.int .u64 v) (y:={x with snap:=v}) rfl (by decide) rfl ⟨rfl,rfl,rfl,rfl⟩ h.vu;have⟨H2,s2,d,b⟩:=c.put 12 (v:=.int .i64 (aj .i64 (x.points+1))) (y:=x.pK v) rfl (by decide) rfl ⟨rfl,rfl,rfl,rfl⟩ h.vu;simp only[aa,bc,qy1,aw,h.bm,s1,s2];exact⟨d,a.trans b λ z q=>.inl q⟩
def L3(h:dY H o p x g fv)(v:Int):zb M Yg [.ptr p 0,.int .u64 v] H λ _ H'=>eK H o p {x.pK v with live:=B4,busy:=B2} H':=by
 refine qyq ?_;simp only[aa,bc,qyr];refine C3.q (wJ h v) λ _ H1⟨d,a⟩=>?_;have⟨H2,s2,e,b⟩:=d.put 7 (v:=.bool B4) (y:={x.pK v with live:=B4}) rfl (by decide) rfl ⟨rfl,rfl,rfl,rfl⟩ h.vu;simp only[aa,bc,aw,s2];refine C3.q (Dg e) λ _ i⟨f,c⟩=>?_;simp only[aa,bc];exact h.Br ((a.trans b λ z q=>.inl q).trans c λ z q=>.inl q) f
def Cp(h:dY H o p x g fv)(hk:sK H o p kv k):∃f a c,kv=.fn (.func f) a c/\zb M f (a++c) H λ _ H'=>eK H o p (x.Im k) H':=by
 cases k with
 |wait=>exact⟨_,_,_,hk,O9 h⟩
 |take=>exact⟨_,_,_,hk,I6 h⟩
 |left how =>
  obtain⟨d,r,rfl,b,j⟩:=hk;refine⟨_,_,_,rfl,?_⟩;show zb M Wx [.ptr d 0,.ptr r 0] H _;refine qus ?_;have⟨H1,s1,t,m⟩:=h.put 7 (v:=.bool B2) (y:={x with live:=B2}) rfl (by decide) rfl ⟨rfl,rfl,rfl,rfl⟩ h.vu;have d1:=b.ky (h.on m);have d2:=j.ky (h.on m);have⟨H2,s2,D,B⟩:=t.put 11 (v:=.int .i64 how) (y:={x with live:=B2,ended:=how}) rfl (by decide) rfl ⟨rfl,rfl,rfl,rfl⟩ h.vu;have e2:=d2.ky (t.on B);simp only[aa,bc,qut,aw,b.ld,j.ld,s1,d1.ld,d2.ld,s2,e2.ld];refine C3.q (Dg D) λ _ u⟨E,C⟩=>?_;simp only[aa,bc];exact h.Br ((m.trans B λ z q=>.inl q).trans C λ z q=>.inl q) E
 |kY a =>
  obtain⟨A,d,r,rfl,b,j⟩:=hk;refine⟨_,_,_,rfl,?_⟩;show zb M YF [.ptr d 0,.ptr r 0] H _;refine qou ?_;simp only[aa,bc,qov,b.ld,j.ld];refine C3.q (DF h A) λ _ u hp=>?_;simp only[aa,bc];exact hp
 |back l =>
  obtain⟨A,d,r,lv,y,rfl,b,j,hl,F,G⟩:=hk;refine⟨_,_,_,rfl,?_⟩;show zb M X8 [.ptr d 0,.ptr r 0] H _;refine qwl ?_;have⟨s,s1,i,hb⟩:=hl.from D9 (k:=1) (by simp) (z:=1) rfl .i64;simp only[aa,bc,qwm,b.ld,j.ld,s1];have nb:l≠[]->aE s<H.au/\o (aE s)=30:=λ e=>by
   rcases hb with w|w
   .subst w;have:=i.len;have e2:l.length=0:=by
     have q:Op.cG [AV.nils]=B1 (.int .i64 0):=rfl;rw[q]at this;injection this with this;injection this with _ this
     simp only[List.drop_succ_cons,yw]at this;omega
    exact(e (jz.1 e2)).elim
   .rw [w];exact⟨F,G⟩
  refine C3.q (JF h (l:=l) i A nb i.one) λ _ u hp=>?_;simp only[aa,bc];exact hp
 |fin =>
  obtain⟨d,rfl,b⟩:=hk;refine⟨_,_,_,rfl,?_⟩;show zb M Vd [.ptr d 0] H _;refine qwn ?_;have⟨H1,s1,t,m⟩:=h.put 8 (v:=.bool B2) (y:={x with aH:=B2}) rfl (by decide) rfl ⟨rfl,rfl,rfl,rfl⟩ h.vu;have d1:=b.ky (h.on m);simp only[aa,bc,qwo,aw,b.ld,s1,d1.ld];refine C3.q (oO t 1) λ _ u hp=>?_;simp only[aa,bc];exact eK.step h m hp
def I8{i:Nat}{e:Int}{rd:List Pr}{bi j d bk m bs l f:Nat}(h:dY H o p x g fv)(r:By H o bi (.int .i64 (i:Int)))(hle:i<=rd.length)(v:KX H o p k e rd bi j d bk m bs l f) :
 zb M TD [.ptr bi 0,.ptr m 0,.ptr d 0,.ptr l 0,.ptr f 0] H λ _ H'=>eK H o p (x.step k e rd i) H':=by
 refine qnz ?_;have⟨kv,w,z,A⟩:=v.hk;have⟨rv,t,s,B,C⟩:=v.hr;have ln:=s.len;unfold So.step;rcases xz i rd.length with q|q
 .have c:(i:Int)<(rd.length:Int):=by omega
  obtain⟨y,b⟩:∃y,rd[i]? = B1 y:=⟨rd[i],by simp[q]⟩
  have ix:Op.aR 2 [rv,.int .i64 (i:Int)]=B1 (.ptr (aE rv) (cK 2 rv i)):=s.idx b rfl .i64;have l0:Op.ae [.ptr (aE rv) (cK 2 rv i)] H=B1 (.int .i64 y.a):=s.ig D9 b (by decide);simp only[aa,bc,qg0,r.ld,t.ld,ln,c,v.hp.ld,ix,l0,v.hl.ld,b];refine C3.q (sZ h y.a (n:=.look k e rd i) ⟨bi,j,d,bk,m,bs,l,f,rfl,r,q,v⟩ rfl) λ _ u hp=>?_;simp only[aa,bc];exact hp
 .have c:¬(i:Int)<(rd.length:Int):=by omega
  have b:rd[i]? = none:=jp q;simp only[aa,bc,qg0,r.ld,t.ld,ln,c,v.hp.ld,v.ha.ld,b];refine C3.q (sZ h 0 (n:=.again k e) ⟨j,d,bk,kv,rfl,v.hg,v.hp,w,z⟩ rfl) λ _ u hp=>?_;simp only[aa,bc];exact hp
end
end Go.Am
namespace Go.Am
open Lang Go.Proofs
variable{M:ak}[MK M]
section
variable{H H1 H2 H':ar}{o o1 o2 o':Nat->Nat}{p g b f:Nat}{x y:So}{fv kv gv tv:AV}{k:K0}{n:Nx}{l:List Nat}{v:Int}{ok:Bool}{R:AV->ar->Prop}
def Ks(hb:Bx H o b (lM f l))(a:zb M f (.int .u64 v::l.map λ b=>.ptr b 0) H λ _ H'=>R .undef H'):zb M Pq [.int .u64 v,.bool ok,.ptr b 0] H λ _ H'=>R .undef H':=by
 refine qwp ?_;simp only[aa,bc,qwq,hb.ld,lM];refine C3.q a λ _ c hp=>?_;simp only[aa,bc];exact hp
def Y'(hb:Bx H o b (lM f l))(a:zb M f (.bool ok::l.map λ b=>.ptr b 0) H λ _ H'=>R .undef H'):zb M Py [.int .u64 v,.bool ok,.ptr b 0] H λ _ H'=>R .undef H':=by
 refine qys ?_;simp only[aa,bc,qyt,hb.ld,lM];refine C3.q a λ _ c hp=>?_;simp only[aa,bc];exact hp
def po{v:Int}(a:fL v):Op.bin .rem [.int .u64 v,.int .u64 2]=B1 (.int .u64 (v % 2)):=by
 rw[uI .u64 _ _ (by decide),Int.tmod_eq_emod_of_nonneg a.1]
def son(h:dY H o p x g fv)(hn:x.au=B5)(hv:fL v)(hb:Bx H o b tv)(O:F0 H o p tv n):zb M (FM n) [.int .u64 v,.bool ok,.ptr b 0] H λ _ H'=>eK H o p (x.on v ok n) H':=by
 cases n with
 |wF m k =>
  obtain⟨E,Y,J,kv,rfl,r,A,G,hk⟩:=O;refine Ks (R:=λ _ H'=>eK H o p _ H') hb ?_;refine qun ?_;simp only[aa,bc,qup,r.ld,A.ld];refine C3.q (Rd h 1 v (Fz _) (n:=.uG m k) ⟨_,_,_,kv,rfl,r,A,G,hk⟩ rfl) λ _ d hp=>?_;simp only[aa,bc];exact hp
 |uG m k =>
  obtain⟨E,Y,J,kv,rfl,r,A,G,hk⟩:=O;refine Y' (R:=λ _ H'=>eK H o p _ H') hb ?_;refine qrt ?_;unfold So.on;cases ok with
  |true =>
   obtain⟨N,a,c,rfl,K⟩:=Cp (M:=M) h hk;simp only[aa,bc,pf,G.ld];refine C3.q K λ _ d hp=>?_;simp only[aa,bc];exact hp
  |false =>
   simp only[aa,bc,pf,r.ld,A.ld,G.ld,ja];refine C3.q (wT h m hk) λ _ d hp=>?_;simp only[aa,bc];exact hp
 |xF =>
  obtain⟨E,Y,gv,rfl,r,A,hg⟩:=O;refine Ks (R:=λ _ H'=>eK H o p _ H') hb ?_;refine qj8 ?_;unfold So.on
  by_cases q:v % 2=1
  .simp only[aa,bc,TS,po hv,qv q,r.ld,A.ld];refine C3.q (qG h (ko:=B5) hg) λ _ d hp=>?_;simp only[aa,bc];exact hp
  .have hg:gv=_:=hg;subst hg;simp only[aa,bc,TS,po hv,q,A.ld];refine C3.q (L3 h v) λ _ d hp=>?_;simp only[aa,bc];exact hp
 |wX k =>
  obtain⟨E,Y,gv,rfl,r,A,hg⟩:=O;refine Ks (R:=λ _ H'=>eK H o p _ H') hb ?_;refine qj8 ?_;unfold So.on
  by_cases q:v % 2=1
  .simp only[aa,bc,TS,po hv,qv q,r.ld,A.ld];refine C3.q (qG h (ko:=B1 k) hg) λ _ d hp=>?_;simp only[aa,bc];exact hp
  .obtain ⟨J,b4,kv,rfl,d1,d2,hk⟩:=hg;simp only[aa,bc,TS,po hv,q,A.ld,lM,kh,FN];refine C3.q (R:=λ _ H'=>eK H o p (x.step k v x.rd 0) H') ?_ λ _ d hp=>?_
   .refine qp3 ?_;have⟨H1,o1,e1,s,bg,C⟩:=h.bx (.int .u64 v) YP;have d11:=d1.ky C.bk;simp only[aa,bc,qp4,aw,e1,d11.ld,s.bm];refine C3.q (Me s.lg) λ rv H2⟨t,D,F⟩=>?_;have one:aD rv=true:=Sl.one (Own.sl t)
    -- what is made since
    have X:Mk H1 o1 H2 (aQ o1 H1.au 30):=⟨F,λ z q=>ww q⟩
    have T:=s.fr F (λ _ _ _ q=>q) X.ho;have hr:x.rd≠[]->aE rv<H2.au/\aQ o1 H1.au 30 (aE rv)=30:=λ e=>by
     have on:=zK t e;exact⟨Own.lt t _ on,ny (D _ on)⟩
    have rt:∀{Hx ox},Mk H2 (aQ o1 H1.au 30) Hx ox->bI cO 2 Hx rv x.rd/\(x.rd≠[]->aE rv<Hx.au/\ox (aE rv)=30):=λ m=>⟨m.bk.m.sl (aO.sl t) hr,λ e=>⟨qn (hr e).1 m.f.au,(m.ho _ (hr e).1).trans (hr e).2⟩⟩
    have⟨d,o3,s3,h3,br,m3⟩:=T.bz .nils one oq;have⟨u,o4,s4,h4,bi,m4⟩:=h3.byz (.int .i64 0) (v:=.int .i64 0) rfl cH;have⟨H5,o5,e5,h5,bs,m5⟩:=h4.by0 .nilf Iw;have⟨H6,o6,s6,h6,bl,m6⟩:=h5.bz .nilf (v:=lM SY [H2.au,d.au,J,u.au]) rfl Ub;have⟨H7,o7,s7,h7,ba,m7⟩:=h6.bz .nilf (v:=lM SE [H.au,J,b4]) rfl Ub;have m13:=X.trans m3;have W:=((m4.trans m5).trans m6).trans m7;have m57:=(m5.trans m6).trans m7;have m67:=m6.trans m7;have m37:=m3.trans W;have m17:=m13.trans W;have Q:=C.trans m17;have⟨H8,s8,h8,V,U,f8⟩:=h7.ε hn (bs.ky m67.bk) (v:=lM TD [d.au,H2.au,J,H5.au,H6.au]) rfl;have P:=bi.ky m57.bk;have nb:d.au≠u.au:=by have:=m4.f.au;have:=bi.2.1;omega
    have bi8:By H8 o7 d.au (.int .i64 ((0:Nat):Int)):=⟨by rw[f8.ah _ P.2.1 nb];exact P.1,qn P.2.1 f8.au,P.2.2⟩
    have⟨t1,t2⟩:=rt m37;have n8:=f8.au;have one':=hk.one;have ln:=(aO.sl t).len;have B:KX H8 o7 p k v x.rd d.au H.au J b4 H2.au u.au H5.au H6.au :=
     ⟨(bg.ky m17.bk).km U,(d1.ky Q.bk).km U,⟨kv,(d2.ky Q.bk).km U,(hk.ky Q.bk).km U,one'⟩,⟨rv,(br.ky W.bk).km U,U.sl t1 t2,λ e=>⟨qn (t2 e).1 n8,(t2 e).2⟩,one⟩,V,(bl.ky m7.bk).km U,ba.km U,by have:=h.lg;have⟨_,_,_,_,_,_,_,_,_,_,q,_⟩:=this;exact q.le⟩
    have S:=V.ld;simp only[lM,kh,FN]at s6 s7 s8 S;simp only[aa,bc,s3,s4,e5,yf,yw,s6,s7,s8,S];refine C3.q (I8 h8 bi8 (xw _) B) λ _ H9 hp=>?_;simp only[aa,bc];refine Q.pre ?_;have⟨o9,g9,fv9,w1,w2,w3⟩:=hp;exact⟨o9,g9,fv9,w1,λ z e=>w2 z (qn e n8),(f8.mono λ z _(e:z=u.au)=>by rw[e,V.2.2];decide).trans w3 λ z e=>.inl e⟩
   .simp only[aa,bc];exact hp
 |look k gg rd i =>
  obtain⟨bi,bg,bp,bk,br,bs,bl,ba,rfl,r,hi,B⟩:=O;refine Ks (R:=λ _ H'=>eK H o p _ H') hb ?_;refine qnx ?_;have⟨rv,t,D,F,r4⟩:=B.hr;obtain⟨y,hy⟩:∃y,rd[i]? = B1 y:=⟨rd[i],by simp[hi]⟩
  have hyd:rd.getD i ⟨0,0⟩=y:=by rw[zt,hy];rfl
  have ix:Op.aR 2 [rv,.int .i64 (i:Int)]=B1 (.ptr (aE rv) (cK 2 rv i)):=D.idx hy rfl .i64;have l1:Op.ae [.ptr (aE rv) (cK 2 rv i+1)] H=B1 (.int .u64 y.v):=D.ae D9 hy (j:=1) (by decide);have eo:x.on v ok (.look k gg rd i)=if v≠y.v then x.leave 2 else x.step k gg rd (i+1):=by show(if v≠(rd.getD i ⟨0,0⟩).v then _ else _)=_;rw[hyd]
  rw[eo]
  by_cases q:v=y.v
  .have wj:aj .i64 ((i:Int)+1)=((i+1:Nat):Int):=by have:=B.hn;rw[jc (by omega) (by omega)];omega
   have⟨H1,s1,s,d1,C,I⟩:=h.ε hn r (v:=.int .i64 ((i+1:Nat):Int)) rfl;have nb:bs≠bi:=λ e=>by
    have a1:=B.hs.ld;have a2:=r.ld;rw[e,a2]at a1;injection a1 with a1;cases a1
   have ds:By H1 o bs _:=⟨by rw[I.ah bs B.hs.2.1 nb];exact B.hs.1,qn B.hs.2.1 I.au,B.hs.2.2⟩
   have⟨kv,k1,k2,k3⟩:=B.hk;have va1:KX H1 o p k gg rd bi bg bp bk br bs bl ba:=⟨B.hg.km C,B.hp.km C,⟨kv,k1.km C,k2.km C,k3⟩,⟨rv,t.km C,C.sl D F,λ e=>⟨qn (F e).1 I.au,(F e).2⟩,r4⟩,ds,B.hl.km C,B.ha.km C,B.hn⟩
   simp only[aa,bc,_y,t.ld,r.ld,ix,l1,qv q,wj,s1,ds.ld,lM,kh,FN];refine C3.q (I8 s d1 hi va1) λ _ d hp=>?_;simp only[aa,bc];have⟨o2,g2,fv2,w1,w2,w3⟩:=hp;exact⟨o2,g2,fv2,w1,λ z e=>w2 z (qn e I.au),(I.mono λ z _(e:z=bi)=>by rw[e,r.2.2];decide).trans w3 λ z e=>.inl e⟩
  .simp only[aa,bc,_y,t.ld,r.ld,ix,l1,q,B.hp.ld];refine C3.q (oO h 2) λ _ d hp=>?_;simp only[aa,bc];exact hp
 |again k gg =>
  obtain⟨bg,bp,bk,kv,rfl,r,A,G,hk⟩:=O;refine Ks (R:=λ _ H'=>eK H o p _ H') hb ?_;refine qny ?_;unfold So.on
  by_cases q:v=gg
  .simp only[aa,bc,r_,r.ld,A.ld,qv q];refine C3.q (wJ h gg) λ _ H1⟨s,I⟩=>?_;have c31:=G.ky (h.on I);obtain⟨N,a,c,rfl,K⟩:=Cp (M:=M) s (hk.ky (h.on I));simp only[aa,bc,c31.ld];refine C3.q K λ _ d hp=>?_;simp only[aa,bc];exact eK.step h I hp
  .simp only[aa,bc,r_,r.ld,A.ld,G.ld,q];refine C3.q (Xa h hk) λ _ d hp=>?_;simp only[aa,bc];exact hp
 |xH a =>
  obtain⟨ha,E,Y,rfl,r,A⟩:=O;refine Ks (R:=λ _ H'=>eK H o p _ H') hb ?_;refine quq ?_;have⟨H1,o1,e1,s,J,C⟩:=h.bx (.int .u64 v) YP;have d1:=r.ky C.bk;have d2:=A.ky C.bk;simp only[aa,bc,qur,e1,d1.ld];refine C3.q (sZ s 0 (n:=.nU a v) ⟨⟨ha,hv⟩,_,_,_,rfl,d1,d2,J⟩ rfl) λ _ d hp=>?_;simp only[aa,bc];exact C.pre hp
 |nU a w =>
  obtain⟨⟨ha,hw⟩,E,Y,J,rfl,r,A,G⟩:=O;refine Ks (R:=λ _ H'=>eK H o p _ H') hb ?_;refine qru ?_
  by_cases q:v=x.snap
  .have lw:=UP (M:=M) h.lg a;have go:∀(l:List Pr){H1:ar}{o1:Nat->Nat},x.ah a w=B1 l->(dy x.rd a).getD w=w->dY H1 o1 p {x with rd:=l} g fv->pw H o H1 o1->Fr (λ z=>8<=o z) H H1 ->
    ∃H2,Op.store 1 [.ptr p 10,.int .u64 w] H1=B1 (.undef,H2)/\Op.ae [.ptr E 0] H1=B1 (.ptr p 0)/\Op.ae [.ptr J 0] H1=B1 (.int .u64 w)/\Op.ae [.ptr E 0] H2=B1 (.ptr p 0)/\zb M T3 [.ptr p 0,.int .u64 v] H2 λ _ d=>Op.ae [.ptr E 0] d=B1 (.ptr p 0)/\zb M Tf [.ptr p 0] d λ _ u=>eK H o p (x.on v ok (.nU a w)) u:=λ l{H1 o1}ek L s bk N=>by
    have⟨H2,s2,T,Z⟩:=s.put 10 (v:=.int .u64 w) (y:={x with rd:=l,value:=w}) rfl (by decide) rfl ⟨rfl,rfl,rfl,rfl⟩ hw;have d1:=r.ky bk;have d3:=G.ky bk;have e1:=d1.ky (s.on Z);refine⟨H2,s2,d1.ld,d3.ld,e1.ld,(wJ T v).mono λ _ d⟨h3,f3⟩=>⟨(e1.ky (T.on f3)).ld,(Dg h3).mono λ _ u⟨h4,f4⟩=>?_⟩⟩;have e:x.on v ok (.nU a w) = {({x with rd:=l,value:=w}:So).pK v with busy:=B2}:=by
     show(if v≠x.snap then _ else if(dy x.rd a).getD w≠w then _ else match x.ah a w with|none=>_|some l=>_)=_;rw[qy (λ e=>e q),qy (λ e=>e L),ek]
    rw[e];exact eK.after bk.own N (s.Br ((Z.trans f3 λ z q=>.inl q).trans f4 λ z q=>.inl q) h4)
   have lv:∀{H1:ar}{o1:Nat->Nat},(dy x.rd a).getD w≠w\/(dy x.rd a).getD w=w/\x.ah a w=B5->dY H1 o1 p x g fv->pw H o H1 o1->Fr (λ z=>8<=o z) H H1->Op.ae [.ptr E 0] H1=B1 (.ptr p 0)/\zb M Si [.ptr p 0,.int .i64 2] H1 λ _ u=>eK H o p (x.on v ok (.nU a w)) u:=λ{H1 o1}L s bk N=>by
    refine⟨(r.ky bk).ld,(oO s 2).mono λ _ u hp=>?_⟩;have e:x.on v ok (.nU a w)=x.leave 2:=by
     show(if v≠x.snap then _ else if(dy x.rd a).getD w≠w then _ else match x.ah a w with|none=>_|some l=>_)=_;rw[qy (λ e=>e q)];rcases L with L|⟨L,ek⟩
     .rw [xg L]
     .rw [qy (λ e=>e L),ek]
    rw[e];exact eK.after bk.own N hp
   have bk0:pw H o H o:=⟨⟨λ _ _ _=>rfl,λ _ _=>rfl,qm _⟩,λ _ _ _=>rfl⟩
   have rest:∀{e:AV}{H1:ar},(dy x.rd a).getD w=w->MN H o g x.rd a e (vU H o g x.rd x.wr H1) (vU H o g (if dy x.rd a=B5 then x.rd ++ [⟨a,w⟩]else x.rd) x.wr H1)->(e=.int .i64 70/\Op.ae [.ptr E 0] H1=B1 (.ptr p 0)/\zb M Si [.ptr p 0,.int .i64 2] H1 λ _ u=>eK H o p (x.on v ok (.nU a w)) u)\/e=.int .i64 0 /\ ∃H2,Op.store 1 [.ptr p 10,.int .u64 w] H1=B1 (.undef,H2)/\Op.ae [.ptr E 0] H1=B1 (.ptr p 0)/\Op.ae [.ptr J 0] H1=B1 (.int .u64 w)/\Op.ae [.ptr E 0] H2=B1 (.ptr p 0)/\zb M T3 [.ptr p 0,.int .u64 v] H2 λ _ d=>Op.ae [.ptr E 0] d=B1 (.ptr p 0)/\zb M Tf [.ptr p 0] d λ _ u=>eK H o p (x.on v ok (.nU a w)) u:=λ L K=>by
    rcases K with⟨l1,l2,rfl,hp⟩|⟨l1,rfl,hp⟩
    .have ⟨o1,s,bk,N⟩:=h.log hp h.wu;exact .inl ⟨rfl,lv (.inr ⟨L,by unfold So.ah;rw[l1];simp only;rw[xg l2]⟩) s bk N⟩
    .have ⟨o1,s,bk,N⟩:=h.log hp h.wu;refine .inr ⟨rfl,go _ ?_ L s bk N⟩;unfold So.ah;cases hl:dy x.rd a with
     |some z=>simp only;rw[qy (by simp)]
     |none=>simp only;rw[qy λ e=>l1 ⟨hl,e⟩,xg trivial]
   cases hl:dy x.rd a with
   |some z =>
    rw[hl]at lw
    by_cases qz:z=w
    .subst qz;simp only[aa,bc,Od,aw,r.ld,h.bm,qv q,A.ld,lw,G.ld,vk,vq];refine C3.q (Jn h.lg ha z) λ e H1 K=>?_;rcases rest (by rw[hl];rfl) K with⟨rfl,t,D⟩|⟨rfl,H2,t,D,F,r4,r5⟩
     .have t7:¬(70:Int)=0:=by decide
      simp only[aa,bc,t7,t];refine C3.q D λ _ u hp=>?_;simp only[aa,bc];exact hp
     .simp only[aa,bc,Od,aw,t,D,F,r4];refine C3.q r5 λ _ d⟨r6,r7⟩=>?_;simp only[aa,bc,r6];refine C3.q r7 λ _ u hp=>?_;simp only[aa,bc];exact hp
    .simp only[aa,bc,Od,aw,r.ld,h.bm,qv q,A.ld,lw,G.ld,vk,vq,qz];refine C3.q (lv (.inl (by rw[hl];exact qz)) h bk0 (Fr.refl _)).2 λ _ u hp=>?_;simp only[aa,bc];exact hp
   |none =>
    rw[hl]at lw;simp only[aa,bc,Od,aw,r.ld,h.bm,qv q,A.ld,lw,G.ld,Option.getD_none,Nn];refine C3.q (Jn h.lg ha w) λ e H1 K=>?_;rcases rest (by rw[hl];rfl) K with⟨rfl,t,D⟩|⟨rfl,H2,t,D,F,r4,r5⟩
    .have t7:¬(70:Int)=0:=by decide
     simp only[aa,bc,t7,t];refine C3.q D λ _ u hp=>?_;simp only[aa,bc];exact hp
    .simp only[aa,bc,Od,aw,t,D,F,r4];refine C3.q r5 λ _ d⟨r6,r7⟩=>?_;simp only[aa,bc,r6];refine C3.q r7 λ _ u hp=>?_;simp only[aa,bc];exact hp
  .have e:x.on v ok (.nU a w)=x.validate (.kY a):=xg q;rw[e];simp only[aa,bc,Od,aw,r.ld,h.bm,q];refine C3.q (Xa h (k:=.kY a) ⟨ha,_,_,rfl,r,A⟩) λ _ d hp=>?_;simp only[aa,bc];exact hp
 |ur =>
  obtain⟨E,rfl,r⟩:=O;refine Y' (R:=λ _ H'=>eK H o p _ H') hb ?_;refine qwt ?_;unfold So.on;cases ok with
  |true =>
   have⟨H1,s1,s,I⟩:=h.put 12 (v:=.int .i64 (aj .i64 (x.points+1))) (y:={x with points:=aj .i64 (x.points+1)}) rfl (by decide) rfl ⟨rfl,rfl,rfl,rfl⟩ h.vu;have d1:=r.ky (h.on I);have⟨H2,s2,T,Z⟩:=s.put 8 (v:=.bool B4) (y:={x with points:=aj .i64 (x.points+1),aH:=B4}) rfl (by decide) rfl ⟨rfl,rfl,rfl,rfl⟩ h.vu;have e1:=d1.ky (s.on Z);simp only[aa,bc,qmf,aw,r.ld,h.bm,s1,d1.ld,s2,e1.ld,T.bm];refine C3.q (yY T.lg) λ lv d⟨t,D,F⟩=>?_;have one:aD lv=true:=Sl.one (Own.sl t);have X:Mk H2 o d (aQ o H2.au 30):=⟨F,λ z q=>ww q⟩
   have h3:=T.fr F (λ _ _ _ q=>q) X.ho;have e3:=e1.ky X.bk;have hr:x.wr≠[]->aE lv<d.au/\aQ o H2.au 30 (aE lv)=30:=λ e=>by
    have on:=zK t e;exact⟨Own.lt t _ on,ny (D _ on)⟩
   simp only[aa,bc,e3.ld];refine C3.q (JF h3 (aO.sl t) h.wu hr one) λ _ u hp=>?_;simp only[aa,bc];exact eK.step h (I.trans Z λ z q=>.inl q) (X.pre hp)
  |false =>
   simp only[aa,bc,qmf,r.ld,ja];refine C3.q (Xa h (k:=.take) rfl) λ _ d hp=>?_;simp only[aa,bc];exact hp
 |FD k =>
  refine quu ?_;obtain⟨N,a,c,rfl,K⟩:=Cp (M:=M) h O;simp only[aa,bc,quv,hb.ld];refine C3.q K λ _ d hp=>?_;simp only[aa,bc];exact hp
end
end Go.Am
namespace Go.Am
open Lang Go.Proofs
variable{M:ak}[MK M]
section
variable{H H1 H2 H':ar}{o o1 o2 o':Nat->Nat}{p g b f:Nat}{x y:So}{fv kv gv tv:AV}{v:Int}{ok:Bool}
def kU(h:dY H o p x g fv):∀K,C3 M B4 (.func _R) [.ptr p 0] H K=K B4 (.bool B2) H:=by
 refine dC (q1p ?_);simp only[aa,bc,q1q,aw,h.bm]
def im(h:dY H o p x g fv):∀K,C3 M B4 (.func qpe) [.ptr p 0] H K=K B4 (.bool x.busy) H:=by
 refine dC (q1d ?_);simp only[aa,bc,q1e,aw,kU h,h.bm]
def J1(h:dY H o p x g fv):∀K,C3 M B4 (.func Δ) [.ptr p 0] H K=K B4 (.bool x.aH) H:=by
 refine dC (qul ?_);simp only[aa,bc,qum,aw,kU h,h.bm]
def CP(h:dY H o p x g fv):∀K,C3 M B4 (.func qm8) [.ptr p 0] H K=K B4 (.int .u64 x.value) H:=by
 refine dC (qyo ?_);simp only[aa,bc,qyp,aw,kU h,h.bm]
def qU(h:dY H o p x g fv):∀K,C3 M B4 (.func qm6) [.ptr p 0] H K=K B4 (.int .i64 x.ended) H:=by
 refine dC (qyl ?_);simp only[aa,bc,qym,aw,kU h,h.bm]
def eW(h:dY H o p x g fv):∀K,C3 M B4 (.func ql0) [.ptr p 0] H K=K B4 (.int .i64 x.points) H:=by
 refine dC (qwj ?_);simp only[aa,bc,qwk,aw,kU h,h.bm]
def mY(h:dY H o p x g fv):∀K,C3 M B4 (.func qnb) [.ptr p 0] H K=K B4 (.int .i64 (if x.ready=B4 then 0 else 80)) H:=by
 refine dC (qy2 ?_);unfold So.ready;cases q:x.busy<;>cases r:x.live<;>simp only[aa,bc,qy3,aw,kU h,h.bm,q,r,ja,Bool.true_and,Bool.false_and]
def Lv(h:dY H o p x g fv)(a:Int):∀K,C3 M B4 (.func π) [.ptr p 0,.int .i64 a] H K=K B4 (.int .i64 (if x.ready=B4 then if 8<=a then 0 else 2 else 80)) H:=by
 refine dC (quw ?_);have d:¬(80:Int)=0:=by decide
 cases q:x.ready
 .simp only[aa,bc,Zg,mY h,q,ja,d]
 .by_cases r:8<=a
  .have c:¬a<8:=I3.2 r;simp only[aa,bc,Zg,mY h,q,c,qv r]
  .have c:a<8:=Int.not_le.1 r;simp only[aa,bc,Zg,mY h,q,qv c,r]
def MU:[AV.int .i64 0,.int .i64 0,.int .u64 0,.int .u64 0]=iU ⟨0,0,0,0⟩:=rfl
def RC(h:dY H o p x g fv):zb M γ [.ptr p 0] H λ w H'=>(∃q,w=.tuple [.agg (iU x.want),.bool q])/\Fr Em H H':=by
 refine q1i ?_;obtain⟨H1,e1,i,-,-⟩:=bZ H (OR (iU ⟨0,0,0,0⟩) BG);have d:At H1 H.au BG _:=e1▸At.new H _ _;have c:=h.fr i (λ _ _ _ q=>q) λ _ _=>rfl;have l4:Op.aq 4 [.ptr p 1] H1=B1 (.agg (iU x.want)):=c.row.eJ (k:=1) (n:=4) (by simp[dO,iU]);have s1:=d.fK (k:=0) (n:=4) (v:=.agg (iU x.want)) rfl (by simp[iU]) rfl;have e2:(iU ⟨0,0,0,0⟩).take 0++AV.cells (.agg (iU x.want))++(iU ⟨0,0,0,0⟩).drop (0+4)=iU x.want:=rfl;rw[e2]at s1;obtain⟨H2,a⟩:∃X,X=H1.set H.au (OR (iU x.want) BG):=⟨_,rfl⟩
 rw[<-a]at s1;have j:Fr Em H H2:=a▸i.set (.inr (qm _)) _;have m:At H2 H.au BG (iU x.want):=a▸d.set _;have r:=h.fr j (λ _ _ _ q=>q) λ _ _=>rfl;have t:Op.aq 4 [.ptr H.au 0] H2=B1 (.agg (iU x.want)):=m.eJ (k:=0) (n:=4) (by simp[iU]);obtain⟨q,s⟩:∃q:Bool,∀H,Op.eq .func B4 [fv,.nilf] H=B1 (.bool q):=by
  have:=h.nx;cases e:x.au with
  |none=>rw[e]at this;rw[show fv=_ from this];exact⟨B2,λ _=>rfl⟩
  |some n=>rw[e]at this;obtain⟨b,tv,rfl,-⟩:=this;exact⟨B4,λ _=>rfl⟩
 simp only[aa,bc,q1j,aw,MU,<-e1,kU c,l4,c.bm,r.bm,s,s1,t];exact⟨⟨q,rfl⟩,j⟩
def Qt(h:dY H o p x g fv)(m:fL v):zb M B_ [.ptr p 0,.int .u64 v,.bool ok] H λ _ H'=>eK H o p (x.fX v ok) H':=by
 refine q1f ?_;unfold So.fX;have nx:=h.nx;cases e:x.au with
 |none =>
  rw[e]at nx;have nx:fv=.nilf:=nx;subst nx;have q:∀H,Op.eq .func B2 [.nilf,.nilf] H=B1 (.bool B4):=λ _=>rfl;simp only[aa,bc,qps,aw,kU h,h.bm,q];exact h.same
 |some n =>
  rw[e]at nx;obtain⟨b,tv,rfl,hb,j⟩:=nx;have q:∀f l H,Op.eq .func B2 [.fn f [] l,.nilf] H=B1 (.bool B2):=λ _ _ _=>rfl;have c:Op.build (iU ⟨0,0,0,0⟩) [] []=B1 (.agg (iU ⟨0,0,0,0⟩)):=rfl;have s1:=h.row.fK (k:=1) (n:=4) (v:=.agg (iU ⟨0,0,0,0⟩)) rfl (by simp[dO,iU]) rfl;have e2:(dO x g (lM (FM n) [b])).take 1++AV.cells (.agg (iU ⟨0,0,0,0⟩))++(dO x g (lM (FM n) [b])).drop (1+4)=dO {x with want:=⟨0,0,0,0⟩} g (lM (FM n) [b]):=rfl;rw[e2]at s1;obtain⟨H1,e1⟩:∃X,X=H.set p (OR (dO {x with want:=⟨0,0,0,0⟩} g (lM (FM n) [b])) BS):=⟨_,rfl⟩
  rw[<-e1]at s1;have a:At H1 p BS _:=e1▸h.row.set _;have s2:=a.st 5 (v:=.nilf) rfl (by simp[dO,iU]);have d:(dO {x with want:=⟨0,0,0,0⟩} g (lM (FM n) [b])).set 5 .nilf=dO {x with want:=⟨0,0,0,0⟩,au:=B5} g .nilf:=rfl;rw[d]at s2;have f:Fr (On p) H (H1.set p (OR (dO {x with want:=⟨0,0,0,0⟩,au:=B5} g .nilf) BS)):=(e1▸cI H p _:Fr (On p) H H1).trans (cI ..) λ z q=>.inl q;have bk:=h.on f;have i:dY (H1.set p (OR (dO {x with want:=⟨0,0,0,0⟩,au:=B5} g .nilf) BS)) o p {x with want:=⟨0,0,0,0⟩,au:=B5} g .nilf:=⟨a.set _,h.lg.fr f (λ z _ w(e:z=p)=>by rw[e,h.op]at w;omega) λ _ _=>rfl,rfl,h.op,rfl,h.vu,h.wu,bJ⟩
  simp only[aa,bc,qps,aw,kU h,h.bm,q,MU,c,s1,s2,lM,kh,FN];refine C3.q (son i rfl m (hb.ky bk) (j.ky bk)) λ _ r hp=>?_;simp only[aa,bc];exact eK.step h f hp
def Mw(h:dY H o p x g fv):zb M hY [.ptr p 0] H λ _ H'=>eK H o p x.begin H':=by
 refine qyk ?_;unfold So.begin
 by_cases q:x.busy=B4\/x.live=B4
 .rw [xg q];cases b:x.busy
  .have l:x.live=true:=q.resolve_left (by rw[b];simp);simp only[aa,bc,Wa,aw,kU h,h.bm,b,l];exact h.same
  .simp only[aa,bc,Wa,aw,kU h,h.bm,b];exact h.same
 .rw [qy q];have b:x.busy=false:=by cases r:x.busy;rfl;exact(q (.inl r)).elim
  have l:x.live=false:=by cases r:x.live;rfl;exact(q (.inr r)).elim
  simp only[aa,bc,Wa,aw,kU h,h.bm,b,l];refine C3.q (LL h.lg) λ _ H1 hp=>?_;have⟨o1,a,bk,i⟩:=h.log hp (λ y w=>by cases w);have⟨H2,s2,j,c⟩:=a.put 10 (v:=.int .u64 0) (y:={x with rd:=[],wr:=[],value:=0}) rfl (by decide) rfl ⟨rfl,rfl,rfl,rfl⟩ bJ;have⟨A,t,m,d⟩:=j.put 11 (v:=.int .i64 0) (y:={x with rd:=[],wr:=[],value:=0,ended:=0}) rfl (by decide) rfl ⟨rfl,rfl,rfl,rfl⟩ bJ;have⟨B,u,s,e⟩:=m.put 6 (v:=.bool B4) (y:={x with rd:=[],wr:=[],value:=0,ended:=0,busy:=B4}) rfl (by decide) rfl ⟨rfl,rfl,rfl,rfl⟩ bJ;simp only[aa,bc,aw,s2,t,u];refine C3.q (wT s 1 (k:=.wait) rfl) λ _ C hp=>?_;simp only[aa,bc];simp only[l]at hp;exact eK.after bk.own i (eK.step a ((c.trans d λ z q=>.inl q).trans e λ z q=>.inl q) hp)
def xjp(h:dY H o p x g fv)(a:Int):zb M J' [.ptr p 0,.int .i64 a] H λ _ H'=>eK H o p (x.load a) H':=by
 refine q1g ?_;unfold So.load;have A:¬(80:Int)=0:=by decide
 have u:¬(2:Int)=0:=by decide
 by_cases q:x.ready=B4/\8<=a
 .rw [xg q];have lk:=PE (M:=M) h.lg a;cases e:dy x.wr a with
  |some z =>
   rw[e]at lk;have s:fL z:=by
    rw[J5]at e;obtain⟨i,m,rfl⟩:=xr.1 e;obtain⟨c,y,j,-⟩:=pL m;rw[zt,j];exact h.wu y (zd j)
   have⟨H1,s1,c,d⟩:=h.put 10 (v:=.int .u64 z) (y:={x with value:=z}) rfl (by decide) rfl ⟨rfl,rfl,rfl,rfl⟩ s;simp only[aa,bc,TY,aw,Lv h,q.1,qv q.2,h.bm,lk,vk,vq,s1];exact h.Br d c
  |none =>
   rw[e]at lk;have⟨H1,s1,c,d⟩:=h.put 6 (v:=.bool B4) (y:={x with busy:=B4}) rfl (by decide) rfl ⟨rfl,rfl,rfl,rfl⟩ h.vu;simp only[aa,bc,TY,aw,Lv h,q.1,qv q.2,h.bm,lk,Option.getD_none,Nn,s1];refine C3.q (DF c (a:=a) (by omega)) λ _ B hp=>?_;simp only[aa,bc];exact eK.step h d hp
 .rw [qy q]
  by_cases r:x.ready=B4
  .have t:¬8<=a:=λ w=>q ⟨r,w⟩;simp only[aa,bc,TY,Lv h,r,t,u];exact h.same
  .simp only[aa,bc,TY,Lv h,qy r,A];exact h.same
def xf3(h:dY H o p x g fv)(a:Int)(j:fL v):zb M qm7 [.ptr p 0,.int .i64 a,.int .u64 v] H λ _ H'=>eK H o p (x.store a v) H':=by
 refine qyn ?_;unfold So.store;have B:¬(80:Int)=0:=by decide
 have z:¬(2:Int)=0:=by decide
 have A:¬(70:Int)=0:=by decide
 by_cases q:x.ready=B4/\8<=a
 .rw [xg q];simp only[aa,bc,P5,aw,Lv h,q.1,qv q.2,h.bm];refine C3.q (LD h.lg (a:=a) (by omega) v) λ e H1 t=>?_;rcases t with⟨l1,l2,rfl,hp⟩|⟨l1,rfl,hp⟩
  .rw [xg ⟨l1,l2⟩];have⟨o1,c,bk,d⟩:=h.log hp h.wu;have⟨H2,s2,s,m⟩:=c.put 6 (v:=.bool B4) (y:={x with busy:=B4}) rfl (by decide) rfl ⟨rfl,rfl,rfl,rfl⟩ h.vu;simp only[aa,bc,aw,A,s2];refine C3.q (oO s 2) λ _ C hp=>?_;simp only[aa,bc,P5];exact eK.after bk.own d (eK.step c m hp)
  .rw [qy l1];have hu:∀y∈fV x.wr a v,fL y.v:=λ y w=>by
    cases e:iA x.wr a with
    |none=>rw[T5 e]at w;exact(jm.1 w).elim (h.wu y) λ w=>by rw[ve.1 w];exact j
    |some i=>rw[Ua e]at w;exact(FV w).elim (h.wu y) λ w=>by rw[w];exact j
   have⟨o1,c,bk,d⟩:=h.log hp hu;simp only[aa,bc,P5];exact⟨o1,_,_,c,bk.own,d⟩
 .rw [qy q]
  by_cases r:x.ready=B4
  .have u:¬8<=a:=λ w=>q ⟨r,w⟩;simp only[aa,bc,P5,Lv h,r,u,z];exact h.same
  .simp only[aa,bc,P5,Lv h,qy r,B];exact h.same
def xdp(h:dY H o p x g fv):zb M nu [.ptr p 0] H λ _ H'=>eK H o p x.bt H':=by
 refine qwi ?_;unfold So.bt;have s:¬(80:Int)=0:=by decide
 by_cases r:x.ready=B4
 .rw [xg r];have⟨H1,s1,a,e⟩:=h.put 6 (v:=.bool B4) (y:={x with busy:=B4}) rfl (by decide) rfl ⟨rfl,rfl,rfl,rfl⟩ h.vu;simp only[aa,bc,XV,aw,mY h,r,s1,a.bm];refine C3.q (yY a.lg) λ lv H2⟨m,t,d⟩=>?_;have ln:=(aO.sl m).len;have i:=a.fr d (λ _ _ _ q=>q) λ _ _=>rfl
  by_cases q:x.wr.length=0
  .have c:((x.wr.length:Nat):Int)=0:=by omega
   rw[xg q];simp only[aa,bc,ln,qv c];refine C3.q (oO i 1) λ _ j hp=>?_;simp only[aa,bc];exact eK.step h e (eK.pre d (λ _ _=>rfl) hp)
  .have c:¬((x.wr.length:Nat):Int)=0:=by omega
   rw[qy q];simp only[aa,bc,XV,ln,c];refine C3.q (I6 i) λ _ j hp=>?_;simp only[aa,bc];exact eK.step h e (eK.pre d (λ _ _=>rfl) hp)
 .rw [qy r];simp only[aa,bc,XV,mY h,qy r,s];exact h.same
def xjs(h:dY H o p x g fv):zb M qph [.ptr p 0] H λ _ H'=>eK H o p x.CY H':=by
 refine q1h ?_;unfold So.CY;have d:¬(80:Int)=0:=by decide
 by_cases r:x.ready=B4
 .rw [xg r];have⟨H1,s1,c,a⟩:=h.put 6 (v:=.bool B4) (y:={x with busy:=B4}) rfl (by decide) rfl ⟨rfl,rfl,rfl,rfl⟩ h.vu;simp only[aa,bc,WJ,aw,mY h,r,s1];refine C3.q (oO c 3) λ _ e hp=>?_;simp only[aa,bc,WJ];exact eK.step h a hp
 .rw [qy r];simp only[aa,bc,WJ,mY h,qy r,d];exact h.same
end
end Go.Am
namespace Go.Am
open Lang Go.Proofs
variable{M:ak}[MK M]
def cQ(c:Co)(f l sp:Nat)(cv rv ov pv:AV):List AV:=[.int .i64 c.id,.int .i64 c.lines,cv,.ptr f 0,.ptr l 0,.ptr sp 0,.int .i64 c.ph,.int .i64 c.want.kind,.int .i64 c.want.au,.int .i64 c.want.pG,.int .u64 c.want.value,.int .u64 c.want.addr,.int .u64 c.seq,rv,.int .i64 c.done,.bool c.wrote,.bool c.held,.bool c.said,.int .i64 c.blocks,.int .i64 c.oU,.bool c.halted,.bool c.xV,ov,pv]
def tj(ps:List Pr):Prop:=∀i x,ps[i]? = B1 x->iA ps x.a=B1 i
structure JR(c:Co)(k:Nat):Prop where
 id:0<=c.id
 l2:2<=c.lines
 l64:c.lines<=64
 cl:c.code.length<=1024
 ru:∀y∈c.aU,fL y.v
 rl:c.aU.length<=k
 d0:0<=c.done
 wu:fL c.want.addr
 K7:tj c.aU
structure dU(H:ar)(o:Nat->Nat)(p f l sp:Nat)(cv rv ov pv:AV)(c:Co)(os:List fk)(k:Nat):Prop where
 row:At H p Gl (cQ c f l sp cv rv ov pv)
 fi:qD H o f c.fi
 la:lX H l c.la
 so:∃g fv,dY H o sp c.so g fv
 cd:bI gn 5 H cv c.code
 rd:BW H rv c.aU
 ou:aO fk.enc jr 9 H ov os
 op:o p=1
 of:o f=2
 ol:o l=3
 qB:∀z,aM rv z->o z=5
 qY:∀z,aM ov z->o z=6
 mS:c.code≠[]->aE cv<H.au/\o (aE cv)=7
 FR:aD pv=B4
 w:JR c k
section
variable{H H':ar}{o o':Nat->Nat}{p f l sp k k':Nat}{cv rv ov pv:AV}{c d:Co}{os os':List fk}
def Jk{α:Type}{enc:α->List AV}{size:Nat}{W:Nat->Prop}{lv:AV}{xs:List α}(h:bI enc size H lv xs)(a:Fr W H H')(hw:xs≠[] -> ¬W (aE lv)):bI enc size H' lv xs:=by
 cases xs with
 |nil=>exact Sl.fr h a (.inl rfl)
 |cons y l=>exact Sl.fr h a (.inr (hw (by simp)))
def dU._U{W:Nat->Prop}(h:dU H o p f l sp cv rv ov pv c os k)(a:Fr W H H')(hw:∀z,z<H.au->o z≠0->o z≠4 -> ¬W z)(ho:∀z,z<H.au->o' z=o z)(hk:k<=k'):dU H' o' p f l sp cv rv ov pv c os k':=by
 have⟨g,fv,hs⟩:=h.so;have r:=λ z(q:aM rv z)=>Own.lt h.rd z q;have u:=λ z(q:aM ov z)=>Own.lt h.ou z q;exact⟨h.row.fr a (hw p h.row.2 (by rw[h.op];decide) (by rw[h.op];decide)),h.fi.fr a h.of (λ z q e=>hw z q (by omega) (by omega)) ho,h.la.fr a (hw l h.la.at'.2 (by rw[h.ol];decide) (by rw[h.ol];decide)),⟨g,fv,hs.fr a (λ z q e=>hw z q (by omega) (by omega)) ho⟩,
  Jk h.cd a λ e=>hw _ (h.mS e).1 (by rw[(h.mS e).2];decide) (by rw[(h.mS e).2];decide),Own.fr h.rd a λ z q=>hw z (r z q) (by rw[h.qB z q];decide) (by rw[h.qB z q];decide),Own.fr h.ou a λ z q=>hw z (u z q) (by rw[h.qY z q];decide) (by rw[h.qY z q];decide),
  (ho p h.row.2).trans h.op,(ho f (by obtain⟨pv,q,-⟩:=h.fi.at';exact q.2)).trans h.of,(ho l h.la.at'.2).trans h.ol,λ z q=>(ho z (r z q)).trans (h.qB z q),λ z q=>(ho z (u z q)).trans (h.qY z q),λ e=>⟨qn (h.mS e).1 a.au,(ho _ (h.mS e).1).trans (h.mS e).2⟩,h.FR,
  {h.w with rl:=xx h.w.rl hk}⟩
def dU.fr{W:Nat->Prop}(h:dU H o p f l sp cv rv ov pv c os k)(a:Fr W H H')(hw:∀z,z<H.au->o z≠0 -> ¬W z)(ho:∀z,z<H.au->o' z=o z)(hk:k<=k'):dU H' o' p f l sp cv rv ov pv c os k':=h._U a (λ z q r _=>hw z q r) ho hk
def hO(H:ar)(o:Nat->Nat)(p f l sp:Nat)(cv pv:AV)(c:Co)(os:List fk)(k:Nat)(H':ar):Prop:=∃o' rv ov,dU H' o' p f l sp cv rv ov pv c os k/\(∀z,z<H.au->o' z=o z)/\Fr (λ z=>o z≠0) H H'
def dU.bm(h:dU H o p f l sp cv rv ov pv c os k):Op.ae [.ptr p 0] H=B1 (.int .i64 c.id)/\Op.ae [.ptr p 1] H=B1 (.int .i64 c.lines)/\Op.ae [.ptr p 2] H=B1 cv/\Op.ae [.ptr p 3] H=B1 (.ptr f 0)/\Op.ae [.ptr p 4] H=B1 (.ptr l 0)/\Op.ae [.ptr p 5] H=B1 (.ptr sp 0)/\Op.ae [.ptr p 6] H=B1 (.int .i64 c.ph)/\Op.ae [.ptr p 7] H=B1 (.int .i64 c.want.kind)/\Op.ae [.ptr p 12] H=B1 (.int .u64 c.seq) /\
 Op.ae [.ptr p 13] H=B1 rv/\Op.ae [.ptr p 14] H=B1 (.int .i64 c.done)/\Op.ae [.ptr p 15] H=B1 (.bool c.wrote)/\Op.ae [.ptr p 16] H=B1 (.bool c.held)/\Op.ae [.ptr p 17] H=B1 (.bool c.said)/\Op.ae [.ptr p 18] H=B1 (.int .i64 c.blocks)/\Op.ae [.ptr p 19] H=B1 (.int .i64 c.oU)/\Op.ae [.ptr p 20] H=B1 (.bool c.halted)/\Op.ae [.ptr p 21] H=B1 (.bool c.xV)/\Op.ae [.ptr p 22] H=B1 ov/\Op.ae [.ptr p 23] H=B1 pv/\Op.aq 5 [.ptr p 7] H=B1 (.agg (bj c.want)) :=
 ⟨h.row.ld 0,h.row.ld 1,h.row.ld 2,h.row.ld 3,h.row.ld 4,h.row.ld 5,h.row.ld 6,h.row.ld 7,h.row.ld 12,h.row.ld 13,h.row.ld 14,h.row.ld 15,h.row.ld 16,h.row.ld 17,h.row.ld 18,h.row.ld 19,h.row.ld 20,h.row.ld 21,h.row.ld 22,h.row.ld 23,h.row.eJ (k:=7) (n:=5) (by simp[cQ])⟩
def dU.np(h:dU H o p f l sp cv rv ov pv c os k):∀z,o z≠1 -> ¬On p z:=λ z e(w:z=p)=>e (by rw[w];exact h.op)
def dU.cell(h:dU H o p f l sp cv rv ov pv c os k){rv' ov' pv':AV}(hs:d.fi=c.fi/\d.la=c.la/\d.so=c.so/\d.code=c.code)(hr:BW H rv' d.aU /\ ∀z,aM rv' z->o z=5)(hu:aO fk.enc jr 9 H ov' os' /\ ∀z,aM ov' z->o z=6)(hp:aD pv'=B4)(hw:JR d k') :
 dU (H.set p (OR (cQ d f l sp cv rv' ov' pv') Gl)) o p f l sp cv rv' ov' pv' d os' k'/\Fr (On p) H (H.set p (OR (cQ d f l sp cv rv' ov' pv') Gl)):=by
 have a:Fr (On p) H (H.set p (OR (cQ d f l sp cv rv' ov' pv') Gl)):=cI ..;have⟨g,fv,b⟩:=h.so;have⟨e1,e2,j,i⟩:=hs;refine⟨⟨h.row.set _,?_,?_,⟨g,fv,?_⟩,?_,Own.fr hr.1 a λ z q=>h.np z (by rw[hr.2 z q];decide),Own.fr hu.1 a λ z q=>h.np z (by rw[hu.2 z q];decide),h.op,h.of,h.ol,hr.2,hu.2,?_,hp,hw⟩,a⟩
 .rw [e1];exact h.fi.fr a h.of (λ z q e=>h.np z (by omega)) λ _ _=>rfl
 .rw [e2];exact h.la.fr a (h.np l (by rw[h.ol];decide))
 .rw [j];exact b.fr a (λ z q e=>h.np z (by omega)) λ _ _=>rfl
 .rw [i];exact Jk h.cd a λ e=>h.np _ (by rw[(h.mS e).2];decide)
 .rw [i];exact h.mS
theorem dU.put(h:dU H o p f l sp cv rv ov pv c os k)(i:Nat){v:AV}(d:Co)(a:aD v=B4)(b:i<24)(he:(cQ c f l sp cv rv ov pv).set i v=cQ d f l sp cv rv ov pv)(hs:d.fi=c.fi/\d.la=c.la/\d.so=c.so/\d.code=c.code)(hr:d.aU=c.aU)(hw:JR d k) :
 ∃H',Op.store 1 [.ptr p i,v] H=B1 (.undef,H')/\dU H' o p f l sp cv rv ov pv d os k/\Fr (On p) H H':=by
 have⟨e,g⟩:=h.cell (d:=d) hs (rv':=rv) ⟨by rw[hr];exact h.rd,h.qB⟩ ⟨h.ou,h.qY⟩ h.FR hw;exact⟨_,by rw[h.row.st i a b,he],e,g⟩
def dU.Br(h:dU H o p f l sp cv rv ov pv c os k){H1:ar}(a:Fr (On p) H H1){e b:AV}(g:dU H1 o p f l sp cv e b pv d os' k'):hO H o p f l sp cv pv d os' k' H1:=⟨o,e,b,g,λ _ _=>rfl,a.mono λ z _(q:z=p)=>by rw[q,h.op];decide⟩
def dU.G0(h:dU H o p f l sp cv rv ov pv c os k){y:Fi}(hp:KA H o f y H'):hO H o p f l sp cv pv {c with fi:=y} os k H':=by
 have⟨i,a⟩:=hp;have ho:∀z,z<H.au->aQ o H.au 2 z=o z:=λ z q=>ww q;have b:∀z,o z≠2 -> ¬On f z:=λ z e(w:z=f)=>e (by rw[w];exact h.of);have⟨g,fv,hs⟩:=h.so;have r:=λ z(q:aM rv z)=>Own.lt h.rd z q;have u:=λ z(q:aM ov z)=>Own.lt h.ou z q;refine⟨aQ o H.au 2,rv,ov,⟨h.row.fr a (b p (by rw[h.op];decide)),i,h.la.fr a (b l (by rw[h.ol];decide)),⟨g,fv,hs.fr a (λ z q e=>b z (by omega)) ho⟩,Jk h.cd a λ e=>b _ (by rw[(h.mS e).2];decide),Own.fr h.rd a λ z q=>b z (by rw[h.qB z q];decide),Own.fr h.ou a λ z q=>b z (by rw[h.qY z q];decide),
  (ho p h.row.2).trans h.op,(ho f (by obtain⟨pv,q,-⟩:=h.fi.at';exact q.2)).trans h.of,(ho l h.la.at'.2).trans h.ol,λ z q=>(ho z (r z q)).trans (h.qB z q),λ z q=>(ho z (u z q)).trans (h.qY z q),λ e=>⟨qn (h.mS e).1 a.au,(ho _ (h.mS e).1).trans (h.mS e).2⟩,h.FR,{h.w with}⟩,ho,a.mono λ z _(q:z=f)=>by rw[q,h.of];decide⟩
def dU.Ut(h:dU H o p f l sp cv rv ov pv c os k){y:La}(hp:Ry H l y H'):hO H o p f l sp cv pv {c with la:=y} os k H':=by
 have⟨b,a⟩:=hp;have nl:∀z,o z≠3 -> ¬On l z:=λ z e(w:z=l)=>e (by rw[w];exact h.ol);have⟨g,fv,hs⟩:=h.so;exact⟨o,rv,ov,⟨h.row.fr a (nl p (by rw[h.op];decide)),h.fi.fr a h.of (λ z q e=>nl z (by omega)) λ _ _=>rfl,b,⟨g,fv,hs.fr a (λ z q e=>nl z (by omega)) λ _ _=>rfl⟩,Jk h.cd a λ e=>nl _ (by rw[(h.mS e).2];decide),Own.fr h.rd a λ z q=>nl z (by rw[h.qB z q];decide),Own.fr h.ou a λ z q=>nl z (by rw[h.qY z q];decide),
  h.op,h.of,h.ol,h.qB,h.qY,λ e=>⟨qn (h.mS e).1 a.au,(h.mS e).2⟩,h.FR,{h.w with}⟩,λ _ _=>rfl,a.mono λ z _(q:z=l)=>by rw[q,h.ol];decide⟩
def dU.MY(h:dU H o p f l sp cv rv ov pv c os k){y:So}(hp:eK H o sp y H'):hO H o p f l sp cv pv {c with so:=y} os k H':=by
 have⟨o',g,fv,b,ho,a⟩:=hp;have nl:∀z,o z<8 -> ¬(8<=o z):=λ z e w=>by omega
 have r:=λ z(q:aM rv z)=>Own.lt h.rd z q;have u:=λ z(q:aM ov z)=>Own.lt h.ou z q;exact⟨o',rv,ov,⟨h.row.fr a (nl p (by rw[h.op];decide)),h.fi.fr a h.of (λ z q e=>nl z (by omega)) ho,h.la.fr a (nl l (by rw[h.ol];decide)),⟨g,fv,b⟩,Jk h.cd a λ e=>nl _ (by rw[(h.mS e).2];decide),Own.fr h.rd a λ z q=>nl z (by rw[h.qB z q];decide),Own.fr h.ou a λ z q=>nl z (by rw[h.qY z q];decide),
  (ho p h.row.2).trans h.op,(ho f (by obtain⟨pv,q,-⟩:=h.fi.at';exact q.2)).trans h.of,(ho l h.la.at'.2).trans h.ol,λ z q=>(ho z (r z q)).trans (h.qB z q),λ z q=>(ho z (u z q)).trans (h.qY z q),λ e=>⟨qn (h.mS e).1 a.au,(ho _ (h.mS e).1).trans (h.mS e).2⟩,h.FR,{h.w with}⟩,ho,a.mono λ z _(q:8<=o z)=>by omega⟩
def JR.mono(h:JR c k)(hk:k<=k'):JR c k':={h with rl:=xx h.rl hk}
end
end Go.Am
namespace Go.Am
open Lang Go.Proofs
variable{M:ak}[MK M]
section
variable{H H1 H':ar}{o o1:Nat->Nat}{p f l sp k k':Nat}{cv rv ov pv:AV}{c d:Co}{os os':List fk}{s t:CS}
def dU.em(h:dU H o p f l sp cv rv ov pv c os k)(a:Fr Em H H'):dU H' o p f l sp cv rv ov pv c os k:=h.fr a (λ _ _ _ q=>q) (λ _ _=>rfl) (qm _)
def dU.same(h:dU H o p f l sp cv rv ov pv c os k):hO H o p f l sp cv pv c os k H:=⟨o,rv,ov,h,λ _ _=>rfl,Fr.refl _⟩
def hO.then(a:hO H o p f l sp cv pv c os k H1)(b:∀o1 g e,dU H1 o1 p f l sp cv g e pv c os k->hO H1 o1 p f l sp cv pv d os' k' H'):hO H o p f l sp cv pv d os' k' H':=by
 have⟨o1,g,e,n,j,m⟩:=a;have⟨o2,i,h,r,u,v⟩:=b _ _ _ n;refine⟨o2,i,h,r,λ z q=>(u z (qn q m.au)).trans (j z q),m.trans v λ z q=>?_⟩;rcases xz z H.au with w|w
 .exact .inl (by rw[<-j z w];exact q)
 .exact .inr w
theorem hO.pre(a:Fr Em H H1)(b:hO H1 o p f l sp cv pv d os' k' H'):hO H o p f l sp cv pv d os' k' H':=by
 have⟨o2,g,e,h,i,j⟩:=b;exact⟨o2,g,e,h,λ z q=>i z (qn q a.au),(a.mono λ _ _ q=>q.elim).trans j λ z q=>.inl q⟩
def Td(x:fk):x.enc.length=9:=rfl
def Mb:fk:=⟨0,0,0,0,0,0,0,0,0⟩
def Vv:[AV.int .i64 0,.int .i64 0,.int .i64 0,.int .i64 0,.int .i64 0,.int .i64 0,.int .i64 0,.int .u64 0,.int .i64 0]=Mb.enc:=rfl
def Bo(h:dU H o p f l sp cv rv ov pv c os k):∀K,C3 M B4 (.func ZF) [.ptr p 0] H K=K B4 (.bool B2) H:=by
 refine dC (qpm ?_);simp only[aa,bc,S1,aw,h.bm]
def FE(h:dU H o p f l sp cv rv ov pv s.c s.o k)(hl:s.o.length<=1000)(kd a v cd:Int):zb M WL [.ptr p 0,.int .i64 kd,.int .i64 a,.int .u64 v,.int .i64 cd] H λ _ H'=>hO H o p f l sp cv pv (s.tell kd a v cd).c (s.tell kd a v cd).o k H':=by
 refine qz7 ?_;obtain⟨H1,e1,f1,-,-⟩:=bZ H (OR Mb.enc jr);have O:At H1 H.au jr _:=e1▸At.new H _ _;obtain⟨e,he⟩:∃e:fk,e=⟨kd,0,s.c.id,-1,0,0,a,v,cd⟩:=⟨_,rfl⟩
 have R:Op.build Mb.enc [(0,1),(2,1),(3,1),(6,1),(7,1),(8,1)] [.int .i64 kd,.int .i64 s.c.id,.int .i64 (-1),.int .i64 a,.int .u64 v,.int .i64 cd]=B1 (.agg e.enc):=by rw[he];rfl
 have s1:=O.fK (k:=0) (n:=9) (v:=.agg e.enc) rfl (by simp[fk.len]) rfl;have C:Mb.enc.take 0++AV.cells (.agg e.enc)++Mb.enc.drop (0+9)=e.enc:=by rw[zo];rfl
 rw[C]at s1;obtain⟨G,e2⟩:∃X,X=H1.set H.au (OR e.enc jr):=⟨_,rfl⟩
 rw[<-e2]at s1;have I:At G H.au jr e.enc:=e2▸O.set _;have J:Fr Em H G:=e2▸f1.set (.inr (qm _)) _;have B:=h.em J;have n2:H.au<G.au:=I.2
 -- the list
 have app:∀{j:ar}(x:fk),Fr Em H j -> ∀{K:bE->(Nat->AV)->Bool->AV->ar->Prop}{m:Bool},(∀r u y,Op.store 1 [.ptr p 22,r] u=B1 (.undef,y)->hO H o p f l sp cv pv s.c (s.o ++ [x]) k y->K (.row (AV.cells (.agg x.enc)) jr (0,0) B4) (Op.sliceTo 1 1) m r u) ->
  jF m (Op.buildSlice jr 1 Mb.enc [(0,9)] [.agg x.enc]) λ g o mk=>jF g (Op.append jr 9 72 [ov,mk j.au] (j.alloc o)) (K o mk):=λ{j}x A{K m}hk=>by
  have b:=h.em A;refine aO.oi b.ou (x:=.agg x.enc) (a:=x) rfl rfl rfl rfl (by decide) (by omega) (by omega) λ r u W L hz=>?_;have one:aD r=true:=Sl.one (Own.sl W);have lu:=λ z(q:aM ov z)=>Own.lt b.ou z q
  -- new rows are of the told list
  have ho:∀z,z<j.au->aQ o j.au 6 z=o z:=λ z q=>ww q;have V:∀z,o z≠6 -> ¬aM ov z:=λ z q w=>q (b.qY z w);have f34:Fr (λ z=>o z≠0) j u:=L.mono λ z _ q=>by rw[b.qY z q];decide
  have⟨g,fv,hs⟩:=b.so;have lr:=λ z(q:aM rv z)=>Own.lt b.rd z q;have Y:At u p Gl _:=b.row.fr L (V p (by rw[b.op];decide));have st:=Y.st 22 one (by simp[cQ]);have e5:(cQ s.c f l sp cv rv ov pv).set 22 r=cQ s.c f l sp cv rv r pv:=rfl;rw[e5]at st;obtain⟨y,N⟩:∃X,X=u.set p (OR (cQ s.c f l sp cv rv r pv) Gl):=⟨_,rfl⟩
  rw[<-N]at st;have T:Fr (On p) u y:=N▸cI ..;have i:Fr (λ z=>aM ov z\/z=p) j y:=(L.mono λ z _ q=>.inl q).trans T λ z q=>.inl (.inr q);have nw:∀z,o z≠6->o z≠1 -> ¬(aM ov z\/z=p):=λ z e6 e1 w=>w.elim (V z e6) λ w=>e1 (by rw[w];exact b.op);have no:∀z,aM r z->aQ o j.au 6 z=6:=λ z q=>(hz z q).elim (λ w=>(ho z (lu z w)).trans (b.qY z w)) λ w=>ny w;refine hk r u y st (hO.pre A ⟨aQ o j.au 6,rv,r,⟨N▸Y.set _,b.fi.fr i b.of (λ z q e=>nw z (by omega) (by omega)) ho,b.la.fr i (nw l (by rw[b.ol];decide) (by rw[b.ol];decide)),⟨g,fv,hs.fr i (λ z q e=>nw z (by omega) (by omega)) ho⟩,Jk b.cd i λ e=>nw _ (by rw[(b.mS e).2];decide) (by rw[(b.mS e).2];decide),Own.fr b.rd i λ z q=>nw z (by rw[b.qB z q];decide) (by rw[b.qB z q];decide),Own.fr W T λ z q(w:z=p)=>?_,
   (ho p b.row.2).trans b.op,(ho f (by obtain⟨pv,q,-⟩:=b.fi.at';exact q.2)).trans b.of,(ho l b.la.at'.2).trans b.ol,λ z q=>(ho z (lr z q)).trans (b.qB z q),no,λ e=>⟨qn (b.mS e).1 i.au,(ho _ (b.mS e).1).trans (b.mS e).2⟩,b.FR,b.w⟩,ho,i.mono λ z _ q=>q.elim (λ q=>by rw[b.qY z q];decide) λ q=>by rw[q,b.op];decide⟩)
  have:=no z q;rw[w,ho p b.row.2,b.op]at this;omega
 have ld:∀{j:ar}{x:fk},At j H.au jr x.enc->Op.aq 9 [.ptr H.au 0] j=B1 (.agg x.enc):=λ a=>a.eJ (k:=0) (n:=9) (by simp[fk.len])
 by_cases q:s.c.la.lane=0
 .have ev:CS.Mz s.c kd a v cd=e:=by rw[he];unfold CS.Mz;rw[xg q]
  unfold CS.tell;rw[ev];simp only[aa,bc,Wi,aw,Vv,<-e1,h.bm,R,s1,B.bm,i9 B.la,qv q,ld I];refine app e J λ r u y st hp=>?_;simp only[aa,bc,st];exact hp
 .obtain ⟨C,D⟩:∃x:fk,x=⟨kd,0,s.c.id,aj .i64 (s.c.blocks-1),0,0,a,v,cd⟩:=⟨_,rfl⟩
  obtain⟨F,E⟩:∃x:fk,x=⟨kd,0,s.c.id,aj .i64 (s.c.blocks-1),s.c.la.tries,0,a,v,cd⟩:=⟨_,rfl⟩
  have ev:CS.Mz s.c kd a v cd=⟨kd,0,s.c.id,aj .i64 (s.c.blocks-1),s.c.la.tries,s.c.la.lane,a,v,cd⟩:=by unfold CS.Mz;rw[qy q]
  unfold CS.tell;rw[ev];simp only[aa,bc,Wi,aw,Vv,<-e1,h.bm,R,s1,B.bm,i9 B.la,q];refine C3.q (XG B.la) λ w j⟨hw,A⟩=>?_;subst hw;have b:=B.em A;have P:=I.em A;have Z:=P.st 3 (v:=.int .i64 (aj .i64 (s.c.blocks-1))) rfl (by simp[fk.len]);have y1:e.enc.set 3 (.int .i64 (aj .i64 (s.c.blocks-1)))=C.enc:=by rw[he,D];rfl
  rw[y1]at Z;have Q:=P.set C.enc;have t2:=Q.st 4 (v:=.int .i64 s.c.la.tries) rfl (by simp[fk.len]);have y2:C.enc.set 4 (.int .i64 s.c.la.tries)=F.enc:=by rw[D,E];rfl
  rw[y2]at t2;have S:=Q.set F.enc;have t3:=S.st 5 (v:=.int .i64 s.c.la.lane) rfl (by simp[fk.len]);have y3:F.enc.set 5 (.int .i64 s.c.la.lane)=fk.enc ⟨kd,0,s.c.id,aj .i64 (s.c.blocks-1),s.c.la.tries,s.c.la.lane,a,v,cd⟩:=by rw[E];rfl
  rw[y3]at t3;have d3:=S.set (fk.enc ⟨kd,0,s.c.id,aj .i64 (s.c.blocks-1),s.c.la.tries,s.c.la.lane,a,v,cd⟩);have U:Fr Em H _:=(((J.em A).set (.inr (qm _)) (OR C.enc jr)).set (.inr (qm _)) (OR F.enc jr)).set (.inr (qm _)) (OR (fk.enc ⟨kd,0,s.c.id,aj .i64 (s.c.blocks-1),s.c.la.tries,s.c.la.lane,a,v,cd⟩) jr);have h6:=h.em U;simp only[aa,bc,Wi,aw,b.bm,i9 b.la,Z,t2,t3,h6.bm,ld d3];refine app _ U λ r u y st hp=>?_;simp only[aa,bc,st];exact hp
end
end Go.Am
namespace Go.Am
open Lang Go.Proofs
variable{M:ak}[MK M]
section
variable{H H1 H':ar}{o o1:Nat->Nat}{p f l sp k k':Nat}{cv rv ov pv:AV}{c d:Co}{os os':List fk}{s t:CS}
def hO.tD(a:∀z,z<H.au->o1 z=o z)(w:Fr (λ z=>o z≠0) H H1)(b:hO H1 o1 p f l sp cv pv d os' k' H'):hO H o p f l sp cv pv d os' k' H':=by
 have⟨o2,g,e,h,i,j⟩:=b;refine⟨o2,g,e,h,λ z q=>(i z (qn q w.au)).trans (a z q),w.trans j λ z q=>?_⟩;rcases xz z H.au with r|r
 .exact .inl (by rw[<-a z r];exact q)
 .exact .inr r
def dU.loc(h:dU H o p f l sp cv rv ov pv c os k)(a:Fr Em H H1)(hn:H.au<H1.au):dU H1 (aQ o H.au 0) p f l sp cv rv ov pv c os k/\(∀z,z<H.au->aQ o H.au 0 z=o z)/\aQ o H.au 0 H.au=0 :=
 ⟨h.fr a (λ _ _ _ q=>q) (λ z q=>ww q) (qm _),λ z q=>ww q,ny (qm _)⟩
def dU.nN(h:dU H o p f l sp cv rv ov pv c os k){H1:ar}(a:Fr (On p) H H1):Fr (λ z=>o z≠0) H H1:=a.mono λ z _(q:z=p)=>by rw[q,h.op];decide
def dU.one(h:dU H o p f l sp cv rv ov pv c os k){H1:ar}(a:Fr (On p) H H1)(b:hO H1 o p f l sp cv pv d os' k' H'):hO H o p f l sp cv pv d os' k' H':=hO.tD (λ _ _=>rfl) (h.nN a) b
def KS(h:dU H o p f l sp cv rv ov pv s.c s.o k)(n:Int):zb M UZ [.ptr p 0,.int .i64 n] H λ _ H'=>hO H o p f l sp cv pv (s.fN n).c (s.fN n).o k H':=by
 refine qz1 ?_;simp only[aa,bc,qz2,aw,h.bm];refine C3.q (JI h.fi n) λ _ H1 hp=>?_;have⟨o1,m,j,a,b,e⟩:=h.G0 hp;have⟨r,s2,i,g⟩:=a.put 19 (v:=.int .i64 (aj .i64 (s.c.oU+1))) (s.fN n).c rfl (by decide) rfl ⟨rfl,rfl,rfl,rfl⟩ rfl {a.w with};simp only[aa,bc,aw,a.bm,s2];exact hO.tD b e (a.Br g i)
def _J(h:dU H o p f l sp cv rv ov pv s.c s.o k):zb M qmx [.ptr p 0] H λ _ H'=>hO H o p f l sp cv pv s.leave.c s.leave.o k H':=by
 refine qxf ?_;simp only[aa,bc,qxg,aw,h.bm];refine C3.q (Ki h.la) λ _ H1 hp=>?_;have⟨o1,z,x,a,g,j⟩:=h.Ut hp;simp only[aa,bc,aw,a.bm];refine C3.q (QR a.fi) λ _ D hp=>?_;have⟨o2,A,y,b,i,m⟩:=a.G0 hp;have⟨E,B,e,n⟩:=b.put 16 (v:=.bool B2) {s.c with la:=s.c.la.leave,fi:=s.c.fi.drop,held:=B2} rfl (by decide) rfl ⟨rfl,rfl,rfl,rfl⟩ rfl {b.w with};have⟨F,C,u,r⟩:=e.put 6 (v:=.int .i64 0) s.leave.c rfl (by decide) rfl ⟨rfl,rfl,rfl,rfl⟩ rfl {e.w with};simp only[aa,bc,aw,B,C];exact hO.tD g j (hO.tD i m (b.one n (e.Br r u)))
def q3z(h:dU H o p f l sp cv rv ov pv s.c s.o k)(hl:s.o.length<=1000):zb M _M [.ptr p 0] H λ _ H'=>hO H o p f l sp cv pv s.aC.c s.aC.o k H':=by
 refine qqy ?_;have fin:∀{H1:ar}{o1:Nat->Nat}{b a:AV}{t:CS},dU H1 o1 p f l sp cv b a pv t.c t.o k -> ∃r e,Op.store 1 [.ptr p 17,.bool B4] H1=B1 (.undef,r)/\Op.store 1 [.ptr p 16,.bool B2] r=B1 (.undef,e)/\hO H1 o1 p f l sp cv pv {t.c with said:=B4,held:=B2} t.o k e:=λ{H1 o1 b a t}g=>by
  have⟨e,i,n,y⟩:=g.put 17 (v:=.bool B4) {t.c with said:=B4} rfl (by decide) rfl ⟨rfl,rfl,rfl,rfl⟩ rfl {g.w with};have⟨m,j,A,z⟩:=n.put 16 (v:=.bool B2) {t.c with said:=B4,held:=B2} rfl (by decide) rfl ⟨rfl,rfl,rfl,rfl⟩ rfl {n.w with};exact⟨e,m,i,j,g.one y (n.Br z A)⟩
 unfold CS.aC;cases q:s.c.said with
 |true =>
  have⟨e,m,i,j,hp⟩:=fin h;simp only[aa,bc,Zq,aw,h.bm,q,i,j];exact hp
 |false =>
  simp only[aa,bc,Zq,aw,h.bm,q,ja];refine C3.q (FE h hl 5 0 0 0) λ _ H1⟨o1,b,a,g,u,x⟩=>?_;have⟨e,m,i,j,hp⟩:=fin (t:=s.tell 5 0 0 0) g;simp only[aa,bc,Zq,aw,i,j];exact hO.tD u x hp
def xep(s:CS):s.aC.o.length<=s.o.length+1:=by
 unfold CS.aC;simp only;split
 .omega
 .show (s.o ++ [_]).length<=_;rw[xe];simp
def xbu(s:CS):s.aC.leave.c.fi.pc=s.c.fi.pc:=by
 unfold CS.aC;simp only;split<;>rfl
def Rr(h:dU H o p f l sp cv rv ov pv s.c s.o k)(hl:s.o.length<=1000):zb M n_ [.ptr p 0] H λ _ H'=>hO H o p f l sp cv pv s.dc.c s.dc.o k H':=by
 refine qtv ?_;simp only[aa,bc,qtw];refine C3.q (q3z h hl) λ _ H1⟨o1,C,z,x,g,m⟩=>?_;simp only[aa,bc];refine C3.q (_J x) λ _ G⟨o2,D,A,a,i,n⟩=>?_;have e:=xbu s;simp only[aa,bc,aw,a.bm,fpc a.fi,e];refine C3.q (JI a.fi (aj .i64 (s.c.fi.pc+1))) λ _ I hp=>?_;have⟨o3,E,B,b,j,r⟩:=a.G0 hp;have⟨J,F,y,u⟩:=b.put 19 (v:=.int .i64 (aj .i64 (s.aC.leave.c.oU+1))) s.dc.c rfl (by decide) rfl ⟨rfl,rfl,rfl,rfl⟩ rfl {b.w with};simp only[aa,bc,aw,b.bm,F];exact hO.tD g m (hO.tD i n (hO.tD j r (b.Br u y)))
def Z5(h:dU H o p f l sp cv rv ov pv s.c s.o k)(hl:s.o.length<=1000)(cd:Int):zb M XO [.ptr p 0,.int .i64 cd] H λ _ H'=>hO H o p f l sp cv pv (s.abort cd).c (s.abort cd).o k H':=by
 refine qxa ?_;simp only[aa,bc,qxb];refine C3.q (FE h hl 6 0 0 cd) λ _ H1⟨o1,B,y,a,g,m⟩=>?_;simp only[aa,bc,aw,a.bm];refine C3.q (_G a.fi) λ _ F hp=>?_;have⟨o2,C,z,b,i,n⟩:=a.G0 hp;simp only[aa,bc,aw,b.bm];refine C3.q (MP b.la cd) λ _ G hp=>?_;have⟨o3,D,A,e,j,r⟩:=b.Ut hp;have⟨I,E,x,u⟩:=e.put 6 (v:=.int .i64 1) (s.abort cd).c rfl (by decide) rfl ⟨rfl,rfl,rfl,rfl⟩ rfl {e.w with};simp only[aa,bc,aw,E];exact hO.tD g m (hO.tD i n (hO.tD j r (e.Br u x)))
def VZ(h:dU H o p f l sp cv rv ov pv s.c s.o k)(hl:s.o.length<=1000):zb M qlv [.ptr p 0] H λ _ H'=>hO H o p f l sp cv pv s.breaks.c s.breaks.o k H':=by
 refine qvj ?_;simp only[aa,bc,qvk];refine C3.q (FE h hl 6 0 0 7) λ _ H1⟨o1,D,A,a,g,m⟩=>?_;simp only[aa,bc,aw,a.bm];refine C3.q (_G a.fi) λ _ J hp=>?_;have⟨o2,E,B,y,i,n⟩:=a.G0 hp;simp only[aa,bc];refine C3.q (_J (s:=(s.tell 6 0 0 7).fi .restore) y) λ _ K⟨o3,F,C,b,j,r⟩=>?_;have⟨L,G,e,u⟩:=b.put 20 (v:=.bool B4) {((s.tell 6 0 0 7).fi .restore).leave.c with halted:=B4} rfl (by decide) rfl ⟨rfl,rfl,rfl,rfl⟩ rfl {b.w with};have⟨N,I,z,x⟩:=e.put 21 (v:=.bool B4) s.breaks.c rfl (by decide) rfl ⟨rfl,rfl,rfl,rfl⟩ rfl {e.w with};simp only[aa,bc,aw,G,I];exact hO.tD g m (hO.tD i n (hO.tD j r (b.one u (e.Br x z))))
def P1(h:dU H o p f l sp cv rv ov pv c os k){u:Int}(hu:fL u):∀K,C3 M B4 (.func N') [.ptr p 0,.int .u64 u] H K=K B4 (.tuple [.int .i64 (if CS.Ik c u=B4 then 8+u else 0),.bool (CS.Ik c u)]) H:=by
 refine dC (q62 ?_);have g:=h.w.l2;have i:=h.w.l64;have w1:aj .i64 (c.lines-1)=c.lines-1:=jc (by omega) (by omega);have w2:aj .i64 ((c.lines-1)*8)=(c.lines-1)*8:=jc (by omega) (by omega);have b:aj .u64 ((c.lines-1)*8)=(c.lines-1)*8:=xho (by omega) (by omega);unfold CS.Ik
 by_cases q:(c.lines-1)*8<=u
 .have a:¬u<(c.lines-1)*8:=I3.2 q;simp only[aa,bc,C',aw,h.bm,w1,w2,b,qv q,a,ja]
 .have a:u<(c.lines-1)*8:=Int.not_le.1 q;have w4:aj .i64 u=u:=jc (by have:=hu.1;omega) (by omega);have e:aj .i64 (8+u)=8+u:=jc (by have:=hu.1;omega) (by omega);simp only[aa,bc,C',aw,h.bm,w1,w2,b,q,qv a,w4,e]
def Ue(h:dU H o p f l sp cv rv ov pv s.c s.o k)(hl:s.o.length<=1000)(e:pI)(hu:fL e.addr){v:Int}(R:fL v):zb M ZC [.ptr p 0,.agg (bj e),.int .u64 v] H λ _ H'=>hO H o p f l sp cv pv (s.fh e v).c (s.fh e v).o k H':=by
 refine qvn ?_;obtain⟨H1,e1,G,-,-⟩:=bZ H (OR (bj e) jk);have y:At H1 H.au jk _:=e1▸At.new H _ _;have⟨n,N,n1⟩:=h.loc G (show H.au<H1.au from y.2);have l4:Op.ae [.ptr H.au 4] H1=B1 (.int .u64 e.addr):=y.ld 4;have ce:AV.cells (.agg (bj e))=bj e:=zo _;obtain⟨kd,b⟩:∃kd:Int,kd=if s.c.la.lane=0 then 7 else 2:=⟨_,rfl⟩
 obtain⟨a,ha⟩:∃a:Int,a=if CS.Ik s.c e.addr=B4 then 8+e.addr else 0:=⟨_,rfl⟩
 have m:=P1 (M:=M) n hu;rw[<-ha]at m;have main:∀{K:Bool->AV->ar->Prop},(∀w j o2 i g,dU j o2 p f l sp cv i g pv (s.tell kd a v 0).c (s.tell kd a v 0).o k->Op.ae [.ptr p 3] j=B1 (.ptr f 0)->Op.ae [.ptr H.au 2] j=B1 (.int .i64 e.pG)->(zb M Zw [.ptr f 0,.int .i64 e.pG,.int .u64 v] j λ _ u=>Op.ae [.ptr H.au 1] u=B1 (.int .i64 e.au)/\zb M UZ [.ptr p 0,.int .i64 e.au] u λ _ x=>hO H o p f l sp cv pv (s.fh e v).c (s.fh e v).o k x)->K B4 w j)->C3 M B4 (.func WL) [.ptr p 0,.int .i64 kd,.int .i64 a,.int .u64 v,.int .i64 0] H1 K:=λ hk=>by
  refine C3.q (FE n hl kd a v 0) λ w j⟨o2,i,g,r,F,I⟩=>?_;have E:=y.fr I (λ q=>q n1);have n2:o2 H.au=0:=(F _ y.2).trans n1;refine hk w j o2 i g r r.bm.2.2.2.1 (E.ld 2) ((Ky r.fi e.pG R).mono λ _ u hp=>?_);have⟨o3,T,S,Q,O,J⟩:=r.G0 hp;have L:=E.fr J (λ q=>q n2);refine⟨L.ld 1,(KS (s:=(s.tell kd a v 0).fi (·.set e.pG v)) Q e.au).mono λ _ x hp=>?_⟩;have P:s.fh e v=((s.tell kd a v 0).fi (·.set e.pG v)).fN e.au:=by rw[b,ha];rfl
  rw[P];exact hO.tD N (G.mono λ _ _ q=>q.elim) (hO.tD F I (hO.tD O J hp))
 by_cases q:s.c.la.lane=0
 .rw [xg q]at b;subst b;simp only[aa,bc,ql7,aw,ce,<-e1,l4,m,n.bm,i9 n.la,qv q];refine main λ w j o2 i g r z A B=>?_;simp only[aa,bc,aw,z,A];refine C3.q B λ _ u⟨C,D⟩=>?_;simp only[aa,bc,C];refine C3.q D λ _ x hp=>?_;simp only[aa,bc];exact hp
 .rw [qy q]at b;subst b;simp only[aa,bc,ql7,aw,ce,<-e1,l4,m,n.bm,i9 n.la,q];refine main λ w j o2 i g r z A B=>?_;simp only[aa,bc,aw,z,A];refine C3.q B λ _ u⟨C,D⟩=>?_;simp only[aa,bc,C];refine C3.q D λ _ x hp=>?_;simp only[aa,bc];exact hp
def Rg(h:dU H o p f l sp cv rv ov pv s.c s.o k)(hl:s.o.length<=1000)(kd:Int)(e:pI)(a:Int):zb M qlx [.ptr p 0,.int .i64 kd,.agg (bj e),.int .i64 a] H λ _ H'=>hO H o p f l sp cv pv (s.stored kd e a).c (s.stored kd e a).o k H':=by
 refine qvp ?_;obtain⟨H1,e1,g,-,-⟩:=bZ H (OR (bj e) jk);have b:At H1 H.au jk _:=e1▸At.new H _ _;have⟨r,m,n1⟩:=h.loc g (show H.au<H1.au from b.2);have l3:Op.ae [.ptr H.au 3] H1=B1 (.int .u64 e.value):=b.ld 3;have ce:AV.cells (.agg (bj e))=bj e:=zo _;simp only[aa,bc,qvq,ce,<-e1,l3];refine C3.q (FE r hl kd a e.value 0) λ _ j⟨o2,w,v,u,n,i⟩=>?_;have l1:Op.ae [.ptr H.au 1] j=B1 (.int .i64 e.au):=(b.fr i (λ q=>q n1)).ld 1;simp only[aa,bc,l1];refine C3.q (KS (s:=s.tell kd a e.value 0) u e.au) λ _ x hp=>?_;simp only[aa,bc];exact hO.tD m (g.mono λ _ _ q=>q.elim) (hO.tD n i hp)
end
end Go.Am
