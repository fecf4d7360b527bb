import Derived.Test.YtgjdmncoonceaaaGreatDoorAmNZf
import Derived.Test.YtgjdmncoonceaaaGreatDoorAmNZj
import Derived.Test.YtgjdmncoonceaaaGreatDoorAmNZh
set_option linter.defProp false
set_option linter.unusedVariables false
set_option linter.unusedSimpArgs false
set_option linter.unusedSectionVars false
set_option maxRecDepth 100000
open Bool renaming false→B2,true→B4
open False renaming elim→Nk
open List renaming range→N8
open Nat renaming beq→J2
open Option renaming isSome→BP,none→B5,some→B1
open Nat renaming reduceEqDiff→bc
namespace Go.Am
open Lang Go.Proofs
variable{M:ak}[MK M]
def cM(p:Pr):List AV:=[.int .i64 p.a,.int .u64 p.v]
def Cu(p:Pr):(cM p).length=2:=rfl
abbrev CR(H:ar)(v:AV)(ps:List Pr):Prop:=aT cM we 2 H v ps
def aT.pM{α:Type}{enc:α->List AV}{e size:Nat}{H:ar}{v:AV}{xs:List α}(h:aT enc e size H v xs){bytes:Nat}{zero:List AV}{x:AV}{a:α}(j:x.cells=enc a)(hs:(enc a).length=size)(q:zero.length=size)(f:aN (enc a)=B4)(k:0<size)
 (p:(xs.length+1)*bytes<=140737488355328) (i:xs.length+1<=140737488355328) {K:bF->(Nat->AV)->Bool->AV->ar->Prop} {m:Bool}
 (hk:∀d H',aT enc e size H' d (xs ++ [a])->Fr (aM v) H H'->(∀b,aM d b->aM v b\/H.au<=b)->K (.row x.cells e (0,0) B4) (Op.sliceTo 1 1) m d H') :
 i9 m (Op.buildSlice e 1 zero [(0,size)] [x]) λ g o mk=>i9 g (Op.append e size bytes [v,mk H.au] (H.alloc o)) (K o mk):=by
 refine nV h q (by rw[j];exact hs) (by rw[j];exact f) k p i λ d H' f l n=>hk d H' ?_ l n;unfold aT;rw[jr,qv]
 simpa[j]using f
def iy:List Pr->Int->Option Nat
 |[],_=>B5
 |x::r,a=>if x.a=a then B1 0 else(iy r a).map (·+1)
def Js:∀(ps:List Pr)(a:Int),dt ps a=(iy ps a).map λ i=>(ps.getD i ⟨0,0⟩).v
 |[],a=>rfl
 |x::r,a=>by
  unfold dt iy;split
  .rfl
  .rw [Js r a];cases iy r a<;>rfl
def pL:∀{ps:List Pr}{a:Int}{i:Nat},iy ps a=B1 i->i<ps.length /\ ∃x,ps[i]? = B1 x/\x.a=a
 |x::r,a,i,h=>by
  unfold iy at h;split at h
  .cases h;exact⟨Nat.zero_lt_succ _,x,rfl,by assumption⟩
  .obtain ⟨j,f,rfl⟩:=xt.1 h;have⟨b,y,d,e⟩:=pL f;exact⟨Nat.succ_lt_succ b,y,d,e⟩
def Tb:∀{ps:List Pr}{a v:Int},iy ps a=B5->fO ps a v=ps ++ [⟨a,v⟩]
 |[],a,v,_=>rfl
 |x::r,a,v,h=>by
  unfold iy at h;split at h
  .cases h
  .rename_i q;rw[Option.map_eq_none_iff]at h;unfold fO;rw[qy q,Tb h];rfl
def Si:∀{ps:List Pr}{a v:Int}{i:Nat},iy ps a=B1 i->fO ps a v=ps.set i ⟨a,v⟩
 |x::r,a,v,i,h=>by
  unfold iy at h;unfold fO;split at h
  .rename_i q;cases h;rw[xg q];rfl
  .rename_i q;obtain⟨j,b,rfl⟩:=xt.1 h;rw[qy q,Si b];rfl
def jN:List Pr->Nat->Nat->List (AV×AV×Nat)
 |[],_,_=>[]
 |x::r,i,c=>(.int .i64 x.a,.int .i64 (i:Int),c)::jN r (i+1) (c+1)
def fB:∀(ps:List Pr)(a:Int)(i c j:Nat),findKey .int (.int .i64 a) (jN ps i c) j=B1 ((iy ps a).map λ n=>(j+n,.int .i64 ((i+n:Nat):Int)))
 |[],a,i,c,j=>rfl
 |x::r,a,i,c,j=>by
  have e:bm .int (.int .i64 a) (.int .i64 x.a)=B1 (decide (a=x.a)):=by simp only[bm,tV,kS,J2,xu,VM]
  unfold jN findKey iy;rw[e,qr]
  by_cases q:x.a=a
  .rw [yd q.symm,xg q];rfl
  .rw [kr (λ w=>q w.symm),qy q,zn,fB r a (i+1) (c+1) (j+1)];cases iy r a with
   |none=>rfl
   |some n=>simp only[FI];rw[show j+1+n=j+(n+1)by omega,show i+1+n=i+(n+1)by omega]
def _Q:∀(ps:List Pr)(x:Pr)(i c:Nat),jN (ps ++ [x]) i c=jN ps i c ++ [(.int .i64 x.a,.int .i64 ((i+ps.length:Nat):Int),c+ps.length)]
 |[],x,i,c=>rfl
 |y::r,x,i,c=>by
  show _::jN (r ++ [x]) (i+1) (c+1)=_::(jN r (i+1) (c+1)++_);rw[_Q r x,zz];congr 3;simp only[zj,AV.int.injEq,Ge];constructor<;>omega
def I':∀(ps:List Pr)(n:Nat)(v:Int)(i c:Nat){x:Pr},ps[n]? = B1 x->jN (ps.set n ⟨x.a,v⟩) i c=jN ps i c
 |y::r,0,v,i,c,x,h=>by cases h;rfl
 |y::r,n+1,v,i,c,x,h=>by
  show _::jN (r.set n _) (i+1) (c+1)=_;rw[I' r n v (i+1) (c+1) h];rfl
structure vM(H:ar)(o:Nat->Nat)(t r:Nat)(ps:List Pr)(pv:AV)(mb c:Nat):Prop where
 row:At H r Ja [pv,.map mb]
 ow:CR H pv ps
 mp:H.get mb=B1 (.map (jN ps 0 c) (c+ps.length))
 ml:mb<H.au
 le:ps.length<=128
 o0:o r=t
 o1:o mb=t+1
 o2:∀z,aM pv z->o z=t+2
section
variable{H H':ar}{o o':Nat->Nat}{t r mb c:Nat}{ps:List Pr}{pv:AV}
def vM.fr{W:Nat->Prop}(h:vM H o t r ps pv mb c)(a:Fr W H H')(hw:∀z,z<H.au->(o z=t\/o z=t+1\/o z=t+2) -> ¬W z)(ho:∀z,z<H.au->o' z=o z):vM H' o' t r ps pv mb c :=
 ⟨h.row.fr a (hw r h.row.2 (.inl h.o0)),Own.fr h.ow a λ z q=>hw z (Own.lt h.ow z q) (.inr (.inr (h.o2 z q))),(a.ah mb h.ml (hw mb h.ml (.inr (.inl h.o1)))).trans h.mp,qn h.ml a.au,h.le,(ho r h.row.2).trans h.o0,(ho mb h.ml).trans h.o1,λ z q=>(ho z (Own.lt h.ow z q)).trans (h.o2 z q)⟩
def Xv{b:Nat}{es:List (AV×AV×Nat)}{k:Nat}(h:H.get b=B1 (.map es k)):H.fk b=B1 (es,k):=by unfold ar.fk;rw[h]
def xmx(h:vM H o t r ps pv mb c)(a:Int):Op.lookup .int (.int .i64 0) B4 [.map mb,.int .i64 a] H=B1 (match iy ps a with|some i=>.tuple [.int .i64 (i:Int),.bool B4]|none=>.tuple [.int .i64 0,.bool B2]):=by
 simp only[Op.lookup,db,xu,Xv h.mp,qr,fB];cases iy ps a<;>simp
def EI(h:vM H o t r ps pv mb c):bX cM 2 H pv ps:=aT.sl h.ow
def yW(h:vM H o t r ps pv mb c)(a:Int):∀K,C3 M B4 (.func qqr) [.ptr r 0,.int .i64 a] H K=K B4 (.tuple [.int .u64 ((dt ps a).getD 0),.bool (dt ps a).isSome]) H:=by
 refine dA (q5o ?_);have l0:=h.row.ld 0;have l1:=h.row.ld 1;rw[Js];have f:=xmx h a;cases q:iy ps a with
 |none =>
  rw[q]at f;simp only[aa,bc,qru,av,l1,f];rfl
 |some i =>
  rw[q]at f;obtain⟨d,x,b,-⟩:=pL q;have sl:=EI h;have ix:=sl.idx b (z:=(i:Int)) rfl .i64;have ld:Op.ae [.ptr (aF pv) (cZ 2 pv i+1)] H=B1 (.int .u64 x.v):=sl.ae Cu b (j:=1) (by decide);simp only[aa,bc,qru,av,l0,l1,f,ix,ld];simp only[FI,vm,vy,zw,b]
def SL(H:ar)(o:Nat->Nat)(t r:Nat)(ps:List Pr)(H':ar):Prop:=∃o' pv mb c,vM H' o' t r ps pv mb c/\(∀z,z<H.au->o' z=o z)/\Fr (λ z=>o z=t\/o z=t+1\/o z=t+2) H H'
def Eh(h:vM H o t r ps pv mb c):zd M qpg [.ptr r 0] H λ _ H'=>SL H o t r [] H':=by
 refine q0p ?_;have l1:=h.row.ld 1;have s1:Op.bT [.map mb] H=B1 (.tuple [],H.set mb (.map [] (c+ps.length))):=by simp only[Op.bT,Xv h.mp,qr]
 have d:r≠mb:=λ q=>by have a:=h.o0;have b:=h.o1;rw[q]at a;omega
 have e:At (H.set mb (.map [] (c+ps.length))) r Ja [pv,.map mb]:=h.row.fr (b9 H mb _) d;have s2:=e.st 0 (v:=.nils) rfl (by simp);simp only[aa,bc,q0q,av,l1,s1,s2];refine⟨o,.nils,mb,c+ps.length,⟨e.set _,Own.nil ..,?_,h.ml,xz _,h.o0,h.o1,λ z q=>(q.1 rfl).elim⟩,λ _ _=>rfl,?_⟩
 .rw [kw d,xe];rfl
 .exact ((b9 H mb _).mono λ z _ q=>.inr (.inl ((congrArg o q).trans h.o1))).trans (b9 _ r _) λ z q=>.inl (.inl ((congrArg o q).trans h.o0))
def QZ(h:vM H o t r ps pv mb c)(a v:Int)(hn:iy ps a=B5):zd M W2 [.ptr r 0,.int .i64 a,.int .u64 v] H λ w H'=>w=.int .i64 (if ps.length=128 then 70 else 0)/\SL H o t r (if ps.length=128 then ps else ps ++ [⟨a,v⟩]) H':=by
 refine q71 ?_;have l0:=h.row.ld 0;have l1:=h.row.ld 1;have ln:=(EI h).len;have hle:=h.le
 by_cases q:ps.length=128
 .have p:((ps.length:Nat):Int)=128:=by omega
  rw[xg q,xg q];simp only[aa,bc,qw,av,l0,ln,xb p];exact⟨o,pv,mb,c,h,λ _ _=>rfl,Fr.refl _⟩
 .have p:¬((ps.length:Nat):Int)=128:=by omega
  rw[qy q,qy q];have s1:Op.mapUpdate .int [.map mb,.int .i64 a,.int .i64 ((ps.length:Nat):Int)] H=B1 (.undef,H.set mb (.map (jN (ps ++ [⟨a,v⟩]) 0 c) (c+(ps ++ [(⟨a,v⟩:Pr)]).length))):=by
   simp only[Op.mapUpdate,db,xu,Xv h.mp,qr,fB,hn,Option.map_none,_Q,yf,qv,zz,j6];rfl
  obtain⟨H1,e1⟩:∃X,X=H.set mb (.map (jN (ps ++ [⟨a,v⟩]) 0 c) (c+(ps ++ [(⟨a,v⟩:Pr)]).length)):=⟨_,rfl⟩
  rw[<-e1]at s1;have j:Fr (On mb) H H1:=e1▸b9 H mb _;have u:r≠mb:=λ q=>by have a:=h.o0;have b:=h.o1;rw[q]at a;omega
  have x:At H1 r Ja [pv,.map mb]:=h.row.fr j u;have np:∀z,aM pv z->z≠mb/\z≠r:=λ z w=>⟨λ e=>by have a:=h.o2 z w;have b:=h.o1;rw[e]at a;omega,λ e=>by have a:=h.o2 z w;have b:=h.o0;rw[e]at a;omega⟩
  have n:CR H1 pv ps:=Own.fr h.ow j λ z w=>(np z w).1;have m:=x.ld 0;have A:Op.build [.int .i64 0,.int .u64 0] [(0,1),(1,1)] [.int .i64 a,.int .u64 v]=B1 (.agg (cM ⟨a,v⟩)):=rfl;simp only[aa,bc,qw,av,l0,ln,p,l1,s1,m,A];refine aT.pM (bytes:=16) n (a:=⟨a,v⟩) rfl rfl rfl rfl (by decide) (by omega) (by omega) λ pv' d i f s=>?_;have y:At d r Ja [pv,.map mb]:=x.fr f λ w=>(np r w).2 rfl;have one:aB pv'=true:=by have:=Sl.one (Own.sl i);exact this
  have B:=y.st 0 one (by simp);simp only[aa,bc,B];have k:Fr (On r) d (d.set r (OR [pv',.map mb] Ja)):=b9 ..;have n1:H1.au=H.au:=by rw[e1];rfl
  have l:∀z,aM pv' z->z≠r/\z≠mb:=λ z w=>(s z w).elim (λ w=>⟨(np z w).2,(np z w).1⟩) λ w=>⟨λ e=>by have:=h.row.2;omega,λ e=>by have:=h.ml;omega⟩
  refine⟨aP o H.au (t+2),pv',mb,c,⟨y.set _,Own.fr i k λ z w=>(l z w).1,?_,?_,?_,(iO h.row.2).trans h.o0,(iO h.ml).trans h.o1,λ z w=>?_⟩,λ z w=>iO w,?_⟩
  .show (d.set r (OR [pv',.map mb] Ja)).get mb=_;rw[k.ah mb (by have:=f.au;have:=h.ml;omega) (λ w=>u (show mb=r from w).symm),f.ah mb (by have:=h.ml;omega) λ w=>(np mb w).1 rfl,e1,xe]
  .have:=f.au;have:=h.ml;show mb<d.au;omega
  .rw [qv];simp only[zz,j6];omega
  .rcases s z w with w|w
   .exact (iO (by have:=Own.lt h.ow z w;exact this)).trans (h.o2 z w)
   .exact nj (by omega)
  .exact ((j.mono λ z _ q=>.inr (.inl ((congrArg o q).trans h.o1))).trans f λ z q=>.inl (.inr (.inr (h.o2 z q)))).trans k λ z q=>.inl (.inl ((congrArg o q).trans h.o0))
end
def pA(H:ar)(o:Nat->Nat)(g:Nat)(rd wr:List Pr):Prop:=∃r w v1 m1 c1 v2 m2 c2,At H g SA [.ptr r 0,.ptr w 0]/\o g=9/\vM H o 10 r rd v1 m1 c1/\vM H o 20 w wr v2 m2 c2
def vX(H:ar)(o:Nat->Nat)(g:Nat)(rd wr:List Pr)(H':ar):Prop:=∃o',pA H' o' g rd wr/\(∀z,z<H.au->o' z=o z)/\Fr (λ z=>9<=o z/\o z<=22) H H'
section
variable{H H':ar}{o o':Nat->Nat}{g:Nat}{rd wr:List Pr}
def pA.fr{W:Nat->Prop}(h:pA H o g rd wr)(a:Fr W H H')(hw:∀z,z<H.au->9<=o z -> ¬W z)(ho:∀z,z<H.au->o' z=o z):pA H' o' g rd wr:=by
 have⟨r,w,v1,l,d,v2,m,f,b,i,j,k⟩:=h;exact⟨r,w,v1,l,d,v2,m,f,b.fr a (hw g b.2 (by omega)),(ho g b.2).trans i,j.fr a (λ z q e=>hw z q (by omega)) ho,k.fr a (λ z q e=>hw z q (by omega)) ho⟩
def pA.FM{W:Nat->Prop}(h:pA H o g rd wr)(a:Fr W H H')(hw:∀z,z<H.au->9<=o z/\o z<=22 -> ¬W z):pA H' o g rd wr:=by
 have⟨r,w,v1,l,d,v2,m,f,b,i,j,k⟩:=h;exact⟨r,w,v1,l,d,v2,m,f,b.fr a (hw g b.2 (by omega)),i,j.fr a (λ z q e=>hw z q (by omega)) λ _ _=>rfl,k.fr a (λ z q e=>hw z q (by omega)) λ _ _=>rfl⟩
def pA.same(h:pA H o g rd wr):vX H o g rd wr H:=⟨o,h,λ _ _=>rfl,Fr.refl _⟩
def og(h:pA H o g rd wr):∀K,C3 M B4 (.func qtc) [.ptr g 0] H K=K B4 (.bool B2) H:=by
 obtain⟨r,w,v1,e,b,v2,f,d,a,-⟩:=h;have l0:=a.ld 0;refine dA (q7x ?_);simp only[aa,bc,q7y,av,l0]
def Yd(h:pA H o g rd wr)(a:Int):∀K,C3 M B4 (.func γ) [.ptr g 0,.int .i64 a] H K=K B4 (.tuple [.int .u64 ((dt rd a).getD 0),.bool (dt rd a).isSome]) H:=by
 have b:=h;have⟨r,w,v1,l,f,v2,m,i,d,j,e,k⟩:=h;have l0:=d.ld 0;refine dA (xar ?_);simp only[aa,bc,xas,av,og b,l0,yW e]
def P4(h:pA H o g rd wr)(a:Int):∀K,C3 M B4 (.func _3) [.ptr g 0,.int .i64 a] H K=K B4 (.tuple [.int .u64 ((dt wr a).getD 0),.bool (dt wr a).isSome]) H:=by
 have b:=h;have⟨r,w,v1,l,f,v2,m,i,d,j,k,e⟩:=h;have l1:=d.ld 1;refine dA (q7u ?_);simp only[aa,bc,q7v,av,og b,l1,yW e]
def pA.ofR{H1:ar}{g r w:Nat}{v1 v2:AV}{n j i f:Nat}{a:List Pr}(h:At H g SA [.ptr r 0,.ptr w 0])(k:o g=9)(q:vM H o 10 r rd v1 n j)(l:vM H o 20 w wr v2 i f)(p:SL H o 10 r a H1):vX H o g a wr H1:=by
 have⟨o',pv,mb,c,m,b,d⟩:=p;exact⟨o',⟨r,w,pv,mb,c,v2,i,f,h.fr d (by omega),(b g h.2).trans k,m,l.fr d (λ z _ e=>by omega) b⟩,b,d.mono λ z _ e=>by omega⟩
def pA.Yl{H1:ar}{g r w:Nat}{v1 v2:AV}{i f n j:Nat}{a:List Pr}(h:At H g SA [.ptr r 0,.ptr w 0])(k:o g=9)(l:vM H o 10 r rd v1 i f)(q:vM H o 20 w wr v2 n j)(p:SL H o 20 w a H1):vX H o g rd a H1:=by
 have⟨o',pv,mb,c,m,b,d⟩:=p;exact⟨o',⟨r,w,v1,i,f,pv,mb,c,h.fr d (by omega),(b g h.2).trans k,l.fr d (λ z _ e=>by omega) b,m⟩,b,d.mono λ z _ e=>by omega⟩
def vX.then{H1 a:ar}{e w1 f w2:List Pr}(p:vX H o g e w1 H1)(k:∀o1,pA H1 o1 g e w1->vX H1 o1 g f w2 a):vX H o g f w2 a:=by
 have⟨o1,h,b,d⟩:=p;have⟨o2,i,j,l⟩:=k o1 h;refine⟨o2,i,λ z q=>(j z (qn q d.au)).trans (b z q),d.trans l λ z q=>?_⟩;rcases x9 z H.au with w|w
 .rw [b z w]at q;exact .inl q
 .exact .inr w
def Mh(H:ar)(o:Nat->Nat)(g:Nat)(ps:List Pr)(a:Int)(e:AV)(A:Prop)(B:Prop):Prop:=(dt ps a=B5/\ps.length=128/\e=.int .i64 70/\A)\/(¬(dt ps a=B5/\ps.length=128)/\e=.int .i64 0/\B)
def Jj(h:pA H o g rd wr){a:Int}(ha:0<=a)(v:Int):zd M qtb [.ptr g 0,.int .i64 a,.int .u64 v] H λ e H'=>Mh H o g rd a e (vX H o g rd wr H') (vX H o g (if dt rd a=B5 then rd ++ [⟨a,v⟩]else rd) wr H'):=by
 refine q7w ?_;have f:=h;have⟨r,w,v1,p,m,v2,s,n,i,j,b,k⟩:=h;have l0:=i.ld 0;have l:¬a<0:=HH.2 ha;cases q:dt rd a with
 |some y =>
  simp only[aa,bc,qtu,av,og f,l,l0,yW b,q,BP];refine .inr ⟨λ w=>?_,rfl,?_⟩
  .rw [q]at w;cases w.1
  .rw [qy (by simp)];exact f.same
 |none =>
  have hn:iy rd a=none:=by rw[Js]at q;exact Option.map_eq_none_iff.1 q
  simp only[aa,bc,qtu,av,og f,l,l0,yW b,q,BP];refine C3.q (QZ b a v hn) λ e H1⟨he,hp⟩=>?_;subst he;simp only[aa,bc]
  by_cases d:rd.length=128
  .rw [xg d]at hp⊢;exact .inl ⟨q,d,rfl,pA.ofR i j b k hp⟩
  .rw [qy d]at hp⊢;exact .inr ⟨λ w=>d w.2,rfl,pA.ofR i j b k hp⟩
def MJ(h:pA H o g rd wr):zd M xn [.ptr g 0] H λ _ H'=>vX H o g [] [] H':=by
 refine q5j ?_;have x:=h;have⟨r,w,v1,F,E,v2,C,v,d,k,y,A⟩:=h;have l0:=d.ld 0;simp only[aa,bc,q5k,av,og x,l0];refine C3.q (Eh y) λ _ H1 hp=>?_;have⟨o',pv,mb,c,u,b,i⟩:=hp;have f:=A.fr i (λ z _ e=>by omega) b;have a:=d.fr i (by omega);have l1:=a.ld 1;simp only[aa,bc,av,l1];refine C3.q (Eh f) λ _ D l=>?_;simp only[aa,bc];have G:vX H o g [] wr H1:=⟨o',⟨r,w,pv,mb,c,v2,C,v,a,(b g d.2).trans k,u,f⟩,b,i.mono λ z _ e=>by omega⟩
 have⟨o2,s,p,j,B,m,n⟩:=l;refine⟨o2,⟨r,w,pv,mb,c,s,p,j,a.fr n (by have:=(b g d.2).trans k;omega),(m g a.2).trans ((b g d.2).trans k),u.fr n (λ z _ e=>by omega) m,B⟩,λ z q=>(m z (qn q i.au)).trans (b z q),(i.mono λ z _ e=>by omega).trans n λ z q=>?_⟩;rcases x9 z H.au with w|w
 .rw [b z w]at q;exact .inl (by omega)
 .exact .inr w
def KM(h:pA H o g rd wr){a:Int}(ha:0<=a)(v:Int):zd M qqq [.ptr g 0,.int .i64 a,.int .u64 v] H λ e H'=>Mh H o g wr a e (vX H o g rd wr H') (vX H o g rd (fO wr a v) H'):=by
 refine q5n ?_;have C:=h;have⟨r,w,v1,L,J,v2,l,B,k,n,p,b⟩:=h;have l1:=k.ld 1;have E:¬a<0:=HH.2 ha;have D:=b.row.ld 1;have F:=b.row.ld 0;have f:=xmx b a;cases q:iy wr a with
 |some i =>
  rw[q]at f;have⟨K,x,s,I⟩:=pL q;have sl:=EI b;have ix:=sl.idx s (z:=(i:Int)) rfl .i64;have⟨H1,s1,A,d⟩:=aT.AG Cu b.ow s (j:=1) (by decide) (u:=.int .u64 v) rfl (y:=⟨x.a,v⟩) rfl;simp only[aa,bc,_G,av,og C,E,l1,D,f,F,ix,s1];refine .inr ⟨λ w=>(by rw[Js,q]at w;cases w.1),rfl,?_⟩;rw[Si q,<-I];have n1:¬aM v2 w:=λ e=>by have:=b.o2 w e;have:=b.o0;omega
  have n2:¬aM v2 l:=λ e=>by have:=b.o2 l e;have:=b.o1;omega
  refine pA.Yl k n p b ⟨o,v2,l,B,⟨b.row.fr d n1,A,?_,qn b.ml d.au,by rw[xw];exact b.le,b.o0,b.o1,b.o2⟩,λ _ _=>rfl,d.mono λ z _ q=>.inr (.inr (b.o2 z q))⟩;rw[I' wr i v 0 B s,xw,d.ah l b.ml n2];exact b.mp
 |none =>
  have G:dt wr a=none:=by rw[Js,q];rfl
  rw[q]at f;simp only[aa,bc,_G,av,og C,E,l1,D,f];refine C3.q (QZ b a v q) λ e H1⟨he,hp⟩=>?_;subst he;simp only[aa,bc]
  by_cases m:wr.length=128
  .rw [xg m]at hp⊢;exact .inl ⟨G,m,rfl,pA.Yl k n p b hp⟩
  .rw [qy m]at hp⊢;rw[Tb q];exact .inr ⟨λ w=>m w.2,rfl,pA.Yl k n p b hp⟩
end
end Go.Am
namespace Go.Am
open Lang Go.Proofs
variable{M:ak}[MK M]
def Nn(v:AV)(i:Nat):AV:=.ptr (aF v) (cZ 2 v i)
def T4{H1:ar}(e:Pr):Op.store 2 [.ptr H1.au 0,.agg (cM e)] (H1.alloc (OR [.int .i64 0,.int .u64 0] we))=B1 (.undef,(H1.alloc (OR [.int .i64 0,.int .u64 0] we)).set H1.au (OR (cM e) we)):=(At.new H1 _ _).fF (k:=0) (n:=2) rfl (by decide) rfl
def xk4{H0:ar}{p:Nat}{v:AV}{ys:List Pr}(Z:CR H0 v ys)(hp:H0.get p=B1 (OR [v] oH))(U:p<H0.au)(hl:ys.length<=1000000) :
 rh M vj [] [.ptr p 0] (λ x=>x=p\/aM v x) (λ _=>False) H0 ((N8 ys.length).map λ(i:Nat)=>[.int .i64 (i:Int),.agg (cM (ys.getD i ⟨0,0⟩))]):=by
 intro Y R S j H1 G K C D loc N step;have⟨p1,p2,p3⟩:=K p (.inl (.inl rfl))
 suffices h:zd M vj [.fn (.yield Y) [] [],.ptr p 0] H1 (HS R S j (λ _=>False) H1 ((N8 ys.length).map λ(i:Nat)=>[AV.int .i64 (i:Int),AV.agg (cM (ys.getD i ⟨0,0⟩))]).length)by
  have⟨v,H',P,W',q1,q2,q3⟩:=h.elim;exact⟨v,H',W',P,q1,q2,q3⟩
 refine qoy ?_;have lp:Op.ae [.ptr p 0] H1=B1 v:=by rw[zb (xc (by rw[p2];exact hp))];rfl
 have L:∀{a:ar},Fr j H1 a->CR a v ys:=λ{a}f =>
  Own.fr Z (⟨xy G f.au,λ y d hw=>by
   have⟨y1,y2,y3⟩:=K y (.inl (wq.1 hw));rw[f.ah y (by omega) y3,y2]⟩:Fr (λ y=>¬(y=p\/aM v y)) H0 a) λ y d w=>w (.inr d)
 rw[xr,zu];simp only[aa,bc,Uz,lp,(aT.sl (L (Fr.refl _))).len];refine cK.intro (λ n E a=>∃(i:Nat)(V:Nat->Prop),E=[(7,.int .i64 (i:Int)),(6,.int .i64 ((ys.length:Nat):Int)),(5,v),(0,.fn (.yield Y) [] []),(1,.ptr p 0)]/\n=ys.length-i/\i<=ys.length/\JK R j H1 a i V) ?_ ?_
 .exact ⟨_,_,⟨0,j,rfl,rfl,xz _,⟨C,λ b hb=>⟨D b hb,.inl hb⟩,Fr.refl _⟩⟩,by simp only[aa,bc]⟩
 rintro n E a ⟨i,V,rfl,rfl,hi,hI⟩;rcases x9 i ys.length with s|T
 .have B:(i:Int)<((ys.length:Nat):Int):=by omega
  obtain⟨e,he⟩:∃e,ys[i]? = B1 e:=⟨ys[i],by simp[s]⟩
  have sl:=aT.sl (L hI.fr);have ix:Op.aQ 2 [v,.int .i64 (i:Int)]=B1 (Nn v i):=sl.idx he rfl .i64;have ld:Op.aq 2 [Nn v i] a=B1 (.agg (cM e)):=sl.aq Cu (by decide) he;have bx:=T4 (H1:=a) e;obtain⟨u,e2⟩:∃X,X=(a.alloc (OR [.int .i64 0,.int .u64 0] we)).set a.au (OR (cM e) we):=⟨_,rfl⟩
  rw[<-e2]at bx;have z:Fr Em a u:=by rw[e2];exact zI _ _
  have O:u.get a.au=B1 (OR (cM e) we):=by rw[e2,xe]
  have I:Op.aq 2 [.ptr a.au 0] u=B1 (.agg (cM e)):=rU (xc O) (by simp[cM]);have n2:=z.au;have⟨bb,J,A,hr,Q,m,W,hs⟩:=step i [.int .i64 (i:Int),.agg (cM e)] (by rw[xm,jw s,FI,zw,he];rfl) V u (loc _ _ _ _ hI.hR (λ y d=>z.ah y (hI.hV y d).1 id) n2) (λ y d=>⟨by have:=(hI.hV y d).1;omega,(hI.hV y d).2⟩) ((hI.fr.em z).mono λ _ _ q=>.inl q);have k:Fr j H1 J:=(hI.fr.em z).trans Q λ y q=>(hI.hV y q).2;have l:∀y,A y->y<J.au/\(j y\/H1.au<=y):=λ y q=>⟨(m y q).1,(m y q).2.elim (λ w=>(hI.hV y w).2) λ w=>.inr (by have:=hI.fr.au;omega)⟩
  have wj:aj .i64 ((i:Int)+1)=((i+1:Nat):Int):=by rw[jk (by omega) (by omega)];omega
  simp only[aa,bc,Uz,B,ix,ld,bx,I];refine C3.tH hr ?_;cases bb with
  |true =>
   simp only[aa,bc,Uz,wj];exact⟨_,_,⟨i+1,A,rfl,rfl,by omega,⟨W rfl,l,k⟩⟩,by simp only[aa,bc],by omega⟩
  |false =>
   simp only[aa,bc];exact⟨A,k.mono λ _ _ q=>.inl q,l,.inr (hs rfl)⟩
 .have B:¬(i:Int)<((ys.length:Nat):Int):=by omega
  have F:i=ys.length:=by omega
  simp only[aa,bc,Uz,B];exact⟨V,hI.fr.mono λ _ _ q=>.inl q,hI.hV,.inl (by rw[<-F];exact hI.hR)⟩
structure TJ(ys:List Pr)(t:Nat)(i:Nat)(V:Nat->Prop)(Hx:ar):Prop where
 vt:V t
 lt:t<Hx.au
 ls:∃lv,Hx.get t=B1 (OR [lv] oH)/\CR Hx lv (ys.take i) /\ ∀a,aM lv a->V a/\t<a
def TJ.loc{ys:List Pr}{t i:Nat}{V:Nat->Prop}{a Hb:ar}(h:TJ ys t i V a)(hs:∀x,V x->Hb.get x=a.get x)(hn:a.au<=Hb.au):TJ ys t i V Hb:=by
 have⟨lv,l1,l2,l3⟩:=h.ls;refine⟨h.vt,qn h.lt hn,lv,by rw[hs _ h.vt];exact l1,?_,l3⟩;exact Own.fr l2 (⟨hn,λ b _ hw=>hs b (wq.1 hw)⟩:Fr (λ b=>¬V b) a Hb) λ x d w=>w (l3 x d).1
section
variable{H H':ar}{o o':Nat->Nat}{t r mb c:Nat}{ps:List Pr}{pv:AV}
def xlp{α:Type}{enc:α->List AV}{e size:Nat}{H:ar}{v:AV}{xs:List α}(h:aT enc e size H v xs):AV.cells v=[v]:=by
 obtain⟨_,⟨_,rfl|⟨_,rfl,_⟩⟩|⟨_,rfl,_,_⟩⟩:=h<;>rfl
def zR{α:Type}{enc:α->List AV}{e size:Nat}{H:ar}{v:AV}{xs:List α}(h:aT enc e size H v xs)(a:xs≠[]):aM v (aF v):=⟨λ w=>by
 subst w;have:=(aT.sl h).len;have q:Op.ct [AV.nils]=B1 (.int .i64 0):=rfl;rw[q]at this;injection this with this;injection this with _ this
 exact a (zy.1 (by omega)),rfl⟩
def JD(h:vM H o t r ps pv mb c):zd M RA [.ptr r 0] H λ v H'=>CR H' v ps/\(∀z,aM v z->H.au<=z)/\Fr Em H H':=by
 refine xjn ?_;have⟨H1,e1,f1,n1,g1⟩:=cq H (OR [.nils] oH);obtain⟨D,e2,E,-,g2⟩:=cq H1 (OR [pv] oH);have n2:D.au=H.au+2:=by rw[e2,xx,n1]
 have O:D.get H.au=B1 (OR [.nils] oH):=by rw[E.ah _ (by omega) id];exact g1
 have f2:=f1.em E;have ow2:CR D pv ps:=Own.em h.ow f2;have l0:=(h.row.em f1).ld 0;have al:zd M qtd [.ptr r 0] H1 λ v H'=>v=.fn (.func vj) [] [.ptr H1.au 0]/\H'=D:=by
  refine q7z ?_;simp only[aa,bc,q70,av,l0];refine C3.q (R:=λ v H'=>v=.fn (.func vj) [] [.ptr H1.au 0]/\H'=D) ?_ λ v H' q=>?_
  .refine qrz ?_;have mk:Op.bt vj 0 [.ptr H1.au 0]=B1 (.fn (.func vj) [] [.ptr H1.au 0]):=rfl;simp only[aa,bc,qr0,xlp h.ow,<-e2];rfl
  .simp only[aa,bc];exact q
 simp only[aa,bc,ZF,<-e1];refine C3.q al λ v H'⟨hv,hh⟩=>?_;subst hv;subst hh;simp only[aa,bc];have hl:=h.le;have lv:∀z,aM pv z->z<H.au:=λ z q=>Own.lt h.ow z q;refine iB.iter (fn:=S9) (lp:=Ry) (pa:=V8 0) (pb:=X8 0) xfv FH.1 FH.2 (by decide) xda xdb
  (xk4 ow2 g2 (by omega) (by omega)) (λ i V Hx=>TJ ps H.au i V Hx) (λ _ _ _=>False) (λ x=>x=H.au) (qm _) ?_ ?_ ?_ ?_ ?_ ?_ ?_ ?_
 .rintro x ((q|q)|q)
  .exact ⟨by omega,rfl,λ w=>by omega⟩
  .have:=lv x q;exact⟨by omega,rfl,λ w=>by omega⟩
  .exact q.elim
 .exact λ x U=>by omega
 .exact ⟨rfl,by omega,.nils,O,Own.nil ..,λ x q=>(q.1 rfl).elim⟩
 .exact λ i V Ha Hb h hs hn=>h.loc hs hn
 .exact λ e V Ha Hb h _ _=>h
 .intro L i lr lb x U hL V l b hV hf6 B P S;rw[xm,xt]at U;obtain⟨j,T,rfl⟩:=U;have G:i<ps.length:=by have:=(qo.1 T).1;rw[zu]at this;exact this
  rw[jw G]at T;cases T;obtain⟨e,hk⟩:∃e,ps[i]? = B1 e:=⟨ps[i],by simp[G]⟩
  have he:ps.getD i ⟨0,0⟩=e:=by rw[zw,hk];rfl
  rw[he];refine⟨_,rfl,?_⟩;obtain⟨-,wa,wb,-⟩:=ZF M ⟨B1 L,RA⟩;have bx:=T4 (H1:=l) e;obtain⟨m,K⟩:∃X,X=(l.alloc (OR [.int .i64 0,.int .u64 0] we)).set l.au (OR (cM e) we):=⟨_,rfl⟩
  rw[<-K]at bx;have N:Fr Em l m:=by rw[K];exact zI _ _
  have n7:m.au=l.au+1:=by rw[K];rfl
  have g7:m.get l.au=B1 (OR (cM e) we):=by rw[K,xe]
  simp only[aa,bc,wa,bx,AW];refine⟨by rw[N.ah L P id];exact S,?_⟩;have gL:(m.set L lb).get L=B1 lb:=xe ..;have g8:(m.set L lb).get l.au=B1 (OR (cM e) we):=by rw[kw (by omega)];exact g7
  have f8:Fr (λ y=>V y\/y=L) l (m.set L lb):=(N.mono λ _ _ q=>q.elim).set (.inl (.inr rfl)) _;have u:=b.loc (Hb:=m.set L lb) (λ y hy=>by rw[kw (λ q:L=y=>B (by rw[q];exact hy)),N.ah y (hV y hy).1 id]) (by rw[tI];omega);have n8:(m.set L lb).au=l.au+1:=by rw[tI,n7]
  generalize m.set L lb=H8 at *;have⟨f,l1,l2,l3⟩:=u.ls;have Y:Op.ae [.ptr H.au 0] H8=B1 f:=zb (xc l1) 0;have ld:Op.aq 2 [.ptr l.au 0] H8=B1 (.agg (cM e)):=rU (xc g8) (by simp[cM]);have ny:(ps.take i).length<=128:=by rw[jq];omega
  simp only[aa,bc,wb,Y,ld];refine aT.pM (bytes:=16) l2 (a:=e) rfl rfl rfl rfl (by decide) (by omega) (by omega) λ k J A p F=>?_;have q9:At J H.au oH [f]:=⟨by rw[p.ah _ u.lt λ q=>by have:=(l3 _ q).2;omega];exact l1,qn u.lt p.au⟩
  have o1:aB k=true:=by have:=Sl.one (Own.sl A);exact this
  have st:=q9.st 0 o1 (by simp);obtain⟨C,n⟩:∃X,X=J.set H.au (OR ([f].set 0 k) oH):=⟨_,rfl⟩
  rw[<-n]at st;have s:Fr (On H.au) J C:=by rw[n];exact b9 ..
  simp only[aa,bc,st];have I:∀y,aM k y->H.au<y:=λ y q=>(F y q).elim (λ q=>(l3 y q).2) λ q=>by have:=b.lt;omega
  have nf:=p.au;have Z:C.au=J.au:=by rw[n];rfl
  have tk:ps.take (i+1)=ps.take i ++ [e]:=by rw[ku,hk];rfl
  refine⟨rfl,?_,λ y=>V y\/aM k y,?_,?_,.inl ⟨rfl,.inl b.vt,by have:=b.lt;omega,k,by rw[n,xe];rfl,?_,λ y q=>⟨.inr q,I y q⟩⟩⟩
  .rw [s.ah L (by omega) (λ(q:L=H.au)=>B (by rw[q];exact b.vt)),p.ah L (by omega) λ q=>B (l3 _ q).1];exact gL
  .rintro y (q|q)
   .exact ⟨by have:=(hV y q).1;omega,.inl q⟩
   .refine ⟨by rw[Z];exact Own.lt A y q,?_⟩;rcases F y q with w|w
    .exact .inl (l3 y w).1
    .exact .inr (by omega)
  .exact ((f8.trans p λ y q=>.inl (.inl (l3 y q).1)).trans s λ y(q:y=H.au)=>.inl (.inl (by rw[q];exact b.vt)))
  .rw [tk];exact Own.fr A s λ y q(w:y=H.au)=>by have:=I y q;omega
 .rintro d V H' hd Q hg p hV b;rw[xr,zu]at b;have⟨f,l1,l2,l3⟩:=b.ls;rw[Le]at l2;have hd':d≠H.au:=by omega
  have fd:Fr (On d) H' (H'.set d (.deferred B5)):=(Fr.refl H').set (W:=On d) (.inl rfl) _;have Y:Op.ae [.ptr H.au 0] H'=B1 f:=zb (xc l1) 0;simp only[aa,bc,ZF,Y];refine⟨hg,Own.fr l2 fd λ z q(w:z=d)=>(hV z (l3 z q).1).2.2 w,λ z q=>?_,?_⟩
  .have:=(l3 z q).2;omega
  .exact (f2.trans (p.mono λ z _ q=>q.elim id Nk) λ z q=>.inr (by omega)).trans fd λ z(q:z=d)=>.inr (by omega)
 .rintro e d V H' he hd Q hg p hV b;exact b.elim
end
section
variable{H H':ar}{o o':Nat->Nat}{g:Nat}{rd wr:List Pr}
def Li(h:pA H o g rd wr):zd M Y_ [.ptr g 0] H λ v H'=>CR H' v rd/\(∀z,aM v z->H.au<=z)/\Fr Em H H':=by
 refine q5l ?_;have a:=h;have⟨r,w,v1,k,e,v2,l,f,b,i,d,j⟩:=h;have l0:=b.ld 0;simp only[aa,bc,q5m,av,og a,l0];refine C3.q (JD d) λ v H1 hp=>?_;simp only[aa,bc];exact hp
def yP(h:pA H o g rd wr):zd M qpf [.ptr g 0] H λ v H'=>CR H' v wr/\(∀z,aM v z->H.au<=z)/\Fr Em H H':=by
 refine q0n ?_;have a:=h;have⟨r,w,v1,k,e,v2,l,f,b,i,j,d⟩:=h;have l1:=b.ld 1;simp only[aa,bc,q0o,av,og a,l1];refine C3.q (JD d) λ v H1 hp=>?_;simp only[aa,bc];exact hp
end
end Go.Am
namespace Go.Am
open Lang Go.Proofs
variable{M:ak}[MK M]
def Bx(H:ar)(o:Nat->Nat)(b:Nat)(v:AV):Prop:=H.bV b=B1 [v]/\b<H.au/\o b=30
def By(H:ar)(o:Nat->Nat)(b:Nat)(v:AV):Prop:=(∃t,H.get b=B1 (OR [v] t))/\b<H.au/\o b=31
def lM(f:Nat)(l:List Nat):AV:=.fn (.func f) [] (l.map λ b=>.ptr b 0)
def sG(H:ar)(o:Nat->Nat)(p:Nat)(kv:AV):K0->Prop
 | .wait=>kv=.fn (.func Xh) [.ptr p 0] []
 | .left how=>∃b1 b2,kv=lM Xr [b1,b2]/\Bx H o b1 (.int .i64 how)/\Bx H o b2 (.ptr p 0)
 | .kT a=>0<=a /\ ∃b1 b2,kv=lM WY [b1,b2]/\Bx H o b1 (.ptr p 0)/\Bx H o b2 (.int .i64 a)
 | .take=>kv=.fn (.func Vm) [.ptr p 0] []
 | .back l=>(∀x∈l,fG x.v) /\ ∃b1 b2 lv y,kv=lM Wx [b1,b2]/\Bx H o b1 (.ptr p 0)/\Bx H o b2 lv/\bX cM 2 H lv (y::l)/\aF lv<H.au/\o (aF lv)=30
 | .fin=>∃b1,kv=lM XL [b1]/\Bx H o b1 (.ptr p 0)
def Jz(H:ar)(o:Nat->Nat)(p:Nat)(gv:AV):Option K0->Prop
 |none=>gv=.fn (.func Wn) [.ptr p 0] []
 |some k=>∃b1 b2 kv,gv=lM _A [b1,b2]/\Bx H o b1 (.ptr p 0)/\Bx H o b2 kv/\sG H o p kv k
structure MU(H:ar)(o:Nat->Nat)(p:Nat)(k:K0)(g:Int)(rd:List Pr)(bi bg bp bk br bs bl ba:Nat):Prop where
 hg:Bx H o bg (.int .u64 g)
 hp:Bx H o bp (.ptr p 0)
 hk:∃kv,Bx H o bk kv/\sG H o p kv k/\aB kv=B4
 hr:∃rv,Bx H o br rv/\bX cM 2 H rv rd/\(rd≠[]->aF rv<H.au/\o (aF rv)=30)/\aB rv=B4
 hs:By H o bs (lM S4 [bi,br,bp,bl,ba])
 hl:Bx H o bl (lM Sg [br,bi,bp,bs])
 ha:Bx H o ba (lM Uw [bg,bp,bk])
 hn:rd.length<=128
def Gl(H:ar)(o:Nat->Nat)(p:Nat)(tv:AV):Nx->Prop
 | .wY n k=>∃b1 b2 b3 kv,tv=lM qlk [b1,b2,b3]/\Bx H o b1 (.ptr p 0)/\Bx H o b2 (.int .u64 n)/\Bx H o b3 kv/\sG H o p kv k
 | .uv n k=>∃b1 b2 b3 kv,tv=lM e_ [b1,b2,b3]/\Bx H o b1 (.ptr p 0)/\Bx H o b2 (.int .u64 n)/\Bx H o b3 kv/\sG H o p kv k
 | .xB=>∃b1 b2 gv,tv=lM Ue [b1,b2]/\Bx H o b1 (.ptr p 0)/\Bx H o b2 gv/\Jz H o p gv B5
 | .wX k=>∃b1 b2 gv,tv=lM Ue [b1,b2]/\Bx H o b1 (.ptr p 0)/\Bx H o b2 gv/\Jz H o p gv (B1 k)
 | .look k g rd i=>∃bi bg bp bk br bs bl ba,tv=lM Sg [br,bi,bp,bs]/\By H o bi (.int .i64 (i:Int))/\i<rd.length/\MU H o p k g rd bi bg bp bk br bs bl ba
 | .again k g=>∃bg bp bk kv,tv=lM Uw [bg,bp,bk]/\Bx H o bg (.int .u64 g)/\Bx H o bp (.ptr p 0)/\Bx H o bk kv/\sG H o p kv k
 | .wM a=>0<=a /\ ∃b1 b2,tv=lM qll [b1,b2]/\Bx H o b1 (.ptr p 0)/\Bx H o b2 (.int .i64 a)
 | .nR a v=>(0<=a/\fG v) /\ ∃b1 b2 b3,tv=lM r_ [b1,b2,b3]/\Bx H o b1 (.ptr p 0)/\Bx H o b2 (.int .i64 a)/\Bx H o b3 (.int .u64 v)
 | .uy=>∃b1,tv=lM mm [b1]/\Bx H o b1 (.ptr p 0)
 | .FP k=>sG H o p tv k
def FB:Nx->Nat
 | .uv _ _=>RH
 | .uy=>RH
 | .FP _=>_F
 |_=>P7
def NQ(H:ar)(o:Nat->Nat)(p:Nat)(fv:AV):Option Nx->Prop
 |none=>fv=.nilf
 |some n=>∃b tv,fv=lM (FB n) [b]/\Bx H o b tv/\Gl H o p tv n
def iR(r:Rq):List AV:=[.int .i64 r.op,.int .i64 r.a,.int .u64 r.v,.int .u64 r.o]
def dK(x:So)(g:Nat)(fv:AV):List AV:=.ptr g 0::(iR x.want ++ [fv,.bool x.busy,.bool x.live,.bool x.aH,.int .u64 x.snap,.int .u64 x.value,.int .i64 x.ended,.int .i64 x.points])
structure dV(H:ar)(o:Nat->Nat)(p:Nat)(x:So)(g:Nat)(fv:AV):Prop where
 row:At H p Df (dK x g fv)
 lg:pA H o g x.rd x.wr
 nx:NQ H o p fv x.au
 op:o p=8
 one:aB fv=B4
 vu:fG x.value
 wu:∀y∈x.wr,fG y.v
 qu:fG x.want.v
def eK(H:ar)(o:Nat->Nat)(p:Nat)(x:So)(H':ar):Prop:=∃o' g fv,dV H' o' p x g fv/\(∀z,z<H.au->o' z=o z)/\Fr (λ z=>8<=o z) H H'
section
variable{H H':ar}{o o':Nat->Nat}{p g:Nat}{x y:So}{fv kv gv tv:AV}{k:K0}{n:Nx}
structure FE(H:ar)(o:Nat->Nat)(H':ar)(o':Nat->Nat):Prop where
 ah:∀z,z<H.au->o z=30->H'.get z=H.get z
 own:∀z,z<H.au->o' z=o z
 au:H.au<=H'.au
structure pK(H:ar)(o:Nat->Nat)(H':ar)(o':Nat->Nat):Prop where
 m:FE H o H' o'
 ah:∀z,z<H.au->o z=31->H'.get z=H.get z
def FE.of{W:Nat->Prop}(a:Fr W H H')(hw:∀z,z<H.au->o z=30 -> ¬W z)(ho:∀z,z<H.au->o' z=o z):FE H o H' o':=⟨λ z h q=>a.ah z h (hw z h q),ho,a.au⟩
def pK.of{W:Nat->Prop}(a:Fr W H H')(hw:∀z,z<H.au->30<=o z -> ¬W z)(ho:∀z,z<H.au->o' z=o z):pK H o H' o':=⟨FE.of a (λ z h q=>hw z h (by omega)) ho,λ z h q=>a.ah z h (hw z h (by omega))⟩
def pK.own(a:pK H o H' o'):∀z,z<H.au->o' z=o z:=a.m.own
def Bx.km{b:Nat}{v:AV}(h:Bx H o b v)(a:FE H o H' o'):Bx H' o' b v:=⟨(H_ (a.ah b h.2.1 h.2.2)).trans h.1,qn h.2.1 a.au,(a.own b h.2.1).trans h.2.2⟩
def Bx.ky{b:Nat}{v:AV}(h:Bx H o b v)(a:pK H o H' o'):Bx H' o' b v:=h.km a.m
def By.ky{b:Nat}{v:AV}(h:By H o b v)(a:pK H o H' o'):By H' o' b v:=⟨by rw[a.ah b h.2.1 h.2.2];exact h.1,qn h.2.1 a.m.au,(a.own b h.2.1).trans h.2.2⟩
def By.ld{b:Nat}{v:AV}(h:By H o b v):Op.ae [.ptr b 0] H=B1 v:=by have⟨t,q⟩:=h.1;exact zb (xc q) 0
def Bx.ld{b:Nat}{v:AV}(h:Bx H o b v):Op.ae [.ptr b 0] H=B1 v:=zb h.1 0
def FE.sl{lv:AV}{b:List Pr}(a:FE H o H' o')(h:bX cM 2 H lv b)(c:b≠[]->aF lv<H.au/\o (aF lv)=30):bX cM 2 H' lv b:=by
 cases b with
 |nil=>exact Sl.fr (W:=λ _=>True) h ⟨a.au,λ _ _ q=>(q trivial).elim⟩ (.inl rfl)
 |cons y l =>
  have⟨d,e⟩:=c (by simp);exact Sl.fr (W:=λ z=>z≠aF lv) h ⟨a.au,λ z _ q=>by rw[wq.1 q];exact a.ah _ d e⟩ (.inr λ q=>q rfl)
def sG.km(h:sG H o p kv k)(a:FE H o H' o'):sG H' o' p kv k:=by
 cases k with
 |wait=>exact h
 |left how=>have⟨b,e,c,d,f⟩:=h;exact⟨b,e,c,d.km a,f.km a⟩
 |kT z=>have⟨i,b,e,c,d,f⟩:=h;exact⟨i,b,e,c,d.km a,f.km a⟩
 |take=>exact h
 |back l=>have⟨i,b,e,lv,y,c,d,f,q,j,m⟩:=h;exact⟨i,b,e,lv,y,c,d.km a,f.km a,a.sl q λ _=>⟨j,m⟩,qn j a.au,(a.own _ j).trans m⟩
 |fin=>have⟨b,c,d⟩:=h;exact⟨b,c,d.km a⟩
def sG.ky(h:sG H o p kv k)(a:pK H o H' o'):sG H' o' p kv k:=h.km a.m
def sG.one(h:sG H o p kv k):aB kv=true:=by
 cases k with
 |wait=>rw[show kv=_ from h];rfl
 |left how=>have⟨b,d,a,c,f⟩:=h;rw[a];rfl
 |kT z=>have⟨e,b,d,a,c,f⟩:=h;rw[a];rfl
 |take=>rw[show kv=_ from h];rfl
 |back l=>have⟨e,b,d,lv,y,a,c⟩:=h;rw[a];rfl
 |fin=>have⟨b,a,c⟩:=h;rw[a];rfl
def Jz.ky{ko:Option K0}(h:Jz H o p gv ko)(a:pK H o H' o'):Jz H' o' p gv ko:=by
 cases ko with
 |none=>exact h
 |some k=>have⟨b,c,kv,d,e,f,i⟩:=h;exact⟨b,c,kv,d,e.ky a,f.ky a,i.ky a⟩
def MU.ky{g:Int}{rd:List Pr}{bi d f bk i bs e c:Nat}(h:MU H o p k g rd bi d f bk i bs e c)(a:pK H o H' o'):MU H' o' p k g rd bi d f bk i bs e c:=by
 have⟨kv,j,l,r⟩:=h.hk;have⟨rv,s,t,b,u⟩:=h.hr;exact⟨h.hg.ky a,h.hp.ky a,⟨kv,j.ky a,l.ky a,r⟩,⟨rv,s.ky a,a.m.sl t b,λ q=>⟨qn (b q).1 a.m.au,(a.own _ (b q).1).trans (b q).2⟩,u⟩,h.hs.ky a,h.hl.ky a,h.ha.ky a,h.hn⟩
def Gl.ky(h:Gl H o p tv n)(a:pK H o H' o'):Gl H' o' p tv n:=by
 cases n with
 |wY m k=>have⟨d,f,l,kv,b,c,e,j,q⟩:=h;exact⟨d,f,l,kv,b,c.ky a,e.ky a,j.ky a,q.ky a⟩
 |uv m k=>have⟨d,f,l,kv,b,c,e,j,q⟩:=h;exact⟨d,f,l,kv,b,c.ky a,e.ky a,j.ky a,q.ky a⟩
 |xB=>have⟨d,f,gv,b,c,e,j⟩:=h;exact⟨d,f,gv,b,c.ky a,e.ky a,j.ky a⟩
 |wX k=>have⟨d,f,gv,b,c,e,j⟩:=h;exact⟨d,f,gv,b,c.ky a,e.ky a,j.ky a⟩
 |look k g rd i=>have⟨bi,t,w,bk,A,bs,u,s,b,c,e,j⟩:=h;exact⟨bi,t,w,bk,A,bs,u,s,b,c.ky a,e,j.ky a⟩
 |again k g=>have⟨d,f,l,kv,b,c,e,j,q⟩:=h;exact⟨d,f,l,kv,b,c.ky a,e.ky a,j.ky a,q.ky a⟩
 |wM z=>have⟨r,d,f,b,c,e⟩:=h;exact⟨r,d,f,b,c.ky a,e.ky a⟩
 |nR z v=>have⟨r,d,f,l,b,c,e,j⟩:=h;exact⟨r,d,f,l,b,c.ky a,e.ky a,j.ky a⟩
 |uy=>have⟨d,b,c⟩:=h;exact⟨d,b,c.ky a⟩
 |FP k=>exact sG.ky h a
def NQ.ky{no:Option Nx}(h:NQ H o p fv no)(a:pK H o H' o'):NQ H' o' p fv no:=by
 cases no with
 |none=>exact h
 |some n=>have⟨b,tv,c,d,e⟩:=h;exact⟨b,tv,c,d.ky a,e.ky a⟩
def dV.fr{W:Nat->Prop}(h:dV H o p x g fv)(a:Fr W H H')(hw:∀z,z<H.au->8<=o z -> ¬W z)(ho:∀z,z<H.au->o' z=o z):dV H' o' p x g fv :=
 ⟨h.row.fr a (hw p h.row.2 (by rw[h.op];decide)),h.lg.fr a (λ z q w=>hw z q (by omega)) ho,h.nx.ky (pK.of a (λ z q w=>hw z q (by omega)) ho),(ho p h.row.2).trans h.op,h.one,h.vu,h.wu,h.qu⟩
def dV.same(h:dV H o p x g fv):eK H o p x H:=⟨o,g,fv,h,λ _ _=>rfl,Fr.refl _⟩
def dV.box(h:dV H o p x g fv)(v:AV)(t:Nat):dV (H.alloc (OR [v] t)) (aP o H.au 30) p x g fv/\Bx (H.alloc (OR [v] t)) (aP o H.au 30) H.au v/\pK H o (H.alloc (OR [v] t)) (aP o H.au 30):=by
 have f:Fr Em H (H.alloc (OR [v] t)):=(Fr.refl H).alloc _;have ho:∀z,z<H.au->aP o H.au 30 z=o z:=λ z q=>iO q;exact⟨h.fr f (λ _ _ _ q=>q) ho,⟨xc (xp ..),by rw[xx];omega,nj (qm _)⟩,pK.of f (λ _ _ _ q=>q) ho⟩
theorem eK.pre{H1:ar}{o1:Nat->Nat}(a:Fr Em H H1)(ho:∀z,z<H.au->o1 z=o z)(h:eK H1 o1 p y H'):eK H o p y H':=by
 have⟨o2,c,b,d,e,f⟩:=h;refine⟨o2,c,b,d,λ z q=>(e z (qn q a.au)).trans (ho z q),(a.mono λ _ _ q=>q.elim).trans f λ z q=>?_⟩;rcases x9 z H.au with w|w
 .exact .inl (by rw[<-ho z w];exact q)
 .exact .inr w
def eK.then{H1:ar}(a:eK H o p x H1)(b:∀o1 e c,dV H1 o1 p x e c->eK H1 o1 p y H'):eK H o p y H':=by
 have⟨o1,e,c,j,f,h⟩:=a;have⟨o2,i,d,l,m,r⟩:=b o1 e c j;refine⟨o2,i,d,l,λ z q=>(m z (qn q h.au)).trans (f z q),h.trans r λ z q=>?_⟩;rcases x9 z H.au with w|w
 .exact .inl (by rw[<-f z w];exact q)
 .exact .inr w
def dV.bj(h:dV H o p x g fv):Op.ae [.ptr p 0] H=B1 (.ptr g 0)/\Op.ae [.ptr p 5] H=B1 fv/\Op.ae [.ptr p 6] H=B1 (.bool x.busy)/\Op.ae [.ptr p 7] H=B1 (.bool x.live)/\Op.ae [.ptr p 8] H=B1 (.bool x.aH)/\Op.ae [.ptr p 9] H=B1 (.int .u64 x.snap)/\Op.ae [.ptr p 10] H=B1 (.int .u64 x.value)/\Op.ae [.ptr p 11] H=B1 (.int .i64 x.ended)/\Op.ae [.ptr p 12] H=B1 (.int .i64 x.points) :=
 ⟨h.row.ld 0,h.row.ld 5,h.row.ld 6,h.row.ld 7,h.row.ld 8,h.row.ld 9,h.row.ld 10,h.row.ld 11,h.row.ld 12⟩
theorem dV.put(h:dV H o p x g fv)(i:Nat){v:AV}(c:aB v=B4)(d:i<13)(he:(dK x g fv).set i v=dK y g fv)(hs:y.rd=x.rd/\y.wr=x.wr/\y.au=x.au/\y.want=x.want)(hu:fG y.value) :
 ∃H',Op.store 1 [.ptr p i,v] H=B1 (.undef,H')/\dV H' o p y g fv/\Fr (On p) H H':=by
 refine⟨_,h.row.st i c d,?_,b9 ..⟩;rw[he];have f:Fr (On p) H (H.set p (OR (dK y g fv) Df)):=b9 ..;have np:∀z,9<=o z -> ¬On p z:=λ z q(w:z=p)=>by rw[w,h.op]at q;omega
 have⟨e1,e2,a,b⟩:=hs;exact⟨h.row.set _,by rw[e1,e2];exact h.lg.fr f (λ z _ q=>np z q) λ _ _=>rfl,by rw[a];exact h.nx.ky (pK.of f (λ z _ q=>np z (by omega)) λ _ _=>rfl),h.op,h.one,hu,by rw[e2];exact h.wu,by rw[b];exact h.qu⟩
def dV.Bw(h:dV H o p x g fv){H1:ar}(f:Fr (On p) H H1)(a:dV H1 o p y g fv):eK H o p y H1:=⟨o,g,fv,a,λ _ _=>rfl,f.mono λ z _(q:z=p)=>by rw[q,h.op];decide⟩
def Lg(h:dV H o p x g fv){r:Rq}(hr:fG r.v){nv:AV}(hn:NQ H o p nv (B1 n)):zd M qq0 [.ptr p 0,.agg (iR r),nv] H λ _ H'=>eK H o p (x.ask r n) H':=by
 refine q6r ?_;obtain⟨H1,e1,d,-,-⟩:=cq H (OR (iR r) EK);have j:At H1 H.au EK (iR r):=e1▸At.new H _ _;have e:=h.fr d (λ _ _ _ q=>q) λ _ _=>rfl;have l4:=j.eF (k:=0) (n:=4) (by simp[iR]);have one:aB nv=true:=by obtain⟨b,tv,q,-⟩:=hn;rw[q];rfl
 have s1:=e.row.fF (k:=1) (n:=4) (v:=.agg (iR r)) rfl (by simp[dK,iR]) rfl;have e2:(dK x g fv).take 1++AV.cells (.agg (iR r))++(dK x g fv).drop (1+4)=dK {x with want:=r} g fv:=rfl;rw[e2]at s1;obtain⟨H2,a⟩:∃X,X=H1.set p (OR (dK {x with want:=r} g fv) Df):=⟨_,rfl⟩
 rw[<-a]at s1;have i:At H2 p Df (dK {x with want:=r} g fv):=a▸e.row.set _;have s2:=i.st 5 one (by simp[dK,iR]);have m:(dK {x with want:=r} g fv).set 5 nv=dK (x.ask r n) g nv:=rfl;rw[m]at s2;have l:AV.cells (.agg (iR r))=iR r:=zr _;have c:Op.aq 4 [.ptr H.au 0] H1=B1 (.agg (iR r)):=l4;simp only[aa,bc,q6s,av,l,<-e1,c,s1,s2];have s:Fr (On p) H1 H2:=a▸b9 ..;have t:Fr (On p) H2 (H2.set p (OR (dK (x.ask r n) g nv) Df)):=b9 ..;have f:Fr (On p) H (H2.set p (OR (dK (x.ask r n) g nv) Df)):=((d.mono λ _ _ q=>q.elim).trans s λ z q=>.inl q).trans t λ z q=>.inl q;have np:∀z,9<=o z -> ¬On p z:=λ z q(w:z=p)=>by rw[w,h.op]at q;omega
 exact⟨o,g,nv,⟨i.set _,h.lg.fr f (λ z _ q=>np z q) λ _ _=>rfl,NQ.ky hn (pK.of f (λ z _ q=>np z (by omega)) λ _ _=>rfl),h.op,one,h.vu,h.wu,hr⟩,λ _ _=>rfl,f.mono λ z _(q:z=p)=>by rw[q,h.op];decide⟩
end
end Go.Am
namespace Go.Am
open Lang Go.Proofs
variable{M:ak}[MK M]
structure Mk(H:ar)(o:Nat->Nat)(H':ar)(o':Nat->Nat):Prop where
 f:Fr Em H H'
 ho:∀z,z<H.au->o' z=o z
section
variable{H H1 H2 H':ar}{o o1 o2 o':Nat->Nat}{p g:Nat}{x y:So}{fv kv gv tv:AV}{k:K0}{n:Nx}
def Mk.bk(m:Mk H o H1 o1):pK H o H1 o1:=pK.of m.f (λ _ _ _ q=>q) m.ho
theorem Mk.trans(m:Mk H o H1 o1)(w:Mk H1 o1 H2 o2):Mk H o H2 o2:=⟨m.f.em w.f,λ z q=>(w.ho z (qn q m.f.au)).trans (m.ho z q)⟩
theorem Mk.pre(m:Mk H o H1 o1)(h:eK H1 o1 p y H'):eK H o p y H':=eK.pre m.f m.ho h
def dV.bx(h:dV H o p x g fv)(v:AV)(t:Nat):∃H1 o1,H.alloc (OR [v] t)=H1/\dV H1 o1 p x g fv/\Bx H1 o1 H.au v/\Mk H o H1 o1:=by
 have⟨a,b,c⟩:=h.box v t;exact⟨_,_,rfl,a,b,(Fr.refl H).alloc _,c.own⟩
def dV.bz(h:dV H o p x g fv)(z:AV){v:AV}(a:aB v=B4)(t:Nat):∃H1 o1,Op.store 1 [.ptr H.au 0,v] (H.alloc (OR [z] t))=B1 (.undef,H1)/\dV H1 o1 p x g fv/\Bx H1 o1 H.au v/\Mk H o H1 o1:=by
 have s:=(At.new H [z] t).st 0 a (by simp);have f:Fr Em H ((H.alloc (OR [z] t)).set H.au (OR [v] t)):=((Fr.refl H).alloc _).set (.inr (qm _)) _;have ho:∀z,z<H.au->aP o H.au 30 z=o z:=λ z q=>iO q;exact⟨_,aP o H.au 30,s,h.fr f (λ _ _ _ q=>q) ho,⟨xc (xe ..),by rw[tI,xx];omega,nj (qm _)⟩,f,ho⟩
def dV.by0(h:dV H o p x g fv)(v:AV)(t:Nat):∃H1 o1,H.alloc (OR [v] t)=H1/\dV H1 o1 p x g fv/\By H1 o1 H.au v/\Mk H o H1 o1:=by
 have f:Fr Em H (H.alloc (OR [v] t)):=(Fr.refl H).alloc _;have ho:∀z,z<H.au->aP o H.au 31 z=o z:=λ z q=>iO q;exact⟨_,aP o H.au 31,rfl,h.fr f (λ _ _ _ q=>q) ho,⟨⟨t,xp ..⟩,by rw[xx];omega,nj (qm _)⟩,f,ho⟩
def dV.byz(h:dV H o p x g fv)(z:AV){v:AV}(a:aB v=B4)(t:Nat):∃H1 o1,Op.store 1 [.ptr H.au 0,v] (H.alloc (OR [z] t))=B1 (.undef,H1)/\dV H1 o1 p x g fv/\By H1 o1 H.au v/\Mk H o H1 o1:=by
 have s:=(At.new H [z] t).st 0 a (by simp);have f:Fr Em H ((H.alloc (OR [z] t)).set H.au (OR [v] t)):=((Fr.refl H).alloc _).set (.inr (qm _)) _;have ho:∀z,z<H.au->aP o H.au 31 z=o z:=λ z q=>iO q;exact⟨_,aP o H.au 31,s,h.fr f (λ _ _ _ q=>q) ho,⟨⟨t,xe ..⟩,by rw[tI,xx];omega,nj (qm _)⟩,f,ho⟩
def dV._W{b:Nat}{w v:AV}(h:dV H o p x g fv)(hn:x.au=B5)(hb:By H o b w)(i:aB v=B4):∃H1,Op.store 1 [.ptr b 0,v] H=B1 (.undef,H1)/\dV H1 o p x g fv/\By H1 o b v/\FE H o H1 o/\Fr (On b) H H1:=by
 have⟨⟨t,j⟩,c,d⟩:=hb;have a:At H b t [w]:=⟨j,c⟩
 have f:Fr (On b) H (H.set b (OR [v] t)):=b9 ..;have nb:∀z,o z≠31 -> ¬On b z:=λ z e(w:z=b)=>e (by rw[w];exact d);have nx:=h.nx;rw[hn]at nx;refine⟨_,a.st 0 i (by simp),⟨h.row.fr f (nb p (by rw[h.op];decide)),h.lg.FM f (λ z _ e=>nb z (by omega)),by rw[hn];exact nx,h.op,h.one,h.vu,h.wu,h.qu⟩,⟨⟨t,xe ..⟩,c,d⟩,FE.of f (λ z _ e=>nb z (by omega)) λ _ _=>rfl,f⟩
def Gl.one(h:Gl H o p tv n):aB tv=true:=by
 cases n with
 |wY m k=>have⟨c,d,e,kv,a,b⟩:=h;rw[a];rfl
 |uv m k=>have⟨c,d,e,kv,a,b⟩:=h;rw[a];rfl
 |xB=>have⟨c,d,gv,a,b⟩:=h;rw[a];rfl
 |wX k=>have⟨c,d,gv,a,b⟩:=h;rw[a];rfl
 |look k g rd i=>have⟨bi,l,r,bk,s,bs,q,j,a,b⟩:=h;rw[a];rfl
 |again k g=>have⟨c,d,e,kv,a,b⟩:=h;rw[a];rfl
 |wM z=>have⟨f,c,d,a,b⟩:=h;rw[a];rfl
 |nR z v=>have⟨f,c,d,e,a,b⟩:=h;rw[a];rfl
 |uy=>have⟨c,a,b⟩:=h;rw[a];rfl
 |FP k=>exact sG.one h
def Jz.one{ko:Option K0}(h:Jz H o p gv ko):aB gv=true:=by
 cases ko with
 |none=>rw[show gv=_ from h];rfl
 |some k=>have⟨b,c,kv,a,d⟩:=h;rw[a];rfl
def sO(h:dV H o p x g fv)(a:Int)(b:Gl H o p tv n)(hk:FB n=P7):zd M qpv [.ptr p 0,.int .i64 a,tv] H λ _ H'=>eK H o p (x.ask ⟨1,a,0,0⟩ n) H':=by
 refine q1v ?_;have⟨H1,o1,e1,f,d,c⟩:=h.bx tv UD;have e:Op.build [.int .i64 0,.int .i64 0,.int .u64 0,.int .u64 0] [(0,1),(1,1)] [.int .i64 1,.int .i64 a]=B1 (.agg (iR ⟨1,a,0,0⟩)):=rfl;simp only[aa,bc,q1w,FF b.one,e1,e];refine C3.q (Lg f bJ (n:=n) ⟨_,tv,by rw[hk];rfl,d,b.ky c.bk⟩) λ _ H2 hp=>?_;simp only[aa,bc];exact c.pre hp
def Pj(h:dV H o p x g fv)(a w:Int){v:Int}(i:fG v)(b:Gl H o p tv n)(hk:FB n=RH):zd M qq1 [.ptr p 0,.int .i64 a,.int .u64 w,.int .u64 v,tv] H λ _ H'=>eK H o p (x.ask ⟨3,a,v,w⟩ n) H':=by
 refine q6t ?_;have⟨H1,o1,e1,f,d,c⟩:=h.bx tv MG;have e:Op.build [.int .i64 0,.int .i64 0,.int .u64 0,.int .u64 0] [(0,1),(1,1),(2,1),(3,1)] [.int .i64 3,.int .i64 a,.int .u64 v,.int .u64 w]=B1 (.agg (iR ⟨3,a,v,w⟩)):=rfl;simp only[aa,bc,q6u,FF b.one,e1,e];refine C3.q (Lg f (r:=⟨3,a,v,w⟩) i (n:=n) ⟨_,tv,by rw[hk];rfl,d,b.ky c.bk⟩) λ _ H2 hp=>?_;simp only[aa,bc];exact c.pre hp
def EG(h:dV H o p x g fv)(a:Int){v:Int}(i:fG v)(b:sG H o p tv k):zd M oS [.ptr p 0,.int .i64 a,.int .u64 v,tv] H λ _ H'=>eK H o p (x.ask ⟨2,a,v,0⟩ (.FP k)) H':=by
 refine qzc ?_;have⟨H1,o1,e1,f,d,c⟩:=h.bx tv HE;have e:Op.build [.int .i64 0,.int .i64 0,.int .u64 0,.int .u64 0] [(0,1),(1,1),(2,1)] [.int .i64 2,.int .i64 a,.int .u64 v]=B1 (.agg (iR ⟨2,a,v,0⟩)):=rfl;simp only[aa,bc,qzd,FF b.one,e1,e];refine C3.q (Lg f (r:=⟨2,a,v,0⟩) i (n:=.FP k) ⟨_,tv,rfl,d,b.ky c.bk⟩) λ _ H2 hp=>?_;simp only[aa,bc];exact c.pre hp
def wI(h:dV H o p x g fv)(z:Int)(hk:sG H o p kv k):zd M qnm [.ptr p 0,.int .u64 z,kv] H λ _ H'=>eK H o p (x.count z k) H':=by
 refine qy2 ?_;have⟨H1,o1,e1,l,e,c⟩:=h.bx (.ptr p 0) K1;have⟨H2,o2,e2,m,f,s⟩:=l.bx (.int .u64 z) V9;have⟨t,o3,j,r,i,d⟩:=m.bx kv HE;have a:=s.trans d;have b:=e.ky a.bk;simp only[aa,bc,qy3,FF hk.one,e1,e2,j,b.ld];refine C3.q (sO r 1 (n:=.wY z k) ⟨_,_,_,kv,rfl,b,f.ky d.bk,i,hk.ky (c.trans a).bk⟩ rfl) λ _ u hp=>?_;simp only[aa,bc];exact(c.trans a).pre hp
def px(h:dV H o p x g fv)(a:Int):zd M TG [.ptr p 0,.int .i64 a] H λ _ H'=>eK H o p (x.leave a) H':=by
 refine qy6 ?_;have⟨H1,o1,e1,f,d,j⟩:=h.bx (.ptr p 0) K1;have⟨H2,o2,e2,i,e,c⟩:=f.bx (.int .i64 a) cE;have b:=d.ky c.bk;simp only[aa,bc,qy7,e1,e2,b.ld];refine C3.q (wI i 18446744073709551615 (k:=.left a) ⟨_,_,rfl,e,b⟩) λ _ l hp=>?_;simp only[aa,bc];exact(j.trans c).pre hp
def Mq:Option K0->Nx
 |none=>.xB
 |some k=>.wX k
def qL(h:dV H o p x g fv){ko:Option K0}(hg:Jz H o p gv ko):zd M qmf [.ptr p 0,gv] H λ _ H'=>eK H o p (x.ask ⟨1,0,0,0⟩ (Mq ko)) H':=by
 refine qwz ?_;have⟨H1,o1,e1,i,f,e⟩:=h.bx (.ptr p 0) K1;have⟨H2,o2,e2,j,d,c⟩:=i.bx gv UD;have b:=f.ky c.bk;have a:=hg.ky (e.trans c).bk;have l:Gl H2 o2 p (lM Ue [H.au,H1.au]) (Mq ko):=by
  cases ko with
  |none=>exact⟨_,_,gv,rfl,b,d,a⟩
  |some k=>exact⟨_,_,gv,rfl,b,d,a⟩
 have hk:FB (Mq ko)=P7:=by cases ko<;>rfl
 simp only[aa,bc,qw0,FF hg.one,e1,e2,b.ld];refine C3.q (sO j 0 l hk) λ _ m hp=>?_;simp only[aa,bc];exact(e.trans c).pre hp
def YW(h:dV H o p x g fv)(hk:sG H o p kv k):zd M sA [.ptr p 0,kv] H λ _ H'=>eK H o p (x.validate k) H':=by
 refine qs4 ?_;have⟨H1,o1,e1,f,d,c⟩:=h.bx (.ptr p 0) K1;have⟨H2,o2,e2,i,e,a⟩:=f.bx kv HE;have b:=d.ky a.bk;simp only[aa,bc,qs5,FF hk.one,e1,e2,b.ld];refine C3.q (qL i (ko:=B1 k) ⟨_,_,kv,rfl,b,e,hk.ky (c.trans a).bk⟩) λ _ j hp=>?_;simp only[aa,bc];exact(c.trans a).pre hp
def Dp(h:dV H o p x g fv){a:Int}(ha:0<=a):zd M qnn [.ptr p 0,.int .i64 a] H λ _ H'=>eK H o p (x.kT a) H':=by
 refine qy4 ?_;have⟨H1,o1,e1,f,e,j⟩:=h.bx (.ptr p 0) K1;have⟨H2,o2,e2,i,b,d⟩:=f.bx (.int .i64 a) cE;have c:=e.ky d.bk;simp only[aa,bc,qy5,e1,e2,c.ld,b.ld];refine C3.q (sO i a (n:=.wM a) ⟨ha,_,_,rfl,c,b⟩ rfl) λ _ l hp=>?_;simp only[aa,bc];exact(j.trans d).pre hp
def JS(h:dV H o p x g fv):zd M Vm [.ptr p 0] H λ _ H'=>eK H o p x.take H':=by
 refine q1z ?_;have⟨H1,o1,e1,b,a,c⟩:=h.bx (.ptr p 0) K1;simp only[aa,bc,q11,av,e1,a.ld,b.bj];refine C3.q (Pj b 0 x.snap (FY _) (n:=.uy) ⟨_,rfl,a⟩ rfl) λ _ d hp=>?_;simp only[aa,bc];exact c.pre hp
def PD(h:dV H o p x g fv):zd M Xh [.ptr p 0] H λ _ H'=>eK H o p x.tX H':=by
 refine q12 ?_;simp only[aa,bc,q13];refine C3.q (qL h (ko:=B5) rfl) λ _ a hp=>?_;simp only[aa,bc];exact hp
def J6(h:dV H o p x g fv){lv:AV}{l:List Pr}(hl:bX cM 2 H lv l)(hu:∀y∈l,fG y.v)(hb:l≠[]->aF lv<H.au/\o (aF lv)=30)(one:aB lv=B4):zd M qpu [.ptr p 0,lv] H λ _ H'=>eK H o p (x.back l) H':=by
 refine q1s ?_;have⟨H1,o1,e1,B,A,D⟩:=h.bx (.ptr p 0) K1;have⟨H2,o2,e2,s,r,t⟩:=B.bx lv oH;have e:=A.ky t.bk;have d:=D.trans t;have b:=d.bk.m.sl hl hb;have ln:=b.len;cases l with
 |nil =>
  have c:¬(0:Int)<(([]:List Pr).length:Int):=by decide
  simp only[aa,bc,j4,av,FF one,e1,e2,e.ld,r.ld,ln,c,s.bj];refine C3.q (EG s 0 (FY _) (k:=.fin) ⟨_,rfl,e⟩) λ _ w hp=>?_;simp only[aa,bc];exact d.pre hp
 |cons y l =>
  have c:(0:Int)<((y::l).length:Int):=by rw[zz];omega
  have ix:Op.aQ 2 [lv,.int .i64 0]=B1 (.ptr (aF lv) (cZ 2 lv 0)):=b.idx (i:=0) rfl rfl .i64;have l0:Op.ae [.ptr (aF lv) (cZ 2 lv 0)] H2=B1 (.int .i64 y.a):=b.jO Cu (i:=0) rfl (by decide);have l1:Op.ae [.ptr (aF lv) (cZ 2 lv 0+1)] H2=B1 (.int .u64 y.v):=b.ae Cu (i:=0) rfl (j:=1) (by decide);have⟨u,E⟩:=hb (by simp);simp only[aa,bc,j4,FF one,e1,e2,e.ld,r.ld,ln,c,ix,l0,l1];refine C3.q (EG s y.a (hu y (by simp)) (k:=.back l) ⟨λ z C=>hu z (by simp[C]),_,_,lv,y,rfl,e,r,b,qn u d.f.au,(d.ho _ u).trans E⟩) λ _ w hp=>?_;simp only[aa,bc];exact d.pre hp
end
end Go.Am
namespace Go.Am
open Lang Go.Proofs
variable{M:ak}[MK M]
section
variable{H H1 H2 H':ar}{o o1 o2 o':Nat->Nat}{p g:Nat}{x y:So}{fv kv gv tv:AV}{k:K0}{n:Nx}
def dV.on(h:dV H o p x g fv)(f:Fr (On p) H H1):pK H o H1 o:=pK.of f (λ z _ q(w:z=p)=>by rw[w,h.op]at q;omega) λ _ _=>rfl
def dV.w0(h:dV H o p x g fv){W:Nat->Prop}(f:Fr W H H1)(hw:∀z,W z->z=p):Fr (λ z=>8<=o z) H H1:=f.mono λ z _ q=>by rw[hw z q,h.op];decide
def eK.step(h:dV H o p x g fv)(f:Fr (On p) H H1)(b:eK H1 o p y H'):eK H o p y H':=by
 have⟨o2,c,a,d,e,i⟩:=b;exact⟨o2,c,a,d,λ z q=>e z (qn q f.au),(h.w0 f λ _ q=>q).trans i λ z q=>.inl q⟩
def dV.log{rd wr:List Pr}(h:dV H o p x g fv)(hp:vX H o g rd wr H1)(hu:∀y∈wr,fG y.v):∃o1,dV H1 o1 p {x with rd:=rd,wr:=wr} g fv/\pK H o H1 o1/\Fr (λ z=>8<=o z) H H1:=by
 have⟨o1,c,b,a⟩:=hp;have bk:pK H o H1 o1:=pK.of a (λ z _ q w=>by omega) b;exact⟨o1,⟨h.row.fr a (λ w=>by have:=h.op;omega),c,h.nx.ky bk,(b p h.row.2).trans h.op,h.one,h.vu,hu,h.qu⟩,bk,a.mono λ z _ q=>by omega⟩
def eK.after(c:∀z,z<H.au->o1 z=o z)(f:Fr (λ z=>8<=o z) H H1)(b:eK H1 o1 p y H'):eK H o p y H':=by
 have⟨o2,d,a,e,h,i⟩:=b;refine⟨o2,d,a,e,λ z q=>(h z (qn q f.au)).trans (c z q),f.trans i λ z q=>?_⟩;rcases x9 z H.au with w|w
 .exact .inl (by rw[<-c z w];exact q)
 .exact .inr w
def Cz(h:dV H o p x g fv):zd M T6 [.ptr p 0] H λ _ H'=>dV H' o p {x with busy:=B2} g fv/\Fr (On p) H H':=by
 refine q1t ?_;have⟨H1,s1,b,a⟩:=h.put 6 (v:=.bool B2) (y:={x with busy:=B2}) rfl (by decide) rfl ⟨rfl,rfl,rfl,rfl⟩ h.vu;simp only[aa,bc,q1u,av,s1];exact⟨b,a⟩
def xT(h:dV H o p x g fv)(v:Int):zd M Uf [.ptr p 0,.int .u64 v] H λ _ H'=>dV H' o p (x.pO v) g fv/\Fr (On p) H H':=by
 refine qy8 ?_;have⟨H1,s1,c,a⟩:=h.put 9 (v:=.int .u64 v) (y:={x with snap:=v}) rfl (by decide) rfl ⟨rfl,rfl,rfl,rfl⟩ h.vu;have⟨H2,s2,d,b⟩:=c.put 12 (v:=.int .i64 (aj .i64 (x.points+1))) (y:=x.pO v) rfl (by decide) rfl ⟨rfl,rfl,rfl,rfl⟩ h.vu;simp only[aa,bc,qy9,av,h.bj,s1,s2];exact⟨d,a.trans b λ z q=>.inl q⟩
def LY(h:dV H o p x g fv)(v:Int):zd M Wn [.ptr p 0,.int .u64 v] H λ _ H'=>eK H o p {x.pO v with live:=B4,busy:=B2} H':=by
 refine qyy ?_;simp only[aa,bc,qyz];refine C3.q (xT h v) λ _ H1⟨d,a⟩=>?_;have⟨H2,s2,e,b⟩:=d.put 7 (v:=.bool B4) (y:={x.pO v with live:=B4}) rfl (by decide) rfl ⟨rfl,rfl,rfl,rfl⟩ h.vu;simp only[aa,bc,av,s2];refine C3.q (Cz e) λ _ i⟨f,c⟩=>?_;simp only[aa,bc];exact h.Bw ((a.trans b λ z q=>.inl q).trans c λ z q=>.inl q) f
def Ft(h:dV H o p x g fv)(hk:sG H o p kv k):∃f a c,kv=.fn (.func f) a c/\zd M f (a++c) H λ _ H'=>eK H o p (x.G2 k) H':=by
 cases k with
 |wait=>exact⟨_,_,_,hk,PD h⟩
 |take=>exact⟨_,_,_,hk,JS h⟩
 |left how =>
  obtain⟨d,r,rfl,b,j⟩:=hk;refine⟨_,_,_,rfl,?_⟩;show zd M Xr [.ptr d 0,.ptr r 0] H _;refine quz ?_;have⟨H1,s1,t,m⟩:=h.put 7 (v:=.bool B2) (y:={x with live:=B2}) rfl (by decide) rfl ⟨rfl,rfl,rfl,rfl⟩ h.vu;have d1:=b.ky (h.on m);have d2:=j.ky (h.on m);have⟨H2,s2,D,B⟩:=t.put 11 (v:=.int .i64 how) (y:={x with live:=B2,ended:=how}) rfl (by decide) rfl ⟨rfl,rfl,rfl,rfl⟩ h.vu;have e2:=d2.ky (t.on B);simp only[aa,bc,qu0,av,b.ld,j.ld,s1,d1.ld,d2.ld,s2,e2.ld];refine C3.q (Cz D) λ _ u⟨E,C⟩=>?_;simp only[aa,bc];exact h.Bw ((m.trans B λ z q=>.inl q).trans C λ z q=>.inl q) E
 |kT a =>
  obtain⟨A,d,r,rfl,b,j⟩:=hk;refine⟨_,_,_,rfl,?_⟩;show zd M WY [.ptr d 0,.ptr r 0] H _;refine qo5 ?_;simp only[aa,bc,qo6,b.ld,j.ld];refine C3.q (Dp h A) λ _ u hp=>?_;simp only[aa,bc];exact hp
 |back l =>
  obtain⟨A,d,r,lv,y,rfl,b,j,hl,F,G⟩:=hk;refine⟨_,_,_,rfl,?_⟩;show zd M Wx [.ptr d 0,.ptr r 0] H _;refine qwt ?_;have⟨s,s1,i,hb⟩:=hl.from Cu (k:=1) (by simp) (z:=1) rfl .i64;simp only[aa,bc,qwu,b.ld,j.ld,s1];have nb:l≠[]->aF s<H.au/\o (aF s)=30:=λ e=>by
   rcases hb with w|w
   .subst w;have:=i.len;have e2:l.length=0:=by
     have q:Op.ct [AV.nils]=B1 (.int .i64 0):=rfl;rw[q]at this;injection this with this;injection this with _ this
     simp only[List.drop_succ_cons,yv]at this;omega
    exact(e (zy.1 e2)).elim
   .rw [w];exact⟨F,G⟩
  refine C3.q (J6 h (l:=l) i A nb i.one) λ _ u hp=>?_;simp only[aa,bc];exact hp
 |fin =>
  obtain⟨d,rfl,b⟩:=hk;refine⟨_,_,_,rfl,?_⟩;show zd M XL [.ptr d 0] H _;refine qwv ?_;have⟨H1,s1,t,m⟩:=h.put 8 (v:=.bool B2) (y:={x with aH:=B2}) rfl (by decide) rfl ⟨rfl,rfl,rfl,rfl⟩ h.vu;have d1:=b.ky (h.on m);simp only[aa,bc,qww,av,b.ld,s1,d1.ld];refine C3.q (px t 1) λ _ u hp=>?_;simp only[aa,bc];exact eK.step h m hp
def JB{i:Nat}{e:Int}{rd:List Pr}{bi j d bk m bs l f:Nat}(h:dV H o p x g fv)(r:By H o bi (.int .i64 (i:Int)))(hle:i<=rd.length)(v:MU H o p k e rd bi j d bk m bs l f) :
 zd M S4 [.ptr bi 0,.ptr m 0,.ptr d 0,.ptr l 0,.ptr f 0] H λ _ H'=>eK H o p (x.step k e rd i) H':=by
 refine qoc ?_;have⟨kv,w,z,A⟩:=v.hk;have⟨rv,t,s,B,C⟩:=v.hr;have ln:=s.len;unfold So.step;rcases x9 i rd.length with q|q
 .have c:(i:Int)<(rd.length:Int):=by omega
  obtain⟨y,b⟩:∃y,rd[i]? = B1 y:=⟨rd[i],by simp[q]⟩
  have ix:Op.aQ 2 [rv,.int .i64 (i:Int)]=B1 (.ptr (aF rv) (cZ 2 rv i)):=s.idx b rfl .i64;have l0:Op.ae [.ptr (aF rv) (cZ 2 rv i)] H=B1 (.int .i64 y.a):=s.jO Cu b (by decide);simp only[aa,bc,qg8,r.ld,t.ld,ln,c,v.hp.ld,ix,l0,v.hl.ld,b];refine C3.q (sO h y.a (n:=.look k e rd i) ⟨bi,j,d,bk,m,bs,l,f,rfl,r,q,v⟩ rfl) λ _ u hp=>?_;simp only[aa,bc];exact hp
 .have c:¬(i:Int)<(rd.length:Int):=by omega
  have b:rd[i]? = none:=js q;simp only[aa,bc,qg8,r.ld,t.ld,ln,c,v.hp.ld,v.ha.ld,b];refine C3.q (sO h 0 (n:=.again k e) ⟨j,d,bk,kv,rfl,v.hg,v.hp,w,z⟩ rfl) λ _ u hp=>?_;simp only[aa,bc];exact hp
end
end Go.Am
namespace Go.Am
open Lang Go.Proofs
variable{M:ak}[MK M]
section
variable{H H1 H2 H':ar}{o o1 o2 o':Nat->Nat}{p g b f:Nat}{x y:So}{fv kv gv tv:AV}{k:K0}{n:Nx}{l:List Nat}{v:Int}{ok:Bool}{R:AV->ar->Prop}
def LQ(hb:Bx H o b (lM f l))(a:zd M f (.int .u64 v::l.map λ b=>.ptr b 0) H λ _ H'=>R .undef H'):zd M P7 [.int .u64 v,.bool ok,.ptr b 0] H λ _ H'=>R .undef H':=by
 refine qwx ?_;simp only[aa,bc,qwy,hb.ld,lM];refine C3.q a λ _ c hp=>?_;simp only[aa,bc];exact hp
def _a(hb:Bx H o b (lM f l))(a:zd M f (.bool ok::l.map λ b=>.ptr b 0) H λ _ H'=>R .undef H'):zd M RH [.int .u64 v,.bool ok,.ptr b 0] H λ _ H'=>R .undef H':=by
 refine qy0 ?_;simp only[aa,bc,qy1,hb.ld,lM];refine C3.q a λ _ c hp=>?_;simp only[aa,bc];exact hp
def pR{v:Int}(a:fG v):Op.bin .rem [.int .u64 v,.int .u64 2]=B1 (.int .u64 (v % 2)):=by
 rw[vG .u64 _ _ (by decide),Uo a.1]
def son(h:dV H o p x g fv)(hn:x.au=B5)(hv:fG v)(hb:Bx H o b tv)(O:Gl H o p tv n):zd M (FB n) [.int .u64 v,.bool ok,.ptr b 0] H λ _ H'=>eK H o p (x.on v ok n) H':=by
 cases n with
 |wY m k =>
  obtain⟨E,Y,J,kv,rfl,r,A,G,hk⟩:=O;refine LQ (R:=λ _ H'=>eK H o p _ H') hb ?_;refine quv ?_;simp only[aa,bc,quw,r.ld,A.ld];refine C3.q (Pj h 1 v (FY _) (n:=.uv m k) ⟨_,_,_,kv,rfl,r,A,G,hk⟩ rfl) λ _ d hp=>?_;simp only[aa,bc];exact hp
 |uv m k =>
  obtain⟨E,Y,J,kv,rfl,r,A,G,hk⟩:=O;refine _a (R:=λ _ H'=>eK H o p _ H') hb ?_;refine qr3 ?_;unfold So.on;cases ok with
  |true =>
   obtain⟨N,a,c,rfl,K⟩:=Ft (M:=M) h hk;simp only[aa,bc,qjo,G.ld];refine C3.q K λ _ d hp=>?_;simp only[aa,bc];exact hp
  |false =>
   simp only[aa,bc,qjo,r.ld,A.ld,G.ld,zq];refine C3.q (wI h m hk) λ _ d hp=>?_;simp only[aa,bc];exact hp
 |xB =>
  obtain⟨E,Y,gv,rfl,r,A,hg⟩:=O;refine LQ (R:=λ _ H'=>eK H o p _ H') hb ?_;refine qkl ?_;unfold So.on
  by_cases q:v % 2=1
  .simp only[aa,bc,Ub,pR hv,xb q,r.ld,A.ld];refine C3.q (qL h (ko:=B5) hg) λ _ d hp=>?_;simp only[aa,bc];exact hp
  .have hg:gv=_:=hg;subst hg;simp only[aa,bc,Ub,pR hv,q,A.ld];refine C3.q (LY h v) λ _ d hp=>?_;simp only[aa,bc];exact hp
 |wX k =>
  obtain⟨E,Y,gv,rfl,r,A,hg⟩:=O;refine LQ (R:=λ _ H'=>eK H o p _ H') hb ?_;refine qkl ?_;unfold So.on
  by_cases q:v % 2=1
  .simp only[aa,bc,Ub,pR hv,xb q,r.ld,A.ld];refine C3.q (qL h (ko:=B1 k) hg) λ _ d hp=>?_;simp only[aa,bc];exact hp
  .obtain ⟨J,b4,kv,rfl,d1,d2,hk⟩:=hg;simp only[aa,bc,Ub,pR hv,q,A.ld,lM,kh,FD];refine C3.q (R:=λ _ H'=>eK H o p (x.step k v x.rd 0) H') ?_ λ _ d hp=>?_
   .refine qqf ?_;have⟨H1,o1,e1,s,bg,C⟩:=h.bx (.int .u64 v) V9;have d11:=d1.ky C.bk;simp only[aa,bc,qqg,av,e1,d11.ld,s.bj];refine C3.q (Li s.lg) λ rv H2⟨t,D,F⟩=>?_;have one:aB rv=true:=Sl.one (Own.sl t)
    -- what is made since
    have X:Mk H1 o1 H2 (aP o1 H1.au 30):=⟨F,λ z q=>iO q⟩
    have T:=s.fr F (λ _ _ _ q=>q) X.ho;have hr:x.rd≠[]->aF rv<H2.au/\aP o1 H1.au 30 (aF rv)=30:=λ e=>by
     have on:=zR t e;exact⟨Own.lt t _ on,nj (D _ on)⟩
    have rt:∀{Hx ox},Mk H2 (aP o1 H1.au 30) Hx ox->bX cM 2 Hx rv x.rd/\(x.rd≠[]->aF rv<Hx.au/\ox (aF rv)=30):=λ m=>⟨m.bk.m.sl (aT.sl t) hr,λ e=>⟨qn (hr e).1 m.f.au,(m.ho _ (hr e).1).trans (hr e).2⟩⟩
    have⟨d,o3,s3,h3,br,m3⟩:=T.bz .nils one oH;have⟨u,o4,s4,h4,bi,m4⟩:=h3.byz (.int .i64 0) (v:=.int .i64 0) rfl cE;have⟨H5,o5,e5,h5,bs,m5⟩:=h4.by0 .nilf HE;have⟨H6,o6,s6,h6,bl,m6⟩:=h5.bz .nilf (v:=lM Sg [H2.au,d.au,J,u.au]) rfl UD;have⟨H7,o7,s7,h7,ba,m7⟩:=h6.bz .nilf (v:=lM Uw [H.au,J,b4]) rfl UD;have m13:=X.trans m3;have W:=((m4.trans m5).trans m6).trans m7;have m57:=(m5.trans m6).trans m7;have m67:=m6.trans m7;have m37:=m3.trans W;have m17:=m13.trans W;have Q:=C.trans m17;have⟨H8,s8,h8,V,U,f8⟩:=h7._W hn (bs.ky m67.bk) (v:=lM S4 [d.au,H2.au,J,H5.au,H6.au]) rfl;have P:=bi.ky m57.bk;have nb:d.au≠u.au:=by have:=m4.f.au;have:=bi.2.1;omega
    have bi8:By H8 o7 d.au (.int .i64 ((0:Nat):Int)):=⟨by rw[f8.ah _ P.2.1 nb];exact P.1,qn P.2.1 f8.au,P.2.2⟩
    have⟨t1,t2⟩:=rt m37;have n8:=f8.au;have one':=hk.one;have ln:=(aT.sl t).len;have B:MU H8 o7 p k v x.rd d.au H.au J b4 H2.au u.au H5.au H6.au :=
     ⟨(bg.ky m17.bk).km U,(d1.ky Q.bk).km U,⟨kv,(d2.ky Q.bk).km U,(hk.ky Q.bk).km U,one'⟩,⟨rv,(br.ky W.bk).km U,U.sl t1 t2,λ e=>⟨qn (t2 e).1 n8,(t2 e).2⟩,one⟩,V,(bl.ky m7.bk).km U,ba.km U,by have:=h.lg;have⟨_,_,_,_,_,_,_,_,_,_,q,_⟩:=this;exact q.le⟩
    have S:=V.ld;simp only[lM,kh,FD]at s6 s7 s8 S;simp only[aa,bc,s3,s4,e5,yx,yv,s6,s7,s8,S];refine C3.q (JB h8 bi8 (xz _) B) λ _ H9 hp=>?_;simp only[aa,bc];refine Q.pre ?_;have⟨o9,g9,fv9,w1,w2,w3⟩:=hp;exact⟨o9,g9,fv9,w1,λ z e=>w2 z (qn e n8),(f8.mono λ z _(e:z=u.au)=>by rw[e,V.2.2];decide).trans w3 λ z e=>.inl e⟩
   .simp only[aa,bc];exact hp
 |look k gg rd i =>
  obtain⟨bi,bg,bp,bk,br,bs,bl,ba,rfl,r,hi,B⟩:=O;refine LQ (R:=λ _ H'=>eK H o p _ H') hb ?_;refine qoa ?_;have⟨rv,t,D,F,r4⟩:=B.hr;obtain⟨y,hy⟩:∃y,rd[i]? = B1 y:=⟨rd[i],by simp[hi]⟩
  have hyd:rd.getD i ⟨0,0⟩=y:=by rw[zw,hy];rfl
  have ix:Op.aQ 2 [rv,.int .i64 (i:Int)]=B1 (.ptr (aF rv) (cZ 2 rv i)):=D.idx hy rfl .i64;have l1:Op.ae [.ptr (aF rv) (cZ 2 rv i+1)] H=B1 (.int .u64 y.v):=D.ae Cu hy (j:=1) (by decide);have eo:x.on v ok (.look k gg rd i)=if v≠y.v then x.leave 2 else x.step k gg rd (i+1):=by show(if v≠(rd.getD i ⟨0,0⟩).v then _ else _)=_;rw[hyd]
  rw[eo]
  by_cases q:v=y.v
  .have wj:aj .i64 ((i:Int)+1)=((i+1:Nat):Int):=by have:=B.hn;rw[jk (by omega) (by omega)];omega
   have⟨H1,s1,s,d1,C,I⟩:=h._W hn r (v:=.int .i64 ((i+1:Nat):Int)) rfl;have nb:bs≠bi:=λ e=>by
    have a1:=B.hs.ld;have a2:=r.ld;rw[e,a2]at a1;injection a1 with a1;cases a1
   have ds:By H1 o bs _:=⟨by rw[I.ah bs B.hs.2.1 nb];exact B.hs.1,qn B.hs.2.1 I.au,B.hs.2.2⟩
   have⟨kv,k1,k2,k3⟩:=B.hk;have va1:MU H1 o p k gg rd bi bg bp bk br bs bl ba:=⟨B.hg.km C,B.hp.km C,⟨kv,k1.km C,k2.km C,k3⟩,⟨rv,t.km C,C.sl D F,λ e=>⟨qn (F e).1 I.au,(F e).2⟩,r4⟩,ds,B.hl.km C,B.ha.km C,B.hn⟩
   simp only[aa,bc,qg6,t.ld,r.ld,ix,l1,xb q,wj,s1,ds.ld,lM,kh,FD];refine C3.q (JB s d1 hi va1) λ _ d hp=>?_;simp only[aa,bc];have⟨o2,g2,fv2,w1,w2,w3⟩:=hp;exact⟨o2,g2,fv2,w1,λ z e=>w2 z (qn e I.au),(I.mono λ z _(e:z=bi)=>by rw[e,r.2.2];decide).trans w3 λ z e=>.inl e⟩
  .simp only[aa,bc,qg6,t.ld,r.ld,ix,l1,q,B.hp.ld];refine C3.q (px h 2) λ _ d hp=>?_;simp only[aa,bc];exact hp
 |again k gg =>
  obtain⟨bg,bp,bk,kv,rfl,r,A,G,hk⟩:=O;refine LQ (R:=λ _ H'=>eK H o p _ H') hb ?_;refine qob ?_;unfold So.on
  by_cases q:v=gg
  .simp only[aa,bc,Δ,r.ld,A.ld,xb q];refine C3.q (xT h gg) λ _ H1⟨s,I⟩=>?_;have c31:=G.ky (h.on I);obtain⟨N,a,c,rfl,K⟩:=Ft (M:=M) s (hk.ky (h.on I));simp only[aa,bc,c31.ld];refine C3.q K λ _ d hp=>?_;simp only[aa,bc];exact eK.step h I hp
  .simp only[aa,bc,Δ,r.ld,A.ld,G.ld,q];refine C3.q (YW h hk) λ _ d hp=>?_;simp only[aa,bc];exact hp
 |wM a =>
  obtain⟨ha,E,Y,rfl,r,A⟩:=O;refine LQ (R:=λ _ H'=>eK H o p _ H') hb ?_;refine qux ?_;have⟨H1,o1,e1,s,J,C⟩:=h.bx (.int .u64 v) V9;have d1:=r.ky C.bk;have d2:=A.ky C.bk;simp only[aa,bc,quy,e1,d1.ld];refine C3.q (sO s 0 (n:=.nR a v) ⟨⟨ha,hv⟩,_,_,_,rfl,d1,d2,J⟩ rfl) λ _ d hp=>?_;simp only[aa,bc];exact C.pre hp
 |nR a w =>
  obtain⟨⟨ha,hw⟩,E,Y,J,rfl,r,A,G⟩:=O;refine LQ (R:=λ _ H'=>eK H o p _ H') hb ?_;refine qr4 ?_
  by_cases q:v=x.snap
  .have lw:=Yd (M:=M) h.lg a;have go:∀(l:List Pr){H1:ar}{o1:Nat->Nat},x.ah a w=B1 l->(dt x.rd a).getD w=w->dV H1 o1 p {x with rd:=l} g fv->pK H o H1 o1->Fr (λ z=>8<=o z) H H1 ->
    ∃H2,Op.store 1 [.ptr p 10,.int .u64 w] H1=B1 (.undef,H2)/\Op.ae [.ptr E 0] H1=B1 (.ptr p 0)/\Op.ae [.ptr J 0] H1=B1 (.int .u64 w)/\Op.ae [.ptr E 0] H2=B1 (.ptr p 0)/\zd M Uf [.ptr p 0,.int .u64 v] H2 λ _ d=>Op.ae [.ptr E 0] d=B1 (.ptr p 0)/\zd M T6 [.ptr p 0] d λ _ u=>eK H o p (x.on v ok (.nR a w)) u:=λ l{H1 o1}ek L s bk N=>by
    have⟨H2,s2,T,Z⟩:=s.put 10 (v:=.int .u64 w) (y:={x with rd:=l,value:=w}) rfl (by decide) rfl ⟨rfl,rfl,rfl,rfl⟩ hw;have d1:=r.ky bk;have d3:=G.ky bk;have e1:=d1.ky (s.on Z);refine⟨H2,s2,d1.ld,d3.ld,e1.ld,(xT T v).mono λ _ d⟨h3,f3⟩=>⟨(e1.ky (T.on f3)).ld,(Cz h3).mono λ _ u⟨h4,f4⟩=>?_⟩⟩;have e:x.on v ok (.nR a w) = {({x with rd:=l,value:=w}:So).pO v with busy:=B2}:=by
     show(if v≠x.snap then _ else if(dt x.rd a).getD w≠w then _ else match x.ah a w with|none=>_|some l=>_)=_;rw[qy (λ e=>e q),qy (λ e=>e L),ek]
    rw[e];exact eK.after bk.own N (s.Bw ((Z.trans f3 λ z q=>.inl q).trans f4 λ z q=>.inl q) h4)
   have lv:∀{H1:ar}{o1:Nat->Nat},(dt x.rd a).getD w≠w\/(dt x.rd a).getD w=w/\x.ah a w=B5->dV H1 o1 p x g fv->pK H o H1 o1->Fr (λ z=>8<=o z) H H1->Op.ae [.ptr E 0] H1=B1 (.ptr p 0)/\zd M TG [.ptr p 0,.int .i64 2] H1 λ _ u=>eK H o p (x.on v ok (.nR a w)) u:=λ{H1 o1}L s bk N=>by
    refine⟨(r.ky bk).ld,(px s 2).mono λ _ u hp=>?_⟩;have e:x.on v ok (.nR a w)=x.leave 2:=by
     show(if v≠x.snap then _ else if(dt x.rd a).getD w≠w then _ else match x.ah a w with|none=>_|some l=>_)=_;rw[qy (λ e=>e q)];rcases L with L|⟨L,ek⟩
     .rw [xg L]
     .rw [qy (λ e=>e L),ek]
    rw[e];exact eK.after bk.own N hp
   have bk0:pK H o H o:=⟨⟨λ _ _ _=>rfl,λ _ _=>rfl,qm _⟩,λ _ _ _=>rfl⟩
   have rest:∀{e:AV}{H1:ar},(dt x.rd a).getD w=w->Mh H o g x.rd a e (vX H o g x.rd x.wr H1) (vX H o g (if dt x.rd a=B5 then x.rd ++ [⟨a,w⟩]else x.rd) x.wr H1)->(e=.int .i64 70/\Op.ae [.ptr E 0] H1=B1 (.ptr p 0)/\zd M TG [.ptr p 0,.int .i64 2] H1 λ _ u=>eK H o p (x.on v ok (.nR a w)) u)\/e=.int .i64 0 /\ ∃H2,Op.store 1 [.ptr p 10,.int .u64 w] H1=B1 (.undef,H2)/\Op.ae [.ptr E 0] H1=B1 (.ptr p 0)/\Op.ae [.ptr J 0] H1=B1 (.int .u64 w)/\Op.ae [.ptr E 0] H2=B1 (.ptr p 0)/\zd M Uf [.ptr p 0,.int .u64 v] H2 λ _ d=>Op.ae [.ptr E 0] d=B1 (.ptr p 0)/\zd M T6 [.ptr p 0] d λ _ u=>eK H o p (x.on v ok (.nR a w)) u:=λ L K=>by
    rcases K with⟨l1,l2,rfl,hp⟩|⟨l1,rfl,hp⟩
    .have ⟨o1,s,bk,N⟩:=h.log hp h.wu;exact .inl ⟨rfl,lv (.inr ⟨L,by unfold So.ah;rw[l1];simp only;rw[xg l2]⟩) s bk N⟩
    .have ⟨o1,s,bk,N⟩:=h.log hp h.wu;refine .inr ⟨rfl,go _ ?_ L s bk N⟩;unfold So.ah;cases hl:dt x.rd a with
     |some z=>simp only;rw[qy (by simp)]
     |none=>simp only;rw[qy λ e=>l1 ⟨hl,e⟩,xg trivial]
   cases hl:dt x.rd a with
   |some z =>
    rw[hl]at lw
    by_cases qz:z=w
    .subst qz;simp only[aa,bc,Nl,av,r.ld,h.bj,xb q,A.ld,lw,G.ld,vm,vy];refine C3.q (Jj h.lg ha z) λ e H1 K=>?_;rcases rest (by rw[hl];rfl) K with⟨rfl,t,D⟩|⟨rfl,H2,t,D,F,r4,r5⟩
     .have t7:¬(70:Int)=0:=by decide
      simp only[aa,bc,t7,t];refine C3.q D λ _ u hp=>?_;simp only[aa,bc];exact hp
     .simp only[aa,bc,Nl,av,t,D,F,r4];refine C3.q r5 λ _ d⟨r6,r7⟩=>?_;simp only[aa,bc,r6];refine C3.q r7 λ _ u hp=>?_;simp only[aa,bc];exact hp
    .simp only[aa,bc,Nl,av,r.ld,h.bj,xb q,A.ld,lw,G.ld,vm,vy,qz];refine C3.q (lv (.inl (by rw[hl];exact qz)) h bk0 (Fr.refl _)).2 λ _ u hp=>?_;simp only[aa,bc];exact hp
   |none =>
    rw[hl]at lw;simp only[aa,bc,Nl,av,r.ld,h.bj,xb q,A.ld,lw,G.ld,Option.getD_none,NN];refine C3.q (Jj h.lg ha w) λ e H1 K=>?_;rcases rest (by rw[hl];rfl) K with⟨rfl,t,D⟩|⟨rfl,H2,t,D,F,r4,r5⟩
    .have t7:¬(70:Int)=0:=by decide
     simp only[aa,bc,t7,t];refine C3.q D λ _ u hp=>?_;simp only[aa,bc];exact hp
    .simp only[aa,bc,Nl,av,t,D,F,r4];refine C3.q r5 λ _ d⟨r6,r7⟩=>?_;simp only[aa,bc,r6];refine C3.q r7 λ _ u hp=>?_;simp only[aa,bc];exact hp
  .have e:x.on v ok (.nR a w)=x.validate (.kT a):=xg q;rw[e];simp only[aa,bc,Nl,av,r.ld,h.bj,q];refine C3.q (YW h (k:=.kT a) ⟨ha,_,_,rfl,r,A⟩) λ _ d hp=>?_;simp only[aa,bc];exact hp
 |uy =>
  obtain⟨E,rfl,r⟩:=O;refine _a (R:=λ _ H'=>eK H o p _ H') hb ?_;refine qw1 ?_;unfold So.on;cases ok with
  |true =>
   have⟨H1,s1,s,I⟩:=h.put 12 (v:=.int .i64 (aj .i64 (x.points+1))) (y:={x with points:=aj .i64 (x.points+1)}) rfl (by decide) rfl ⟨rfl,rfl,rfl,rfl⟩ h.vu;have d1:=r.ky (h.on I);have⟨H2,s2,T,Z⟩:=s.put 8 (v:=.bool B4) (y:={x with points:=aj .i64 (x.points+1),aH:=B4}) rfl (by decide) rfl ⟨rfl,rfl,rfl,rfl⟩ h.vu;have e1:=d1.ky (s.on Z);simp only[aa,bc,qms,av,r.ld,h.bj,s1,d1.ld,s2,e1.ld,T.bj];refine C3.q (yP T.lg) λ lv d⟨t,D,F⟩=>?_;have one:aB lv=true:=Sl.one (Own.sl t);have X:Mk H2 o d (aP o H2.au 30):=⟨F,λ z q=>iO q⟩
   have h3:=T.fr F (λ _ _ _ q=>q) X.ho;have e3:=e1.ky X.bk;have hr:x.wr≠[]->aF lv<d.au/\aP o H2.au 30 (aF lv)=30:=λ e=>by
    have on:=zR t e;exact⟨Own.lt t _ on,nj (D _ on)⟩
   simp only[aa,bc,e3.ld];refine C3.q (J6 h3 (aT.sl t) h.wu hr one) λ _ u hp=>?_;simp only[aa,bc];exact eK.step h (I.trans Z λ z q=>.inl q) (X.pre hp)
  |false =>
   simp only[aa,bc,qms,r.ld,zq];refine C3.q (YW h (k:=.take) rfl) λ _ d hp=>?_;simp only[aa,bc];exact hp
 |FP k =>
  refine qu1 ?_;obtain⟨N,a,c,rfl,K⟩:=Ft (M:=M) h O;simp only[aa,bc,qu2,hb.ld];refine C3.q K λ _ d hp=>?_;simp only[aa,bc];exact hp
end
end Go.Am
namespace Go.Am
open Lang Go.Proofs
variable{M:ak}[MK M]
section
variable{H H1 H2 H':ar}{o o1 o2 o':Nat->Nat}{p g b f:Nat}{x y:So}{fv kv gv tv:AV}{v:Int}{ok:Bool}
def kZ(h:dV H o p x g fv):∀K,C3 M B4 (.func C') [.ptr p 0] H K=K B4 (.bool B2) H:=by
 refine dA (q1x ?_);simp only[aa,bc,q1y,av,h.bj]
def ij(h:dV H o p x g fv):∀K,C3 M B4 (.func qp) [.ptr p 0] H K=K B4 (.bool x.busy) H:=by
 refine dA (q1l ?_);simp only[aa,bc,q1m,av,kZ h,h.bj]
def JY(h:dV H o p x g fv):∀K,C3 M B4 (.func qlj) [.ptr p 0] H K=K B4 (.bool x.aH) H:=by
 refine dA (qut ?_);simp only[aa,bc,quu,av,kZ h,h.bj]
def CL(h:dV H o p x g fv):∀K,C3 M B4 (.func qnl) [.ptr p 0] H K=K B4 (.int .u64 x.value) H:=by
 refine dA (qyw ?_);simp only[aa,bc,qyx,av,kZ h,h.bj]
def qN(h:dV H o p x g fv):∀K,C3 M B4 (.func qnj) [.ptr p 0] H K=K B4 (.int .i64 x.ended) H:=by
 refine dA (qyt ?_);simp only[aa,bc,qyu,av,kZ h,h.bj]
def eO(h:dV H o p x g fv):∀K,C3 M B4 (.func Ψ) [.ptr p 0] H K=K B4 (.int .i64 x.points) H:=by
 refine dA (qwr ?_);simp only[aa,bc,qws,av,kZ h,h.bj]
def mX(h:dV H o p x g fv):∀K,C3 M B4 (.func kx) [.ptr p 0] H K=K B4 (.int .i64 (if x.ready=B4 then 0 else 80)) H:=by
 refine dA (qza ?_);unfold So.ready;cases q:x.busy<;>cases r:x.live<;>simp only[aa,bc,qzb,av,kZ h,h.bj,q,r,zq,Bool.true_and,Bool.false_and]
def M8(h:dV H o p x g fv)(a:Int):∀K,C3 M B4 (.func L_) [.ptr p 0,.int .i64 a] H K=K B4 (.int .i64 (if x.ready=B4 then if 8<=a then 0 else 2 else 80)) H:=by
 refine dA (qu3 ?_);have d:¬(80:Int)=0:=by decide
 cases q:x.ready
 .simp only[aa,bc,Zd,mX h,q,zq,d]
 .by_cases r:8<=a
  .have c:¬a<8:=HH.2 r;simp only[aa,bc,Zd,mX h,q,c,xb r]
  .have c:a<8:=Int.not_le.1 r;simp only[aa,bc,Zd,mX h,q,xb c,r]
def NZ:[AV.int .i64 0,.int .i64 0,.int .u64 0,.int .u64 0]=iR ⟨0,0,0,0⟩:=rfl
def RQ(h:dV H o p x g fv):zd M k_ [.ptr p 0] H λ w H'=>(∃q,w=.tuple [.agg (iR x.want),.bool q])/\Fr Em H H':=by
 refine q1q ?_;obtain⟨H1,e1,i,-,-⟩:=cq H (OR (iR ⟨0,0,0,0⟩) EK);have d:At H1 H.au EK _:=e1▸At.new H _ _;have c:=h.fr i (λ _ _ _ q=>q) λ _ _=>rfl;have l4:Op.aq 4 [.ptr p 1] H1=B1 (.agg (iR x.want)):=c.row.eF (k:=1) (n:=4) (by simp[dK,iR]);have s1:=d.fF (k:=0) (n:=4) (v:=.agg (iR x.want)) rfl (by simp[iR]) rfl;have e2:(iR ⟨0,0,0,0⟩).take 0++AV.cells (.agg (iR x.want))++(iR ⟨0,0,0,0⟩).drop (0+4)=iR x.want:=rfl;rw[e2]at s1;obtain⟨H2,a⟩:∃X,X=H1.set H.au (OR (iR x.want) EK):=⟨_,rfl⟩
 rw[<-a]at s1;have j:Fr Em H H2:=a▸i.set (.inr (qm _)) _;have m:At H2 H.au EK (iR x.want):=a▸d.set _;have r:=h.fr j (λ _ _ _ q=>q) λ _ _=>rfl;have t:Op.aq 4 [.ptr H.au 0] H2=B1 (.agg (iR x.want)):=m.eF (k:=0) (n:=4) (by simp[iR]);obtain⟨q,s⟩:∃q:Bool,∀H,Op.eq .func B4 [fv,.nilf] H=B1 (.bool q):=by
  have:=h.nx;cases e:x.au with
  |none=>rw[e]at this;rw[show fv=_ from this];exact⟨B2,λ _=>rfl⟩
  |some n=>rw[e]at this;obtain⟨b,tv,rfl,-⟩:=this;exact⟨B4,λ _=>rfl⟩
 simp only[aa,bc,q1r,av,NZ,<-e1,kZ c,l4,c.bj,r.bj,s,s1,t];exact⟨⟨q,rfl⟩,j⟩
def PO(h:dV H o p x g fv)(m:fG v):zd M R' [.ptr p 0,.int .u64 v,.bool ok] H λ _ H'=>eK H o p (x.fJ v ok) H':=by
 refine q1n ?_;unfold So.fJ;have nx:=h.nx;cases e:x.au with
 |none =>
  rw[e]at nx;have nx:fv=.nilf:=nx;subst nx;have q:∀H,Op.eq .func B2 [.nilf,.nilf] H=B1 (.bool B4):=λ _=>rfl;simp only[aa,bc,t_,av,kZ h,h.bj,q];exact h.same
 |some n =>
  rw[e]at nx;obtain⟨b,tv,rfl,hb,j⟩:=nx;have q:∀f l H,Op.eq .func B2 [.fn f [] l,.nilf] H=B1 (.bool B2):=λ _ _ _=>rfl;have c:Op.build (iR ⟨0,0,0,0⟩) [] []=B1 (.agg (iR ⟨0,0,0,0⟩)):=rfl;have s1:=h.row.fF (k:=1) (n:=4) (v:=.agg (iR ⟨0,0,0,0⟩)) rfl (by simp[dK,iR]) rfl;have e2:(dK x g (lM (FB n) [b])).take 1++AV.cells (.agg (iR ⟨0,0,0,0⟩))++(dK x g (lM (FB n) [b])).drop (1+4)=dK {x with want:=⟨0,0,0,0⟩} g (lM (FB n) [b]):=rfl;rw[e2]at s1;obtain⟨H1,e1⟩:∃X,X=H.set p (OR (dK {x with want:=⟨0,0,0,0⟩} g (lM (FB n) [b])) Df):=⟨_,rfl⟩
  rw[<-e1]at s1;have a:At H1 p Df _:=e1▸h.row.set _;have s2:=a.st 5 (v:=.nilf) rfl (by simp[dK,iR]);have d:(dK {x with want:=⟨0,0,0,0⟩} g (lM (FB n) [b])).set 5 .nilf=dK {x with want:=⟨0,0,0,0⟩,au:=B5} g .nilf:=rfl;rw[d]at s2;have f:Fr (On p) H (H1.set p (OR (dK {x with want:=⟨0,0,0,0⟩,au:=B5} g .nilf) Df)):=(e1▸b9 H p _:Fr (On p) H H1).trans (b9 ..) λ z q=>.inl q;have bk:=h.on f;have i:dV (H1.set p (OR (dK {x with want:=⟨0,0,0,0⟩,au:=B5} g .nilf) Df)) o p {x with want:=⟨0,0,0,0⟩,au:=B5} g .nilf:=⟨a.set _,h.lg.fr f (λ z _ w(e:z=p)=>by rw[e,h.op]at w;omega) λ _ _=>rfl,rfl,h.op,rfl,h.vu,h.wu,bJ⟩
  simp only[aa,bc,t_,av,kZ h,h.bj,q,NZ,c,s1,s2,lM,kh,FD];refine C3.q (son i rfl m (hb.ky bk) (j.ky bk)) λ _ r hp=>?_;simp only[aa,bc];exact eK.step h f hp
def MV(h:dV H o p x g fv):zd M _0 [.ptr p 0] H λ _ H'=>eK H o p x.begin H':=by
 refine qys ?_;unfold So.begin
 by_cases q:x.busy=B4\/x.live=B4
 .rw [xg q];cases b:x.busy
  .have l:x.live=true:=q.resolve_left (by rw[b];simp);simp only[aa,bc,gS,av,kZ h,h.bj,b,l];exact h.same
  .simp only[aa,bc,gS,av,kZ h,h.bj,b];exact h.same
 .rw [qy q];have b:x.busy=false:=by cases r:x.busy;rfl;exact(q (.inl r)).elim
  have l:x.live=false:=by cases r:x.live;rfl;exact(q (.inr r)).elim
  simp only[aa,bc,gS,av,kZ h,h.bj,b,l];refine C3.q (MJ h.lg) λ _ H1 hp=>?_;have⟨o1,a,bk,i⟩:=h.log hp (λ y w=>by cases w);have⟨H2,s2,j,c⟩:=a.put 10 (v:=.int .u64 0) (y:={x with rd:=[],wr:=[],value:=0}) rfl (by decide) rfl ⟨rfl,rfl,rfl,rfl⟩ bJ;have⟨A,t,m,d⟩:=j.put 11 (v:=.int .i64 0) (y:={x with rd:=[],wr:=[],value:=0,ended:=0}) rfl (by decide) rfl ⟨rfl,rfl,rfl,rfl⟩ bJ;have⟨B,u,s,e⟩:=m.put 6 (v:=.bool B4) (y:={x with rd:=[],wr:=[],value:=0,ended:=0,busy:=B4}) rfl (by decide) rfl ⟨rfl,rfl,rfl,rfl⟩ bJ;simp only[aa,bc,av,s2,t,u];refine C3.q (wI s 1 (k:=.wait) rfl) λ _ C hp=>?_;simp only[aa,bc];simp only[l]at hp;exact eK.after bk.own i (eK.step a ((c.trans d λ z q=>.inl q).trans e λ z q=>.inl q) hp)
def xkc(h:dV H o p x g fv)(a:Int):zd M S_ [.ptr p 0,.int .i64 a] H λ _ H'=>eK H o p (x.load a) H':=by
 refine q1o ?_;unfold So.load;have A:¬(80:Int)=0:=by decide
 have u:¬(2:Int)=0:=by decide
 by_cases q:x.ready=B4/\8<=a
 .rw [xg q];have lk:=P4 (M:=M) h.lg a;cases e:dt x.wr a with
  |some z =>
   rw[e]at lk;have s:fG z:=by
    rw[Js]at e;obtain⟨i,m,rfl⟩:=xt.1 e;obtain⟨c,y,j,-⟩:=pL m;rw[zw,j];exact h.wu y (zg j)
   have⟨H1,s1,c,d⟩:=h.put 10 (v:=.int .u64 z) (y:={x with value:=z}) rfl (by decide) rfl ⟨rfl,rfl,rfl,rfl⟩ s;simp only[aa,bc,Tu,av,M8 h,q.1,xb q.2,h.bj,lk,vm,vy,s1];exact h.Bw d c
  |none =>
   rw[e]at lk;have⟨H1,s1,c,d⟩:=h.put 6 (v:=.bool B4) (y:={x with busy:=B4}) rfl (by decide) rfl ⟨rfl,rfl,rfl,rfl⟩ h.vu;simp only[aa,bc,Tu,av,M8 h,q.1,xb q.2,h.bj,lk,Option.getD_none,NN,s1];refine C3.q (Dp c (a:=a) (by omega)) λ _ B hp=>?_;simp only[aa,bc];exact eK.step h d hp
 .rw [qy q]
  by_cases r:x.ready=B4
  .have t:¬8<=a:=λ w=>q ⟨r,w⟩;simp only[aa,bc,Tu,M8 h,r,t,u];exact h.same
  .simp only[aa,bc,Tu,M8 h,qy r,A];exact h.same
def xgm(h:dV H o p x g fv)(a:Int)(j:fG v):zd M qnk [.ptr p 0,.int .i64 a,.int .u64 v] H λ _ H'=>eK H o p (x.store a v) H':=by
 refine qyv ?_;unfold So.store;have B:¬(80:Int)=0:=by decide
 have z:¬(2:Int)=0:=by decide
 have A:¬(70:Int)=0:=by decide
 by_cases q:x.ready=B4/\8<=a
 .rw [xg q];simp only[aa,bc,OP,av,M8 h,q.1,xb q.2,h.bj];refine C3.q (KM h.lg (a:=a) (by omega) v) λ e H1 t=>?_;rcases t with⟨l1,l2,rfl,hp⟩|⟨l1,rfl,hp⟩
  .rw [xg ⟨l1,l2⟩];have⟨o1,c,bk,d⟩:=h.log hp h.wu;have⟨H2,s2,s,m⟩:=c.put 6 (v:=.bool B4) (y:={x with busy:=B4}) rfl (by decide) rfl ⟨rfl,rfl,rfl,rfl⟩ h.vu;simp only[aa,bc,av,A,s2];refine C3.q (px s 2) λ _ C hp=>?_;simp only[aa,bc,OP];exact eK.after bk.own d (eK.step c m hp)
  .rw [qy l1];have hu:∀y∈fO x.wr a v,fG y.v:=λ y w=>by
    cases e:iy x.wr a with
    |none=>rw[Tb e]at w;exact(ji.1 w).elim (h.wu y) λ w=>by rw[jy.1 w];exact j
    |some i=>rw[Si e]at w;exact(FG w).elim (h.wu y) λ w=>by rw[w];exact j
   have⟨o1,c,bk,d⟩:=h.log hp hu;simp only[aa,bc,OP];exact⟨o1,_,_,c,bk.own,d⟩
 .rw [qy q]
  by_cases r:x.ready=B4
  .have u:¬8<=a:=λ w=>q ⟨r,w⟩;simp only[aa,bc,OP,M8 h,r,u,z];exact h.same
  .simp only[aa,bc,OP,M8 h,qy r,B];exact h.same
def xd6(h:dV H o p x g fv):zd M um [.ptr p 0] H λ _ H'=>eK H o p x.bE H':=by
 refine qwq ?_;unfold So.bE;have s:¬(80:Int)=0:=by decide
 by_cases r:x.ready=B4
 .rw [xg r];have⟨H1,s1,a,e⟩:=h.put 6 (v:=.bool B4) (y:={x with busy:=B4}) rfl (by decide) rfl ⟨rfl,rfl,rfl,rfl⟩ h.vu;simp only[aa,bc,YI,av,mX h,r,s1,a.bj];refine C3.q (yP a.lg) λ lv H2⟨m,t,d⟩=>?_;have ln:=(aT.sl m).len;have i:=a.fr d (λ _ _ _ q=>q) λ _ _=>rfl
  by_cases q:x.wr.length=0
  .have c:((x.wr.length:Nat):Int)=0:=by omega
   rw[xg q];simp only[aa,bc,ln,xb c];refine C3.q (px i 1) λ _ j hp=>?_;simp only[aa,bc];exact eK.step h e (eK.pre d (λ _ _=>rfl) hp)
  .have c:¬((x.wr.length:Nat):Int)=0:=by omega
   rw[qy q];simp only[aa,bc,YI,ln,c];refine C3.q (JS i) λ _ j hp=>?_;simp only[aa,bc];exact eK.step h e (eK.pre d (λ _ _=>rfl) hp)
 .rw [qy r];simp only[aa,bc,YI,mX h,qy r,s];exact h.same
def xkf(h:dV H o p x g fv):zd M qps [.ptr p 0] H λ _ H'=>eK H o p x.Fc H':=by
 refine q1p ?_;unfold So.Fc;have d:¬(80:Int)=0:=by decide
 by_cases r:x.ready=B4
 .rw [xg r];have⟨H1,s1,c,a⟩:=h.put 6 (v:=.bool B4) (y:={x with busy:=B4}) rfl (by decide) rfl ⟨rfl,rfl,rfl,rfl⟩ h.vu;simp only[aa,bc,VU,av,mX h,r,s1];refine C3.q (px c 3) λ _ e hp=>?_;simp only[aa,bc,VU];exact eK.step h a hp
 .rw [qy r];simp only[aa,bc,VU,mX h,qy r,d];exact h.same
end
end Go.Am
namespace Go.Am
open Lang Go.Proofs
variable{M:ak}[MK M]
def cJ(c:Co)(f l sp:Nat)(cv rv ov pv:AV):List AV:=[.int .i64 c.id,.int .i64 c.lines,cv,.ptr f 0,.ptr l 0,.ptr sp 0,.int .i64 c.ph,.int .i64 c.want.kind,.int .i64 c.want.au,.int .i64 c.want.pE,.int .u64 c.want.value,.int .u64 c.want.addr,.int .u64 c.seq,rv,.int .i64 c.done,.bool c.wrote,.bool c.held,.bool c.said,.int .i64 c.blocks,.int .i64 c.pw,.bool c.halted,.bool c.yS,ov,pv]
def ua(ps:List Pr):Prop:=∀i x,ps[i]? = B1 x->iy ps x.a=B1 i
structure JG(c:Co)(k:Nat):Prop where
 id:0<=c.id
 l2:2<=c.lines
 l64:c.lines<=64
 cl:c.code.length<=1024
 ru:∀y∈c.aS,fG y.v
 rl:c.aS.length<=k
 d0:0<=c.done
 wu:fG c.want.addr
 KP:ua c.aS
structure dW(H:ar)(o:Nat->Nat)(p f l sp:Nat)(cv rv ov pv:AV)(c:Co)(os:List fg)(k:Nat):Prop where
 row:At H p HM (cJ c f l sp cv rv ov pv)
 fi:qG H o f c.fi
 la:lW H l c.la
 so:∃g fv,dV H o sp c.so g fv
 cd:bX fX 5 H cv c.code
 rd:CR H rv c.aS
 ou:aT fg.enc ju 9 H ov os
 op:o p=1
 of:o f=2
 ol:o l=3
 qI:∀z,aM rv z->o z=5
 rj:∀z,aM ov z->o z=6
 mT:c.code≠[]->aF cv<H.au/\o (aF cv)=7
 FR:aB pv=B4
 w:JG c k
section
variable{H H':ar}{o o':Nat->Nat}{p f l sp k k':Nat}{cv rv ov pv:AV}{c d:Co}{os os':List fg}
def J3{α:Type}{enc:α->List AV}{size:Nat}{W:Nat->Prop}{lv:AV}{xs:List α}(h:bX enc size H lv xs)(a:Fr W H H')(hw:xs≠[] -> ¬W (aF lv)):bX enc size H' lv xs:=by
 cases xs with
 |nil=>exact Sl.fr h a (.inl rfl)
 |cons y l=>exact Sl.fr h a (.inr (hw (by simp)))
def dW.p_{W:Nat->Prop}(h:dW H o p f l sp cv rv ov pv c os k)(a:Fr W H H')(hw:∀z,z<H.au->o z≠0->o z≠4 -> ¬W z)(ho:∀z,z<H.au->o' z=o z)(hk:k<=k'):dW H' o' p f l sp cv rv ov pv c os k':=by
 have⟨g,fv,hs⟩:=h.so;have r:=λ z(q:aM rv z)=>Own.lt h.rd z q;have u:=λ z(q:aM ov z)=>Own.lt h.ou z q;exact⟨h.row.fr a (hw p h.row.2 (by rw[h.op];decide) (by rw[h.op];decide)),h.fi.fr a h.of (λ z q e=>hw z q (by omega) (by omega)) ho,h.la.fr a (hw l h.la.at'.2 (by rw[h.ol];decide) (by rw[h.ol];decide)),⟨g,fv,hs.fr a (λ z q e=>hw z q (by omega) (by omega)) ho⟩,
  J3 h.cd a λ e=>hw _ (h.mT e).1 (by rw[(h.mT e).2];decide) (by rw[(h.mT e).2];decide),Own.fr h.rd a λ z q=>hw z (r z q) (by rw[h.qI z q];decide) (by rw[h.qI z q];decide),Own.fr h.ou a λ z q=>hw z (u z q) (by rw[h.rj z q];decide) (by rw[h.rj z q];decide),
  (ho p h.row.2).trans h.op,(ho f (by obtain⟨pv,q,-⟩:=h.fi.at';exact q.2)).trans h.of,(ho l h.la.at'.2).trans h.ol,λ z q=>(ho z (r z q)).trans (h.qI z q),λ z q=>(ho z (u z q)).trans (h.rj z q),λ e=>⟨qn (h.mT e).1 a.au,(ho _ (h.mT e).1).trans (h.mT e).2⟩,h.FR,
  {h.w with rl:=xy h.w.rl hk}⟩
def dW.fr{W:Nat->Prop}(h:dW H o p f l sp cv rv ov pv c os k)(a:Fr W H H')(hw:∀z,z<H.au->o z≠0 -> ¬W z)(ho:∀z,z<H.au->o' z=o z)(hk:k<=k'):dW H' o' p f l sp cv rv ov pv c os k':=h.p_ a (λ z q r _=>hw z q r) ho hk
def gZ(H:ar)(o:Nat->Nat)(p f l sp:Nat)(cv pv:AV)(c:Co)(os:List fg)(k:Nat)(H':ar):Prop:=∃o' rv ov,dW H' o' p f l sp cv rv ov pv c os k/\(∀z,z<H.au->o' z=o z)/\Fr (λ z=>o z≠0) H H'
def dW.bj(h:dW H o p f l sp cv rv ov pv c os k):Op.ae [.ptr p 0] H=B1 (.int .i64 c.id)/\Op.ae [.ptr p 1] H=B1 (.int .i64 c.lines)/\Op.ae [.ptr p 2] H=B1 cv/\Op.ae [.ptr p 3] H=B1 (.ptr f 0)/\Op.ae [.ptr p 4] H=B1 (.ptr l 0)/\Op.ae [.ptr p 5] H=B1 (.ptr sp 0)/\Op.ae [.ptr p 6] H=B1 (.int .i64 c.ph)/\Op.ae [.ptr p 7] H=B1 (.int .i64 c.want.kind)/\Op.ae [.ptr p 12] H=B1 (.int .u64 c.seq) /\
 Op.ae [.ptr p 13] H=B1 rv/\Op.ae [.ptr p 14] H=B1 (.int .i64 c.done)/\Op.ae [.ptr p 15] H=B1 (.bool c.wrote)/\Op.ae [.ptr p 16] H=B1 (.bool c.held)/\Op.ae [.ptr p 17] H=B1 (.bool c.said)/\Op.ae [.ptr p 18] H=B1 (.int .i64 c.blocks)/\Op.ae [.ptr p 19] H=B1 (.int .i64 c.pw)/\Op.ae [.ptr p 20] H=B1 (.bool c.halted)/\Op.ae [.ptr p 21] H=B1 (.bool c.yS)/\Op.ae [.ptr p 22] H=B1 ov/\Op.ae [.ptr p 23] H=B1 pv/\Op.aq 5 [.ptr p 7] H=B1 (.agg (bh c.want)) :=
 ⟨h.row.ld 0,h.row.ld 1,h.row.ld 2,h.row.ld 3,h.row.ld 4,h.row.ld 5,h.row.ld 6,h.row.ld 7,h.row.ld 12,h.row.ld 13,h.row.ld 14,h.row.ld 15,h.row.ld 16,h.row.ld 17,h.row.ld 18,h.row.ld 19,h.row.ld 20,h.row.ld 21,h.row.ld 22,h.row.ld 23,h.row.eF (k:=7) (n:=5) (by simp[cJ])⟩
def dW.np(h:dW H o p f l sp cv rv ov pv c os k):∀z,o z≠1 -> ¬On p z:=λ z e(w:z=p)=>e (by rw[w];exact h.op)
def dW.cell(h:dW H o p f l sp cv rv ov pv c os k){rv' ov' pv':AV}(hs:d.fi=c.fi/\d.la=c.la/\d.so=c.so/\d.code=c.code)(hr:CR H rv' d.aS /\ ∀z,aM rv' z->o z=5)(hu:aT fg.enc ju 9 H ov' os' /\ ∀z,aM ov' z->o z=6)(hp:aB pv'=B4)(hw:JG d k') :
 dW (H.set p (OR (cJ d f l sp cv rv' ov' pv') HM)) o p f l sp cv rv' ov' pv' d os' k'/\Fr (On p) H (H.set p (OR (cJ d f l sp cv rv' ov' pv') HM)):=by
 have a:Fr (On p) H (H.set p (OR (cJ d f l sp cv rv' ov' pv') HM)):=b9 ..;have⟨g,fv,b⟩:=h.so;have⟨e1,e2,j,i⟩:=hs;refine⟨⟨h.row.set _,?_,?_,⟨g,fv,?_⟩,?_,Own.fr hr.1 a λ z q=>h.np z (by rw[hr.2 z q];decide),Own.fr hu.1 a λ z q=>h.np z (by rw[hu.2 z q];decide),h.op,h.of,h.ol,hr.2,hu.2,?_,hp,hw⟩,a⟩
 .rw [e1];exact h.fi.fr a h.of (λ z q e=>h.np z (by omega)) λ _ _=>rfl
 .rw [e2];exact h.la.fr a (h.np l (by rw[h.ol];decide))
 .rw [j];exact b.fr a (λ z q e=>h.np z (by omega)) λ _ _=>rfl
 .rw [i];exact J3 h.cd a λ e=>h.np _ (by rw[(h.mT e).2];decide)
 .rw [i];exact h.mT
theorem dW.put(h:dW H o p f l sp cv rv ov pv c os k)(i:Nat){v:AV}(d:Co)(a:aB v=B4)(b:i<24)(he:(cJ c f l sp cv rv ov pv).set i v=cJ d f l sp cv rv ov pv)(hs:d.fi=c.fi/\d.la=c.la/\d.so=c.so/\d.code=c.code)(hr:d.aS=c.aS)(hw:JG d k) :
 ∃H',Op.store 1 [.ptr p i,v] H=B1 (.undef,H')/\dW H' o p f l sp cv rv ov pv d os k/\Fr (On p) H H':=by
 have⟨e,g⟩:=h.cell (d:=d) hs (rv':=rv) ⟨by rw[hr];exact h.rd,h.qI⟩ ⟨h.ou,h.rj⟩ h.FR hw;exact⟨_,by rw[h.row.st i a b,he],e,g⟩
def dW.Bw(h:dW H o p f l sp cv rv ov pv c os k){H1:ar}(a:Fr (On p) H H1){e b:AV}(g:dW H1 o p f l sp cv e b pv d os' k'):gZ H o p f l sp cv pv d os' k' H1:=⟨o,e,b,g,λ _ _=>rfl,a.mono λ z _(q:z=p)=>by rw[q,h.op];decide⟩
def dW.Gn(h:dW H o p f l sp cv rv ov pv c os k){y:Fi}(hp:Lx H o f y H'):gZ H o p f l sp cv pv {c with fi:=y} os k H':=by
 have⟨i,a⟩:=hp;have ho:∀z,z<H.au->aP o H.au 2 z=o z:=λ z q=>iO q;have b:∀z,o z≠2 -> ¬On f z:=λ z e(w:z=f)=>e (by rw[w];exact h.of);have⟨g,fv,hs⟩:=h.so;have r:=λ z(q:aM rv z)=>Own.lt h.rd z q;have u:=λ z(q:aM ov z)=>Own.lt h.ou z q;refine⟨aP o H.au 2,rv,ov,⟨h.row.fr a (b p (by rw[h.op];decide)),i,h.la.fr a (b l (by rw[h.ol];decide)),⟨g,fv,hs.fr a (λ z q e=>b z (by omega)) ho⟩,J3 h.cd a λ e=>b _ (by rw[(h.mT e).2];decide),Own.fr h.rd a λ z q=>b z (by rw[h.qI z q];decide),Own.fr h.ou a λ z q=>b z (by rw[h.rj z q];decide),
  (ho p h.row.2).trans h.op,(ho f (by obtain⟨pv,q,-⟩:=h.fi.at';exact q.2)).trans h.of,(ho l h.la.at'.2).trans h.ol,λ z q=>(ho z (r z q)).trans (h.qI z q),λ z q=>(ho z (u z q)).trans (h.rj z q),λ e=>⟨qn (h.mT e).1 a.au,(ho _ (h.mT e).1).trans (h.mT e).2⟩,h.FR,{h.w with}⟩,ho,a.mono λ z _(q:z=f)=>by rw[q,h.of];decide⟩
def dW.XF(h:dW H o p f l sp cv rv ov pv c os k){y:La}(hp:Ph H l y H'):gZ H o p f l sp cv pv {c with la:=y} os k H':=by
 have⟨b,a⟩:=hp;have nl:∀z,o z≠3 -> ¬On l z:=λ z e(w:z=l)=>e (by rw[w];exact h.ol);have⟨g,fv,hs⟩:=h.so;exact⟨o,rv,ov,⟨h.row.fr a (nl p (by rw[h.op];decide)),h.fi.fr a h.of (λ z q e=>nl z (by omega)) λ _ _=>rfl,b,⟨g,fv,hs.fr a (λ z q e=>nl z (by omega)) λ _ _=>rfl⟩,J3 h.cd a λ e=>nl _ (by rw[(h.mT e).2];decide),Own.fr h.rd a λ z q=>nl z (by rw[h.qI z q];decide),Own.fr h.ou a λ z q=>nl z (by rw[h.rj z q];decide),
  h.op,h.of,h.ol,h.qI,h.rj,λ e=>⟨qn (h.mT e).1 a.au,(h.mT e).2⟩,h.FR,{h.w with}⟩,λ _ _=>rfl,a.mono λ z _(q:z=l)=>by rw[q,h.ol];decide⟩
def dW.OD(h:dW H o p f l sp cv rv ov pv c os k){y:So}(hp:eK H o sp y H'):gZ H o p f l sp cv pv {c with so:=y} os k H':=by
 have⟨o',g,fv,b,ho,a⟩:=hp;have nl:∀z,o z<8 -> ¬(8<=o z):=λ z e w=>by omega
 have r:=λ z(q:aM rv z)=>Own.lt h.rd z q;have u:=λ z(q:aM ov z)=>Own.lt h.ou z q;exact⟨o',rv,ov,⟨h.row.fr a (nl p (by rw[h.op];decide)),h.fi.fr a h.of (λ z q e=>nl z (by omega)) ho,h.la.fr a (nl l (by rw[h.ol];decide)),⟨g,fv,b⟩,J3 h.cd a λ e=>nl _ (by rw[(h.mT e).2];decide),Own.fr h.rd a λ z q=>nl z (by rw[h.qI z q];decide),Own.fr h.ou a λ z q=>nl z (by rw[h.rj z q];decide),
  (ho p h.row.2).trans h.op,(ho f (by obtain⟨pv,q,-⟩:=h.fi.at';exact q.2)).trans h.of,(ho l h.la.at'.2).trans h.ol,λ z q=>(ho z (r z q)).trans (h.qI z q),λ z q=>(ho z (u z q)).trans (h.rj z q),λ e=>⟨qn (h.mT e).1 a.au,(ho _ (h.mT e).1).trans (h.mT e).2⟩,h.FR,{h.w with}⟩,ho,a.mono λ z _(q:8<=o z)=>by omega⟩
def JG.mono(h:JG c k)(hk:k<=k'):JG c k':={h with rl:=xy h.rl hk}
end
end Go.Am
namespace Go.Am
open Lang Go.Proofs
variable{M:ak}[MK M]
section
variable{H H1 H':ar}{o o1:Nat->Nat}{p f l sp k k':Nat}{cv rv ov pv:AV}{c d:Co}{os os':List fg}{s t:CS}
def dW.em(h:dW H o p f l sp cv rv ov pv c os k)(a:Fr Em H H'):dW H' o p f l sp cv rv ov pv c os k:=h.fr a (λ _ _ _ q=>q) (λ _ _=>rfl) (qm _)
def gZ.then(a:gZ H o p f l sp cv pv c os k H1)(b:∀o1 g e,dW H1 o1 p f l sp cv g e pv c os k->gZ H1 o1 p f l sp cv pv d os' k' H'):gZ H o p f l sp cv pv d os' k' H':=by
 have⟨o1,g,e,n,j,m⟩:=a;have⟨o2,i,h,r,u,v⟩:=b _ _ _ n;refine⟨o2,i,h,r,λ z q=>(u z (qn q m.au)).trans (j z q),m.trans v λ z q=>?_⟩;rcases x9 z H.au with w|w
 .exact .inl (by rw[<-j z w];exact q)
 .exact .inr w
theorem gZ.pre(a:Fr Em H H1)(b:gZ H1 o p f l sp cv pv d os' k' H'):gZ H o p f l sp cv pv d os' k' H':=by
 have⟨o2,g,e,h,i,j⟩:=b;exact⟨o2,g,e,h,λ z q=>i z (qn q a.au),(a.mono λ _ _ q=>q.elim).trans j λ z q=>.inl q⟩
def xmb(x:fg):x.enc.length=9:=rfl
def Lj:fg:=⟨0,0,0,0,0,0,0,0,0⟩
def VN:[AV.int .i64 0,.int .i64 0,.int .i64 0,.int .i64 0,.int .i64 0,.int .i64 0,.int .i64 0,.int .u64 0,.int .i64 0]=Lj.enc:=rfl
def CP(h:dW H o p f l sp cv rv ov pv c os k):∀K,C3 M B4 (.func U1) [.ptr p 0] H K=K B4 (.bool B2) H:=by
 refine dA (R_ ?_);simp only[aa,bc,qpy,av,h.bj]
def Gg(h:dW H o p f l sp cv rv ov pv s.c s.o k)(hl:s.o.length<=1000)(kd a v cd:Int):zd M VH [.ptr p 0,.int .i64 kd,.int .i64 a,.int .u64 v,.int .i64 cd] H λ _ H'=>gZ H o p f l sp cv pv (s.tell kd a v cd).c (s.tell kd a v cd).o k H':=by
 refine q0e ?_;obtain⟨H1,e1,f1,-,-⟩:=cq H (OR Lj.enc ju);have O:At H1 H.au ju _:=e1▸At.new H _ _;obtain⟨e,he⟩:∃e:fg,e=⟨kd,0,s.c.id,-1,0,0,a,v,cd⟩:=⟨_,rfl⟩
 have R:Op.build Lj.enc [(0,1),(2,1),(3,1),(6,1),(7,1),(8,1)] [.int .i64 kd,.int .i64 s.c.id,.int .i64 (-1),.int .i64 a,.int .u64 v,.int .i64 cd]=B1 (.agg e.enc):=by rw[he];rfl
 have s1:=O.fF (k:=0) (n:=9) (v:=.agg e.enc) rfl (by simp[fg.len]) rfl;have C:Lj.enc.take 0++AV.cells (.agg e.enc)++Lj.enc.drop (0+9)=e.enc:=by rw[zr];rfl
 rw[C]at s1;obtain⟨G,e2⟩:∃X,X=H1.set H.au (OR e.enc ju):=⟨_,rfl⟩
 rw[<-e2]at s1;have I:At G H.au ju e.enc:=e2▸O.set _;have J:Fr Em H G:=e2▸f1.set (.inr (qm _)) _;have B:=h.em J;have n2:H.au<G.au:=I.2
 -- the list
 have app:∀{j:ar}(x:fg),Fr Em H j -> ∀{K:bF->(Nat->AV)->Bool->AV->ar->Prop}{m:Bool},(∀r u y,Op.store 1 [.ptr p 22,r] u=B1 (.undef,y)->gZ H o p f l sp cv pv s.c (s.o ++ [x]) k y->K (.row (AV.cells (.agg x.enc)) ju (0,0) B4) (Op.sliceTo 1 1) m r u) ->
  i9 m (Op.buildSlice ju 1 Lj.enc [(0,9)] [.agg x.enc]) λ g o mk=>i9 g (Op.append ju 9 72 [ov,mk j.au] (j.alloc o)) (K o mk):=λ{j}x A{K m}hk=>by
  have b:=h.em A;refine aT.pM b.ou (x:=.agg x.enc) (a:=x) rfl rfl rfl rfl (by decide) (by omega) (by omega) λ r u W L hz=>?_;have one:aB r=true:=Sl.one (Own.sl W);have lu:=λ z(q:aM ov z)=>Own.lt b.ou z q
  -- new rows are of the told list
  have ho:∀z,z<j.au->aP o j.au 6 z=o z:=λ z q=>iO q;have V:∀z,o z≠6 -> ¬aM ov z:=λ z q w=>q (b.rj z w);have f34:Fr (λ z=>o z≠0) j u:=L.mono λ z _ q=>by rw[b.rj z q];decide
  have⟨g,fv,hs⟩:=b.so;have lr:=λ z(q:aM rv z)=>Own.lt b.rd z q;have Y:At u p HM _:=b.row.fr L (V p (by rw[b.op];decide));have st:=Y.st 22 one (by simp[cJ]);have e5:(cJ s.c f l sp cv rv ov pv).set 22 r=cJ s.c f l sp cv rv r pv:=rfl;rw[e5]at st;obtain⟨y,N⟩:∃X,X=u.set p (OR (cJ s.c f l sp cv rv r pv) HM):=⟨_,rfl⟩
  rw[<-N]at st;have T:Fr (On p) u y:=N▸b9 ..;have i:Fr (λ z=>aM ov z\/z=p) j y:=(L.mono λ z _ q=>.inl q).trans T λ z q=>.inl (.inr q);have nw:∀z,o z≠6->o z≠1 -> ¬(aM ov z\/z=p):=λ z e6 e1 w=>w.elim (V z e6) λ w=>e1 (by rw[w];exact b.op);have no:∀z,aM r z->aP o j.au 6 z=6:=λ z q=>(hz z q).elim (λ w=>(ho z (lu z w)).trans (b.rj z w)) λ w=>nj w;refine hk r u y st (gZ.pre A ⟨aP o j.au 6,rv,r,⟨N▸Y.set _,b.fi.fr i b.of (λ z q e=>nw z (by omega) (by omega)) ho,b.la.fr i (nw l (by rw[b.ol];decide) (by rw[b.ol];decide)),⟨g,fv,hs.fr i (λ z q e=>nw z (by omega) (by omega)) ho⟩,J3 b.cd i λ e=>nw _ (by rw[(b.mT e).2];decide) (by rw[(b.mT e).2];decide),Own.fr b.rd i λ z q=>nw z (by rw[b.qI z q];decide) (by rw[b.qI z q];decide),Own.fr W T λ z q(w:z=p)=>?_,
   (ho p b.row.2).trans b.op,(ho f (by obtain⟨pv,q,-⟩:=b.fi.at';exact q.2)).trans b.of,(ho l b.la.at'.2).trans b.ol,λ z q=>(ho z (lr z q)).trans (b.qI z q),no,λ e=>⟨qn (b.mT e).1 i.au,(ho _ (b.mT e).1).trans (b.mT e).2⟩,b.FR,b.w⟩,ho,i.mono λ z _ q=>q.elim (λ q=>by rw[b.rj z q];decide) λ q=>by rw[q,b.op];decide⟩)
  have:=no z q;rw[w,ho p b.row.2,b.op]at this;omega
 have ld:∀{j:ar}{x:fg},At j H.au ju x.enc->Op.aq 9 [.ptr H.au 0] j=B1 (.agg x.enc):=λ a=>a.eF (k:=0) (n:=9) (by simp[fg.len])
 by_cases q:s.c.la.lane=0
 .have ev:CS.Ko s.c kd a v cd=e:=by rw[he];unfold CS.Ko;rw[xg q]
  unfold CS.tell;rw[ev];simp only[aa,bc,Y3,av,VN,<-e1,h.bj,R,s1,B.bj,iV B.la,xb q,ld I];refine app e J λ r u y st hp=>?_;simp only[aa,bc,st];exact hp
 .obtain ⟨C,D⟩:∃x:fg,x=⟨kd,0,s.c.id,aj .i64 (s.c.blocks-1),0,0,a,v,cd⟩:=⟨_,rfl⟩
  obtain⟨F,E⟩:∃x:fg,x=⟨kd,0,s.c.id,aj .i64 (s.c.blocks-1),s.c.la.tries,0,a,v,cd⟩:=⟨_,rfl⟩
  have ev:CS.Ko s.c kd a v cd=⟨kd,0,s.c.id,aj .i64 (s.c.blocks-1),s.c.la.tries,s.c.la.lane,a,v,cd⟩:=by unfold CS.Ko;rw[qy q]
  unfold CS.tell;rw[ev];simp only[aa,bc,Y3,av,VN,<-e1,h.bj,R,s1,B.bj,iV B.la,q];refine C3.q (XS B.la) λ w j⟨hw,A⟩=>?_;subst hw;have b:=B.em A;have P:=I.em A;have Z:=P.st 3 (v:=.int .i64 (aj .i64 (s.c.blocks-1))) rfl (by simp[fg.len]);have y1:e.enc.set 3 (.int .i64 (aj .i64 (s.c.blocks-1)))=C.enc:=by rw[he,D];rfl
  rw[y1]at Z;have Q:=P.set C.enc;have t2:=Q.st 4 (v:=.int .i64 s.c.la.tries) rfl (by simp[fg.len]);have y2:C.enc.set 4 (.int .i64 s.c.la.tries)=F.enc:=by rw[D,E];rfl
  rw[y2]at t2;have S:=Q.set F.enc;have t3:=S.st 5 (v:=.int .i64 s.c.la.lane) rfl (by simp[fg.len]);have y3:F.enc.set 5 (.int .i64 s.c.la.lane)=fg.enc ⟨kd,0,s.c.id,aj .i64 (s.c.blocks-1),s.c.la.tries,s.c.la.lane,a,v,cd⟩:=by rw[E];rfl
  rw[y3]at t3;have d3:=S.set (fg.enc ⟨kd,0,s.c.id,aj .i64 (s.c.blocks-1),s.c.la.tries,s.c.la.lane,a,v,cd⟩);have U:Fr Em H _:=(((J.em A).set (.inr (qm _)) (OR C.enc ju)).set (.inr (qm _)) (OR F.enc ju)).set (.inr (qm _)) (OR (fg.enc ⟨kd,0,s.c.id,aj .i64 (s.c.blocks-1),s.c.la.tries,s.c.la.lane,a,v,cd⟩) ju);have h6:=h.em U;simp only[aa,bc,Y3,av,b.bj,iV b.la,Z,t2,t3,h6.bj,ld d3];refine app _ U λ r u y st hp=>?_;simp only[aa,bc,st];exact hp
end
end Go.Am
namespace Go.Am
open Lang Go.Proofs
variable{M:ak}[MK M]
section
variable{H H1 H':ar}{o o1:Nat->Nat}{p f l sp k k':Nat}{cv rv ov pv:AV}{c d:Co}{os os':List fg}{s t:CS}
def gZ.tt(a:∀z,z<H.au->o1 z=o z)(w:Fr (λ z=>o z≠0) H H1)(b:gZ H1 o1 p f l sp cv pv d os' k' H'):gZ H o p f l sp cv pv d os' k' H':=by
 have⟨o2,g,e,h,i,j⟩:=b;refine⟨o2,g,e,h,λ z q=>(i z (qn q w.au)).trans (a z q),w.trans j λ z q=>?_⟩;rcases x9 z H.au with r|r
 .exact .inl (by rw[<-a z r];exact q)
 .exact .inr r
def dW.loc(h:dW H o p f l sp cv rv ov pv c os k)(a:Fr Em H H1)(hn:H.au<H1.au):dW H1 (aP o H.au 0) p f l sp cv rv ov pv c os k/\(∀z,z<H.au->aP o H.au 0 z=o z)/\aP o H.au 0 H.au=0 :=
 ⟨h.fr a (λ _ _ _ q=>q) (λ z q=>iO q) (qm _),λ z q=>iO q,nj (qm _)⟩
def dW.nZ(h:dW H o p f l sp cv rv ov pv c os k){H1:ar}(a:Fr (On p) H H1):Fr (λ z=>o z≠0) H H1:=a.mono λ z _(q:z=p)=>by rw[q,h.op];decide
def dW.one(h:dW H o p f l sp cv rv ov pv c os k){H1:ar}(a:Fr (On p) H H1)(b:gZ H1 o p f l sp cv pv d os' k' H'):gZ H o p f l sp cv pv d os' k' H':=gZ.tt (λ _ _=>rfl) (h.nZ a) b
def Ml(h:dW H o p f l sp cv rv ov pv s.c s.o k)(n:Int):zd M Ye [.ptr p 0,.int .i64 n] H λ _ H'=>gZ H o p f l sp cv pv (s.fQ n).c (s.fQ n).o k H':=by
 refine qz8 ?_;simp only[aa,bc,qz9,av,h.bj];refine C3.q (JH h.fi n) λ _ H1 hp=>?_;have⟨o1,m,j,a,b,e⟩:=h.Gn hp;have⟨r,s2,i,g⟩:=a.put 19 (v:=.int .i64 (aj .i64 (s.c.pw+1))) (s.fQ n).c rfl (by decide) rfl ⟨rfl,rfl,rfl,rfl⟩ rfl {a.w with};simp only[aa,bc,av,a.bj,s2];exact gZ.tt b e (a.Bw g i)
def S5(h:dW H o p f l sp cv rv ov pv s.c s.o k):zd M V1 [.ptr p 0] H λ _ H'=>gZ H o p f l sp cv pv s.leave.c s.leave.o k H':=by
 refine qxn ?_;simp only[aa,bc,qxo,av,h.bj];refine C3.q (K4 h.la) λ _ H1 hp=>?_;have⟨o1,z,x,a,g,j⟩:=h.XF hp;simp only[aa,bc,av,a.bj];refine C3.q (QO a.fi) λ _ D hp=>?_;have⟨o2,A,y,b,i,m⟩:=a.Gn hp;have⟨E,B,e,n⟩:=b.put 16 (v:=.bool B2) {s.c with la:=s.c.la.leave,fi:=s.c.fi.drop,held:=B2} rfl (by decide) rfl ⟨rfl,rfl,rfl,rfl⟩ rfl {b.w with};have⟨F,C,u,r⟩:=e.put 6 (v:=.int .i64 0) s.leave.c rfl (by decide) rfl ⟨rfl,rfl,rfl,rfl⟩ rfl {e.w with};simp only[aa,bc,av,B,C];exact gZ.tt g j (gZ.tt i m (b.one n (e.Bw r u)))
def q38(h:dW H o p f l sp cv rv ov pv s.c s.o k)(hl:s.o.length<=1000):zd M v8 [.ptr p 0] H λ _ H'=>gZ H o p f l sp cv pv s.aC.c s.aC.o k H':=by
 refine qra ?_;have fin:∀{H1:ar}{o1:Nat->Nat}{b a:AV}{t:CS},dW H1 o1 p f l sp cv b a pv t.c t.o k -> ∃r e,Op.store 1 [.ptr p 17,.bool B4] H1=B1 (.undef,r)/\Op.store 1 [.ptr p 16,.bool B2] r=B1 (.undef,e)/\gZ H1 o1 p f l sp cv pv {t.c with said:=B4,held:=B2} t.o k e:=λ{H1 o1 b a t}g=>by
  have⟨e,i,n,y⟩:=g.put 17 (v:=.bool B4) {t.c with said:=B4} rfl (by decide) rfl ⟨rfl,rfl,rfl,rfl⟩ rfl {g.w with};have⟨m,j,A,z⟩:=n.put 16 (v:=.bool B2) {t.c with said:=B4,held:=B2} rfl (by decide) rfl ⟨rfl,rfl,rfl,rfl⟩ rfl {n.w with};exact⟨e,m,i,j,g.one y (n.Bw z A)⟩
 unfold CS.aC;cases q:s.c.said with
 |true =>
  have⟨e,m,i,j,hp⟩:=fin h;simp only[aa,bc,Vw,av,h.bj,q,i,j];exact hp
 |false =>
  simp only[aa,bc,Vw,av,h.bj,q,zq];refine C3.q (Gg h hl 5 0 0 0) λ _ H1⟨o1,b,a,g,u,x⟩=>?_;have⟨e,m,i,j,hp⟩:=fin (t:=s.tell 5 0 0 0) g;simp only[aa,bc,Vw,av,i,j];exact gZ.tt u x hp
def xe4(s:CS):s.aC.o.length<=s.o.length+1:=by
 unfold CS.aC;simp only;split
 .omega
 .show (s.o ++ [_]).length<=_;rw[qv];simp
def xcg(s:CS):s.aC.leave.c.fi.pc=s.c.fi.pc:=by
 unfold CS.aC;simp only;split<;>rfl
def RI(h:dW H o p f l sp cv rv ov pv s.c s.o k)(hl:s.o.length<=1000):zd M j_ [.ptr p 0] H λ _ H'=>gZ H o p f l sp cv pv s.cV.c s.cV.o k H':=by
 refine qt3 ?_;simp only[aa,bc,qt4];refine C3.q (q38 h hl) λ _ H1⟨o1,C,z,x,g,m⟩=>?_;simp only[aa,bc];refine C3.q (S5 x) λ _ G⟨o2,D,A,a,i,n⟩=>?_;have e:=xcg s;simp only[aa,bc,av,a.bj,fpc a.fi,e];refine C3.q (JH a.fi (aj .i64 (s.c.fi.pc+1))) λ _ I hp=>?_;have⟨o3,E,B,b,j,r⟩:=a.Gn hp;have⟨J,F,y,u⟩:=b.put 19 (v:=.int .i64 (aj .i64 (s.aC.leave.c.pw+1))) s.cV.c rfl (by decide) rfl ⟨rfl,rfl,rfl,rfl⟩ rfl {b.w with};simp only[aa,bc,av,b.bj,F];exact gZ.tt g m (gZ.tt i n (gZ.tt j r (b.Bw u y)))
def xli(h:dW H o p f l sp cv rv ov pv s.c s.o k)(hl:s.o.length<=1000)(cd:Int):zd M Vg [.ptr p 0,.int .i64 cd] H λ _ H'=>gZ H o p f l sp cv pv (s.abort cd).c (s.abort cd).o k H':=by
 refine qxi ?_;simp only[aa,bc,qxj];refine C3.q (Gg h hl 6 0 0 cd) λ _ H1⟨o1,B,y,a,g,m⟩=>?_;simp only[aa,bc,av,a.bj];refine C3.q (ι a.fi) λ _ F hp=>?_;have⟨o2,C,z,b,i,n⟩:=a.Gn hp;simp only[aa,bc,av,b.bj];refine C3.q (MS b.la cd) λ _ G hp=>?_;have⟨o3,D,A,e,j,r⟩:=b.XF hp;have⟨I,E,x,u⟩:=e.put 6 (v:=.int .i64 1) (s.abort cd).c rfl (by decide) rfl ⟨rfl,rfl,rfl,rfl⟩ rfl {e.w with};simp only[aa,bc,av,E];exact gZ.tt g m (gZ.tt i n (gZ.tt j r (e.Bw u x)))
def Zq(h:dW H o p f l sp cv rv ov pv s.c s.o k)(hl:s.o.length<=1000):zd M ql9 [.ptr p 0] H λ _ H'=>gZ H o p f l sp cv pv s.breaks.c s.breaks.o k H':=by
 refine qvr ?_;simp only[aa,bc,qvs];refine C3.q (Gg h hl 6 0 0 7) λ _ H1⟨o1,D,A,a,g,m⟩=>?_;simp only[aa,bc,av,a.bj];refine C3.q (ι a.fi) λ _ J hp=>?_;have⟨o2,E,B,y,i,n⟩:=a.Gn hp;simp only[aa,bc];refine C3.q (S5 (s:=(s.tell 6 0 0 7).fi .restore) y) λ _ K⟨o3,F,C,b,j,r⟩=>?_;have⟨L,G,e,u⟩:=b.put 20 (v:=.bool B4) {((s.tell 6 0 0 7).fi .restore).leave.c with halted:=B4} rfl (by decide) rfl ⟨rfl,rfl,rfl,rfl⟩ rfl {b.w with};have⟨N,I,z,x⟩:=e.put 21 (v:=.bool B4) s.breaks.c rfl (by decide) rfl ⟨rfl,rfl,rfl,rfl⟩ rfl {e.w with};simp only[aa,bc,av,G,I];exact gZ.tt g m (gZ.tt i n (gZ.tt j r (b.one u (e.Bw x z))))
def RR(h:dW H o p f l sp cv rv ov pv c os k){u:Int}(hu:fG u):∀K,C3 M B4 (.func qs7) [.ptr p 0,.int .u64 u] H K=K B4 (.tuple [.int .i64 (if CS.GB c u=B4 then 8+u else 0),.bool (CS.GB c u)]) H:=by
 refine dA (q7g ?_);have g:=h.w.l2;have i:=h.w.l64;have w1:aj .i64 (c.lines-1)=c.lines-1:=jk (by omega) (by omega);have w2:aj .i64 ((c.lines-1)*8)=(c.lines-1)*8:=jk (by omega) (by omega);have b:aj .u64 ((c.lines-1)*8)=(c.lines-1)*8:=xh9 (by omega) (by omega);unfold CS.GB
 by_cases q:(c.lines-1)*8<=u
 .have a:¬u<(c.lines-1)*8:=HH.2 q;simp only[aa,bc,qto,av,h.bj,w1,w2,b,xb q,a,zq]
 .have a:u<(c.lines-1)*8:=Int.not_le.1 q;have w4:aj .i64 u=u:=jk (by have:=hu.1;omega) (by omega);have e:aj .i64 (8+u)=8+u:=jk (by have:=hu.1;omega) (by omega);simp only[aa,bc,qto,av,h.bj,w1,w2,b,q,xb a,w4,e]
def T0(h:dW H o p f l sp cv rv ov pv s.c s.o k)(hl:s.o.length<=1000)(e:pz)(hu:fG e.addr){v:Int}(R:fG v):zd M Vb [.ptr p 0,.agg (bh e),.int .u64 v] H λ _ H'=>gZ H o p f l sp cv pv (s.eX e v).c (s.eX e v).o k H':=by
 refine qvv ?_;obtain⟨H1,e1,G,-,-⟩:=cq H (OR (bh e) jo);have y:At H1 H.au jo _:=e1▸At.new H _ _;have⟨n,N,n1⟩:=h.loc G (show H.au<H1.au from y.2);have l4:Op.ae [.ptr H.au 4] H1=B1 (.int .u64 e.addr):=y.ld 4;have ce:AV.cells (.agg (bh e))=bh e:=zr _;obtain⟨kd,b⟩:∃kd:Int,kd=if s.c.la.lane=0 then 7 else 2:=⟨_,rfl⟩
 obtain⟨a,ha⟩:∃a:Int,a=if CS.GB s.c e.addr=B4 then 8+e.addr else 0:=⟨_,rfl⟩
 have m:=RR (M:=M) n hu;rw[<-ha]at m;have main:∀{K:Bool->AV->ar->Prop},(∀w j o2 i g,dW j o2 p f l sp cv i g pv (s.tell kd a v 0).c (s.tell kd a v 0).o k->Op.ae [.ptr p 3] j=B1 (.ptr f 0)->Op.ae [.ptr H.au 2] j=B1 (.int .i64 e.pE)->(zd M VA [.ptr f 0,.int .i64 e.pE,.int .u64 v] j λ _ u=>Op.ae [.ptr H.au 1] u=B1 (.int .i64 e.au)/\zd M Ye [.ptr p 0,.int .i64 e.au] u λ _ x=>gZ H o p f l sp cv pv (s.eX e v).c (s.eX e v).o k x)->K B4 w j)->C3 M B4 (.func VH) [.ptr p 0,.int .i64 kd,.int .i64 a,.int .u64 v,.int .i64 0] H1 K:=λ hk=>by
  refine C3.q (Gg n hl kd a v 0) λ w j⟨o2,i,g,r,F,I⟩=>?_;have E:=y.fr I (λ q=>q n1);have n2:o2 H.au=0:=(F _ y.2).trans n1;refine hk w j o2 i g r r.bj.2.2.2.1 (E.ld 2) ((Mw r.fi e.pE R).mono λ _ u hp=>?_);have⟨o3,T,S,Q,O,J⟩:=r.Gn hp;have L:=E.fr J (λ q=>q n2);refine⟨L.ld 1,(Ml (s:=(s.tell kd a v 0).fi (·.set e.pE v)) Q e.au).mono λ _ x hp=>?_⟩;have P:s.eX e v=((s.tell kd a v 0).fi (·.set e.pE v)).fQ e.au:=by rw[b,ha];rfl
  rw[P];exact gZ.tt N (G.mono λ _ _ q=>q.elim) (gZ.tt F I (gZ.tt O J hp))
 by_cases q:s.c.la.lane=0
 .rw [xg q]at b;subst b;simp only[aa,bc,ε,av,ce,<-e1,l4,m,n.bj,iV n.la,xb q];refine main λ w j o2 i g r z A B=>?_;simp only[aa,bc,av,z,A];refine C3.q B λ _ u⟨C,D⟩=>?_;simp only[aa,bc,C];refine C3.q D λ _ x hp=>?_;simp only[aa,bc];exact hp
 .rw [qy q]at b;subst b;simp only[aa,bc,ε,av,ce,<-e1,l4,m,n.bj,iV n.la,q];refine main λ w j o2 i g r z A B=>?_;simp only[aa,bc,av,z,A];refine C3.q B λ _ u⟨C,D⟩=>?_;simp only[aa,bc,C];refine C3.q D λ _ x hp=>?_;simp only[aa,bc];exact hp
def QV(h:dW H o p f l sp cv rv ov pv s.c s.o k)(hl:s.o.length<=1000)(kd:Int)(e:pz)(a:Int):zd M qmb [.ptr p 0,.int .i64 kd,.agg (bh e),.int .i64 a] H λ _ H'=>gZ H o p f l sp cv pv (s.stored kd e a).c (s.stored kd e a).o k H':=by
 refine qvx ?_;obtain⟨H1,e1,g,-,-⟩:=cq H (OR (bh e) jo);have b:At H1 H.au jo _:=e1▸At.new H _ _;have⟨r,m,n1⟩:=h.loc g (show H.au<H1.au from b.2);have l3:Op.ae [.ptr H.au 3] H1=B1 (.int .u64 e.value):=b.ld 3;have ce:AV.cells (.agg (bh e))=bh e:=zr _;simp only[aa,bc,qvy,ce,<-e1,l3];refine C3.q (Gg r hl kd a e.value 0) λ _ j⟨o2,w,v,u,n,i⟩=>?_;have l1:Op.ae [.ptr H.au 1] j=B1 (.int .i64 e.au):=(b.fr i (λ q=>q n1)).ld 1;simp only[aa,bc,l1];refine C3.q (Ml (s:=s.tell kd a e.value 0) u e.au) λ _ x hp=>?_;simp only[aa,bc];exact gZ.tt m (g.mono λ _ _ q=>q.elim) (gZ.tt n i hp)
end
end Go.Am
