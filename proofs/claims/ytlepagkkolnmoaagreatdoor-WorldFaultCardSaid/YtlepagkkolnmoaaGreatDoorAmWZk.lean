import Derived.Test.YtlepagkkolnmoaaGreatDoorAmWZf
import Derived.Test.YtlepagkkolnmoaaGreatDoorAmWZj
import Derived.Test.YtlepagkkolnmoaaGreatDoorAmWZh
set_option linter.defProp false
set_option linter.unusedVariables false
set_option linter.unusedSimpArgs false
set_option linter.unusedSectionVars false
set_option maxRecDepth 100000
open Bool renaming false→B2,true→B4
open False renaming elim→OH
open List renaming range→N1
open Nat renaming beq→J3
open Option renaming isSome→BL,none→B5,some→B1
open Nat renaming reduceEqDiff→bc
namespace Go.Am
open Lang Go.Proofs
variable{M:ak}[MK M]
def cD(p:Pr):List AV:=[.int .i64 p.a,.int .u64 p.v]
def EV(p:Pr):(cD p).length=2:=rfl
abbrev DW(H:ar)(v:AV)(ps:List Pr):Prop:=aU cD sC 2 H v ps
def aU.pn{α:Type}{enc:α->List AV}{e size:Nat}{H:ar}{v:AV}{xs:List α}(h:aU enc e size H v xs){bytes:Nat}{zero:List AV}{x:AV}{a:α}(j:x.cells=enc a)(hs:(enc a).length=size)(q:zero.length=size)(f:aQ (enc a)=B4)(k:0<size)
 (p:(xs.length+1)*bytes<=140737488355328) (i:xs.length+1<=140737488355328) {K:bC->(Nat->AV)->Bool->AV->ar->Prop} {m:Bool}
 (hk:∀d H',aU enc e size H' d (xs ++ [a])->Fr (aN v) H H'->(∀b,aN d b->aN v b\/H.au<=b)->K (.row x.cells e (0,0) B4) (Op.sliceTo 1 1) m d H') :
 jO m (Op.buildSlice e 1 zero [(0,size)] [x]) λ g o mk=>jO g (Op.append e size bytes [v,mk H.au] (H.alloc o)) (K o mk):=by
 refine nG h q (by rw[j];exact hs) (by rw[j];exact f) k p i λ d H' f l n=>hk d H' ?_ l n;unfold aU;rw[ym,xe]
 simpa[j]using f
def iy:List Pr->Int->Option Nat
 |[],_=>B5
 |x::r,a=>if x.a=a then B1 0 else(iy r a).map (·+1)
def Kh:∀(ps:List Pr)(a:Int),dk ps a=(iy ps a).map λ i=>(ps.getD i ⟨0,0⟩).v
 |[],a=>rfl
 |x::r,a=>by
  unfold dk iy;split
  .rfl
  .rw [Kh r a];cases iy r a<;>rfl
def pw:∀{ps:List Pr}{a:Int}{i:Nat},iy ps a=B1 i->i<ps.length /\ ∃x,ps[i]? = B1 x/\x.a=a
 |x::r,a,i,h=>by
  unfold iy at h;split at h
  .cases h;exact⟨Nat.zero_lt_succ _,x,rfl,by assumption⟩
  .obtain ⟨j,f,rfl⟩:=xm.1 h;have⟨b,y,d,e⟩:=pw f;exact⟨Nat.succ_lt_succ b,y,d,e⟩
def Tb:∀{ps:List Pr}{a v:Int},iy ps a=B5->fG ps a v=ps ++ [⟨a,v⟩]
 |[],a,v,_=>rfl
 |x::r,a,v,h=>by
  unfold iy at h;split at h
  .cases h
  .rename_i q;rw[Option.map_eq_none_iff]at h;unfold fG;rw[qt q,Tb h];rfl
def TU:∀{ps:List Pr}{a v:Int}{i:Nat},iy ps a=B1 i->fG ps a v=ps.set i ⟨a,v⟩
 |x::r,a,v,i,h=>by
  unfold iy at h;unfold fG;split at h
  .rename_i q;cases h;rw[xb q];rfl
  .rename_i q;obtain⟨j,b,rfl⟩:=xm.1 h;rw[qt q,TU b];rfl
def jX:List Pr->Nat->Nat->List (AV×AV×Nat)
 |[],_,_=>[]
 |x::r,i,c=>(.int .i64 x.a,.int .i64 (i:Int),c)::jX r (i+1) (c+1)
def Xu:∀(ps:List Pr)(a:Int)(i c j:Nat),findKey .int (.int .i64 a) (jX ps i c) j=B1 ((iy ps a).map λ n=>(j+n,.int .i64 ((i+n:Nat):Int)))
 |[],a,i,c,j=>rfl
 |x::r,a,i,c,j=>by
  have e:aV .int (.int .i64 a) (.int .i64 x.a)=B1 (decide (a=x.a)):=by simp only[aV,rT,iV,J3,xw,Pg]
  unfold jX findKey iy;rw[e,qr]
  by_cases q:x.a=a
  .rw [ku q.symm,xb q];rfl
  .rw [kw (λ w=>q w.symm),qt q,zm,Xu r a (i+1) (c+1) (j+1)];cases iy r a with
   |none=>rfl
   |some n=>simp only[HI];rw[show j+1+n=j+(n+1)by omega,show i+1+n=i+(n+1)by omega]
def xg2:∀(ps:List Pr)(x:Pr)(i c:Nat),jX (ps ++ [x]) i c=jX ps i c ++ [(.int .i64 x.a,.int .i64 ((i+ps.length:Nat):Int),c+ps.length)]
 |[],x,i,c=>rfl
 |y::r,x,i,c=>by
  show _::jX (r ++ [x]) (i+1) (c+1)=_::(jX r (i+1) (c+1)++_);rw[xg2 r x,zq];congr 3;simp only[zf,AV.int.injEq,BZ];constructor<;>omega
def xg3:∀(ps:List Pr)(n:Nat)(v:Int)(i c:Nat){x:Pr},ps[n]? = B1 x->jX (ps.set n ⟨x.a,v⟩) i c=jX ps i c
 |y::r,0,v,i,c,x,h=>by cases h;rfl
 |y::r,n+1,v,i,c,x,h=>by
  show _::jX (r.set n _) (i+1) (c+1)=_;rw[xg3 r n v (i+1) (c+1) h];rfl
structure vN(H:ar)(o:Nat->Nat)(t r:Nat)(ps:List Pr)(pv:AV)(mb c:Nat):Prop where
 row:At H r Jc [pv,.map mb]
 ow:DW H pv ps
 mp:H.get mb=B1 (.map (jX ps 0 c) (c+ps.length))
 ml:mb<H.au
 le:ps.length<=128
 o0:o r=t
 o1:o mb=t+1
 o2:∀z,aN pv z->o z=t+2
section
variable{H H':ar}{o o':Nat->Nat}{t r mb c:Nat}{ps:List Pr}{pv:AV}
def vN.fr{W:Nat->Prop}(h:vN H o t r ps pv mb c)(a:Fr W H H')(hw:∀z,z<H.au->(o z=t\/o z=t+1\/o z=t+2) -> ¬W z)(ho:∀z,z<H.au->o' z=o z):vN H' o' t r ps pv mb c :=
 ⟨h.row.fr a (hw r h.row.2 (.inl h.o0)),Own.fr h.ow a λ z q=>hw z (Own.lt h.ow z q) (.inr (.inr (h.o2 z q))),(a.ah mb h.ml (hw mb h.ml (.inr (.inl h.o1)))).trans h.mp,qn h.ml a.au,h.le,(ho r h.row.2).trans h.o0,(ho mb h.ml).trans h.o1,λ z q=>(ho z (Own.lt h.ow z q)).trans (h.o2 z q)⟩
def Wx{b:Nat}{es:List (AV×AV×Nat)}{k:Nat}(h:H.get b=B1 (.map es k)):H.eW b=B1 (es,k):=by unfold ar.eW;rw[h]
def xl9(h:vN H o t r ps pv mb c)(a:Int):Op.lookup .int (.int .i64 0) B4 [.map mb,.int .i64 a] H=B1 (match iy ps a with|some i=>.tuple [.int .i64 (i:Int),.bool B4]|none=>.tuple [.int .i64 0,.bool B2]):=by
 simp only[Op.lookup,cH,xw,Wx h.mp,qr,Xu];cases iy ps a<;>simp
def CL(h:vN H o t r ps pv mb c):bX cD 2 H pv ps:=aU.sl h.ow
def xW(h:vN H o t r ps pv mb c)(a:Int):∀K,C3 M B4 (.func γ) [.ptr r 0,.int .i64 a] H K=K B4 (.tuple [.int .u64 ((dk ps a).getD 0),.bool (dk ps a).isSome]) H:=by
 refine dI (q5b ?_);have l0:=h.row.ld 0;have l1:=h.row.ld 1;rw[Kh];have f:=xl9 h a;cases q:iy ps a with
 |none =>
  rw[q]at f;simp only[aa,bc,W_,aA,l1,f];rfl
 |some i =>
  rw[q]at f;obtain⟨d,x,b,-⟩:=pw q;have sl:=CL h;have ix:=sl.idx b (z:=(i:Int)) rfl .i64;have ld:Op.ae [.ptr (aC pv) (cX 2 pv i+1)] H=B1 (.int .u64 x.v):=sl.ae EV b (j:=1) (by decide);simp only[aa,bc,W_,aA,l0,l1,f,ix,ld];simp only[HI,wh,vx,ja,b]
def S8(H:ar)(o:Nat->Nat)(t r:Nat)(ps:List Pr)(H':ar):Prop:=∃o' pv mb c,vN H' o' t r ps pv mb c/\(∀z,z<H.au->o' z=o z)/\Fr (λ z=>o z=t\/o z=t+1\/o z=t+2) H H'
def CW(h:vN H o t r ps pv mb c):zk M sS [.ptr r 0] H λ _ H'=>S8 H o t r [] H':=by
 refine q0g ?_;have l1:=h.row.ld 1;have s1:Op.bW [.map mb] H=B1 (.tuple [],H.set mb (.map [] (c+ps.length))):=by simp only[Op.bW,Wx h.mp,qr]
 have d:r≠mb:=λ q=>by have a:=h.o0;have b:=h.o1;rw[q]at a;omega
 have e:At (H.set mb (.map [] (c+ps.length))) r Jc [pv,.map mb]:=h.row.fr (cj H mb _) d;have s2:=e.st 0 (v:=.nils) rfl (by simp);simp only[aa,bc,q0h,aA,l1,s1,s2];refine⟨o,.nils,mb,c+ps.length,⟨e.set _,Own.nil ..,?_,h.ml,x9 _,h.o0,h.o1,λ z q=>(q.1 rfl).elim⟩,λ _ _=>rfl,?_⟩
 .rw [j9 d,xj];rfl
 .exact ((cj H mb _).mono λ z _ q=>.inr (.inl ((congrArg o q).trans h.o1))).trans (cj _ r _) λ z q=>.inl (.inl ((congrArg o q).trans h.o0))
def Rp(h:vN H o t r ps pv mb c)(a v:Int)(hn:iy ps a=B5):zk M qsy [.ptr r 0,.int .i64 a,.int .u64 v] H λ w H'=>w=.int .i64 (if ps.length=128 then 70 else 0)/\S8 H o t r (if ps.length=128 then ps else ps ++ [⟨a,v⟩]) H':=by
 refine q7g ?_;have l0:=h.row.ld 0;have l1:=h.row.ld 1;have ln:=(CL h).len;have hle:=h.le
 by_cases q:ps.length=128
 .have p:((ps.length:Nat):Int)=128:=by omega
  rw[xb q,xb q];simp only[aa,bc,qtd,aA,l0,ln,xg p];exact⟨o,pv,mb,c,h,λ _ _=>rfl,Fr.refl _⟩
 .have p:¬((ps.length:Nat):Int)=128:=by omega
  rw[qt q,qt q];have s1:Op.mapUpdate .int [.map mb,.int .i64 a,.int .i64 ((ps.length:Nat):Int)] H=B1 (.undef,H.set mb (.map (jX (ps ++ [⟨a,v⟩]) 0 c) (c+(ps ++ [(⟨a,v⟩:Pr)]).length))):=by
   simp only[Op.mapUpdate,cH,xw,Wx h.mp,qr,Xu,hn,Option.map_none,xg2,yr,xe,zq,yx];rfl
  obtain⟨H1,e1⟩:∃X,X=H.set mb (.map (jX (ps ++ [⟨a,v⟩]) 0 c) (c+(ps ++ [(⟨a,v⟩:Pr)]).length)):=⟨_,rfl⟩
  rw[<-e1]at s1;have j:Fr (On mb) H H1:=e1▸cj H mb _;have u:r≠mb:=λ q=>by have a:=h.o0;have b:=h.o1;rw[q]at a;omega
  have x:At H1 r Jc [pv,.map mb]:=h.row.fr j u;have np:∀z,aN pv z->z≠mb/\z≠r:=λ z w=>⟨λ e=>by have a:=h.o2 z w;have b:=h.o1;rw[e]at a;omega,λ e=>by have a:=h.o2 z w;have b:=h.o0;rw[e]at a;omega⟩
  have n:DW H1 pv ps:=Own.fr h.ow j λ z w=>(np z w).1;have m:=x.ld 0;have A:Op.build [.int .i64 0,.int .u64 0] [(0,1),(1,1)] [.int .i64 a,.int .u64 v]=B1 (.agg (cD ⟨a,v⟩)):=rfl;simp only[aa,bc,qtd,aA,l0,ln,p,l1,s1,m,A];refine aU.pn (bytes:=16) n (a:=⟨a,v⟩) rfl rfl rfl rfl (by decide) (by omega) (by omega) λ pv' d i f s=>?_;have y:At d r Jc [pv,.map mb]:=x.fr f λ w=>(np r w).2 rfl;have one:az pv'=true:=by have:=Sl.one (Own.sl i);exact this
  have B:=y.st 0 one (by simp);simp only[aa,bc,B];have k:Fr (On r) d (d.set r (OR [pv',.map mb] Jc)):=cj ..;have n1:H1.au=H.au:=by rw[e1];rfl
  have l:∀z,aN pv' z->z≠r/\z≠mb:=λ z w=>(s z w).elim (λ w=>⟨(np z w).2,(np z w).1⟩) λ w=>⟨λ e=>by have:=h.row.2;omega,λ e=>by have:=h.ml;omega⟩
  refine⟨aL o H.au (t+2),pv',mb,c,⟨y.set _,Own.fr i k λ z w=>(l z w).1,?_,?_,?_,(iQ h.row.2).trans h.o0,(iQ h.ml).trans h.o1,λ z w=>?_⟩,λ z w=>iQ w,?_⟩
  .show (d.set r (OR [pv',.map mb] Jc)).get mb=_;rw[k.ah mb (by have:=f.au;have:=h.ml;omega) (λ w=>u (show mb=r from w).symm),f.ah mb (by have:=h.ml;omega) λ w=>(np mb w).1 rfl,e1,xj]
  .have:=f.au;have:=h.ml;show mb<d.au;omega
  .rw [xe];simp only[zq,yx];omega
  .rcases s z w with w|w
   .exact (iQ (by have:=Own.lt h.ow z w;exact this)).trans (h.o2 z w)
   .exact mW (by omega)
  .exact ((j.mono λ z _ q=>.inr (.inl ((congrArg o q).trans h.o1))).trans f λ z q=>.inl (.inr (.inr (h.o2 z q)))).trans k λ z q=>.inl (.inl ((congrArg o q).trans h.o0))
end
def py(H:ar)(o:Nat->Nat)(g:Nat)(rd wr:List Pr):Prop:=∃r w v1 m1 c1 v2 m2 c2,At H g UK [.ptr r 0,.ptr w 0]/\o g=9/\vN H o 10 r rd v1 m1 c1/\vN H o 20 w wr v2 m2 c2
def vH(H:ar)(o:Nat->Nat)(g:Nat)(rd wr:List Pr)(H':ar):Prop:=∃o',py H' o' g rd wr/\(∀z,z<H.au->o' z=o z)/\Fr (λ z=>9<=o z/\o z<=22) H H'
section
variable{H H':ar}{o o':Nat->Nat}{g:Nat}{rd wr:List Pr}
def py.fr{W:Nat->Prop}(h:py H o g rd wr)(a:Fr W H H')(hw:∀z,z<H.au->9<=o z -> ¬W z)(ho:∀z,z<H.au->o' z=o z):py H' o' g rd wr:=by
 have⟨r,w,v1,l,d,v2,m,f,b,i,j,k⟩:=h;exact⟨r,w,v1,l,d,v2,m,f,b.fr a (hw g b.2 (by omega)),(ho g b.2).trans i,j.fr a (λ z q e=>hw z q (by omega)) ho,k.fr a (λ z q e=>hw z q (by omega)) ho⟩
def py.Fx{W:Nat->Prop}(h:py H o g rd wr)(a:Fr W H H')(hw:∀z,z<H.au->9<=o z/\o z<=22 -> ¬W z):py H' o g rd wr:=by
 have⟨r,w,v1,l,d,v2,m,f,b,i,j,k⟩:=h;exact⟨r,w,v1,l,d,v2,m,f,b.fr a (hw g b.2 (by omega)),i,j.fr a (λ z q e=>hw z q (by omega)) λ _ _=>rfl,k.fr a (λ z q e=>hw z q (by omega)) λ _ _=>rfl⟩
def py.same(h:py H o g rd wr):vH H o g rd wr H:=⟨o,h,λ _ _=>rfl,Fr.refl _⟩
def nJ(h:py H o g rd wr):∀K,C3 M B4 (.func R1) [.ptr g 0] H K=K B4 (.bool B2) H:=by
 obtain⟨r,w,v1,e,b,v2,f,d,a,-⟩:=h;have l0:=a.ld 0;refine dI (q7c ?_);simp only[aa,bc,q7d,aA,l0]
def Yz(h:py H o g rd wr)(a:Int):∀K,C3 M B4 (.func V1) [.ptr g 0,.int .i64 a] H K=K B4 (.tuple [.int .u64 ((dk rd a).getD 0),.bool (dk rd a).isSome]) H:=by
 have b:=h;have⟨r,w,v1,l,f,v2,m,i,d,j,e,k⟩:=h;have l0:=d.ld 0;refine dI (q93 ?_);simp only[aa,bc,q94,aA,nJ b,l0,xW e]
def OQ(h:py H o g rd wr)(a:Int):∀K,C3 M B4 (.func k_) [.ptr g 0,.int .i64 a] H K=K B4 (.tuple [.int .u64 ((dk wr a).getD 0),.bool (dk wr a).isSome]) H:=by
 have b:=h;have⟨r,w,v1,l,f,v2,m,i,d,j,k,e⟩:=h;have l1:=d.ld 1;refine dI (q69 ?_);simp only[aa,bc,q7a,aA,nJ b,l1,xW e]
def py._y{H1:ar}{g r w:Nat}{v1 v2:AV}{n j i f:Nat}{a:List Pr}(h:At H g UK [.ptr r 0,.ptr w 0])(k:o g=9)(q:vN H o 10 r rd v1 n j)(l:vN H o 20 w wr v2 i f)(p:S8 H o 10 r a H1):vH H o g a wr H1:=by
 have⟨o',pv,mb,c,m,b,d⟩:=p;exact⟨o',⟨r,w,pv,mb,c,v2,i,f,h.fr d (by omega),(b g h.2).trans k,m,l.fr d (λ z _ e=>by omega) b⟩,b,d.mono λ z _ e=>by omega⟩
def py.Xy{H1:ar}{g r w:Nat}{v1 v2:AV}{i f n j:Nat}{a:List Pr}(h:At H g UK [.ptr r 0,.ptr w 0])(k:o g=9)(l:vN H o 10 r rd v1 i f)(q:vN H o 20 w wr v2 n j)(p:S8 H o 20 w a H1):vH H o g rd a H1:=by
 have⟨o',pv,mb,c,m,b,d⟩:=p;exact⟨o',⟨r,w,v1,i,f,pv,mb,c,h.fr d (by omega),(b g h.2).trans k,l.fr d (λ z _ e=>by omega) b,m⟩,b,d.mono λ z _ e=>by omega⟩
def vH.then{H1 a:ar}{e w1 f w2:List Pr}(p:vH H o g e w1 H1)(k:∀o1,py H1 o1 g e w1->vH H1 o1 g f w2 a):vH H o g f w2 a:=by
 have⟨o1,h,b,d⟩:=p;have⟨o2,i,j,l⟩:=k o1 h;refine⟨o2,i,λ z q=>(j z (qn q d.au)).trans (b z q),d.trans l λ z q=>?_⟩;rcases xx z H.au with w|w
 .rw [b z w]at q;exact .inl q
 .exact .inr w
def KJ(H:ar)(o:Nat->Nat)(g:Nat)(ps:List Pr)(a:Int)(e:AV)(A:Prop)(B:Prop):Prop:=(dk ps a=B5/\ps.length=128/\e=.int .i64 70/\A)\/(¬(dk ps a=B5/\ps.length=128)/\e=.int .i64 0/\B)
def Ju(h:py H o g rd wr){a:Int}(ha:0<=a)(v:Int):zk M _2 [.ptr g 0,.int .i64 a,.int .u64 v] H λ e H'=>KJ H o g rd a e (vH H o g rd wr H') (vH H o g (if dk rd a=B5 then rd ++ [⟨a,v⟩]else rd) wr H'):=by
 refine q7b ?_;have f:=h;have⟨r,w,v1,p,m,v2,s,n,i,j,b,k⟩:=h;have l0:=i.ld 0;have l:¬a<0:=HD.2 ha;cases q:dk rd a with
 |some y =>
  simp only[aa,bc,_d,aA,nJ f,l,l0,xW b,q,BL];refine .inr ⟨λ w=>?_,rfl,?_⟩
  .rw [q]at w;cases w.1
  .rw [qt (by simp)];exact f.same
 |none =>
  have hn:iy rd a=none:=by rw[Kh]at q;exact Option.map_eq_none_iff.1 q
  simp only[aa,bc,_d,aA,nJ f,l,l0,xW b,q,BL];refine C3.q (Rp b a v hn) λ e H1⟨he,hp⟩=>?_;subst he;simp only[aa,bc]
  by_cases d:rd.length=128
  .rw [xb d]at hp⊢;exact .inl ⟨q,d,rfl,py._y i j b k hp⟩
  .rw [qt d]at hp⊢;exact .inr ⟨λ w=>d w.2,rfl,py._y i j b k hp⟩
def L5(h:py H o g rd wr):zk M mn [.ptr g 0] H λ _ H'=>vH H o g [] [] H':=by
 refine q46 ?_;have x:=h;have⟨r,w,v1,F,E,v2,C,v,d,k,y,A⟩:=h;have l0:=d.ld 0;simp only[aa,bc,q47,aA,nJ x,l0];refine C3.q (CW y) λ _ H1 hp=>?_;have⟨o',pv,mb,c,u,b,i⟩:=hp;have f:=A.fr i (λ z _ e=>by omega) b;have a:=d.fr i (by omega);have l1:=a.ld 1;simp only[aa,bc,aA,l1];refine C3.q (CW f) λ _ D l=>?_;simp only[aa,bc];have G:vH H o g [] wr H1:=⟨o',⟨r,w,pv,mb,c,v2,C,v,a,(b g d.2).trans k,u,f⟩,b,i.mono λ z _ e=>by omega⟩
 have⟨o2,s,p,j,B,m,n⟩:=l;refine⟨o2,⟨r,w,pv,mb,c,s,p,j,a.fr n (by have:=(b g d.2).trans k;omega),(m g a.2).trans ((b g d.2).trans k),u.fr n (λ z _ e=>by omega) m,B⟩,λ z q=>(m z (qn q i.au)).trans (b z q),(i.mono λ z _ e=>by omega).trans n λ z q=>?_⟩;rcases xx z H.au with w|w
 .rw [b z w]at q;exact .inl (by omega)
 .exact .inr w
def Ls(h:py H o g rd wr){a:Int}(ha:0<=a)(v:Int):zk M A0 [.ptr g 0,.int .i64 a,.int .u64 v] H λ e H'=>KJ H o g wr a e (vH H o g rd wr H') (vH H o g rd (fG wr a v) H'):=by
 refine q5a ?_;have C:=h;have⟨r,w,v1,L,J,v2,l,B,k,n,p,b⟩:=h;have l1:=k.ld 1;have E:¬a<0:=HD.2 ha;have D:=b.row.ld 1;have F:=b.row.ld 0;have f:=xl9 b a;cases q:iy wr a with
 |some i =>
  rw[q]at f;have⟨K,x,s,I⟩:=pw q;have sl:=CL b;have ix:=sl.idx s (z:=(i:Int)) rfl .i64;have⟨H1,s1,A,d⟩:=aU.As EV b.ow s (j:=1) (by decide) (u:=.int .u64 v) rfl (y:=⟨x.a,v⟩) rfl;simp only[aa,bc,qrf,aA,nJ C,E,l1,D,f,F,ix,s1];refine .inr ⟨λ w=>(by rw[Kh,q]at w;cases w.1),rfl,?_⟩;rw[TU q,<-I];have n1:¬aN v2 w:=λ e=>by have:=b.o2 w e;have:=b.o0;omega
  have n2:¬aN v2 l:=λ e=>by have:=b.o2 l e;have:=b.o1;omega
  refine py.Xy k n p b ⟨o,v2,l,B,⟨b.row.fr d n1,A,?_,qn b.ml d.au,by rw[xq];exact b.le,b.o0,b.o1,b.o2⟩,λ _ _=>rfl,d.mono λ z _ q=>.inr (.inr (b.o2 z q))⟩;rw[xg3 wr i v 0 B s,xq,d.ah l b.ml n2];exact b.mp
 |none =>
  have G:dk wr a=none:=by rw[Kh,q];rfl
  rw[q]at f;simp only[aa,bc,qrf,aA,nJ C,E,l1,D,f];refine C3.q (Rp b a v q) λ e H1⟨he,hp⟩=>?_;subst he;simp only[aa,bc]
  by_cases m:wr.length=128
  .rw [xb m]at hp⊢;exact .inl ⟨G,m,rfl,py.Xy k n p b hp⟩
  .rw [qt m]at hp⊢;rw[Tb q];exact .inr ⟨λ w=>m w.2,rfl,py.Xy k n p b hp⟩
end
end Go.Am
namespace Go.Am
open Lang Go.Proofs
variable{M:ak}[MK M]
def NL(v:AV)(i:Nat):AV:=.ptr (aC v) (cX 2 v i)
def SJ{H1:ar}(e:Pr):Op.store 2 [.ptr H1.au 0,.agg (cD e)] (H1.alloc (OR [.int .i64 0,.int .u64 0] sC))=B1 (.undef,(H1.alloc (OR [.int .i64 0,.int .u64 0] sC)).set H1.au (OR (cD e) sC)):=(At.new H1 _ _).iv (k:=0) (n:=2) rfl (by decide) rfl
def xkf{H0:ar}{p:Nat}{v:AV}{ys:List Pr}(Z:DW H0 v ys)(hp:H0.get p=B1 (OR [v] nI))(U:p<H0.au)(hl:ys.length<=1000000) :
 pF M wg [] [.ptr p 0] (λ x=>x=p\/aN v x) (λ _=>False) H0 ((N1 ys.length).map λ(i:Nat)=>[.int .i64 (i:Int),.agg (cD (ys.getD i ⟨0,0⟩))]):=by
 intro Y R S j H1 G K C D loc N step;have⟨p1,p2,p3⟩:=K p (.inl (.inl rfl))
 suffices h:zk M wg [.fn (.yield Y) [] [],.ptr p 0] H1 (HX R S j (λ _=>False) H1 ((N1 ys.length).map λ(i:Nat)=>[AV.int .i64 (i:Int),AV.agg (cD (ys.getD i ⟨0,0⟩))]).length)by
  have⟨v,H',P,W',q1,q2,q3⟩:=h.elim;exact⟨v,H',W',P,q1,q2,q3⟩
 refine qor ?_;have lp:Op.ae [.ptr p 0] H1=B1 v:=by rw[zh (xf (by rw[p2];exact hp))];rfl
 have L:∀{a:ar},Fr j H1 a->DW a v ys:=λ{a}f =>
  Own.fr Z (⟨ze G f.au,λ y d hw=>by
   have⟨y1,y2,y3⟩:=K y (.inl (yt.1 hw));rw[f.ah y (by omega) y3,y2]⟩:Fr (λ y=>¬(y=p\/aN v y)) H0 a) λ y d w=>w (.inr d)
 rw[xu,jf];simp only[aa,bc,Uh,lp,(aU.sl (L (Fr.refl _))).len];refine dD.intro (λ n E a=>∃(i:Nat)(V:Nat->Prop),E=[(7,.int .i64 (i:Int)),(6,.int .i64 ((ys.length:Nat):Int)),(5,v),(0,.fn (.yield Y) [] []),(1,.ptr p 0)]/\n=ys.length-i/\i<=ys.length/\Oi R j H1 a i V) ?_ ?_
 .exact ⟨_,_,⟨0,j,rfl,rfl,x9 _,⟨C,λ b hb=>⟨D b hb,.inl hb⟩,Fr.refl _⟩⟩,by simp only[aa,bc]⟩
 rintro n E a ⟨i,V,rfl,rfl,hi,hI⟩;rcases xx i ys.length with s|T
 .have B:(i:Int)<((ys.length:Nat):Int):=by omega
  obtain⟨e,he⟩:∃e,ys[i]? = B1 e:=⟨ys[i],by simp[s]⟩
  have sl:=aU.sl (L hI.fr);have ix:Op.aP 2 [v,.int .i64 (i:Int)]=B1 (NL v i):=sl.idx he rfl .i64;have ld:Op.av 2 [NL v i] a=B1 (.agg (cD e)):=sl.av EV (by decide) he;have bx:=SJ (H1:=a) e;obtain⟨u,e2⟩:∃X,X=(a.alloc (OR [.int .i64 0,.int .u64 0] sC)).set a.au (OR (cD e) sC):=⟨_,rfl⟩
  rw[<-e2]at bx;have z:Fr Em a u:=by rw[e2];exact yH _ _
  have O:u.get a.au=B1 (OR (cD e) sC):=by rw[e2,xj]
  have I:Op.av 2 [.ptr a.au 0] u=B1 (.agg (cD e)):=tT (xf O) (by simp[cD]);have n2:=z.au;have⟨bb,J,A,hr,Q,m,W,hs⟩:=step i [.int .i64 (i:Int),.agg (cD e)] (by rw[xk,jp s,HI,ja,he];rfl) V u (loc _ _ _ _ hI.hR (λ y d=>z.ah y (hI.hV y d).1 id) n2) (λ y d=>⟨by have:=(hI.hV y d).1;omega,(hI.hV y d).2⟩) ((hI.fr.em z).mono λ _ _ q=>.inl q);have k:Fr j H1 J:=(hI.fr.em z).trans Q λ y q=>(hI.hV y q).2;have l:∀y,A y->y<J.au/\(j y\/H1.au<=y):=λ y q=>⟨(m y q).1,(m y q).2.elim (λ w=>(hI.hV y w).2) λ w=>.inr (by have:=hI.fr.au;omega)⟩
  have wj:aj .i64 ((i:Int)+1)=((i+1:Nat):Int):=by rw[kc (by omega) (by omega)];omega
  simp only[aa,bc,Uh,B,ix,ld,bx,I];refine C3.tH hr ?_;cases bb with
  |true =>
   simp only[aa,bc,Uh,wj];exact⟨_,_,⟨i+1,A,rfl,rfl,by omega,⟨W rfl,l,k⟩⟩,by simp only[aa,bc],by omega⟩
  |false =>
   simp only[aa,bc];exact⟨A,k.mono λ _ _ q=>.inl q,l,.inr (hs rfl)⟩
 .have B:¬(i:Int)<((ys.length:Nat):Int):=by omega
  have F:i=ys.length:=by omega
  simp only[aa,bc,Uh,B];exact⟨V,hI.fr.mono λ _ _ q=>.inl q,hI.hV,.inl (by rw[<-F];exact hI.hR)⟩
structure SV(ys:List Pr)(t:Nat)(i:Nat)(V:Nat->Prop)(Hx:ar):Prop where
 vt:V t
 lt:t<Hx.au
 ls:∃lv,Hx.get t=B1 (OR [lv] nI)/\DW Hx lv (ys.take i) /\ ∀a,aN lv a->V a/\t<a
def SV.loc{ys:List Pr}{t i:Nat}{V:Nat->Prop}{a Hb:ar}(h:SV ys t i V a)(hs:∀x,V x->Hb.get x=a.get x)(hn:a.au<=Hb.au):SV ys t i V Hb:=by
 have⟨lv,l1,l2,l3⟩:=h.ls;refine⟨h.vt,qn h.lt hn,lv,by rw[hs _ h.vt];exact l1,?_,l3⟩;exact Own.fr l2 (⟨hn,λ b _ hw=>hs b (yt.1 hw)⟩:Fr (λ b=>¬V b) a Hb) λ x d w=>w (l3 x d).1
section
variable{H H':ar}{o o':Nat->Nat}{t r mb c:Nat}{ps:List Pr}{pv:AV}
def xk0{α:Type}{enc:α->List AV}{e size:Nat}{H:ar}{v:AV}{xs:List α}(h:aU enc e size H v xs):AV.cells v=[v]:=by
 obtain⟨_,⟨_,rfl|⟨_,rfl,_⟩⟩|⟨_,rfl,_,_⟩⟩:=h<;>rfl
def xS{α:Type}{enc:α->List AV}{e size:Nat}{H:ar}{v:AV}{xs:List α}(h:aU enc e size H v xs)(a:xs≠[]):aN v (aC v):=⟨λ w=>by
 subst w;have:=(aU.sl h).len;have q:Op.dm [AV.nils]=B1 (.int .i64 0):=rfl;rw[q]at this;injection this with this;injection this with _ this
 exact a (jy.1 (by omega)),rfl⟩
def JI(h:vN H o t r ps pv mb c):zk M Pb [.ptr r 0] H λ v H'=>DW H' v ps/\(∀z,aN v z->H.au<=z)/\Fr Em H H':=by
 refine xi0 ?_;have⟨H1,e1,f1,n1,g1⟩:=cE H (OR [.nils] nI);obtain⟨D,e2,E,-,g2⟩:=cE H1 (OR [pv] nI);have n2:D.au=H.au+2:=by rw[e2,zg,n1]
 have O:D.get H.au=B1 (OR [.nils] nI):=by rw[E.ah _ (by omega) id];exact g1
 have f2:=f1.em E;have ow2:DW D pv ps:=Own.em h.ow f2;have l0:=(h.row.em f1).ld 0;have al:zk M _E [.ptr r 0] H1 λ v H'=>v=.fn (.func wg) [] [.ptr H1.au 0]/\H'=D:=by
  refine q7e ?_;simp only[aa,bc,q7f,aA,l0];refine C3.q (R:=λ v H'=>v=.fn (.func wg) [] [.ptr H1.au 0]/\H'=D) ?_ λ v H' q=>?_
  .refine qrl ?_;have mk:Op.bt wg 0 [.ptr H1.au 0]=B1 (.fn (.func wg) [] [.ptr H1.au 0]):=rfl;simp only[aa,bc,qrm,xk0 h.ow,<-e2];rfl
  .simp only[aa,bc];exact q
 simp only[aa,bc,ZI,<-e1];refine C3.q al λ v H'⟨hv,hh⟩=>?_;subst hv;subst hh;simp only[aa,bc];have hl:=h.le;have lv:∀z,aN pv z->z<H.au:=λ z q=>Own.lt h.ow z q;refine iE.iter (fn:=TK) (lp:=RD) (pa:=Zf 0) (pb:=ZA 0) xe8 kx.1 kx.2 (by decide) xcm xcn
  (xkf ow2 g2 (by omega) (by omega)) (λ i V Hx=>SV ps H.au i V Hx) (λ _ _ _=>False) (λ x=>x=H.au) (qm _) ?_ ?_ ?_ ?_ ?_ ?_ ?_ ?_
 .rintro x ((q|q)|q)
  .exact ⟨by omega,rfl,λ w=>by omega⟩
  .have:=lv x q;exact⟨by omega,rfl,λ w=>by omega⟩
  .exact q.elim
 .exact λ x U=>by omega
 .exact ⟨rfl,by omega,.nils,O,Own.nil ..,λ x q=>(q.1 rfl).elim⟩
 .exact λ i V Ha Hb h hs hn=>h.loc hs hn
 .exact λ e V Ha Hb h _ _=>h
 .intro L i lr lb x U hL V l b hV hf6 B P S;rw[xk,xm]at U;obtain⟨j,T,rfl⟩:=U;have G:i<ps.length:=by have:=(qo.1 T).1;rw[jf]at this;exact this
  rw[jp G]at T;cases T;obtain⟨e,hk⟩:∃e,ps[i]? = B1 e:=⟨ps[i],by simp[G]⟩
  have he:ps.getD i ⟨0,0⟩=e:=by rw[ja,hk];rfl
  rw[he];refine⟨_,rfl,?_⟩;obtain⟨-,wa,wb,-⟩:=ZI M ⟨B1 L,Pb⟩;have bx:=SJ (H1:=l) e;obtain⟨m,K⟩:∃X,X=(l.alloc (OR [.int .i64 0,.int .u64 0] sC)).set l.au (OR (cD e) sC):=⟨_,rfl⟩
  rw[<-K]at bx;have N:Fr Em l m:=by rw[K];exact yH _ _
  have n7:m.au=l.au+1:=by rw[K];rfl
  have g7:m.get l.au=B1 (OR (cD e) sC):=by rw[K,xj]
  simp only[aa,bc,wa,bx,AG];refine⟨by rw[N.ah L P id];exact S,?_⟩;have gL:(m.set L lb).get L=B1 lb:=xj ..;have g8:(m.set L lb).get l.au=B1 (OR (cD e) sC):=by rw[j9 (by omega)];exact g7
  have f8:Fr (λ y=>V y\/y=L) l (m.set L lb):=(N.mono λ _ _ q=>q.elim).set (.inl (.inr rfl)) _;have u:=b.loc (Hb:=m.set L lb) (λ y hy=>by rw[j9 (λ q:L=y=>B (by rw[q];exact hy)),N.ah y (hV y hy).1 id]) (by rw[qI];omega);have n8:(m.set L lb).au=l.au+1:=by rw[qI,n7]
  generalize m.set L lb=H8 at *;have⟨f,l1,l2,l3⟩:=u.ls;have Y:Op.ae [.ptr H.au 0] H8=B1 f:=zh (xf l1) 0;have ld:Op.av 2 [.ptr l.au 0] H8=B1 (.agg (cD e)):=tT (xf g8) (by simp[cD]);have mY:(ps.take i).length<=128:=by rw[jd];omega
  simp only[aa,bc,wb,Y,ld];refine aU.pn (bytes:=16) l2 (a:=e) rfl rfl rfl rfl (by decide) (by omega) (by omega) λ k J A p F=>?_;have q9:At J H.au nI [f]:=⟨by rw[p.ah _ u.lt λ q=>by have:=(l3 _ q).2;omega];exact l1,qn u.lt p.au⟩
  have o1:az k=true:=by have:=Sl.one (Own.sl A);exact this
  have st:=q9.st 0 o1 (by simp);obtain⟨C,n⟩:∃X,X=J.set H.au (OR ([f].set 0 k) nI):=⟨_,rfl⟩
  rw[<-n]at st;have s:Fr (On H.au) J C:=by rw[n];exact cj ..
  simp only[aa,bc,st];have I:∀y,aN k y->H.au<y:=λ y q=>(F y q).elim (λ q=>(l3 y q).2) λ q=>by have:=b.lt;omega
  have nf:=p.au;have Z:C.au=J.au:=by rw[n];rfl
  have tk:ps.take (i+1)=ps.take i ++ [e]:=by rw[FQ,hk];rfl
  refine⟨rfl,?_,λ y=>V y\/aN k y,?_,?_,.inl ⟨rfl,.inl b.vt,by have:=b.lt;omega,k,by rw[n,xj];rfl,?_,λ y q=>⟨.inr q,I y q⟩⟩⟩
  .rw [s.ah L (by omega) (λ(q:L=H.au)=>B (by rw[q];exact b.vt)),p.ah L (by omega) λ q=>B (l3 _ q).1];exact gL
  .rintro y (q|q)
   .exact ⟨by have:=(hV y q).1;omega,.inl q⟩
   .refine ⟨by rw[Z];exact Own.lt A y q,?_⟩;rcases F y q with w|w
    .exact .inl (l3 y w).1
    .exact .inr (by omega)
  .exact ((f8.trans p λ y q=>.inl (.inl (l3 y q).1)).trans s λ y(q:y=H.au)=>.inl (.inl (by rw[q];exact b.vt)))
  .rw [tk];exact Own.fr A s λ y q(w:y=H.au)=>by have:=I y q;omega
 .rintro d V H' hd Q hg p hV b;rw[xu,jf]at b;have⟨f,l1,l2,l3⟩:=b.ls;rw[L6]at l2;have hd':d≠H.au:=by omega
  have fd:Fr (On d) H' (H'.set d (.deferred B5)):=(Fr.refl H').set (W:=On d) (.inl rfl) _;have Y:Op.ae [.ptr H.au 0] H'=B1 f:=zh (xf l1) 0;simp only[aa,bc,ZI,Y];refine⟨hg,Own.fr l2 fd λ z q(w:z=d)=>(hV z (l3 z q).1).2.2 w,λ z q=>?_,?_⟩
  .have:=(l3 z q).2;omega
  .exact (f2.trans (p.mono λ z _ q=>q.elim id OH) λ z q=>.inr (by omega)).trans fd λ z(q:z=d)=>.inr (by omega)
 .rintro e d V H' he hd Q hg p hV b;exact b.elim
end
section
variable{H H':ar}{o o':Nat->Nat}{g:Nat}{rd wr:List Pr}
def Lb(h:py H o g rd wr):zk M qqe [.ptr g 0] H λ v H'=>DW H' v rd/\(∀z,aN v z->H.au<=z)/\Fr Em H H':=by
 refine q48 ?_;have a:=h;have⟨r,w,v1,k,e,v2,l,f,b,i,d,j⟩:=h;have l0:=b.ld 0;simp only[aa,bc,q49,aA,nJ a,l0];refine C3.q (JI d) λ v H1 hp=>?_;simp only[aa,bc];exact hp
def yZ(h:py H o g rd wr):zk M x_ [.ptr g 0] H λ v H'=>DW H' v wr/\(∀z,aN v z->H.au<=z)/\Fr Em H H':=by
 refine q0e ?_;have a:=h;have⟨r,w,v1,k,e,v2,l,f,b,i,j,d⟩:=h;have l1:=b.ld 1;simp only[aa,bc,q0f,aA,nJ a,l1];refine C3.q (JI d) λ v H1 hp=>?_;simp only[aa,bc];exact hp
end
end Go.Am
namespace Go.Am
open Lang Go.Proofs
variable{M:ak}[MK M]
def Bx(H:ar)(o:Nat->Nat)(b:Nat)(v:AV):Prop:=H.bP b=B1 [v]/\b<H.au/\o b=30
def By(H:ar)(o:Nat->Nat)(b:Nat)(v:AV):Prop:=(∃t,H.get b=B1 (OR [v] t))/\b<H.au/\o b=31
def lP(f:Nat)(l:List Nat):AV:=.fn (.func f) [] (l.map λ b=>.ptr b 0)
def sR(H:ar)(o:Nat->Nat)(p:Nat)(kv:AV):K0->Prop
 | .wait=>kv=.fn (.func W8) [.ptr p 0] []
 | .left how=>∃b1 b2,kv=lP YR [b1,b2]/\Bx H o b1 (.int .i64 how)/\Bx H o b2 (.ptr p 0)
 | .kU a=>0<=a /\ ∃b1 b2,kv=lP Vy [b1,b2]/\Bx H o b1 (.ptr p 0)/\Bx H o b2 (.int .i64 a)
 | .take=>kv=.fn (.func YU) [.ptr p 0] []
 | .back l=>(∀x∈l,fH x.v) /\ ∃b1 b2 lv y,kv=lP XS [b1,b2]/\Bx H o b1 (.ptr p 0)/\Bx H o b2 lv/\bX cD 2 H lv (y::l)/\aC lv<H.au/\o (aC lv)=30
 | .fin=>∃b1,kv=lP Vl [b1]/\Bx H o b1 (.ptr p 0)
def Jk(H:ar)(o:Nat->Nat)(p:Nat)(gv:AV):Option K0->Prop
 |none=>gv=.fn (.func WL) [.ptr p 0] []
 |some k=>∃b1 b2 kv,gv=lP qh8 [b1,b2]/\Bx H o b1 (.ptr p 0)/\Bx H o b2 kv/\sR H o p kv k
structure Me(H:ar)(o:Nat->Nat)(p:Nat)(k:K0)(g:Int)(rd:List Pr)(bi bg bp bk br bs bl ba:Nat):Prop where
 hg:Bx H o bg (.int .u64 g)
 hp:Bx H o bp (.ptr p 0)
 hk:∃kv,Bx H o bk kv/\sR H o p kv k/\az kv=B4
 hr:∃rv,Bx H o br rv/\bX cD 2 H rv rd/\(rd≠[]->aC rv<H.au/\o (aC rv)=30)/\az rv=B4
 hs:By H o bs (lP Ub [bi,br,bp,bl,ba])
 hl:Bx H o bl (lP Ua [br,bi,bp,bs])
 ha:Bx H o ba (lP S9 [bg,bp,bk])
 hn:rd.length<=128
def Fu(H:ar)(o:Nat->Nat)(p:Nat)(tv:AV):Nx->Prop
 | .wA n k=>∃b1 b2 b3 kv,tv=lP F_ [b1,b2,b3]/\Bx H o b1 (.ptr p 0)/\Bx H o b2 (.int .u64 n)/\Bx H o b3 kv/\sR H o p kv k
 | .uP n k=>∃b1 b2 b3 kv,tv=lP qjd [b1,b2,b3]/\Bx H o b1 (.ptr p 0)/\Bx H o b2 (.int .u64 n)/\Bx H o b3 kv/\sR H o p kv k
 | .xI=>∃b1 b2 gv,tv=lP SU [b1,b2]/\Bx H o b1 (.ptr p 0)/\Bx H o b2 gv/\Jk H o p gv B5
 | .xB k=>∃b1 b2 gv,tv=lP SU [b1,b2]/\Bx H o b1 (.ptr p 0)/\Bx H o b2 gv/\Jk H o p gv (B1 k)
 | .look k g rd i=>∃bi bg bp bk br bs bl ba,tv=lP Ua [br,bi,bp,bs]/\By H o bi (.int .i64 (i:Int))/\i<rd.length/\Me H o p k g rd bi bg bp bk br bs bl ba
 | .again k g=>∃bg bp bk kv,tv=lP S9 [bg,bp,bk]/\Bx H o bg (.int .u64 g)/\Bx H o bp (.ptr p 0)/\Bx H o bk kv/\sR H o p kv k
 | .xH a=>0<=a /\ ∃b1 b2,tv=lP _k [b1,b2]/\Bx H o b1 (.ptr p 0)/\Bx H o b2 (.int .i64 a)
 | .nR a v=>(0<=a/\fH v) /\ ∃b1 b2 b3,tv=lP qje [b1,b2,b3]/\Bx H o b1 (.ptr p 0)/\Bx H o b2 (.int .i64 a)/\Bx H o b3 (.int .u64 v)
 | .uy=>∃b1,tv=lP L' [b1]/\Bx H o b1 (.ptr p 0)
 | .Ge k=>sR H o p tv k
def Fw:Nx->Nat
 | .uP _ _=>O7
 | .uy=>O7
 | .Ge _=>N'
 |_=>Rh
def Oe(H:ar)(o:Nat->Nat)(p:Nat)(fv:AV):Option Nx->Prop
 |none=>fv=.nilf
 |some n=>∃b tv,fv=lP (Fw n) [b]/\Bx H o b tv/\Fu H o p tv n
def iR(r:Rq):List AV:=[.int .i64 r.op,.int .i64 r.a,.int .u64 r.v,.int .u64 r.o]
def dH(x:So)(g:Nat)(fv:AV):List AV:=.ptr g 0::(iR x.want ++ [fv,.bool x.busy,.bool x.live,.bool x.aE,.int .u64 x.snap,.int .u64 x.value,.int .i64 x.ended,.int .i64 x.points])
structure dV(H:ar)(o:Nat->Nat)(p:Nat)(x:So)(g:Nat)(fv:AV):Prop where
 row:At H p Ew (dH x g fv)
 lg:py H o g x.rd x.wr
 nx:Oe H o p fv x.au
 op:o p=8
 one:az fv=B4
 vu:fH x.value
 wu:∀y∈x.wr,fH y.v
 qu:fH x.want.v
def eG(H:ar)(o:Nat->Nat)(p:Nat)(x:So)(H':ar):Prop:=∃o' g fv,dV H' o' p x g fv/\(∀z,z<H.au->o' z=o z)/\Fr (λ z=>8<=o z) H H'
section
variable{H H':ar}{o o':Nat->Nat}{p g:Nat}{x y:So}{fv kv gv tv:AV}{k:K0}{n:Nx}
structure FR(H:ar)(o:Nat->Nat)(H':ar)(o':Nat->Nat):Prop where
 ah:∀z,z<H.au->o z=30->H'.get z=H.get z
 own:∀z,z<H.au->o' z=o z
 au:H.au<=H'.au
structure pz(H:ar)(o:Nat->Nat)(H':ar)(o':Nat->Nat):Prop where
 m:FR H o H' o'
 ah:∀z,z<H.au->o z=31->H'.get z=H.get z
def FR.of{W:Nat->Prop}(a:Fr W H H')(hw:∀z,z<H.au->o z=30 -> ¬W z)(ho:∀z,z<H.au->o' z=o z):FR H o H' o':=⟨λ z h q=>a.ah z h (hw z h q),ho,a.au⟩
def pz.of{W:Nat->Prop}(a:Fr W H H')(hw:∀z,z<H.au->30<=o z -> ¬W z)(ho:∀z,z<H.au->o' z=o z):pz H o H' o':=⟨FR.of a (λ z h q=>hw z h (by omega)) ho,λ z h q=>a.ah z h (hw z h (by omega))⟩
def pz.own(a:pz H o H' o'):∀z,z<H.au->o' z=o z:=a.m.own
def Bx.km{b:Nat}{v:AV}(h:Bx H o b v)(a:FR H o H' o'):Bx H' o' b v:=⟨(lh (a.ah b h.2.1 h.2.2)).trans h.1,qn h.2.1 a.au,(a.own b h.2.1).trans h.2.2⟩
def Bx.ky{b:Nat}{v:AV}(h:Bx H o b v)(a:pz H o H' o'):Bx H' o' b v:=h.km a.m
def By.ky{b:Nat}{v:AV}(h:By H o b v)(a:pz H o H' o'):By H' o' b v:=⟨by rw[a.ah b h.2.1 h.2.2];exact h.1,qn h.2.1 a.m.au,(a.own b h.2.1).trans h.2.2⟩
def By.ld{b:Nat}{v:AV}(h:By H o b v):Op.ae [.ptr b 0] H=B1 v:=by have⟨t,q⟩:=h.1;exact zh (xf q) 0
def Bx.ld{b:Nat}{v:AV}(h:Bx H o b v):Op.ae [.ptr b 0] H=B1 v:=zh h.1 0
def FR.sl{lv:AV}{b:List Pr}(a:FR H o H' o')(h:bX cD 2 H lv b)(c:b≠[]->aC lv<H.au/\o (aC lv)=30):bX cD 2 H' lv b:=by
 cases b with
 |nil=>exact Sl.fr (W:=λ _=>True) h ⟨a.au,λ _ _ q=>(q trivial).elim⟩ (.inl rfl)
 |cons y l =>
  have⟨d,e⟩:=c (by simp);exact Sl.fr (W:=λ z=>z≠aC lv) h ⟨a.au,λ z _ q=>by rw[yt.1 q];exact a.ah _ d e⟩ (.inr λ q=>q rfl)
def sR.km(h:sR H o p kv k)(a:FR H o H' o'):sR H' o' p kv k:=by
 cases k with
 |wait=>exact h
 |left how=>have⟨b,e,c,d,f⟩:=h;exact⟨b,e,c,d.km a,f.km a⟩
 |kU z=>have⟨i,b,e,c,d,f⟩:=h;exact⟨i,b,e,c,d.km a,f.km a⟩
 |take=>exact h
 |back l=>have⟨i,b,e,lv,y,c,d,f,q,j,m⟩:=h;exact⟨i,b,e,lv,y,c,d.km a,f.km a,a.sl q λ _=>⟨j,m⟩,qn j a.au,(a.own _ j).trans m⟩
 |fin=>have⟨b,c,d⟩:=h;exact⟨b,c,d.km a⟩
def sR.ky(h:sR H o p kv k)(a:pz H o H' o'):sR H' o' p kv k:=h.km a.m
def sR.one(h:sR H o p kv k):az kv=true:=by
 cases k with
 |wait=>rw[show kv=_ from h];rfl
 |left how=>have⟨b,d,a,c,f⟩:=h;rw[a];rfl
 |kU z=>have⟨e,b,d,a,c,f⟩:=h;rw[a];rfl
 |take=>rw[show kv=_ from h];rfl
 |back l=>have⟨e,b,d,lv,y,a,c⟩:=h;rw[a];rfl
 |fin=>have⟨b,a,c⟩:=h;rw[a];rfl
def Jk.ky{ko:Option K0}(h:Jk H o p gv ko)(a:pz H o H' o'):Jk H' o' p gv ko:=by
 cases ko with
 |none=>exact h
 |some k=>have⟨b,c,kv,d,e,f,i⟩:=h;exact⟨b,c,kv,d,e.ky a,f.ky a,i.ky a⟩
def Me.ky{g:Int}{rd:List Pr}{bi d f bk i bs e c:Nat}(h:Me H o p k g rd bi d f bk i bs e c)(a:pz H o H' o'):Me H' o' p k g rd bi d f bk i bs e c:=by
 have⟨kv,j,l,r⟩:=h.hk;have⟨rv,s,t,b,u⟩:=h.hr;exact⟨h.hg.ky a,h.hp.ky a,⟨kv,j.ky a,l.ky a,r⟩,⟨rv,s.ky a,a.m.sl t b,λ q=>⟨qn (b q).1 a.m.au,(a.own _ (b q).1).trans (b q).2⟩,u⟩,h.hs.ky a,h.hl.ky a,h.ha.ky a,h.hn⟩
def Fu.ky(h:Fu H o p tv n)(a:pz H o H' o'):Fu H' o' p tv n:=by
 cases n with
 |wA m k=>have⟨d,f,l,kv,b,c,e,j,q⟩:=h;exact⟨d,f,l,kv,b,c.ky a,e.ky a,j.ky a,q.ky a⟩
 |uP m k=>have⟨d,f,l,kv,b,c,e,j,q⟩:=h;exact⟨d,f,l,kv,b,c.ky a,e.ky a,j.ky a,q.ky a⟩
 |xI=>have⟨d,f,gv,b,c,e,j⟩:=h;exact⟨d,f,gv,b,c.ky a,e.ky a,j.ky a⟩
 |xB k=>have⟨d,f,gv,b,c,e,j⟩:=h;exact⟨d,f,gv,b,c.ky a,e.ky a,j.ky a⟩
 |look k g rd i=>have⟨bi,t,w,bk,A,bs,u,s,b,c,e,j⟩:=h;exact⟨bi,t,w,bk,A,bs,u,s,b,c.ky a,e,j.ky a⟩
 |again k g=>have⟨d,f,l,kv,b,c,e,j,q⟩:=h;exact⟨d,f,l,kv,b,c.ky a,e.ky a,j.ky a,q.ky a⟩
 |xH z=>have⟨r,d,f,b,c,e⟩:=h;exact⟨r,d,f,b,c.ky a,e.ky a⟩
 |nR z v=>have⟨r,d,f,l,b,c,e,j⟩:=h;exact⟨r,d,f,l,b,c.ky a,e.ky a,j.ky a⟩
 |uy=>have⟨d,b,c⟩:=h;exact⟨d,b,c.ky a⟩
 |Ge k=>exact sR.ky h a
def Oe.ky{no:Option Nx}(h:Oe H o p fv no)(a:pz H o H' o'):Oe H' o' p fv no:=by
 cases no with
 |none=>exact h
 |some n=>have⟨b,tv,c,d,e⟩:=h;exact⟨b,tv,c,d.ky a,e.ky a⟩
def dV.fr{W:Nat->Prop}(h:dV H o p x g fv)(a:Fr W H H')(hw:∀z,z<H.au->8<=o z -> ¬W z)(ho:∀z,z<H.au->o' z=o z):dV H' o' p x g fv :=
 ⟨h.row.fr a (hw p h.row.2 (by rw[h.op];decide)),h.lg.fr a (λ z q w=>hw z q (by omega)) ho,h.nx.ky (pz.of a (λ z q w=>hw z q (by omega)) ho),(ho p h.row.2).trans h.op,h.one,h.vu,h.wu,h.qu⟩
def dV.same(h:dV H o p x g fv):eG H o p x H:=⟨o,g,fv,h,λ _ _=>rfl,Fr.refl _⟩
def dV.box(h:dV H o p x g fv)(v:AV)(t:Nat):dV (H.alloc (OR [v] t)) (aL o H.au 30) p x g fv/\Bx (H.alloc (OR [v] t)) (aL o H.au 30) H.au v/\pz H o (H.alloc (OR [v] t)) (aL o H.au 30):=by
 have f:Fr Em H (H.alloc (OR [v] t)):=(Fr.refl H).alloc _;have ho:∀z,z<H.au->aL o H.au 30 z=o z:=λ z q=>iQ q;exact⟨h.fr f (λ _ _ _ q=>q) ho,⟨xf (xt ..),by rw[zg];omega,mW (qm _)⟩,pz.of f (λ _ _ _ q=>q) ho⟩
def eG.pre{H1:ar}{o1:Nat->Nat}(a:Fr Em H H1)(ho:∀z,z<H.au->o1 z=o z)(h:eG H1 o1 p y H'):eG H o p y H':=by
 have⟨o2,c,b,d,e,f⟩:=h;refine⟨o2,c,b,d,λ z q=>(e z (qn q a.au)).trans (ho z q),(a.mono λ _ _ q=>q.elim).trans f λ z q=>?_⟩;rcases xx z H.au with w|w
 .exact .inl (by rw[<-ho z w];exact q)
 .exact .inr w
def eG.then{H1:ar}(a:eG H o p x H1)(b:∀o1 e c,dV H1 o1 p x e c->eG H1 o1 p y H'):eG H o p y H':=by
 have⟨o1,e,c,j,f,h⟩:=a;have⟨o2,i,d,l,m,r⟩:=b o1 e c j;refine⟨o2,i,d,l,λ z q=>(m z (qn q h.au)).trans (f z q),h.trans r λ z q=>?_⟩;rcases xx z H.au with w|w
 .exact .inl (by rw[<-f z w];exact q)
 .exact .inr w
def dV.bm(h:dV H o p x g fv):Op.ae [.ptr p 0] H=B1 (.ptr g 0)/\Op.ae [.ptr p 5] H=B1 fv/\Op.ae [.ptr p 6] H=B1 (.bool x.busy)/\Op.ae [.ptr p 7] H=B1 (.bool x.live)/\Op.ae [.ptr p 8] H=B1 (.bool x.aE)/\Op.ae [.ptr p 9] H=B1 (.int .u64 x.snap)/\Op.ae [.ptr p 10] H=B1 (.int .u64 x.value)/\Op.ae [.ptr p 11] H=B1 (.int .i64 x.ended)/\Op.ae [.ptr p 12] H=B1 (.int .i64 x.points) :=
 ⟨h.row.ld 0,h.row.ld 5,h.row.ld 6,h.row.ld 7,h.row.ld 8,h.row.ld 9,h.row.ld 10,h.row.ld 11,h.row.ld 12⟩
def dV.put(h:dV H o p x g fv)(i:Nat){v:AV}(c:az v=B4)(d:i<13)(he:(dH x g fv).set i v=dH y g fv)(hs:y.rd=x.rd/\y.wr=x.wr/\y.au=x.au/\y.want=x.want)(hu:fH y.value) :
 ∃H',Op.store 1 [.ptr p i,v] H=B1 (.undef,H')/\dV H' o p y g fv/\Fr (On p) H H':=by
 refine⟨_,h.row.st i c d,?_,cj ..⟩;rw[he];have f:Fr (On p) H (H.set p (OR (dH y g fv) Ew)):=cj ..;have np:∀z,9<=o z -> ¬On p z:=λ z q(w:z=p)=>by rw[w,h.op]at q;omega
 have⟨e1,e2,a,b⟩:=hs;exact⟨h.row.set _,by rw[e1,e2];exact h.lg.fr f (λ z _ q=>np z q) λ _ _=>rfl,by rw[a];exact h.nx.ky (pz.of f (λ z _ q=>np z (by omega)) λ _ _=>rfl),h.op,h.one,hu,by rw[e2];exact h.wu,by rw[b];exact h.qu⟩
def dV.CQ(h:dV H o p x g fv){H1:ar}(f:Fr (On p) H H1)(a:dV H1 o p y g fv):eG H o p y H1:=⟨o,g,fv,a,λ _ _=>rfl,f.mono λ z _(q:z=p)=>by rw[q,h.op];decide⟩
def MU(h:dV H o p x g fv){r:Rq}(hr:fH r.v){nv:AV}(hn:Oe H o p nv (B1 n)):zk M qql [.ptr p 0,.agg (iR r),nv] H λ _ H'=>eG H o p (x.ask r n) H':=by
 refine q57 ?_;obtain⟨H1,e1,d,-,-⟩:=cE H (OR (iR r) Cn);have j:At H1 H.au Cn (iR r):=e1▸At.new H _ _;have e:=h.fr d (λ _ _ _ q=>q) λ _ _=>rfl;have l4:=j.fq (k:=0) (n:=4) (by simp[iR]);have one:az nv=true:=by obtain⟨b,tv,q,-⟩:=hn;rw[q];rfl
 have s1:=e.row.iv (k:=1) (n:=4) (v:=.agg (iR r)) rfl (by simp[dH,iR]) rfl;have e2:(dH x g fv).take 1++AV.cells (.agg (iR r))++(dH x g fv).drop (1+4)=dH {x with want:=r} g fv:=rfl;rw[e2]at s1;obtain⟨H2,a⟩:∃X,X=H1.set p (OR (dH {x with want:=r} g fv) Ew):=⟨_,rfl⟩
 rw[<-a]at s1;have i:At H2 p Ew (dH {x with want:=r} g fv):=a▸e.row.set _;have s2:=i.st 5 one (by simp[dH,iR]);have m:(dH {x with want:=r} g fv).set 5 nv=dH (x.ask r n) g nv:=rfl;rw[m]at s2;have l:AV.cells (.agg (iR r))=iR r:=z7 _;have c:Op.av 4 [.ptr H.au 0] H1=B1 (.agg (iR r)):=l4;simp only[aa,bc,q58,aA,l,<-e1,c,s1,s2];have s:Fr (On p) H1 H2:=a▸cj ..;have t:Fr (On p) H2 (H2.set p (OR (dH (x.ask r n) g nv) Ew)):=cj ..;have f:Fr (On p) H (H2.set p (OR (dH (x.ask r n) g nv) Ew)):=((d.mono λ _ _ q=>q.elim).trans s λ z q=>.inl q).trans t λ z q=>.inl q;have np:∀z,9<=o z -> ¬On p z:=λ z q(w:z=p)=>by rw[w,h.op]at q;omega
 exact⟨o,g,nv,⟨i.set _,h.lg.fr f (λ z _ q=>np z q) λ _ _=>rfl,Oe.ky hn (pz.of f (λ z _ q=>np z (by omega)) λ _ _=>rfl),h.op,one,h.vu,h.wu,hr⟩,λ _ _=>rfl,f.mono λ z _(q:z=p)=>by rw[q,h.op];decide⟩
end
end Go.Am
namespace Go.Am
open Lang Go.Proofs
variable{M:ak}[MK M]
structure Mk(H:ar)(o:Nat->Nat)(H':ar)(o':Nat->Nat):Prop where
 f:Fr Em H H'
 ho:∀z,z<H.au->o' z=o z
section
variable{H H1 H2 H':ar}{o o1 o2 o':Nat->Nat}{p g:Nat}{x y:So}{fv kv gv tv:AV}{k:K0}{n:Nx}
def Mk.bk(m:Mk H o H1 o1):pz H o H1 o1:=pz.of m.f (λ _ _ _ q=>q) m.ho
def Mk.trans(m:Mk H o H1 o1)(w:Mk H1 o1 H2 o2):Mk H o H2 o2:=⟨m.f.em w.f,λ z q=>(w.ho z (qn q m.f.au)).trans (m.ho z q)⟩
def Mk.pre(m:Mk H o H1 o1)(h:eG H1 o1 p y H'):eG H o p y H':=eG.pre m.f m.ho h
def dV.bx(h:dV H o p x g fv)(v:AV)(t:Nat):∃H1 o1,H.alloc (OR [v] t)=H1/\dV H1 o1 p x g fv/\Bx H1 o1 H.au v/\Mk H o H1 o1:=by
 have⟨a,b,c⟩:=h.box v t;exact⟨_,_,rfl,a,b,(Fr.refl H).alloc _,c.own⟩
def dV.bz(h:dV H o p x g fv)(z:AV){v:AV}(a:az v=B4)(t:Nat):∃H1 o1,Op.store 1 [.ptr H.au 0,v] (H.alloc (OR [z] t))=B1 (.undef,H1)/\dV H1 o1 p x g fv/\Bx H1 o1 H.au v/\Mk H o H1 o1:=by
 have s:=(At.new H [z] t).st 0 a (by simp);have f:Fr Em H ((H.alloc (OR [z] t)).set H.au (OR [v] t)):=((Fr.refl H).alloc _).set (.inr (qm _)) _;have ho:∀z,z<H.au->aL o H.au 30 z=o z:=λ z q=>iQ q;exact⟨_,aL o H.au 30,s,h.fr f (λ _ _ _ q=>q) ho,⟨xf (xj ..),by rw[qI,zg];omega,mW (qm _)⟩,f,ho⟩
def dV.by0(h:dV H o p x g fv)(v:AV)(t:Nat):∃H1 o1,H.alloc (OR [v] t)=H1/\dV H1 o1 p x g fv/\By H1 o1 H.au v/\Mk H o H1 o1:=by
 have f:Fr Em H (H.alloc (OR [v] t)):=(Fr.refl H).alloc _;have ho:∀z,z<H.au->aL o H.au 31 z=o z:=λ z q=>iQ q;exact⟨_,aL o H.au 31,rfl,h.fr f (λ _ _ _ q=>q) ho,⟨⟨t,xt ..⟩,by rw[zg];omega,mW (qm _)⟩,f,ho⟩
def dV.byz(h:dV H o p x g fv)(z:AV){v:AV}(a:az v=B4)(t:Nat):∃H1 o1,Op.store 1 [.ptr H.au 0,v] (H.alloc (OR [z] t))=B1 (.undef,H1)/\dV H1 o1 p x g fv/\By H1 o1 H.au v/\Mk H o H1 o1:=by
 have s:=(At.new H [z] t).st 0 a (by simp);have f:Fr Em H ((H.alloc (OR [z] t)).set H.au (OR [v] t)):=((Fr.refl H).alloc _).set (.inr (qm _)) _;have ho:∀z,z<H.au->aL o H.au 31 z=o z:=λ z q=>iQ q;exact⟨_,aL o H.au 31,s,h.fr f (λ _ _ _ q=>q) ho,⟨⟨t,xj ..⟩,by rw[qI,zg];omega,mW (qm _)⟩,f,ho⟩
def dV.sty{b:Nat}{w v:AV}(h:dV H o p x g fv)(hn:x.au=B5)(hb:By H o b w)(i:az v=B4):∃H1,Op.store 1 [.ptr b 0,v] H=B1 (.undef,H1)/\dV H1 o p x g fv/\By H1 o b v/\FR H o H1 o/\Fr (On b) H H1:=by
 have⟨⟨t,j⟩,c,d⟩:=hb;have a:At H b t [w]:=⟨j,c⟩
 have f:Fr (On b) H (H.set b (OR [v] t)):=cj ..;have nb:∀z,o z≠31 -> ¬On b z:=λ z e(w:z=b)=>e (by rw[w];exact d);have nx:=h.nx;rw[hn]at nx;refine⟨_,a.st 0 i (by simp),⟨h.row.fr f (nb p (by rw[h.op];decide)),h.lg.Fx f (λ z _ e=>nb z (by omega)),by rw[hn];exact nx,h.op,h.one,h.vu,h.wu,h.qu⟩,⟨⟨t,xj ..⟩,c,d⟩,FR.of f (λ z _ e=>nb z (by omega)) λ _ _=>rfl,f⟩
def Fu.one(h:Fu H o p tv n):az tv=true:=by
 cases n with
 |wA m k=>have⟨c,d,e,kv,a,b⟩:=h;rw[a];rfl
 |uP m k=>have⟨c,d,e,kv,a,b⟩:=h;rw[a];rfl
 |xI=>have⟨c,d,gv,a,b⟩:=h;rw[a];rfl
 |xB k=>have⟨c,d,gv,a,b⟩:=h;rw[a];rfl
 |look k g rd i=>have⟨bi,l,r,bk,s,bs,q,j,a,b⟩:=h;rw[a];rfl
 |again k g=>have⟨c,d,e,kv,a,b⟩:=h;rw[a];rfl
 |xH z=>have⟨f,c,d,a,b⟩:=h;rw[a];rfl
 |nR z v=>have⟨f,c,d,e,a,b⟩:=h;rw[a];rfl
 |uy=>have⟨c,a,b⟩:=h;rw[a];rfl
 |Ge k=>exact sR.one h
def Jk.one{ko:Option K0}(h:Jk H o p gv ko):az gv=true:=by
 cases ko with
 |none=>rw[show gv=_ from h];rfl
 |some k=>have⟨b,c,kv,a,d⟩:=h;rw[a];rfl
def sF(h:dV H o p x g fv)(a:Int)(b:Fu H o p tv n)(hk:Fw n=Rh):zk M qpo [.ptr p 0,.int .i64 a,tv] H λ _ H'=>eG H o p (x.ask ⟨1,a,0,0⟩ n) H':=by
 refine q1h ?_;have⟨H1,o1,e1,f,d,c⟩:=h.bx tv S3;have e:Op.build [.int .i64 0,.int .i64 0,.int .u64 0,.int .u64 0] [(0,1),(1,1)] [.int .i64 1,.int .i64 a]=B1 (.agg (iR ⟨1,a,0,0⟩)):=rfl;simp only[aa,bc,q1i,AD b.one,e1,e];refine C3.q (MU f bI (n:=n) ⟨_,tv,by rw[hk];rfl,d,b.ky c.bk⟩) λ _ H2 hp=>?_;simp only[aa,bc];exact c.pre hp
def PE(h:dV H o p x g fv)(a w:Int){v:Int}(i:fH v)(b:Fu H o p tv n)(hk:Fw n=O7):zk M ξ [.ptr p 0,.int .i64 a,.int .u64 w,.int .u64 v,tv] H λ _ H'=>eG H o p (x.ask ⟨3,a,v,w⟩ n) H':=by
 refine q59 ?_;have⟨H1,o1,e1,f,d,c⟩:=h.bx tv M5;have e:Op.build [.int .i64 0,.int .i64 0,.int .u64 0,.int .u64 0] [(0,1),(1,1),(2,1),(3,1)] [.int .i64 3,.int .i64 a,.int .u64 v,.int .u64 w]=B1 (.agg (iR ⟨3,a,v,w⟩)):=rfl;simp only[aa,bc,q6a,AD b.one,e1,e];refine C3.q (MU f (r:=⟨3,a,v,w⟩) i (n:=n) ⟨_,tv,by rw[hk];rfl,d,b.ky c.bk⟩) λ _ H2 hp=>?_;simp only[aa,bc];exact c.pre hp
def Bg(h:dV H o p x g fv)(a:Int){v:Int}(i:fH v)(b:sR H o p tv k):zk M _x [.ptr p 0,.int .i64 a,.int .u64 v,tv] H λ _ H'=>eG H o p (x.ask ⟨2,a,v,0⟩ (.Ge k)) H':=by
 refine qy2 ?_;have⟨H1,o1,e1,f,d,c⟩:=h.bx tv IM;have e:Op.build [.int .i64 0,.int .i64 0,.int .u64 0,.int .u64 0] [(0,1),(1,1),(2,1)] [.int .i64 2,.int .i64 a,.int .u64 v]=B1 (.agg (iR ⟨2,a,v,0⟩)):=rfl;simp only[aa,bc,qy3,AD b.one,e1,e];refine C3.q (MU f (r:=⟨2,a,v,0⟩) i (n:=.Ge k) ⟨_,tv,rfl,d,b.ky c.bk⟩) λ _ H2 hp=>?_;simp only[aa,bc];exact c.pre hp
def wZ(h:dV H o p x g fv)(z:Int)(hk:sR H o p kv k):zk M qng [.ptr p 0,.int .u64 z,kv] H λ _ H'=>eG H o p (x.count z k) H':=by
 refine qys ?_;have⟨H1,o1,e1,l,e,c⟩:=h.bx (.ptr p 0) K3;have⟨H2,o2,e2,m,f,s⟩:=l.bx (.int .u64 z) Wp;have⟨t,o3,j,r,i,d⟩:=m.bx kv IM;have a:=s.trans d;have b:=e.ky a.bk;simp only[aa,bc,qyt,AD hk.one,e1,e2,j,b.ld];refine C3.q (sF r 1 (n:=.wA z k) ⟨_,_,_,kv,rfl,b,f.ky d.bk,i,hk.ky (c.trans a).bk⟩ rfl) λ _ u hp=>?_;simp only[aa,bc];exact(c.trans a).pre hp
def oZ(h:dV H o p x g fv)(a:Int):zk M UL [.ptr p 0,.int .i64 a] H λ _ H'=>eG H o p (x.leave a) H':=by
 refine qyw ?_;have⟨H1,o1,e1,f,d,j⟩:=h.bx (.ptr p 0) K3;have⟨H2,o2,e2,i,e,c⟩:=f.bx (.int .i64 a) bU;have b:=d.ky c.bk;simp only[aa,bc,qyx,e1,e2,b.ld];refine C3.q (wZ i 18446744073709551615 (k:=.left a) ⟨_,_,rfl,e,b⟩) λ _ l hp=>?_;simp only[aa,bc];exact(j.trans c).pre hp
def MP:Option K0->Nx
 |none=>.xI
 |some k=>.xB k
def qE(h:dV H o p x g fv){ko:Option K0}(hg:Jk H o p gv ko):zk M D_ [.ptr p 0,gv] H λ _ H'=>eG H o p (x.ask ⟨1,0,0,0⟩ (MP ko)) H':=by
 refine qwo ?_;have⟨H1,o1,e1,i,f,e⟩:=h.bx (.ptr p 0) K3;have⟨H2,o2,e2,j,d,c⟩:=i.bx gv S3;have b:=f.ky c.bk;have a:=hg.ky (e.trans c).bk;have l:Fu H2 o2 p (lP SU [H.au,H1.au]) (MP ko):=by
  cases ko with
  |none=>exact⟨_,_,gv,rfl,b,d,a⟩
  |some k=>exact⟨_,_,gv,rfl,b,d,a⟩
 have hk:Fw (MP ko)=Rh:=by cases ko<;>rfl
 simp only[aa,bc,qwp,AD hg.one,e1,e2,b.ld];refine C3.q (sF j 0 l hk) λ _ m hp=>?_;simp only[aa,bc];exact(e.trans c).pre hp
def Xa(h:dV H o p x g fv)(hk:sR H o p kv k):zk M qx [.ptr p 0,kv] H λ _ H'=>eG H o p (x.validate k) H':=by
 refine qsp ?_;have⟨H1,o1,e1,f,d,c⟩:=h.bx (.ptr p 0) K3;have⟨H2,o2,e2,i,e,a⟩:=f.bx kv IM;have b:=d.ky a.bk;simp only[aa,bc,qsq,AD hk.one,e1,e2,b.ld];refine C3.q (qE i (ko:=B1 k) ⟨_,_,kv,rfl,b,e,hk.ky (c.trans a).bk⟩) λ _ j hp=>?_;simp only[aa,bc];exact(c.trans a).pre hp
def C0(h:dV H o p x g fv){a:Int}(ha:0<=a):zk M qnh [.ptr p 0,.int .i64 a] H λ _ H'=>eG H o p (x.kU a) H':=by
 refine qyu ?_;have⟨H1,o1,e1,f,e,j⟩:=h.bx (.ptr p 0) K3;have⟨H2,o2,e2,i,b,d⟩:=f.bx (.int .i64 a) bU;have c:=e.ky d.bk;simp only[aa,bc,qyv,e1,e2,c.ld,b.ld];refine C3.q (sF i a (n:=.xH a) ⟨ha,_,_,rfl,c,b⟩ rfl) λ _ l hp=>?_;simp only[aa,bc];exact(j.trans d).pre hp
def JJ(h:dV H o p x g fv):zk M YU [.ptr p 0] H λ _ H'=>eG H o p x.take H':=by
 refine q1l ?_;have⟨H1,o1,e1,b,a,c⟩:=h.bx (.ptr p 0) K3;simp only[aa,bc,q1m,aA,e1,a.ld,b.bm];refine C3.q (PE b 0 x.snap (FC _) (n:=.uy) ⟨_,rfl,a⟩ rfl) λ _ d hp=>?_;simp only[aa,bc];exact c.pre hp
def PW(h:dV H o p x g fv):zk M W8 [.ptr p 0] H λ _ H'=>eG H o p x.tR H':=by
 refine q1n ?_;simp only[aa,bc,q1o];refine C3.q (qE h (ko:=B5) rfl) λ _ a hp=>?_;simp only[aa,bc];exact hp
def Jb(h:dV H o p x g fv){lv:AV}{l:List Pr}(hl:bX cD 2 H lv l)(hu:∀y∈l,fH y.v)(hb:l≠[]->aC lv<H.au/\o (aC lv)=30)(one:az lv=B4):zk M R' [.ptr p 0,lv] H λ _ H'=>eG H o p (x.back l) H':=by
 refine q1e ?_;have⟨H1,o1,e1,B,A,D⟩:=h.bx (.ptr p 0) K3;have⟨H2,o2,e2,s,r,t⟩:=B.bx lv nI;have e:=A.ky t.bk;have d:=D.trans t;have b:=d.bk.m.sl hl hb;have ln:=b.len;cases l with
 |nil =>
  have c:¬(0:Int)<(([]:List Pr).length:Int):=by decide
  simp only[aa,bc,qpw,aA,AD one,e1,e2,e.ld,r.ld,ln,c,s.bm];refine C3.q (Bg s 0 (FC _) (k:=.fin) ⟨_,rfl,e⟩) λ _ w hp=>?_;simp only[aa,bc];exact d.pre hp
 |cons y l =>
  have c:(0:Int)<((y::l).length:Int):=by rw[zq];omega
  have ix:Op.aP 2 [lv,.int .i64 0]=B1 (.ptr (aC lv) (cX 2 lv 0)):=b.idx (i:=0) rfl rfl .i64;have l0:Op.ae [.ptr (aC lv) (cX 2 lv 0)] H2=B1 (.int .i64 y.a):=b.iS EV (i:=0) rfl (by decide);have l1:Op.ae [.ptr (aC lv) (cX 2 lv 0+1)] H2=B1 (.int .u64 y.v):=b.ae EV (i:=0) rfl (j:=1) (by decide);have⟨u,E⟩:=hb (by simp);simp only[aa,bc,qpw,AD one,e1,e2,e.ld,r.ld,ln,c,ix,l0,l1];refine C3.q (Bg s y.a (hu y (by simp)) (k:=.back l) ⟨λ z C=>hu z (by simp[C]),_,_,lv,y,rfl,e,r,b,qn u d.f.au,(d.ho _ u).trans E⟩) λ _ w hp=>?_;simp only[aa,bc];exact d.pre hp
end
end Go.Am
namespace Go.Am
open Lang Go.Proofs
variable{M:ak}[MK M]
section
variable{H H1 H2 H':ar}{o o1 o2 o':Nat->Nat}{p g:Nat}{x y:So}{fv kv gv tv:AV}{k:K0}{n:Nx}
def dV.on(h:dV H o p x g fv)(f:Fr (On p) H H1):pz H o H1 o:=pz.of f (λ z _ q(w:z=p)=>by rw[w,h.op]at q;omega) λ _ _=>rfl
def dV.w0(h:dV H o p x g fv){W:Nat->Prop}(f:Fr W H H1)(hw:∀z,W z->z=p):Fr (λ z=>8<=o z) H H1:=f.mono λ z _ q=>by rw[hw z q,h.op];decide
def eG.step(h:dV H o p x g fv)(f:Fr (On p) H H1)(b:eG H1 o p y H'):eG H o p y H':=by
 have⟨o2,c,a,d,e,i⟩:=b;exact⟨o2,c,a,d,λ z q=>e z (qn q f.au),(h.w0 f λ _ q=>q).trans i λ z q=>.inl q⟩
def dV.log{rd wr:List Pr}(h:dV H o p x g fv)(hp:vH H o g rd wr H1)(hu:∀y∈wr,fH y.v):∃o1,dV H1 o1 p {x with rd:=rd,wr:=wr} g fv/\pz H o H1 o1/\Fr (λ z=>8<=o z) H H1:=by
 have⟨o1,c,b,a⟩:=hp;have bk:pz H o H1 o1:=pz.of a (λ z _ q w=>by omega) b;exact⟨o1,⟨h.row.fr a (λ w=>by have:=h.op;omega),c,h.nx.ky bk,(b p h.row.2).trans h.op,h.one,h.vu,hu,h.qu⟩,bk,a.mono λ z _ q=>by omega⟩
def eG.after(c:∀z,z<H.au->o1 z=o z)(f:Fr (λ z=>8<=o z) H H1)(b:eG H1 o1 p y H'):eG H o p y H':=by
 have⟨o2,d,a,e,h,i⟩:=b;refine⟨o2,d,a,e,λ z q=>(h z (qn q f.au)).trans (c z q),f.trans i λ z q=>?_⟩;rcases xx z H.au with w|w
 .exact .inl (by rw[<-c z w];exact q)
 .exact .inr w
def Dp(h:dV H o p x g fv):zk M TC [.ptr p 0] H λ _ H'=>dV H' o p {x with busy:=B2} g fv/\Fr (On p) H H':=by
 refine q1f ?_;have⟨H1,s1,b,a⟩:=h.put 6 (v:=.bool B2) (y:={x with busy:=B2}) rfl (by decide) rfl ⟨rfl,rfl,rfl,rfl⟩ h.vu;simp only[aa,bc,q1g,aA,s1];exact⟨b,a⟩
def wH(h:dV H o p x g fv)(v:Int):zk M S4 [.ptr p 0,.int .u64 v] H λ _ H'=>dV H' o p (x.pO v) g fv/\Fr (On p) H H':=by
 refine qyy ?_;have⟨H1,s1,c,a⟩:=h.put 9 (v:=.int .u64 v) (y:={x with snap:=v}) rfl (by decide) rfl ⟨rfl,rfl,rfl,rfl⟩ h.vu;have⟨H2,s2,d,b⟩:=c.put 12 (v:=.int .i64 (aj .i64 (x.points+1))) (y:=x.pO v) rfl (by decide) rfl ⟨rfl,rfl,rfl,rfl⟩ h.vu;simp only[aa,bc,qyz,aA,h.bm,s1,s2];exact⟨d,a.trans b λ z q=>.inl q⟩
def Lw(h:dV H o p x g fv)(v:Int):zk M WL [.ptr p 0,.int .u64 v] H λ _ H'=>eG H o p {x.pO v with live:=B4,busy:=B2} H':=by
 refine qyo ?_;simp only[aa,bc,qyp];refine C3.q (wH h v) λ _ H1⟨d,a⟩=>?_;have⟨H2,s2,e,b⟩:=d.put 7 (v:=.bool B4) (y:={x.pO v with live:=B4}) rfl (by decide) rfl ⟨rfl,rfl,rfl,rfl⟩ h.vu;simp only[aa,bc,aA,s2];refine C3.q (Dp e) λ _ i⟨f,c⟩=>?_;simp only[aa,bc];exact h.CQ ((a.trans b λ z q=>.inl q).trans c λ z q=>.inl q) f
def EU(h:dV H o p x g fv)(hk:sR H o p kv k):∃f a c,kv=.fn (.func f) a c/\zk M f (a++c) H λ _ H'=>eG H o p (x.G9 k) H':=by
 cases k with
 |wait=>exact⟨_,_,_,hk,PW h⟩
 |take=>exact⟨_,_,_,hk,JJ h⟩
 |left how =>
  obtain⟨d,r,rfl,b,j⟩:=hk;refine⟨_,_,_,rfl,?_⟩;show zk M YR [.ptr d 0,.ptr r 0] H _;refine qui ?_;have⟨H1,s1,t,m⟩:=h.put 7 (v:=.bool B2) (y:={x with live:=B2}) rfl (by decide) rfl ⟨rfl,rfl,rfl,rfl⟩ h.vu;have d1:=b.ky (h.on m);have d2:=j.ky (h.on m);have⟨H2,s2,D,B⟩:=t.put 11 (v:=.int .i64 how) (y:={x with live:=B2,ended:=how}) rfl (by decide) rfl ⟨rfl,rfl,rfl,rfl⟩ h.vu;have e2:=d2.ky (t.on B);simp only[aa,bc,quj,aA,b.ld,j.ld,s1,d1.ld,d2.ld,s2,e2.ld];refine C3.q (Dp D) λ _ u⟨E,C⟩=>?_;simp only[aa,bc];exact h.CQ ((m.trans B λ z q=>.inl q).trans C λ z q=>.inl q) E
 |kU a =>
  obtain⟨A,d,r,rfl,b,j⟩:=hk;refine⟨_,_,_,rfl,?_⟩;show zk M Vy [.ptr d 0,.ptr r 0] H _;refine qow ?_;simp only[aa,bc,qox,b.ld,j.ld];refine C3.q (C0 h A) λ _ u hp=>?_;simp only[aa,bc];exact hp
 |back l =>
  obtain⟨A,d,r,lv,y,rfl,b,j,hl,F,G⟩:=hk;refine⟨_,_,_,rfl,?_⟩;show zk M XS [.ptr d 0,.ptr r 0] H _;refine qwi ?_;have⟨s,s1,i,hb⟩:=hl.from EV (k:=1) (by simp) (z:=1) rfl .i64;simp only[aa,bc,qwj,b.ld,j.ld,s1];have nb:l≠[]->aC s<H.au/\o (aC s)=30:=λ e=>by
   rcases hb with w|w
   .subst w;have:=i.len;have e2:l.length=0:=by
     have q:Op.dm [AV.nils]=B1 (.int .i64 0):=rfl;rw[q]at this;injection this with this;injection this with _ this
     simp only[Lm,y8]at this;omega
    exact(e (jy.1 e2)).elim
   .rw [w];exact⟨F,G⟩
  refine C3.q (Jb h (l:=l) i A nb i.one) λ _ u hp=>?_;simp only[aa,bc];exact hp
 |fin =>
  obtain⟨d,rfl,b⟩:=hk;refine⟨_,_,_,rfl,?_⟩;show zk M Vl [.ptr d 0] H _;refine qwk ?_;have⟨H1,s1,t,m⟩:=h.put 8 (v:=.bool B2) (y:={x with aE:=B2}) rfl (by decide) rfl ⟨rfl,rfl,rfl,rfl⟩ h.vu;have d1:=b.ky (h.on m);simp only[aa,bc,qwl,aA,b.ld,s1,d1.ld];refine C3.q (oZ t 1) λ _ u hp=>?_;simp only[aa,bc];exact eG.step h m hp
def JF{i:Nat}{e:Int}{rd:List Pr}{bi j d bk m bs l f:Nat}(h:dV H o p x g fv)(r:By H o bi (.int .i64 (i:Int)))(hle:i<=rd.length)(v:Me H o p k e rd bi j d bk m bs l f) :
 zk M Ub [.ptr bi 0,.ptr m 0,.ptr d 0,.ptr l 0,.ptr f 0] H λ _ H'=>eG H o p (x.step k e rd i) H':=by
 refine qn2 ?_;have⟨kv,w,z,A⟩:=v.hk;have⟨rv,t,s,B,C⟩:=v.hr;have ln:=s.len;unfold So.step;rcases xx i rd.length with q|q
 .have c:(i:Int)<(rd.length:Int):=by omega
  obtain⟨y,b⟩:∃y,rd[i]? = B1 y:=⟨rd[i],by simp[q]⟩
  have ix:Op.aP 2 [rv,.int .i64 (i:Int)]=B1 (.ptr (aC rv) (cX 2 rv i)):=s.idx b rfl .i64;have l0:Op.ae [.ptr (aC rv) (cX 2 rv i)] H=B1 (.int .i64 y.a):=s.iS EV b (by decide);simp only[aa,bc,kn,r.ld,t.ld,ln,c,v.hp.ld,ix,l0,v.hl.ld,b];refine C3.q (sF h y.a (n:=.look k e rd i) ⟨bi,j,d,bk,m,bs,l,f,rfl,r,q,v⟩ rfl) λ _ u hp=>?_;simp only[aa,bc];exact hp
 .have c:¬(i:Int)<(rd.length:Int):=by omega
  have b:rd[i]? = none:=z4 q;simp only[aa,bc,kn,r.ld,t.ld,ln,c,v.hp.ld,v.ha.ld,b];refine C3.q (sF h 0 (n:=.again k e) ⟨j,d,bk,kv,rfl,v.hg,v.hp,w,z⟩ rfl) λ _ u hp=>?_;simp only[aa,bc];exact hp
end
end Go.Am
namespace Go.Am
open Lang Go.Proofs
variable{M:ak}[MK M]
section
variable{H H1 H2 H':ar}{o o1 o2 o':Nat->Nat}{p g b f:Nat}{x y:So}{fv kv gv tv:AV}{k:K0}{n:Nx}{l:List Nat}{v:Int}{ok:Bool}{R:AV->ar->Prop}
def KM(hb:Bx H o b (lP f l))(a:zk M f (.int .u64 v::l.map λ b=>.ptr b 0) H λ _ H'=>R .undef H'):zk M Rh [.int .u64 v,.bool ok,.ptr b 0] H λ _ H'=>R .undef H':=by
 refine qwm ?_;simp only[aa,bc,qwn,hb.ld,lP];refine C3.q a λ _ c hp=>?_;simp only[aa,bc];exact hp
def s_(hb:Bx H o b (lP f l))(a:zk M f (.bool ok::l.map λ b=>.ptr b 0) H λ _ H'=>R .undef H'):zk M O7 [.int .u64 v,.bool ok,.ptr b 0] H λ _ H'=>R .undef H':=by
 refine qyq ?_;simp only[aa,bc,qyr,hb.ld,lP];refine C3.q a λ _ c hp=>?_;simp only[aa,bc];exact hp
def pH{v:Int}(a:fH v):Op.bin .rem [.int .u64 v,.int .u64 2]=B1 (.int .u64 (v % 2)):=by
 rw[sL .u64 _ _ (by decide),P4 a.1]
def son(h:dV H o p x g fv)(hn:x.au=B5)(hv:fH v)(hb:Bx H o b tv)(O:Fu H o p tv n):zk M (Fw n) [.int .u64 v,.bool ok,.ptr b 0] H λ _ H'=>eG H o p (x.on v ok n) H':=by
 cases n with
 |wA m k =>
  obtain⟨E,Y,J,kv,rfl,r,A,G,hk⟩:=O;refine KM (R:=λ _ H'=>eG H o p _ H') hb ?_;refine que ?_;simp only[aa,bc,quf,r.ld,A.ld];refine C3.q (PE h 1 v (FC _) (n:=.uP m k) ⟨_,_,_,kv,rfl,r,A,G,hk⟩ rfl) λ _ d hp=>?_;simp only[aa,bc];exact hp
 |uP m k =>
  obtain⟨E,Y,J,kv,rfl,r,A,G,hk⟩:=O;refine s_ (R:=λ _ H'=>eG H o p _ H') hb ?_;refine qrq ?_;unfold So.on;cases ok with
  |true =>
   obtain⟨N,a,c,rfl,K⟩:=EU (M:=M) h hk;simp only[aa,bc,_h,G.ld];refine C3.q K λ _ d hp=>?_;simp only[aa,bc];exact hp
  |false =>
   simp only[aa,bc,_h,r.ld,A.ld,G.ld,zw];refine C3.q (wZ h m hk) λ _ d hp=>?_;simp only[aa,bc];exact hp
 |xI =>
  obtain⟨E,Y,gv,rfl,r,A,hg⟩:=O;refine KM (R:=λ _ H'=>eG H o p _ H') hb ?_;refine qkf ?_;unfold So.on
  by_cases q:v % 2=1
  .simp only[aa,bc,SC,pH hv,xg q,r.ld,A.ld];refine C3.q (qE h (ko:=B5) hg) λ _ d hp=>?_;simp only[aa,bc];exact hp
  .have hg:gv=_:=hg;subst hg;simp only[aa,bc,SC,pH hv,q,A.ld];refine C3.q (Lw h v) λ _ d hp=>?_;simp only[aa,bc];exact hp
 |xB k =>
  obtain⟨E,Y,gv,rfl,r,A,hg⟩:=O;refine KM (R:=λ _ H'=>eG H o p _ H') hb ?_;refine qkf ?_;unfold So.on
  by_cases q:v % 2=1
  .simp only[aa,bc,SC,pH hv,xg q,r.ld,A.ld];refine C3.q (qE h (ko:=B1 k) hg) λ _ d hp=>?_;simp only[aa,bc];exact hp
  .obtain ⟨J,b4,kv,rfl,d1,d2,hk⟩:=hg;simp only[aa,bc,SC,pH hv,q,A.ld,lP,jw,AE];refine C3.q (R:=λ _ H'=>eG H o p (x.step k v x.rd 0) H') ?_ λ _ d hp=>?_
   .refine qp6 ?_;have⟨H1,o1,e1,s,bg,C⟩:=h.bx (.int .u64 v) Wp;have d11:=d1.ky C.bk;simp only[aa,bc,qp7,aA,e1,d11.ld,s.bm];refine C3.q (Lb s.lg) λ rv H2⟨t,D,F⟩=>?_;have one:az rv=true:=Sl.one (Own.sl t)
    -- what is made since
    have X:Mk H1 o1 H2 (aL o1 H1.au 30):=⟨F,λ z q=>iQ q⟩
    have T:=s.fr F (λ _ _ _ q=>q) X.ho;have hr:x.rd≠[]->aC rv<H2.au/\aL o1 H1.au 30 (aC rv)=30:=λ e=>by
     have on:=xS t e;exact⟨Own.lt t _ on,mW (D _ on)⟩
    have rt:∀{Hx ox},Mk H2 (aL o1 H1.au 30) Hx ox->bX cD 2 Hx rv x.rd/\(x.rd≠[]->aC rv<Hx.au/\ox (aC rv)=30):=λ m=>⟨m.bk.m.sl (aU.sl t) hr,λ e=>⟨qn (hr e).1 m.f.au,(m.ho _ (hr e).1).trans (hr e).2⟩⟩
    have⟨d,o3,s3,h3,br,m3⟩:=T.bz .nils one nI;have⟨u,o4,s4,h4,bi,m4⟩:=h3.byz (.int .i64 0) (v:=.int .i64 0) rfl bU;have⟨H5,o5,e5,h5,bs,m5⟩:=h4.by0 .nilf IM;have⟨H6,o6,s6,h6,bl,m6⟩:=h5.bz .nilf (v:=lP Ua [H2.au,d.au,J,u.au]) rfl S3;have⟨H7,o7,s7,h7,ba,m7⟩:=h6.bz .nilf (v:=lP S9 [H.au,J,b4]) rfl S3;have m13:=X.trans m3;have W:=((m4.trans m5).trans m6).trans m7;have m57:=(m5.trans m6).trans m7;have m67:=m6.trans m7;have m37:=m3.trans W;have m17:=m13.trans W;have Q:=C.trans m17;have⟨H8,s8,h8,V,U,f8⟩:=h7.sty hn (bs.ky m67.bk) (v:=lP Ub [d.au,H2.au,J,H5.au,H6.au]) rfl;have P:=bi.ky m57.bk;have nb:d.au≠u.au:=by have:=m4.f.au;have:=bi.2.1;omega
    have bi8:By H8 o7 d.au (.int .i64 ((0:Nat):Int)):=⟨by rw[f8.ah _ P.2.1 nb];exact P.1,qn P.2.1 f8.au,P.2.2⟩
    have⟨t1,t2⟩:=rt m37;have n8:=f8.au;have one':=hk.one;have ln:=(aU.sl t).len;have B:Me H8 o7 p k v x.rd d.au H.au J b4 H2.au u.au H5.au H6.au :=
     ⟨(bg.ky m17.bk).km U,(d1.ky Q.bk).km U,⟨kv,(d2.ky Q.bk).km U,(hk.ky Q.bk).km U,one'⟩,⟨rv,(br.ky W.bk).km U,U.sl t1 t2,λ e=>⟨qn (t2 e).1 n8,(t2 e).2⟩,one⟩,V,(bl.ky m7.bk).km U,ba.km U,by have:=h.lg;have⟨_,_,_,_,_,_,_,_,_,_,q,_⟩:=this;exact q.le⟩
    have S:=V.ld;simp only[lP,jw,AE]at s6 s7 s8 S;simp only[aa,bc,s3,s4,e5,yq,y8,s6,s7,s8,S];refine C3.q (JF h8 bi8 (x9 _) B) λ _ H9 hp=>?_;simp only[aa,bc];refine Q.pre ?_;have⟨o9,g9,fv9,w1,w2,w3⟩:=hp;exact⟨o9,g9,fv9,w1,λ z e=>w2 z (qn e n8),(f8.mono λ z _(e:z=u.au)=>by rw[e,V.2.2];decide).trans w3 λ z e=>.inl e⟩
   .simp only[aa,bc];exact hp
 |look k gg rd i =>
  obtain⟨bi,bg,bp,bk,br,bs,bl,ba,rfl,r,hi,B⟩:=O;refine KM (R:=λ _ H'=>eG H o p _ H') hb ?_;refine qn0 ?_;have⟨rv,t,D,F,r4⟩:=B.hr;obtain⟨y,hy⟩:∃y,rd[i]? = B1 y:=⟨rd[i],by simp[hi]⟩
  have hyd:rd.getD i ⟨0,0⟩=y:=by rw[ja,hy];rfl
  have ix:Op.aP 2 [rv,.int .i64 (i:Int)]=B1 (.ptr (aC rv) (cX 2 rv i)):=D.idx hy rfl .i64;have l1:Op.ae [.ptr (aC rv) (cX 2 rv i+1)] H=B1 (.int .u64 y.v):=D.ae EV hy (j:=1) (by decide);have eo:x.on v ok (.look k gg rd i)=if v≠y.v then x.leave 2 else x.step k gg rd (i+1):=by show(if v≠(rd.getD i ⟨0,0⟩).v then _ else _)=_;rw[hyd]
  rw[eo]
  by_cases q:v=y.v
  .have wj:aj .i64 ((i:Int)+1)=((i+1:Nat):Int):=by have:=B.hn;rw[kc (by omega) (by omega)];omega
   have⟨H1,s1,s,d1,C,I⟩:=h.sty hn r (v:=.int .i64 ((i+1:Nat):Int)) rfl;have nb:bs≠bi:=λ e=>by
    have a1:=B.hs.ld;have a2:=r.ld;rw[e,a2]at a1;injection a1 with a1;cases a1
   have ds:By H1 o bs _:=⟨by rw[I.ah bs B.hs.2.1 nb];exact B.hs.1,qn B.hs.2.1 I.au,B.hs.2.2⟩
   have⟨kv,k1,k2,k3⟩:=B.hk;have va1:Me H1 o p k gg rd bi bg bp bk br bs bl ba:=⟨B.hg.km C,B.hp.km C,⟨kv,k1.km C,k2.km C,k3⟩,⟨rv,t.km C,C.sl D F,λ e=>⟨qn (F e).1 I.au,(F e).2⟩,r4⟩,ds,B.hl.km C,B.ha.km C,B.hn⟩
   simp only[aa,bc,c_,t.ld,r.ld,ix,l1,xg q,wj,s1,ds.ld,lP,jw,AE];refine C3.q (JF s d1 hi va1) λ _ d hp=>?_;simp only[aa,bc];have⟨o2,g2,fv2,w1,w2,w3⟩:=hp;exact⟨o2,g2,fv2,w1,λ z e=>w2 z (qn e I.au),(I.mono λ z _(e:z=bi)=>by rw[e,r.2.2];decide).trans w3 λ z e=>.inl e⟩
  .simp only[aa,bc,c_,t.ld,r.ld,ix,l1,q,B.hp.ld];refine C3.q (oZ h 2) λ _ d hp=>?_;simp only[aa,bc];exact hp
 |again k gg =>
  obtain⟨bg,bp,bk,kv,rfl,r,A,G,hk⟩:=O;refine KM (R:=λ _ H'=>eG H o p _ H') hb ?_;refine qn1 ?_;unfold So.on
  by_cases q:v=gg
  .simp only[aa,bc,R_,r.ld,A.ld,xg q];refine C3.q (wH h gg) λ _ H1⟨s,I⟩=>?_;have c31:=G.ky (h.on I);obtain⟨N,a,c,rfl,K⟩:=EU (M:=M) s (hk.ky (h.on I));simp only[aa,bc,c31.ld];refine C3.q K λ _ d hp=>?_;simp only[aa,bc];exact eG.step h I hp
  .simp only[aa,bc,R_,r.ld,A.ld,G.ld,q];refine C3.q (Xa h hk) λ _ d hp=>?_;simp only[aa,bc];exact hp
 |xH a =>
  obtain⟨ha,E,Y,rfl,r,A⟩:=O;refine KM (R:=λ _ H'=>eG H o p _ H') hb ?_;refine qug ?_;have⟨H1,o1,e1,s,J,C⟩:=h.bx (.int .u64 v) Wp;have d1:=r.ky C.bk;have d2:=A.ky C.bk;simp only[aa,bc,quh,e1,d1.ld];refine C3.q (sF s 0 (n:=.nR a v) ⟨⟨ha,hv⟩,_,_,_,rfl,d1,d2,J⟩ rfl) λ _ d hp=>?_;simp only[aa,bc];exact C.pre hp
 |nR a w =>
  obtain⟨⟨ha,hw⟩,E,Y,J,rfl,r,A,G⟩:=O;refine KM (R:=λ _ H'=>eG H o p _ H') hb ?_;refine qrr ?_
  by_cases q:v=x.snap
  .have lw:=Yz (M:=M) h.lg a;have go:∀(l:List Pr){H1:ar}{o1:Nat->Nat},x.ah a w=B1 l->(dk x.rd a).getD w=w->dV H1 o1 p {x with rd:=l} g fv->pz H o H1 o1->Fr (λ z=>8<=o z) H H1 ->
    ∃H2,Op.store 1 [.ptr p 10,.int .u64 w] H1=B1 (.undef,H2)/\Op.ae [.ptr E 0] H1=B1 (.ptr p 0)/\Op.ae [.ptr J 0] H1=B1 (.int .u64 w)/\Op.ae [.ptr E 0] H2=B1 (.ptr p 0)/\zk M S4 [.ptr p 0,.int .u64 v] H2 λ _ d=>Op.ae [.ptr E 0] d=B1 (.ptr p 0)/\zk M TC [.ptr p 0] d λ _ u=>eG H o p (x.on v ok (.nR a w)) u:=λ l{H1 o1}ek L s bk N=>by
    have⟨H2,s2,T,Z⟩:=s.put 10 (v:=.int .u64 w) (y:={x with rd:=l,value:=w}) rfl (by decide) rfl ⟨rfl,rfl,rfl,rfl⟩ hw;have d1:=r.ky bk;have d3:=G.ky bk;have e1:=d1.ky (s.on Z);refine⟨H2,s2,d1.ld,d3.ld,e1.ld,(wH T v).mono λ _ d⟨h3,f3⟩=>⟨(e1.ky (T.on f3)).ld,(Dp h3).mono λ _ u⟨h4,f4⟩=>?_⟩⟩;have e:x.on v ok (.nR a w) = {({x with rd:=l,value:=w}:So).pO v with busy:=B2}:=by
     show(if v≠x.snap then _ else if(dk x.rd a).getD w≠w then _ else match x.ah a w with|none=>_|some l=>_)=_;rw[qt (λ e=>e q),qt (λ e=>e L),ek]
    rw[e];exact eG.after bk.own N (s.CQ ((Z.trans f3 λ z q=>.inl q).trans f4 λ z q=>.inl q) h4)
   have lv:∀{H1:ar}{o1:Nat->Nat},(dk x.rd a).getD w≠w\/(dk x.rd a).getD w=w/\x.ah a w=B5->dV H1 o1 p x g fv->pz H o H1 o1->Fr (λ z=>8<=o z) H H1->Op.ae [.ptr E 0] H1=B1 (.ptr p 0)/\zk M UL [.ptr p 0,.int .i64 2] H1 λ _ u=>eG H o p (x.on v ok (.nR a w)) u:=λ{H1 o1}L s bk N=>by
    refine⟨(r.ky bk).ld,(oZ s 2).mono λ _ u hp=>?_⟩;have e:x.on v ok (.nR a w)=x.leave 2:=by
     show(if v≠x.snap then _ else if(dk x.rd a).getD w≠w then _ else match x.ah a w with|none=>_|some l=>_)=_;rw[qt (λ e=>e q)];rcases L with L|⟨L,ek⟩
     .rw [xb L]
     .rw [qt (λ e=>e L),ek]
    rw[e];exact eG.after bk.own N hp
   have bk0:pz H o H o:=⟨⟨λ _ _ _=>rfl,λ _ _=>rfl,qm _⟩,λ _ _ _=>rfl⟩
   have rest:∀{e:AV}{H1:ar},(dk x.rd a).getD w=w->KJ H o g x.rd a e (vH H o g x.rd x.wr H1) (vH H o g (if dk x.rd a=B5 then x.rd ++ [⟨a,w⟩]else x.rd) x.wr H1)->(e=.int .i64 70/\Op.ae [.ptr E 0] H1=B1 (.ptr p 0)/\zk M UL [.ptr p 0,.int .i64 2] H1 λ _ u=>eG H o p (x.on v ok (.nR a w)) u)\/e=.int .i64 0 /\ ∃H2,Op.store 1 [.ptr p 10,.int .u64 w] H1=B1 (.undef,H2)/\Op.ae [.ptr E 0] H1=B1 (.ptr p 0)/\Op.ae [.ptr J 0] H1=B1 (.int .u64 w)/\Op.ae [.ptr E 0] H2=B1 (.ptr p 0)/\zk M S4 [.ptr p 0,.int .u64 v] H2 λ _ d=>Op.ae [.ptr E 0] d=B1 (.ptr p 0)/\zk M TC [.ptr p 0] d λ _ u=>eG H o p (x.on v ok (.nR a w)) u:=λ L K=>by
    rcases K with⟨l1,l2,rfl,hp⟩|⟨l1,rfl,hp⟩
    .have ⟨o1,s,bk,N⟩:=h.log hp h.wu;exact .inl ⟨rfl,lv (.inr ⟨L,by unfold So.ah;rw[l1];simp only;rw[xb l2]⟩) s bk N⟩
    .have ⟨o1,s,bk,N⟩:=h.log hp h.wu;refine .inr ⟨rfl,go _ ?_ L s bk N⟩;unfold So.ah;cases hl:dk x.rd a with
     |some z=>simp only;rw[qt (by simp)]
     |none=>simp only;rw[qt λ e=>l1 ⟨hl,e⟩,xb trivial]
   cases hl:dk x.rd a with
   |some z =>
    rw[hl]at lw
    by_cases qz:z=w
    .subst qz;simp only[aa,bc,Ox,aA,r.ld,h.bm,xg q,A.ld,lw,G.ld,wh,vx];refine C3.q (Ju h.lg ha z) λ e H1 K=>?_;rcases rest (by rw[hl];rfl) K with⟨rfl,t,D⟩|⟨rfl,H2,t,D,F,r4,r5⟩
     .have t7:¬(70:Int)=0:=by decide
      simp only[aa,bc,t7,t];refine C3.q D λ _ u hp=>?_;simp only[aa,bc];exact hp
     .simp only[aa,bc,Ox,aA,t,D,F,r4];refine C3.q r5 λ _ d⟨r6,r7⟩=>?_;simp only[aa,bc,r6];refine C3.q r7 λ _ u hp=>?_;simp only[aa,bc];exact hp
    .simp only[aa,bc,Ox,aA,r.ld,h.bm,xg q,A.ld,lw,G.ld,wh,vx,qz];refine C3.q (lv (.inl (by rw[hl];exact qz)) h bk0 (Fr.refl _)).2 λ _ u hp=>?_;simp only[aa,bc];exact hp
   |none =>
    rw[hl]at lw;simp only[aa,bc,Ox,aA,r.ld,h.bm,xg q,A.ld,lw,G.ld,Option.getD_none,LZ];refine C3.q (Ju h.lg ha w) λ e H1 K=>?_;rcases rest (by rw[hl];rfl) K with⟨rfl,t,D⟩|⟨rfl,H2,t,D,F,r4,r5⟩
    .have t7:¬(70:Int)=0:=by decide
     simp only[aa,bc,t7,t];refine C3.q D λ _ u hp=>?_;simp only[aa,bc];exact hp
    .simp only[aa,bc,Ox,aA,t,D,F,r4];refine C3.q r5 λ _ d⟨r6,r7⟩=>?_;simp only[aa,bc,r6];refine C3.q r7 λ _ u hp=>?_;simp only[aa,bc];exact hp
  .have e:x.on v ok (.nR a w)=x.validate (.kU a):=xb q;rw[e];simp only[aa,bc,Ox,aA,r.ld,h.bm,q];refine C3.q (Xa h (k:=.kU a) ⟨ha,_,_,rfl,r,A⟩) λ _ d hp=>?_;simp only[aa,bc];exact hp
 |uy =>
  obtain⟨E,rfl,r⟩:=O;refine s_ (R:=λ _ H'=>eG H o p _ H') hb ?_;refine qwq ?_;unfold So.on;cases ok with
  |true =>
   have⟨H1,s1,s,I⟩:=h.put 12 (v:=.int .i64 (aj .i64 (x.points+1))) (y:={x with points:=aj .i64 (x.points+1)}) rfl (by decide) rfl ⟨rfl,rfl,rfl,rfl⟩ h.vu;have d1:=r.ky (h.on I);have⟨H2,s2,T,Z⟩:=s.put 8 (v:=.bool B4) (y:={x with points:=aj .i64 (x.points+1),aE:=B4}) rfl (by decide) rfl ⟨rfl,rfl,rfl,rfl⟩ h.vu;have e1:=d1.ky (s.on Z);simp only[aa,bc,mu,aA,r.ld,h.bm,s1,d1.ld,s2,e1.ld,T.bm];refine C3.q (yZ T.lg) λ lv d⟨t,D,F⟩=>?_;have one:az lv=true:=Sl.one (Own.sl t);have X:Mk H2 o d (aL o H2.au 30):=⟨F,λ z q=>iQ q⟩
   have h3:=T.fr F (λ _ _ _ q=>q) X.ho;have e3:=e1.ky X.bk;have hr:x.wr≠[]->aC lv<d.au/\aL o H2.au 30 (aC lv)=30:=λ e=>by
    have on:=xS t e;exact⟨Own.lt t _ on,mW (D _ on)⟩
   simp only[aa,bc,e3.ld];refine C3.q (Jb h3 (aU.sl t) h.wu hr one) λ _ u hp=>?_;simp only[aa,bc];exact eG.step h (I.trans Z λ z q=>.inl q) (X.pre hp)
  |false =>
   simp only[aa,bc,mu,r.ld,zw];refine C3.q (Xa h (k:=.take) rfl) λ _ d hp=>?_;simp only[aa,bc];exact hp
 |Ge k =>
  refine quk ?_;obtain⟨N,a,c,rfl,K⟩:=EU (M:=M) h O;simp only[aa,bc,qul,hb.ld];refine C3.q K λ _ d hp=>?_;simp only[aa,bc];exact hp
end
end Go.Am
namespace Go.Am
open Lang Go.Proofs
variable{M:ak}[MK M]
section
variable{H H1 H2 H':ar}{o o1 o2 o':Nat->Nat}{p g b f:Nat}{x y:So}{fv kv gv tv:AV}{v:Int}{ok:Bool}
def kW(h:dV H o p x g fv):∀K,C3 M B4 (.func qpp) [.ptr p 0] H K=K B4 (.bool B2) H:=by
 refine dI (q1j ?_);simp only[aa,bc,q1k,aA,h.bm]
def ir(h:dV H o p x g fv):∀K,C3 M B4 (.func Ψ) [.ptr p 0] H K=K B4 (.bool x.busy) H:=by
 refine dI (q07 ?_);simp only[aa,bc,q08,aA,kW h,h.bm]
def J7(h:dV H o p x g fv):∀K,C3 M B4 (.func ω) [.ptr p 0] H K=K B4 (.bool x.aE) H:=by
 refine dI (quc ?_);simp only[aa,bc,qud,aA,kW h,h.bm]
def BG(h:dV H o p x g fv):∀K,C3 M B4 (.func qnf) [.ptr p 0] H K=K B4 (.int .u64 x.value) H:=by
 refine dI (qym ?_);simp only[aa,bc,qyn,aA,kW h,h.bm]
def rp(h:dV H o p x g fv):∀K,C3 M B4 (.func qnd) [.ptr p 0] H K=K B4 (.int .i64 x.ended) H:=by
 refine dI (qyj ?_);simp only[aa,bc,qyk,aA,kW h,h.bm]
def eK(h:dV H o p x g fv):∀K,C3 M B4 (.func _p) [.ptr p 0] H K=K B4 (.int .i64 x.points) H:=by
 refine dI (qwg ?_);simp only[aa,bc,qwh,aA,kW h,h.bm]
def mP(h:dV H o p x g fv):∀K,C3 M B4 (.func qni) [.ptr p 0] H K=K B4 (.int .i64 (if x.ready=B4 then 0 else 80)) H:=by
 refine dI (qy0 ?_);unfold So.ready;cases q:x.busy<;>cases r:x.live<;>simp only[aa,bc,qy1,aA,kW h,h.bm,q,r,zw,Bool.true_and,Bool.false_and]
def Lf(h:dV H o p x g fv)(a:Int):∀K,C3 M B4 (.func qlf) [.ptr p 0,.int .i64 a] H K=K B4 (.int .i64 (if x.ready=B4 then if 8<=a then 0 else 2 else 80)) H:=by
 refine dI (qum ?_);have d:¬(80:Int)=0:=by decide
 cases q:x.ready
 .simp only[aa,bc,WB,mP h,q,zw,d]
 .by_cases r:8<=a
  .have c:¬a<8:=HD.2 r;simp only[aa,bc,WB,mP h,q,c,xg r]
  .have c:a<8:=Int.not_le.1 r;simp only[aa,bc,WB,mP h,q,xg c,r]
def Nv:[AV.int .i64 0,.int .i64 0,.int .u64 0,.int .u64 0]=iR ⟨0,0,0,0⟩:=rfl
def Si(h:dV H o p x g fv):zk M KF [.ptr p 0] H λ w H'=>(∃q,w=.tuple [.agg (iR x.want),.bool q])/\Fr Em H H':=by
 refine q1c ?_;obtain⟨H1,e1,i,-,-⟩:=cE H (OR (iR ⟨0,0,0,0⟩) Cn);have d:At H1 H.au Cn _:=e1▸At.new H _ _;have c:=h.fr i (λ _ _ _ q=>q) λ _ _=>rfl;have l4:Op.av 4 [.ptr p 1] H1=B1 (.agg (iR x.want)):=c.row.fq (k:=1) (n:=4) (by simp[dH,iR]);have s1:=d.iv (k:=0) (n:=4) (v:=.agg (iR x.want)) rfl (by simp[iR]) rfl;have e2:(iR ⟨0,0,0,0⟩).take 0++AV.cells (.agg (iR x.want))++(iR ⟨0,0,0,0⟩).drop (0+4)=iR x.want:=rfl;rw[e2]at s1;obtain⟨H2,a⟩:∃X,X=H1.set H.au (OR (iR x.want) Cn):=⟨_,rfl⟩
 rw[<-a]at s1;have j:Fr Em H H2:=a▸i.set (.inr (qm _)) _;have m:At H2 H.au Cn (iR x.want):=a▸d.set _;have r:=h.fr j (λ _ _ _ q=>q) λ _ _=>rfl;have t:Op.av 4 [.ptr H.au 0] H2=B1 (.agg (iR x.want)):=m.fq (k:=0) (n:=4) (by simp[iR]);obtain⟨q,s⟩:∃q:Bool,∀H,Op.eq .func B4 [fv,.nilf] H=B1 (.bool q):=by
  have:=h.nx;cases e:x.au with
  |none=>rw[e]at this;rw[show fv=_ from this];exact⟨B2,λ _=>rfl⟩
  |some n=>rw[e]at this;obtain⟨b,tv,rfl,-⟩:=this;exact⟨B4,λ _=>rfl⟩
 simp only[aa,bc,q1d,aA,Nv,<-e1,kW c,l4,c.bm,r.bm,s,s1,t];exact⟨⟨q,rfl⟩,j⟩
def Sd(h:dV H o p x g fv)(m:fH v):zk M ο [.ptr p 0,.int .u64 v,.bool ok] H λ _ H'=>eG H o p (x.eR v ok) H':=by
 refine q09 ?_;unfold So.eR;have nx:=h.nx;cases e:x.au with
 |none =>
  rw[e]at nx;have nx:fv=.nilf:=nx;subst nx;have q:∀H,Op.eq .func B2 [.nilf,.nilf] H=B1 (.bool B4):=λ _=>rfl;simp only[aa,bc,S2,aA,kW h,h.bm,q];exact h.same
 |some n =>
  rw[e]at nx;obtain⟨b,tv,rfl,hb,j⟩:=nx;have q:∀f l H,Op.eq .func B2 [.fn f [] l,.nilf] H=B1 (.bool B2):=λ _ _ _=>rfl;have c:Op.build (iR ⟨0,0,0,0⟩) [] []=B1 (.agg (iR ⟨0,0,0,0⟩)):=rfl;have s1:=h.row.iv (k:=1) (n:=4) (v:=.agg (iR ⟨0,0,0,0⟩)) rfl (by simp[dH,iR]) rfl;have e2:(dH x g (lP (Fw n) [b])).take 1++AV.cells (.agg (iR ⟨0,0,0,0⟩))++(dH x g (lP (Fw n) [b])).drop (1+4)=dH {x with want:=⟨0,0,0,0⟩} g (lP (Fw n) [b]):=rfl;rw[e2]at s1;obtain⟨H1,e1⟩:∃X,X=H.set p (OR (dH {x with want:=⟨0,0,0,0⟩} g (lP (Fw n) [b])) Ew):=⟨_,rfl⟩
  rw[<-e1]at s1;have a:At H1 p Ew _:=e1▸h.row.set _;have s2:=a.st 5 (v:=.nilf) rfl (by simp[dH,iR]);have d:(dH {x with want:=⟨0,0,0,0⟩} g (lP (Fw n) [b])).set 5 .nilf=dH {x with want:=⟨0,0,0,0⟩,au:=B5} g .nilf:=rfl;rw[d]at s2;have f:Fr (On p) H (H1.set p (OR (dH {x with want:=⟨0,0,0,0⟩,au:=B5} g .nilf) Ew)):=(e1▸cj H p _:Fr (On p) H H1).trans (cj ..) λ z q=>.inl q;have bk:=h.on f;have i:dV (H1.set p (OR (dH {x with want:=⟨0,0,0,0⟩,au:=B5} g .nilf) Ew)) o p {x with want:=⟨0,0,0,0⟩,au:=B5} g .nilf:=⟨a.set _,h.lg.fr f (λ z _ w(e:z=p)=>by rw[e,h.op]at w;omega) λ _ _=>rfl,rfl,h.op,rfl,h.vu,h.wu,bI⟩
  simp only[aa,bc,S2,aA,kW h,h.bm,q,Nv,c,s1,s2,lP,jw,AE];refine C3.q (son i rfl m (hb.ky bk) (j.ky bk)) λ _ r hp=>?_;simp only[aa,bc];exact eG.step h f hp
def M6(h:dV H o p x g fv):zk M qnc [.ptr p 0] H λ _ H'=>eG H o p x.begin H':=by
 refine qyi ?_;unfold So.begin
 by_cases q:x.busy=B4\/x.live=B4
 .rw [xb q];cases b:x.busy
  .have l:x.live=true:=q.resolve_left (by rw[b];simp);simp only[aa,bc,X2,aA,kW h,h.bm,b,l];exact h.same
  .simp only[aa,bc,X2,aA,kW h,h.bm,b];exact h.same
 .rw [qt q];have b:x.busy=false:=by cases r:x.busy;rfl;exact(q (.inl r)).elim
  have l:x.live=false:=by cases r:x.live;rfl;exact(q (.inr r)).elim
  simp only[aa,bc,X2,aA,kW h,h.bm,b,l];refine C3.q (L5 h.lg) λ _ H1 hp=>?_;have⟨o1,a,bk,i⟩:=h.log hp (λ y w=>by cases w);have⟨H2,s2,j,c⟩:=a.put 10 (v:=.int .u64 0) (y:={x with rd:=[],wr:=[],value:=0}) rfl (by decide) rfl ⟨rfl,rfl,rfl,rfl⟩ bI;have⟨A,t,m,d⟩:=j.put 11 (v:=.int .i64 0) (y:={x with rd:=[],wr:=[],value:=0,ended:=0}) rfl (by decide) rfl ⟨rfl,rfl,rfl,rfl⟩ bI;have⟨B,u,s,e⟩:=m.put 6 (v:=.bool B4) (y:={x with rd:=[],wr:=[],value:=0,ended:=0,busy:=B4}) rfl (by decide) rfl ⟨rfl,rfl,rfl,rfl⟩ bI;simp only[aa,bc,aA,s2,t,u];refine C3.q (wZ s 1 (k:=.wait) rfl) λ _ C hp=>?_;simp only[aa,bc];simp only[l]at hp;exact eG.after bk.own i (eG.step a ((c.trans d λ z q=>.inl q).trans e λ z q=>.inl q) hp)
def xjn(h:dV H o p x g fv)(a:Int):zk M qpk [.ptr p 0,.int .i64 a] H λ _ H'=>eG H o p (x.load a) H':=by
 refine q1a ?_;unfold So.load;have A:¬(80:Int)=0:=by decide
 have u:¬(2:Int)=0:=by decide
 by_cases q:x.ready=B4/\8<=a
 .rw [xb q];have lk:=OQ (M:=M) h.lg a;cases e:dk x.wr a with
  |some z =>
   rw[e]at lk;have s:fH z:=by
    rw[Kh]at e;obtain⟨i,m,rfl⟩:=xm.1 e;obtain⟨c,y,j,-⟩:=pw m;rw[ja,j];exact h.wu y (zj j)
   have⟨H1,s1,c,d⟩:=h.put 10 (v:=.int .u64 z) (y:={x with value:=z}) rfl (by decide) rfl ⟨rfl,rfl,rfl,rfl⟩ s;simp only[aa,bc,T7,aA,Lf h,q.1,xg q.2,h.bm,lk,wh,vx,s1];exact h.CQ d c
  |none =>
   rw[e]at lk;have⟨H1,s1,c,d⟩:=h.put 6 (v:=.bool B4) (y:={x with busy:=B4}) rfl (by decide) rfl ⟨rfl,rfl,rfl,rfl⟩ h.vu;simp only[aa,bc,T7,aA,Lf h,q.1,xg q.2,h.bm,lk,Option.getD_none,LZ,s1];refine C3.q (C0 c (a:=a) (by omega)) λ _ B hp=>?_;simp only[aa,bc];exact eG.step h d hp
 .rw [qt q]
  by_cases r:x.ready=B4
  .have t:¬8<=a:=λ w=>q ⟨r,w⟩;simp only[aa,bc,T7,Lf h,r,t,u];exact h.same
  .simp only[aa,bc,T7,Lf h,qt r,A];exact h.same
def xfx(h:dV H o p x g fv)(a:Int)(j:fH v):zk M _Q [.ptr p 0,.int .i64 a,.int .u64 v] H λ _ H'=>eG H o p (x.store a v) H':=by
 refine qyl ?_;unfold So.store;have B:¬(80:Int)=0:=by decide
 have z:¬(2:Int)=0:=by decide
 have A:¬(70:Int)=0:=by decide
 by_cases q:x.ready=B4/\8<=a
 .rw [xb q];simp only[aa,bc,Ri,aA,Lf h,q.1,xg q.2,h.bm];refine C3.q (Ls h.lg (a:=a) (by omega) v) λ e H1 t=>?_;rcases t with⟨l1,l2,rfl,hp⟩|⟨l1,rfl,hp⟩
  .rw [xb ⟨l1,l2⟩];have⟨o1,c,bk,d⟩:=h.log hp h.wu;have⟨H2,s2,s,m⟩:=c.put 6 (v:=.bool B4) (y:={x with busy:=B4}) rfl (by decide) rfl ⟨rfl,rfl,rfl,rfl⟩ h.vu;simp only[aa,bc,aA,A,s2];refine C3.q (oZ s 2) λ _ C hp=>?_;simp only[aa,bc,Ri];exact eG.after bk.own d (eG.step c m hp)
  .rw [qt l1];have hu:∀y∈fG x.wr a v,fH y.v:=λ y w=>by
    cases e:iy x.wr a with
    |none=>rw[Tb e]at w;exact(z6.1 w).elim (h.wu y) λ w=>by rw[j0.1 w];exact j
    |some i=>rw[TU e]at w;exact(FF w).elim (h.wu y) λ w=>by rw[w];exact j
   have⟨o1,c,bk,d⟩:=h.log hp hu;simp only[aa,bc,Ri];exact⟨o1,_,_,c,bk.own,d⟩
 .rw [qt q]
  by_cases r:x.ready=B4
  .have u:¬8<=a:=λ w=>q ⟨r,w⟩;simp only[aa,bc,Ri,Lf h,r,u,z];exact h.same
  .simp only[aa,bc,Ri,Lf h,qt r,B];exact h.same
def xdl(h:dV H o p x g fv):zk M _K [.ptr p 0] H λ _ H'=>eG H o p x.bn H':=by
 refine qwf ?_;unfold So.bn;have s:¬(80:Int)=0:=by decide
 by_cases r:x.ready=B4
 .rw [xb r];have⟨H1,s1,a,e⟩:=h.put 6 (v:=.bool B4) (y:={x with busy:=B4}) rfl (by decide) rfl ⟨rfl,rfl,rfl,rfl⟩ h.vu;simp only[aa,bc,Va,aA,mP h,r,s1,a.bm];refine C3.q (yZ a.lg) λ lv H2⟨m,t,d⟩=>?_;have ln:=(aU.sl m).len;have i:=a.fr d (λ _ _ _ q=>q) λ _ _=>rfl
  by_cases q:x.wr.length=0
  .have c:((x.wr.length:Nat):Int)=0:=by omega
   rw[xb q];simp only[aa,bc,ln,xg c];refine C3.q (oZ i 1) λ _ j hp=>?_;simp only[aa,bc];exact eG.step h e (eG.pre d (λ _ _=>rfl) hp)
  .have c:¬((x.wr.length:Nat):Int)=0:=by omega
   rw[qt q];simp only[aa,bc,Va,ln,c];refine C3.q (JJ i) λ _ j hp=>?_;simp only[aa,bc];exact eG.step h e (eG.pre d (λ _ _=>rfl) hp)
 .rw [qt r];simp only[aa,bc,Va,mP h,qt r,s];exact h.same
def xjq(h:dV H o p x g fv):zk M _0 [.ptr p 0] H λ _ H'=>eG H o p x.BU H':=by
 refine q1b ?_;unfold So.BU;have d:¬(80:Int)=0:=by decide
 by_cases r:x.ready=B4
 .rw [xb r];have⟨H1,s1,c,a⟩:=h.put 6 (v:=.bool B4) (y:={x with busy:=B4}) rfl (by decide) rfl ⟨rfl,rfl,rfl,rfl⟩ h.vu;simp only[aa,bc,Z9,aA,mP h,r,s1];refine C3.q (oZ c 3) λ _ e hp=>?_;simp only[aa,bc,Z9];exact eG.step h a hp
 .rw [qt r];simp only[aa,bc,Z9,mP h,qt r,d];exact h.same
end
end Go.Am
namespace Go.Am
open Lang Go.Proofs
variable{M:ak}[MK M]
def cF(c:Co)(f l sp:Nat)(cv rv ov pv:AV):List AV:=[.int .i64 c.id,.int .i64 c.lines,cv,.ptr f 0,.ptr l 0,.ptr sp 0,.int .i64 c.ph,.int .i64 c.want.kind,.int .i64 c.want.au,.int .i64 c.want.pq,.int .u64 c.want.value,.int .u64 c.want.addr,.int .u64 c.seq,rv,.int .i64 c.done,.bool c.wrote,.bool c.held,.bool c.said,.int .i64 c.blocks,.int .i64 c.pe,.bool c.halted,.bool c.Cw,ov,pv]
def tD(ps:List Pr):Prop:=∀i x,ps[i]? = B1 x->iy ps x.a=B1 i
structure Kf(c:Co)(k:Nat):Prop where
 id:0<=c.id
 l2:2<=c.lines
 l64:c.lines<=64
 cl:c.code.length<=1024
 ru:∀y∈c.aS,fH y.v
 rl:c.aS.length<=k
 d0:0<=c.done
 wu:fH c.want.addr
 Ni:tD c.aS
structure dU(H:ar)(o:Nat->Nat)(p f l sp:Nat)(cv rv ov pv:AV)(c:Co)(os:List fF)(k:Nat):Prop where
 row:At H p Iy (cF c f l sp cv rv ov pv)
 fi:qP H o f c.fi
 la:lX H l c.la
 so:∃g fv,dV H o sp c.so g fv
 cd:bX fY 5 H cv c.code
 rd:DW H rv c.aS
 ou:aU fF.enc kr 9 H ov os
 op:o p=1
 of:o f=2
 ol:o l=3
 qJ:∀z,aN rv z->o z=5
 qW:∀z,aN ov z->o z=6
 mI:c.code≠[]->aC cv<H.au/\o (aC cv)=7
 FG:az pv=B4
 w:Kf c k
section
variable{H H':ar}{o o':Nat->Nat}{p f l sp k k':Nat}{cv rv ov pv:AV}{c d:Co}{os os':List fF}
def Ia{α:Type}{enc:α->List AV}{size:Nat}{W:Nat->Prop}{lv:AV}{xs:List α}(h:bX enc size H lv xs)(a:Fr W H H')(hw:xs≠[] -> ¬W (aC lv)):bX enc size H' lv xs:=by
 cases xs with
 |nil=>exact Sl.fr h a (.inl rfl)
 |cons y l=>exact Sl.fr h a (.inr (hw (by simp)))
def dU.b_{W:Nat->Prop}(h:dU H o p f l sp cv rv ov pv c os k)(a:Fr W H H')(hw:∀z,z<H.au->o z≠0->o z≠4 -> ¬W z)(ho:∀z,z<H.au->o' z=o z)(hk:k<=k'):dU H' o' p f l sp cv rv ov pv c os k':=by
 have⟨g,fv,hs⟩:=h.so;have r:=λ z(q:aN rv z)=>Own.lt h.rd z q;have u:=λ z(q:aN ov z)=>Own.lt h.ou z q;exact⟨h.row.fr a (hw p h.row.2 (by rw[h.op];decide) (by rw[h.op];decide)),h.fi.fr a h.of (λ z q e=>hw z q (by omega) (by omega)) ho,h.la.fr a (hw l h.la.at'.2 (by rw[h.ol];decide) (by rw[h.ol];decide)),⟨g,fv,hs.fr a (λ z q e=>hw z q (by omega) (by omega)) ho⟩,
  Ia h.cd a λ e=>hw _ (h.mI e).1 (by rw[(h.mI e).2];decide) (by rw[(h.mI e).2];decide),Own.fr h.rd a λ z q=>hw z (r z q) (by rw[h.qJ z q];decide) (by rw[h.qJ z q];decide),Own.fr h.ou a λ z q=>hw z (u z q) (by rw[h.qW z q];decide) (by rw[h.qW z q];decide),
  (ho p h.row.2).trans h.op,(ho f (by obtain⟨pv,q,-⟩:=h.fi.at';exact q.2)).trans h.of,(ho l h.la.at'.2).trans h.ol,λ z q=>(ho z (r z q)).trans (h.qJ z q),λ z q=>(ho z (u z q)).trans (h.qW z q),λ e=>⟨qn (h.mI e).1 a.au,(ho _ (h.mI e).1).trans (h.mI e).2⟩,h.FG,
  {h.w with rl:=ze h.w.rl hk}⟩
def dU.fr{W:Nat->Prop}(h:dU H o p f l sp cv rv ov pv c os k)(a:Fr W H H')(hw:∀z,z<H.au->o z≠0 -> ¬W z)(ho:∀z,z<H.au->o' z=o z)(hk:k<=k'):dU H' o' p f l sp cv rv ov pv c os k':=h.b_ a (λ z q r _=>hw z q r) ho hk
def gZ(H:ar)(o:Nat->Nat)(p f l sp:Nat)(cv pv:AV)(c:Co)(os:List fF)(k:Nat)(H':ar):Prop:=∃o' rv ov,dU H' o' p f l sp cv rv ov pv c os k/\(∀z,z<H.au->o' z=o z)/\Fr (λ z=>o z≠0) H H'
def dU.bm(h:dU H o p f l sp cv rv ov pv c os k):Op.ae [.ptr p 0] H=B1 (.int .i64 c.id)/\Op.ae [.ptr p 1] H=B1 (.int .i64 c.lines)/\Op.ae [.ptr p 2] H=B1 cv/\Op.ae [.ptr p 3] H=B1 (.ptr f 0)/\Op.ae [.ptr p 4] H=B1 (.ptr l 0)/\Op.ae [.ptr p 5] H=B1 (.ptr sp 0)/\Op.ae [.ptr p 6] H=B1 (.int .i64 c.ph)/\Op.ae [.ptr p 7] H=B1 (.int .i64 c.want.kind)/\Op.ae [.ptr p 12] H=B1 (.int .u64 c.seq) /\
 Op.ae [.ptr p 13] H=B1 rv/\Op.ae [.ptr p 14] H=B1 (.int .i64 c.done)/\Op.ae [.ptr p 15] H=B1 (.bool c.wrote)/\Op.ae [.ptr p 16] H=B1 (.bool c.held)/\Op.ae [.ptr p 17] H=B1 (.bool c.said)/\Op.ae [.ptr p 18] H=B1 (.int .i64 c.blocks)/\Op.ae [.ptr p 19] H=B1 (.int .i64 c.pe)/\Op.ae [.ptr p 20] H=B1 (.bool c.halted)/\Op.ae [.ptr p 21] H=B1 (.bool c.Cw)/\Op.ae [.ptr p 22] H=B1 ov/\Op.ae [.ptr p 23] H=B1 pv/\Op.av 5 [.ptr p 7] H=B1 (.agg (bj c.want)) :=
 ⟨h.row.ld 0,h.row.ld 1,h.row.ld 2,h.row.ld 3,h.row.ld 4,h.row.ld 5,h.row.ld 6,h.row.ld 7,h.row.ld 12,h.row.ld 13,h.row.ld 14,h.row.ld 15,h.row.ld 16,h.row.ld 17,h.row.ld 18,h.row.ld 19,h.row.ld 20,h.row.ld 21,h.row.ld 22,h.row.ld 23,h.row.fq (k:=7) (n:=5) (by simp[cF])⟩
def dU.np(h:dU H o p f l sp cv rv ov pv c os k):∀z,o z≠1 -> ¬On p z:=λ z e(w:z=p)=>e (by rw[w];exact h.op)
def dU.cell(h:dU H o p f l sp cv rv ov pv c os k){rv' ov' pv':AV}(hs:d.fi=c.fi/\d.la=c.la/\d.so=c.so/\d.code=c.code)(hr:DW H rv' d.aS /\ ∀z,aN rv' z->o z=5)(hu:aU fF.enc kr 9 H ov' os' /\ ∀z,aN ov' z->o z=6)(hp:az pv'=B4)(hw:Kf d k') :
 dU (H.set p (OR (cF d f l sp cv rv' ov' pv') Iy)) o p f l sp cv rv' ov' pv' d os' k'/\Fr (On p) H (H.set p (OR (cF d f l sp cv rv' ov' pv') Iy)):=by
 have a:Fr (On p) H (H.set p (OR (cF d f l sp cv rv' ov' pv') Iy)):=cj ..;have⟨g,fv,b⟩:=h.so;have⟨e1,e2,j,i⟩:=hs;refine⟨⟨h.row.set _,?_,?_,⟨g,fv,?_⟩,?_,Own.fr hr.1 a λ z q=>h.np z (by rw[hr.2 z q];decide),Own.fr hu.1 a λ z q=>h.np z (by rw[hu.2 z q];decide),h.op,h.of,h.ol,hr.2,hu.2,?_,hp,hw⟩,a⟩
 .rw [e1];exact h.fi.fr a h.of (λ z q e=>h.np z (by omega)) λ _ _=>rfl
 .rw [e2];exact h.la.fr a (h.np l (by rw[h.ol];decide))
 .rw [j];exact b.fr a (λ z q e=>h.np z (by omega)) λ _ _=>rfl
 .rw [i];exact Ia h.cd a λ e=>h.np _ (by rw[(h.mI e).2];decide)
 .rw [i];exact h.mI
def dU.put(h:dU H o p f l sp cv rv ov pv c os k)(i:Nat){v:AV}(d:Co)(a:az v=B4)(b:i<24)(he:(cF c f l sp cv rv ov pv).set i v=cF d f l sp cv rv ov pv)(hs:d.fi=c.fi/\d.la=c.la/\d.so=c.so/\d.code=c.code)(hr:d.aS=c.aS)(hw:Kf d k) :
 ∃H',Op.store 1 [.ptr p i,v] H=B1 (.undef,H')/\dU H' o p f l sp cv rv ov pv d os k/\Fr (On p) H H':=by
 have⟨e,g⟩:=h.cell (d:=d) hs (rv':=rv) ⟨by rw[hr];exact h.rd,h.qJ⟩ ⟨h.ou,h.qW⟩ h.FG hw;exact⟨_,by rw[h.row.st i a b,he],e,g⟩
def dU.CQ(h:dU H o p f l sp cv rv ov pv c os k){H1:ar}(a:Fr (On p) H H1){e b:AV}(g:dU H1 o p f l sp cv e b pv d os' k'):gZ H o p f l sp cv pv d os' k' H1:=⟨o,e,b,g,λ _ _=>rfl,a.mono λ z _(q:z=p)=>by rw[q,h.op];decide⟩
def dU.Ih(h:dU H o p f l sp cv rv ov pv c os k){y:Fi}(hp:K9 H o f y H'):gZ H o p f l sp cv pv {c with fi:=y} os k H':=by
 have⟨i,a⟩:=hp;have ho:∀z,z<H.au->aL o H.au 2 z=o z:=λ z q=>iQ q;have b:∀z,o z≠2 -> ¬On f z:=λ z e(w:z=f)=>e (by rw[w];exact h.of);have⟨g,fv,hs⟩:=h.so;have r:=λ z(q:aN rv z)=>Own.lt h.rd z q;have u:=λ z(q:aN ov z)=>Own.lt h.ou z q;refine⟨aL o H.au 2,rv,ov,⟨h.row.fr a (b p (by rw[h.op];decide)),i,h.la.fr a (b l (by rw[h.ol];decide)),⟨g,fv,hs.fr a (λ z q e=>b z (by omega)) ho⟩,Ia h.cd a λ e=>b _ (by rw[(h.mI e).2];decide),Own.fr h.rd a λ z q=>b z (by rw[h.qJ z q];decide),Own.fr h.ou a λ z q=>b z (by rw[h.qW z q];decide),
  (ho p h.row.2).trans h.op,(ho f (by obtain⟨pv,q,-⟩:=h.fi.at';exact q.2)).trans h.of,(ho l h.la.at'.2).trans h.ol,λ z q=>(ho z (r z q)).trans (h.qJ z q),λ z q=>(ho z (u z q)).trans (h.qW z q),λ e=>⟨qn (h.mI e).1 a.au,(ho _ (h.mI e).1).trans (h.mI e).2⟩,h.FG,{h.w with}⟩,ho,a.mono λ z _(q:z=f)=>by rw[q,h.of];decide⟩
def dU.Vv(h:dU H o p f l sp cv rv ov pv c os k){y:La}(hp:RU H l y H'):gZ H o p f l sp cv pv {c with la:=y} os k H':=by
 have⟨b,a⟩:=hp;have nl:∀z,o z≠3 -> ¬On l z:=λ z e(w:z=l)=>e (by rw[w];exact h.ol);have⟨g,fv,hs⟩:=h.so;exact⟨o,rv,ov,⟨h.row.fr a (nl p (by rw[h.op];decide)),h.fi.fr a h.of (λ z q e=>nl z (by omega)) λ _ _=>rfl,b,⟨g,fv,hs.fr a (λ z q e=>nl z (by omega)) λ _ _=>rfl⟩,Ia h.cd a λ e=>nl _ (by rw[(h.mI e).2];decide),Own.fr h.rd a λ z q=>nl z (by rw[h.qJ z q];decide),Own.fr h.ou a λ z q=>nl z (by rw[h.qW z q];decide),
  h.op,h.of,h.ol,h.qJ,h.qW,λ e=>⟨qn (h.mI e).1 a.au,(h.mI e).2⟩,h.FG,{h.w with}⟩,λ _ _=>rfl,a.mono λ z _(q:z=l)=>by rw[q,h.ol];decide⟩
def dU.NA(h:dU H o p f l sp cv rv ov pv c os k){y:So}(hp:eG H o sp y H'):gZ H o p f l sp cv pv {c with so:=y} os k H':=by
 have⟨o',g,fv,b,ho,a⟩:=hp;have nl:∀z,o z<8 -> ¬(8<=o z):=λ z e w=>by omega
 have r:=λ z(q:aN rv z)=>Own.lt h.rd z q;have u:=λ z(q:aN ov z)=>Own.lt h.ou z q;exact⟨o',rv,ov,⟨h.row.fr a (nl p (by rw[h.op];decide)),h.fi.fr a h.of (λ z q e=>nl z (by omega)) ho,h.la.fr a (nl l (by rw[h.ol];decide)),⟨g,fv,b⟩,Ia h.cd a λ e=>nl _ (by rw[(h.mI e).2];decide),Own.fr h.rd a λ z q=>nl z (by rw[h.qJ z q];decide),Own.fr h.ou a λ z q=>nl z (by rw[h.qW z q];decide),
  (ho p h.row.2).trans h.op,(ho f (by obtain⟨pv,q,-⟩:=h.fi.at';exact q.2)).trans h.of,(ho l h.la.at'.2).trans h.ol,λ z q=>(ho z (r z q)).trans (h.qJ z q),λ z q=>(ho z (u z q)).trans (h.qW z q),λ e=>⟨qn (h.mI e).1 a.au,(ho _ (h.mI e).1).trans (h.mI e).2⟩,h.FG,{h.w with}⟩,ho,a.mono λ z _(q:8<=o z)=>by omega⟩
def Kf.mono(h:Kf c k)(hk:k<=k'):Kf c k':={h with rl:=ze h.rl hk}
end
end Go.Am
namespace Go.Am
open Lang Go.Proofs
variable{M:ak}[MK M]
section
variable{H H1 H':ar}{o o1:Nat->Nat}{p f l sp k k':Nat}{cv rv ov pv:AV}{c d:Co}{os os':List fF}{s t:CS}
def dU.em(h:dU H o p f l sp cv rv ov pv c os k)(a:Fr Em H H'):dU H' o p f l sp cv rv ov pv c os k:=h.fr a (λ _ _ _ q=>q) (λ _ _=>rfl) (qm _)
def gZ.then(a:gZ H o p f l sp cv pv c os k H1)(b:∀o1 g e,dU H1 o1 p f l sp cv g e pv c os k->gZ H1 o1 p f l sp cv pv d os' k' H'):gZ H o p f l sp cv pv d os' k' H':=by
 have⟨o1,g,e,n,j,m⟩:=a;have⟨o2,i,h,r,u,v⟩:=b _ _ _ n;refine⟨o2,i,h,r,λ z q=>(u z (qn q m.au)).trans (j z q),m.trans v λ z q=>?_⟩;rcases xx z H.au with w|w
 .exact .inl (by rw[<-j z w];exact q)
 .exact .inr w
def gZ.pre(a:Fr Em H H1)(b:gZ H1 o p f l sp cv pv d os' k' H'):gZ H o p f l sp cv pv d os' k' H':=by
 have⟨o2,g,e,h,i,j⟩:=b;exact⟨o2,g,e,h,λ z q=>i z (qn q a.au),(a.mono λ _ _ q=>q.elim).trans j λ z q=>.inl q⟩
def Mp:fF:=⟨0,0,0,0,0,0,0,0,0⟩
def ZH:[AV.int .i64 0,.int .i64 0,.int .i64 0,.int .i64 0,.int .i64 0,.int .i64 0,.int .i64 0,.int .u64 0,.int .i64 0]=Mp.enc:=rfl
def W5(h:dU H o p f l sp cv rv ov pv c os k):∀K,C3 M B4 (.func qo7) [.ptr p 0] H K=K B4 (.bool B2) H:=by
 refine dI (qz5 ?_);simp only[aa,bc,qz6,aA,h.bm]
def F1(h:dU H o p f l sp cv rv ov pv s.c s.o k)(hl:s.o.length<=1000)(r a v cd:Int):zk M YP [.ptr p 0,.int .i64 r,.int .i64 a,.int .u64 v,.int .i64 cd] H λ _ H'=>gZ H o p f l sp cv pv (s.tell r a v cd).c (s.tell r a v cd).o k H':=by
 refine qz7 ?_;obtain⟨H1,e1,f1,-,-⟩:=cE H (OR Mp.enc kr);have P:At H1 H.au kr _:=e1▸At.new H _ _;obtain⟨e,he⟩:∃e:fF,e=⟨r,0,s.c.id,-1,0,0,a,v,cd⟩:=⟨_,rfl⟩
 have S:Op.build Mp.enc [(0,1),(2,1),(3,1),(6,1),(7,1),(8,1)] [.int .i64 r,.int .i64 s.c.id,.int .i64 (-1),.int .i64 a,.int .u64 v,.int .i64 cd]=B1 (.agg e.enc):=by rw[he];rfl
 have s1:=P.iv (k:=0) (n:=9) (v:=.agg e.enc) rfl (by simp[fF.len]) rfl;have D:Mp.enc.take 0++AV.cells (.agg e.enc)++Mp.enc.drop (0+9)=e.enc:=by rw[z7];rfl
 rw[D]at s1;obtain⟨I,e2⟩:∃X,X=H1.set H.au (OR e.enc kr):=⟨_,rfl⟩
 rw[<-e2]at s1;have J:At I H.au kr e.enc:=e2▸P.set _;have L:Fr Em H I:=e2▸f1.set (.inr (qm _)) _;have C:=h.em L;have n2:H.au<I.au:=J.2
 -- the list
 have app:∀{j:ar}(x:fF),Fr Em H j -> ∀{K:bC->(Nat->AV)->Bool->AV->ar->Prop}{m:Bool},(∀u y A,Op.store 1 [.ptr p 22,u] y=B1 (.undef,A)->gZ H o p f l sp cv pv s.c (s.o ++ [x]) k A->K (.row (AV.cells (.agg x.enc)) kr (0,0) B4) (Op.sliceTo 1 1) m u y) ->
  jO m (Op.buildSlice kr 1 Mp.enc [(0,9)] [.agg x.enc]) λ g o mk=>jO g (Op.append kr 9 72 [ov,mk j.au] (j.alloc o)) (K o mk):=λ{j}x B{K m}hk=>by
  have b:=h.em B;refine aU.pn b.ou (x:=.agg x.enc) (a:=x) rfl rfl rfl rfl (by decide) (by omega) (by omega) λ u y Y N hz=>?_;have one:az u=true:=Sl.one (Own.sl Y);have lu:=λ z(q:aN ov z)=>Own.lt b.ou z q
  -- new rows are of the told list
  have ho:∀z,z<j.au->aL o j.au 6 z=o z:=λ z q=>iQ q;have W:∀z,o z≠6 -> ¬aN ov z:=λ z q w=>q (b.qW z w);have f34:Fr (λ z=>o z≠0) j y:=N.mono λ z _ q=>by rw[b.qW z q];decide
  have⟨g,fv,hs⟩:=b.so;have lr:=λ z(q:aN rv z)=>Own.lt b.rd z q;have Z:At y p Iy _:=b.row.fr N (W p (by rw[b.op];decide));have st:=Z.st 22 one (by simp[cF]);have e5:(cF s.c f l sp cv rv ov pv).set 22 u=cF s.c f l sp cv rv u pv:=rfl;rw[e5]at st;obtain⟨A,O⟩:∃X,X=y.set p (OR (cF s.c f l sp cv rv u pv) Iy):=⟨_,rfl⟩
  rw[<-O]at st;have U:Fr (On p) y A:=O▸cj ..;have i:Fr (λ z=>aN ov z\/z=p) j A:=(N.mono λ z _ q=>.inl q).trans U λ z q=>.inl (.inr q);have nw:∀z,o z≠6->o z≠1 -> ¬(aN ov z\/z=p):=λ z e6 e1 w=>w.elim (W z e6) λ w=>e1 (by rw[w];exact b.op);have no:∀z,aN u z->aL o j.au 6 z=6:=λ z q=>(hz z q).elim (λ w=>(ho z (lu z w)).trans (b.qW z w)) λ w=>mW w;refine hk u y A st (gZ.pre B ⟨aL o j.au 6,rv,u,⟨O▸Z.set _,b.fi.fr i b.of (λ z q e=>nw z (by omega) (by omega)) ho,b.la.fr i (nw l (by rw[b.ol];decide) (by rw[b.ol];decide)),⟨g,fv,hs.fr i (λ z q e=>nw z (by omega) (by omega)) ho⟩,Ia b.cd i λ e=>nw _ (by rw[(b.mI e).2];decide) (by rw[(b.mI e).2];decide),Own.fr b.rd i λ z q=>nw z (by rw[b.qJ z q];decide) (by rw[b.qJ z q];decide),Own.fr Y U λ z q(w:z=p)=>?_,
   (ho p b.row.2).trans b.op,(ho f (by obtain⟨pv,q,-⟩:=b.fi.at';exact q.2)).trans b.of,(ho l b.la.at'.2).trans b.ol,λ z q=>(ho z (lr z q)).trans (b.qJ z q),no,λ e=>⟨qn (b.mI e).1 i.au,(ho _ (b.mI e).1).trans (b.mI e).2⟩,b.FG,b.w⟩,ho,i.mono λ z _ q=>q.elim (λ q=>by rw[b.qW z q];decide) λ q=>by rw[q,b.op];decide⟩)
  have:=no z q;rw[w,ho p b.row.2,b.op]at this;omega
 have ld:∀{j:ar}{x:fF},At j H.au kr x.enc->Op.av 9 [.ptr H.au 0] j=B1 (.agg x.enc):=λ a=>a.fq (k:=0) (n:=9) (by simp[fF.len])
 by_cases q:s.c.la.lane=0
 .have ev:CS.MI s.c r a v cd=e:=by rw[he];unfold CS.MI;rw[xb q]
  unfold CS.tell;rw[ev];simp only[aa,bc,Y4,aA,ZH,<-e1,h.bm,S,s1,C.bm,iD C.la,xg q,ld J];refine app e L λ u y A st hp=>?_;simp only[aa,bc,st];exact hp
 .obtain ⟨D,E⟩:∃x:fF,x=⟨r,0,s.c.id,aj .i64 (s.c.blocks-1),0,0,a,v,cd⟩:=⟨_,rfl⟩
  obtain⟨G,F⟩:∃x:fF,x=⟨r,0,s.c.id,aj .i64 (s.c.blocks-1),s.c.la.tries,0,a,v,cd⟩:=⟨_,rfl⟩
  have ev:CS.MI s.c r a v cd=⟨r,0,s.c.id,aj .i64 (s.c.blocks-1),s.c.la.tries,s.c.la.lane,a,v,cd⟩:=by unfold CS.MI;rw[qt q]
  unfold CS.tell;rw[ev];simp only[aa,bc,Y4,aA,ZH,<-e1,h.bm,S,s1,C.bm,iD C.la,q];refine C3.q (Zw C.la) λ w j⟨hw,B⟩=>?_;subst hw;have b:=C.em B;have Q:=J.em B;have t1:=Q.st 3 (v:=.int .i64 (aj .i64 (s.c.blocks-1))) rfl (by simp[fF.len]);have y1:e.enc.set 3 (.int .i64 (aj .i64 (s.c.blocks-1)))=D.enc:=by rw[he,E];rfl
  rw[y1]at t1;have R:=Q.set D.enc;have t2:=R.st 4 (v:=.int .i64 s.c.la.tries) rfl (by simp[fF.len]);have y2:D.enc.set 4 (.int .i64 s.c.la.tries)=G.enc:=by rw[E,F];rfl
  rw[y2]at t2;have T:=R.set G.enc;have t3:=T.st 5 (v:=.int .i64 s.c.la.lane) rfl (by simp[fF.len]);have y3:G.enc.set 5 (.int .i64 s.c.la.lane)=fF.enc ⟨r,0,s.c.id,aj .i64 (s.c.blocks-1),s.c.la.tries,s.c.la.lane,a,v,cd⟩:=by rw[F];rfl
  rw[y3]at t3;have d3:=T.set (fF.enc ⟨r,0,s.c.id,aj .i64 (s.c.blocks-1),s.c.la.tries,s.c.la.lane,a,v,cd⟩);have V:Fr Em H _:=(((L.em B).set (.inr (qm _)) (OR D.enc kr)).set (.inr (qm _)) (OR G.enc kr)).set (.inr (qm _)) (OR (fF.enc ⟨r,0,s.c.id,aj .i64 (s.c.blocks-1),s.c.la.tries,s.c.la.lane,a,v,cd⟩) kr);have h6:=h.em V;simp only[aa,bc,Y4,aA,b.bm,iD b.la,t1,t2,t3,h6.bm,ld d3];refine app _ V λ u y A st hp=>?_;simp only[aa,bc,st];exact hp
end
end Go.Am
namespace Go.Am
open Lang Go.Proofs
variable{M:ak}[MK M]
section
variable{H H1 H':ar}{o o1:Nat->Nat}{p f l sp k k':Nat}{cv rv ov pv:AV}{c d:Co}{os os':List fF}{s t:CS}
def gZ.tt(a:∀z,z<H.au->o1 z=o z)(w:Fr (λ z=>o z≠0) H H1)(b:gZ H1 o1 p f l sp cv pv d os' k' H'):gZ H o p f l sp cv pv d os' k' H':=by
 have⟨o2,g,e,h,i,j⟩:=b;refine⟨o2,g,e,h,λ z q=>(i z (qn q w.au)).trans (a z q),w.trans j λ z q=>?_⟩;rcases xx z H.au with r|r
 .exact .inl (by rw[<-a z r];exact q)
 .exact .inr r
def dU.loc(h:dU H o p f l sp cv rv ov pv c os k)(a:Fr Em H H1)(hn:H.au<H1.au):dU H1 (aL o H.au 0) p f l sp cv rv ov pv c os k/\(∀z,z<H.au->aL o H.au 0 z=o z)/\aL o H.au 0 H.au=0 :=
 ⟨h.fr a (λ _ _ _ q=>q) (λ z q=>iQ q) (qm _),λ z q=>iQ q,mW (qm _)⟩
def dU.nT(h:dU H o p f l sp cv rv ov pv c os k){H1:ar}(a:Fr (On p) H H1):Fr (λ z=>o z≠0) H H1:=a.mono λ z _(q:z=p)=>by rw[q,h.op];decide
def dU.one(h:dU H o p f l sp cv rv ov pv c os k){H1:ar}(a:Fr (On p) H H1)(b:gZ H1 o p f l sp cv pv d os' k' H'):gZ H o p f l sp cv pv d os' k' H':=gZ.tt (λ _ _=>rfl) (h.nT a) b
def KZ(h:dU H o p f l sp cv rv ov pv s.c s.o k)(n:Int):zk M Ym [.ptr p 0,.int .i64 n] H λ _ H'=>gZ H o p f l sp cv pv (s.fA n).c (s.fA n).o k H':=by
 refine qzz ?_;simp only[aa,bc,qz0,aA,h.bm];refine C3.q (Jr h.fi n) λ _ H1 hp=>?_;have⟨o1,m,j,a,b,e⟩:=h.Ih hp;have⟨r,s2,i,g⟩:=a.put 19 (v:=.int .i64 (aj .i64 (s.c.pe+1))) (s.fA n).c rfl (by decide) rfl ⟨rfl,rfl,rfl,rfl⟩ rfl {a.w with};simp only[aa,bc,aA,a.bm,s2];exact gZ.tt b e (a.CQ g i)
def Ξ(h:dU H o p f l sp cv rv ov pv s.c s.o k):zk M ql [.ptr p 0] H λ _ H'=>gZ H o p f l sp cv pv s.leave.c s.leave.o k H':=by
 refine qxf ?_;simp only[aa,bc,qxg,aA,h.bm];refine C3.q (Mb h.la) λ _ H1 hp=>?_;have⟨o1,z,x,a,g,j⟩:=h.Vv hp;simp only[aa,bc,aA,a.bm];refine C3.q (Rl a.fi) λ _ D hp=>?_;have⟨o2,A,y,b,i,m⟩:=a.Ih hp;have⟨E,B,e,n⟩:=b.put 16 (v:=.bool B2) {s.c with la:=s.c.la.leave,fi:=s.c.fi.drop,held:=B2} rfl (by decide) rfl ⟨rfl,rfl,rfl,rfl⟩ rfl {b.w with};have⟨F,C,u,r⟩:=e.put 6 (v:=.int .i64 0) s.leave.c rfl (by decide) rfl ⟨rfl,rfl,rfl,rfl⟩ rfl {e.w with};simp only[aa,bc,aA,B,C];exact gZ.tt g j (gZ.tt i m (b.one n (e.CQ r u)))
def tN(h:dU H o p f l sp cv rv ov pv s.c s.o k)(hl:s.o.length<=1000):zk M U_ [.ptr p 0] H λ _ H'=>gZ H o p f l sp cv pv s.aq.c s.aq.o k H':=by
 refine qqv ?_;have fin:∀{H1:ar}{o1:Nat->Nat}{b a:AV}{t:CS},dU H1 o1 p f l sp cv b a pv t.c t.o k -> ∃r e,Op.store 1 [.ptr p 17,.bool B4] H1=B1 (.undef,r)/\Op.store 1 [.ptr p 16,.bool B2] r=B1 (.undef,e)/\gZ H1 o1 p f l sp cv pv {t.c with said:=B4,held:=B2} t.o k e:=λ{H1 o1 b a t}g=>by
  have⟨e,i,n,y⟩:=g.put 17 (v:=.bool B4) {t.c with said:=B4} rfl (by decide) rfl ⟨rfl,rfl,rfl,rfl⟩ rfl {g.w with};have⟨m,j,A,z⟩:=n.put 16 (v:=.bool B2) {t.c with said:=B4,held:=B2} rfl (by decide) rfl ⟨rfl,rfl,rfl,rfl⟩ rfl {n.w with};exact⟨e,m,i,j,g.one y (n.CQ z A)⟩
 unfold CS.aq;cases q:s.c.said with
 |true =>
  have⟨e,m,i,j,hp⟩:=fin h;simp only[aa,bc,Xi,aA,h.bm,q,i,j];exact hp
 |false =>
  simp only[aa,bc,Xi,aA,h.bm,q,zw];refine C3.q (F1 h hl 5 0 0 0) λ _ H1⟨o1,b,a,g,u,x⟩=>?_;have⟨e,m,i,j,hp⟩:=fin (t:=s.tell 5 0 0 0) g;simp only[aa,bc,Xi,aA,i,j];exact gZ.tt u x hp
def xej(s:CS):s.aq.o.length<=s.o.length+1:=by
 unfold CS.aq;simp only;split
 .omega
 .show (s.o ++ [_]).length<=_;rw[xe];simp
def xbr(s:CS):s.aq.leave.c.fi.pc=s.c.fi.pc:=by
 unfold CS.aq;simp only;split<;>rfl
def QO(h:dU H o p f l sp cv rv ov pv s.c s.o k)(hl:s.o.length<=1000):zk M pf [.ptr p 0] H λ _ H'=>gZ H o p f l sp cv pv s.bE.c s.bE.o k H':=by
 refine qtk ?_;simp only[aa,bc,qtl];refine C3.q (tN h hl) λ _ H1⟨o1,C,z,x,g,m⟩=>?_;simp only[aa,bc];refine C3.q (Ξ x) λ _ G⟨o2,D,A,a,i,n⟩=>?_;have e:=xbr s;simp only[aa,bc,aA,a.bm,fpc a.fi,e];refine C3.q (Jr a.fi (aj .i64 (s.c.fi.pc+1))) λ _ I hp=>?_;have⟨o3,E,B,b,j,r⟩:=a.Ih hp;have⟨J,F,y,u⟩:=b.put 19 (v:=.int .i64 (aj .i64 (s.aq.leave.c.pe+1))) s.bE.c rfl (by decide) rfl ⟨rfl,rfl,rfl,rfl⟩ rfl {b.w with};simp only[aa,bc,aA,b.bm,F];exact gZ.tt g m (gZ.tt i n (gZ.tt j r (b.CQ u y)))
def L_(h:dU H o p f l sp cv rv ov pv s.c s.o k)(hl:s.o.length<=1000)(cd:Int):zk M Vh [.ptr p 0,.int .i64 cd] H λ _ H'=>gZ H o p f l sp cv pv (s.abort cd).c (s.abort cd).o k H':=by
 refine qxa ?_;simp only[aa,bc,qxb];refine C3.q (F1 h hl 6 0 0 cd) λ _ H1⟨o1,B,y,a,g,m⟩=>?_;simp only[aa,bc,aA,a.bm];refine C3.q (xgr a.fi) λ _ F hp=>?_;have⟨o2,C,z,b,i,n⟩:=a.Ih hp;simp only[aa,bc,aA,b.bm];refine C3.q (LO b.la cd) λ _ G hp=>?_;have⟨o3,D,A,e,j,r⟩:=b.Vv hp;have⟨I,E,x,u⟩:=e.put 6 (v:=.int .i64 1) (s.abort cd).c rfl (by decide) rfl ⟨rfl,rfl,rfl,rfl⟩ rfl {e.w with};simp only[aa,bc,aA,E];exact gZ.tt g m (gZ.tt i n (gZ.tt j r (e.CQ u x)))
def ZS(h:dU H o p f l sp cv rv ov pv s.c s.o k)(hl:s.o.length<=1000):zk M oS [.ptr p 0] H λ _ H'=>gZ H o p f l sp cv pv s.breaks.c s.breaks.o k H':=by
 refine qvf ?_;simp only[aa,bc,qvg];refine C3.q (F1 h hl 6 0 0 7) λ _ H1⟨o1,D,A,a,g,m⟩=>?_;simp only[aa,bc,aA,a.bm];refine C3.q (xgr a.fi) λ _ J hp=>?_;have⟨o2,E,B,y,i,n⟩:=a.Ih hp;simp only[aa,bc];refine C3.q (Ξ (s:=(s.tell 6 0 0 7).fi .restore) y) λ _ K⟨o3,F,C,b,j,r⟩=>?_;have⟨L,G,e,u⟩:=b.put 20 (v:=.bool B4) {((s.tell 6 0 0 7).fi .restore).leave.c with halted:=B4} rfl (by decide) rfl ⟨rfl,rfl,rfl,rfl⟩ rfl {b.w with};have⟨N,I,z,x⟩:=e.put 21 (v:=.bool B4) s.breaks.c rfl (by decide) rfl ⟨rfl,rfl,rfl,rfl⟩ rfl {e.w with};simp only[aa,bc,aA,G,I];exact gZ.tt g m (gZ.tt i n (gZ.tt j r (b.one u (e.CQ x z))))
def QD(h:dU H o p f l sp cv rv ov pv c os k){u:Int}(hu:fH u):∀K,C3 M B4 (.func qsr) [.ptr p 0,.int .u64 u] H K=K B4 (.tuple [.int .i64 (if CS.I1 c u=B4 then 8+u else 0),.bool (CS.I1 c u)]) H:=by
 refine dI (q6v ?_);have g:=h.w.l2;have i:=h.w.l64;have w1:aj .i64 (c.lines-1)=c.lines-1:=kc (by omega) (by omega);have w2:aj .i64 ((c.lines-1)*8)=(c.lines-1)*8:=kc (by omega) (by omega);have b:aj .u64 ((c.lines-1)*8)=(c.lines-1)*8:=xhl (by omega) (by omega);unfold CS.I1
 by_cases q:(c.lines-1)*8<=u
 .have a:¬u<(c.lines-1)*8:=HD.2 q;simp only[aa,bc,nh,aA,h.bm,w1,w2,b,xg q,a,zw]
 .have a:u<(c.lines-1)*8:=Int.not_le.1 q;have w4:aj .i64 u=u:=kc (by have:=hu.1;omega) (by omega);have e:aj .i64 (8+u)=8+u:=kc (by have:=hu.1;omega) (by omega);simp only[aa,bc,nh,aA,h.bm,w1,w2,b,q,xg a,w4,e]
def UR(h:dU H o p f l sp cv rv ov pv s.c s.o k)(hl:s.o.length<=1000)(e:oA)(hu:fH e.addr){v:Int}(S:fH v):zk M VU [.ptr p 0,.agg (bj e),.int .u64 v] H λ _ H'=>gZ H o p f l sp cv pv (s.eQ e v).c (s.eQ e v).o k H':=by
 refine qvj ?_;obtain⟨H1,e1,I,-,-⟩:=cE H (OR (bj e) ju);have z:At H1 H.au ju _:=e1▸At.new H _ _;have⟨r,O,n1⟩:=h.loc I (show H.au<H1.au from z.2);have l4:Op.ae [.ptr H.au 4] H1=B1 (.int .u64 e.addr):=z.ld 4;have ce:AV.cells (.agg (bj e))=bj e:=z7 _;obtain⟨m,b⟩:∃m:Int,m=if s.c.la.lane=0 then 7 else 2:=⟨_,rfl⟩
 obtain⟨a,ha⟩:∃a:Int,a=if CS.I1 s.c e.addr=B4 then 8+e.addr else 0:=⟨_,rfl⟩
 have n:=QD (M:=M) r hu;rw[<-ha]at n;have main:∀{K:Bool->AV->ar->Prop},(∀w j o2 i g,dU j o2 p f l sp cv i g pv (s.tell m a v 0).c (s.tell m a v 0).o k->Op.ae [.ptr p 3] j=B1 (.ptr f 0)->Op.ae [.ptr H.au 2] j=B1 (.int .i64 e.pq)->(zk M Xb [.ptr f 0,.int .i64 e.pq,.int .u64 v] j λ _ x=>Op.ae [.ptr H.au 1] x=B1 (.int .i64 e.au)/\zk M Ym [.ptr p 0,.int .i64 e.au] x λ _ y=>gZ H o p f l sp cv pv (s.eQ e v).c (s.eQ e v).o k y)->K B4 w j)->C3 M B4 (.func YP) [.ptr p 0,.int .i64 m,.int .i64 a,.int .u64 v,.int .i64 0] H1 K:=λ hk=>by
  refine C3.q (F1 r hl m a v 0) λ w j⟨o2,i,g,u,G,J⟩=>?_;have F:=z.fr J (λ q=>q n1);have n2:o2 H.au=0:=(G _ z.2).trans n1;refine hk w j o2 i g u u.bm.2.2.2.1 (F.ld 2) ((KT u.fi e.pq S).mono λ _ x hp=>?_);have⟨o3,U,T,R,P,L⟩:=u.Ih hp;have N:=F.fr L (λ q=>q n2);refine⟨N.ld 1,(KZ (s:=(s.tell m a v 0).fi (·.set e.pq v)) R e.au).mono λ _ y hp=>?_⟩;have Q:s.eQ e v=((s.tell m a v 0).fi (·.set e.pq v)).fA e.au:=by rw[b,ha];rfl
  rw[Q];exact gZ.tt O (I.mono λ _ _ q=>q.elim) (gZ.tt G J (gZ.tt P L hp))
 by_cases q:s.c.la.lane=0
 .rw [xb q]at b;subst b;simp only[aa,bc,qmf,aA,ce,<-e1,l4,n,r.bm,iD r.la,xg q];refine main λ w j o2 i g u A B C=>?_;simp only[aa,bc,aA,A,B];refine C3.q C λ _ x⟨D,E⟩=>?_;simp only[aa,bc,D];refine C3.q E λ _ y hp=>?_;simp only[aa,bc];exact hp
 .rw [qt q]at b;subst b;simp only[aa,bc,qmf,aA,ce,<-e1,l4,n,r.bm,iD r.la,q];refine main λ w j o2 i g u A B C=>?_;simp only[aa,bc,aA,A,B];refine C3.q C λ _ x⟨D,E⟩=>?_;simp only[aa,bc,D];refine C3.q E λ _ y hp=>?_;simp only[aa,bc];exact hp
def Qj(h:dU H o p f l sp cv rv ov pv s.c s.o k)(hl:s.o.length<=1000)(b:Int)(e:oA)(a:Int):zk M ql5 [.ptr p 0,.int .i64 b,.agg (bj e),.int .i64 a] H λ _ H'=>gZ H o p f l sp cv pv (s.stored b e a).c (s.stored b e a).o k H':=by
 refine qvl ?_;obtain⟨H1,e1,i,-,-⟩:=cE H (OR (bj e) ju);have g:At H1 H.au ju _:=e1▸At.new H _ _;have⟨u,n,n1⟩:=h.loc i (show H.au<H1.au from g.2);have l3:Op.ae [.ptr H.au 3] H1=B1 (.int .u64 e.value):=g.ld 3;have ce:AV.cells (.agg (bj e))=bj e:=z7 _;simp only[aa,bc,qvm,ce,<-e1,l3];refine C3.q (F1 u hl b a e.value 0) λ _ m⟨o2,x,w,v,r,j⟩=>?_;have l1:Op.ae [.ptr H.au 1] m=B1 (.int .i64 e.au):=(g.fr j (λ q=>q n1)).ld 1;simp only[aa,bc,l1];refine C3.q (KZ (s:=s.tell b a e.value 0) v e.au) λ _ y hp=>?_;simp only[aa,bc];exact gZ.tt n (i.mono λ _ _ q=>q.elim) (gZ.tt r j hp)
end
end Go.Am
