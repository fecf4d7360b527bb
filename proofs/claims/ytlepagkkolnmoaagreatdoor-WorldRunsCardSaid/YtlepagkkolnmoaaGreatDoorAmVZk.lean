import Derived.Test.YtlepagkkolnmoaaGreatDoorAmVZf
import Derived.Test.YtlepagkkolnmoaaGreatDoorAmVZj
import Derived.Test.YtlepagkkolnmoaaGreatDoorAmVZh
set_option linter.defProp false
set_option linter.unusedVariables false
set_option linter.unusedSimpArgs false
set_option linter.unusedSectionVars false
set_option maxRecDepth 100000
open Bool renaming false→B2,true→B4
open False renaming elim→NT
open List renaming range→N7
open Nat renaming beq→J8
open Option renaming isSome→BL,none→B5,some→B1
open Nat renaming reduceEqDiff→bc
namespace Go.Am
open Lang Go.Proofs
variable{M:ao}[MK M]
def cG(p:Pr):List AV:=[.int .i64 p.a,.int .u64 p.v]
def BF(p:Pr):(cG p).length=2:=rfl
abbrev Fq(H:ar)(v:AV)(ps:List Pr):Prop:=aL cG wx 2 H v ps
def aL.mO{α:Type}{enc:α->List AV}{e size:Nat}{H:ar}{v:AV}{xs:List α}(h:aL enc e size H v xs){bytes:Nat}{zero:List AV}{x:AV}{a:α}(j:x.cells=enc a)(hs:(enc a).length=size)(q:zero.length=size)(f:aS (enc a)=B4)(k:0<size)
 (p:(xs.length+1)*bytes<=140737488355328) (i:xs.length+1<=140737488355328) {K:bF->(Nat->AV)->Bool->AV->ar->Prop} {m:Bool}
 (hk:∀d H',aL enc e size H' d (xs ++ [a])->Fr (aM v) H H'->(∀b,aM d b->aM v b\/H.au<=b)->K (.row x.cells e (0,0) B4) (Op.sliceTo 1 1) m d H') :
 jN m (Op.buildSlice e 1 zero [(0,size)] [x]) λ g o mk=>jN g (Op.append e size bytes [v,mk H.au] (H.alloc o)) (K o mk):=by
 refine nY h q (by rw[j];exact hs) (by rw[j];exact f) k p i λ d H' f l n=>hk d H' ?_ l n;unfold aL;rw[kq,xc]
 simpa[j]using f
def iB:List Pr->Int->Option Nat
 |[],_=>B5
 |x::r,a=>if x.a=a then B1 0 else(iB r a).map (·+1)
def JG:∀(ps:List Pr)(a:Int),dk ps a=(iB ps a).map λ i=>(ps.getD i ⟨0,0⟩).v
 |[],a=>rfl
 |x::r,a=>by
  unfold dk iB;split
  .rfl
  .rw [JG r a];cases iB r a<;>rfl
def pJ:∀{ps:List Pr}{a:Int}{i:Nat},iB ps a=B1 i->i<ps.length /\ ∃x,ps[i]? = B1 x/\x.a=a
 |x::r,a,i,h=>by
  unfold iB at h;split at h
  .cases h;exact⟨Nat.zero_lt_succ _,x,rfl,by assumption⟩
  .obtain ⟨j,f,rfl⟩:=xk.1 h;have⟨b,y,d,e⟩:=pJ f;exact⟨Nat.succ_lt_succ b,y,d,e⟩
def TG:∀{ps:List Pr}{a v:Int},iB ps a=B5->fN ps a v=ps ++ [⟨a,v⟩]
 |[],a,v,_=>rfl
 |x::r,a,v,h=>by
  unfold iB at h;split at h
  .cases h
  .rename_i q;rw[Option.map_eq_none_iff]at h;unfold fN;rw[qv q,TG h];rfl
def Uu:∀{ps:List Pr}{a v:Int}{i:Nat},iB ps a=B1 i->fN ps a v=ps.set i ⟨a,v⟩
 |x::r,a,v,i,h=>by
  unfold iB at h;unfold fN;split at h
  .rename_i q;cases h;rw[xb q];rfl
  .rename_i q;obtain⟨j,b,rfl⟩:=xk.1 h;rw[qv q,Uu b];rfl
def jW:List Pr->Nat->Nat->List (AV×AV×Nat)
 |[],_,_=>[]
 |x::r,i,c=>(.int .i64 x.a,.int .i64 (i:Int),c)::jW r (i+1) (c+1)
def X4:∀(ps:List Pr)(a:Int)(i c j:Nat),findKey .int (.int .i64 a) (jW ps i c) j=B1 ((iB ps a).map λ n=>(j+n,.int .i64 ((i+n:Nat):Int)))
 |[],a,i,c,j=>rfl
 |x::r,a,i,c,j=>by
  have e:aX .int (.int .i64 a) (.int .i64 x.a)=B1 (decide (a=x.a)):=by simp only[aX,rT,iY,J8,xv,PH]
  unfold jW findKey iB;rw[e,qr]
  by_cases q:x.a=a
  .rw [yq q.symm,xb q];rfl
  .rw [yo (λ w=>q w.symm),qv q,zo,X4 r a (i+1) (c+1) (j+1)];cases iB r a with
   |none=>rfl
   |some n=>simp only[Im];rw[show j+1+n=j+(n+1)by omega,show i+1+n=i+(n+1)by omega]
def I_:∀(ps:List Pr)(x:Pr)(i c:Nat),jW (ps ++ [x]) i c=jW ps i c ++ [(.int .i64 x.a,.int .i64 ((i+ps.length:Nat):Int),c+ps.length)]
 |[],x,i,c=>rfl
 |y::r,x,i,c=>by
  show _::jW (r ++ [x]) (i+1) (c+1)=_::(jW r (i+1) (c+1)++_);rw[I_ r x,zr];congr 3;simp only[ze,AV.int.injEq,Eo];constructor<;>omega
def xg8:∀(ps:List Pr)(n:Nat)(v:Int)(i c:Nat){x:Pr},ps[n]? = B1 x->jW (ps.set n ⟨x.a,v⟩) i c=jW ps i c
 |y::r,0,v,i,c,x,h=>by cases h;rfl
 |y::r,n+1,v,i,c,x,h=>by
  show _::jW (r.set n _) (i+1) (c+1)=_;rw[xg8 r n v (i+1) (c+1) h];rfl
structure vT(H:ar)(o:Nat->Nat)(t r:Nat)(ps:List Pr)(pv:AV)(mb c:Nat):Prop where
 row:At H r Jq [pv,.map mb]
 ow:Fq H pv ps
 mp:H.get mb=B1 (.map (jW ps 0 c) (c+ps.length))
 ml:mb<H.au
 le:ps.length<=128
 o0:o r=t
 o1:o mb=t+1
 o2:∀z,aM pv z->o z=t+2
section
variable{H H':ar}{o o':Nat->Nat}{t r mb c:Nat}{ps:List Pr}{pv:AV}
def vT.fr{W:Nat->Prop}(h:vT H o t r ps pv mb c)(a:Fr W H H')(hw:∀z,z<H.au->(o z=t\/o z=t+1\/o z=t+2) -> ¬W z)(ho:∀z,z<H.au->o' z=o z):vT H' o' t r ps pv mb c :=
 ⟨h.row.fr a (hw r h.row.2 (.inl h.o0)),Own.fr h.ow a λ z q=>hw z (Own.lt h.ow z q) (.inr (.inr (h.o2 z q))),(a.ai mb h.ml (hw mb h.ml (.inr (.inl h.o1)))).trans h.mp,qn h.ml a.au,h.le,(ho r h.row.2).trans h.o0,(ho mb h.ml).trans h.o1,λ z q=>(ho z (Own.lt h.ow z q)).trans (h.o2 z q)⟩
def Zx{b:Nat}{es:List (AV×AV×Nat)}{k:Nat}(h:H.get b=B1 (.map es k)):H.fp b=B1 (es,k):=by unfold ar.fp;rw[h]
def xmd(h:vT H o t r ps pv mb c)(a:Int):Op.lookup .int (.int .i64 0) B4 [.map mb,.int .i64 a] H=B1 (match iB ps a with|some i=>.tuple [.int .i64 (i:Int),.bool B4]|none=>.tuple [.int .i64 0,.bool B2]):=by
 simp only[Op.lookup,cS,xv,Zx h.mp,qr,X4];cases iB ps a<;>simp
def CM(h:vT H o t r ps pv mb c):bM cG 2 H pv ps:=aL.sl h.ow
def xU(h:vT H o t r ps pv mb c)(a:Int):∀K,C3 M B4 (.func u4) [.ptr r 0,.int .i64 a] H K=K B4 (.tuple [.int .u64 ((dk ps a).getD 0),.bool (dk ps a).isSome]) H:=by
 refine eB (q5b ?_);have l0:=h.row.ld 0;have l1:=h.row.ld 1;rw[JG];have f:=xmd h a;cases q:iB ps a with
 |none =>
  rw[q]at f;simp only[ae,bc,qro,aB,l1,f];rfl
 |some i =>
  rw[q]at f;obtain⟨d,x,b,-⟩:=pJ q;have sl:=CM h;have ix:=sl.idx b (z:=(i:Int)) rfl .i64;have ld:Op.ah [.ptr (aD pv) (cM 2 pv i+1)] H=B1 (.int .u64 x.v):=sl.ah BF b (j:=1) (by decide);simp only[ae,bc,qro,aB,l0,l1,f,ix,ld];simp only[Im,vz,vn,z8,b]
def S0(H:ar)(o:Nat->Nat)(t r:Nat)(ps:List Pr)(H':ar):Prop:=∃o' pv mb c,vT H' o' t r ps pv mb c/\(∀z,z<H.au->o' z=o z)/\Fr (λ z=>o z=t\/o z=t+1\/o z=t+2) H H'
def ED(h:vT H o t r ps pv mb c):zj M G' [.ptr r 0] H λ _ H'=>S0 H o t r [] H':=by
 refine q0f ?_;have l1:=h.row.ld 1;have s1:Op.bV [.map mb] H=B1 (.tuple [],H.set mb (.map [] (c+ps.length))):=by simp only[Op.bV,Zx h.mp,qr]
 have d:r≠mb:=λ q=>by have a:=h.o0;have b:=h.o1;rw[q]at a;omega
 have e:At (H.set mb (.map [] (c+ps.length))) r Jq [pv,.map mb]:=h.row.fr (cm H mb _) d;have s2:=e.st 0 (v:=.nils) rfl (by simp);simp only[ae,bc,q0g,aB,l1,s1,s2];refine⟨o,.nils,mb,c+ps.length,⟨e.set _,Own.nil ..,?_,h.ml,x9 _,h.o0,h.o1,λ z q=>(q.1 rfl).elim⟩,λ _ _=>rfl,?_⟩
 .rw [jv d,xg];rfl
 .exact ((cm H mb _).mono λ z _ q=>.inr (.inl ((congrArg o q).trans h.o1))).trans (cm _ r _) λ z q=>.inl (.inl ((congrArg o q).trans h.o0))
def Qx(h:vT H o t r ps pv mb c)(a v:Int)(hn:iB ps a=B5):zj M _T [.ptr r 0,.int .i64 a,.int .u64 v] H λ w H'=>w=.int .i64 (if ps.length=128 then 70 else 0)/\S0 H o t r (if ps.length=128 then ps else ps ++ [⟨a,v⟩]) H':=by
 refine q7h ?_;have l0:=h.row.ld 0;have l1:=h.row.ld 1;have ln:=(CM h).len;have hle:=h.le
 by_cases q:ps.length=128
 .have p:((ps.length:Nat):Int)=128:=by omega
  rw[xb q,xb q];simp only[ae,bc,qtm,aB,l0,ln,xf p];exact⟨o,pv,mb,c,h,λ _ _=>rfl,Fr.refl _⟩
 .have p:¬((ps.length:Nat):Int)=128:=by omega
  rw[qv q,qv q];have s1:Op.mapUpdate .int [.map mb,.int .i64 a,.int .i64 ((ps.length:Nat):Int)] H=B1 (.undef,H.set mb (.map (jW (ps ++ [⟨a,v⟩]) 0 c) (c+(ps ++ [(⟨a,v⟩:Pr)]).length))):=by
   simp only[Op.mapUpdate,cS,xv,Zx h.mp,qr,X4,hn,Option.map_none,I_,yf,xc,zr,yw];rfl
  obtain⟨H1,e1⟩:∃X,X=H.set mb (.map (jW (ps ++ [⟨a,v⟩]) 0 c) (c+(ps ++ [(⟨a,v⟩:Pr)]).length)):=⟨_,rfl⟩
  rw[<-e1]at s1;have j:Fr (On mb) H H1:=e1▸cm H mb _;have u:r≠mb:=λ q=>by have a:=h.o0;have b:=h.o1;rw[q]at a;omega
  have x:At H1 r Jq [pv,.map mb]:=h.row.fr j u;have np:∀z,aM pv z->z≠mb/\z≠r:=λ z w=>⟨λ e=>by have a:=h.o2 z w;have b:=h.o1;rw[e]at a;omega,λ e=>by have a:=h.o2 z w;have b:=h.o0;rw[e]at a;omega⟩
  have n:Fq H1 pv ps:=Own.fr h.ow j λ z w=>(np z w).1;have m:=x.ld 0;have A:Op.build [.int .i64 0,.int .u64 0] [(0,1),(1,1)] [.int .i64 a,.int .u64 v]=B1 (.agg (cG ⟨a,v⟩)):=rfl;simp only[ae,bc,qtm,aB,l0,ln,p,l1,s1,m,A];refine aL.mO (bytes:=16) n (a:=⟨a,v⟩) rfl rfl rfl rfl (by decide) (by omega) (by omega) λ pv' d i f s=>?_;have y:At d r Jq [pv,.map mb]:=x.fr f λ w=>(np r w).2 rfl;have one:aA pv'=true:=by have:=Sl.one (Own.sl i);exact this
  have B:=y.st 0 one (by simp);simp only[ae,bc,B];have k:Fr (On r) d (d.set r (OR [pv',.map mb] Jq)):=cm ..;have n1:H1.au=H.au:=by rw[e1];rfl
  have l:∀z,aM pv' z->z≠r/\z≠mb:=λ z w=>(s z w).elim (λ w=>⟨(np z w).2,(np z w).1⟩) λ w=>⟨λ e=>by have:=h.row.2;omega,λ e=>by have:=h.ml;omega⟩
  refine⟨aP o H.au (t+2),pv',mb,c,⟨y.set _,Own.fr i k λ z w=>(l z w).1,?_,?_,?_,(iZ h.row.2).trans h.o0,(iZ h.ml).trans h.o1,λ z w=>?_⟩,λ z w=>iZ w,?_⟩
  .show (d.set r (OR [pv',.map mb] Jq)).get mb=_;rw[k.ai mb (by have:=f.au;have:=h.ml;omega) (λ w=>u (show mb=r from w).symm),f.ai mb (by have:=h.ml;omega) λ w=>(np mb w).1 rfl,e1,xg]
  .have:=f.au;have:=h.ml;show mb<d.au;omega
  .rw [xc];simp only[zr,yw];omega
  .rcases s z w with w|w
   .exact (iZ (by have:=Own.lt h.ow z w;exact this)).trans (h.o2 z w)
   .exact nj (by omega)
  .exact ((j.mono λ z _ q=>.inr (.inl ((congrArg o q).trans h.o1))).trans f λ z q=>.inl (.inr (.inr (h.o2 z q)))).trans k λ z q=>.inl (.inl ((congrArg o q).trans h.o0))
end
def px(H:ar)(o:Nat->Nat)(g:Nat)(rd wr:List Pr):Prop:=∃r w v1 m1 c1 v2 m2 c2,At H g TD [.ptr r 0,.ptr w 0]/\o g=9/\vT H o 10 r rd v1 m1 c1/\vT H o 20 w wr v2 m2 c2
def vU(H:ar)(o:Nat->Nat)(g:Nat)(rd wr:List Pr)(H':ar):Prop:=∃o',px H' o' g rd wr/\(∀z,z<H.au->o' z=o z)/\Fr (λ z=>9<=o z/\o z<=22) H H'
section
variable{H H':ar}{o o':Nat->Nat}{g:Nat}{rd wr:List Pr}
def px.fr{W:Nat->Prop}(h:px H o g rd wr)(a:Fr W H H')(hw:∀z,z<H.au->9<=o z -> ¬W z)(ho:∀z,z<H.au->o' z=o z):px H' o' g rd wr:=by
 have⟨r,w,v1,l,d,v2,m,f,b,i,j,k⟩:=h;exact⟨r,w,v1,l,d,v2,m,f,b.fr a (hw g b.2 (by omega)),(ho g b.2).trans i,j.fr a (λ z q e=>hw z q (by omega)) ho,k.fr a (λ z q e=>hw z q (by omega)) ho⟩
def px.Gf{W:Nat->Prop}(h:px H o g rd wr)(a:Fr W H H')(hw:∀z,z<H.au->9<=o z/\o z<=22 -> ¬W z):px H' o g rd wr:=by
 have⟨r,w,v1,l,d,v2,m,f,b,i,j,k⟩:=h;exact⟨r,w,v1,l,d,v2,m,f,b.fr a (hw g b.2 (by omega)),i,j.fr a (λ z q e=>hw z q (by omega)) λ _ _=>rfl,k.fr a (λ z q e=>hw z q (by omega)) λ _ _=>rfl⟩
def px.same(h:px H o g rd wr):vU H o g rd wr H:=⟨o,h,λ _ _=>rfl,Fr.refl _⟩
def nO(h:px H o g rd wr):∀K,C3 M B4 (.func C') [.ptr g 0] H K=K B4 (.bool B2) H:=by
 obtain⟨r,w,v1,e,b,v2,f,d,a,-⟩:=h;have l0:=a.ld 0;refine eB (q7d ?_);simp only[ae,bc,q7e,aB,l0]
def W8(h:px H o g rd wr)(a:Int):∀K,C3 M B4 (.func _K) [.ptr g 0,.int .i64 a] H K=K B4 (.tuple [.int .u64 ((dk rd a).getD 0),.bool (dk rd a).isSome]) H:=by
 have b:=h;have⟨r,w,v1,l,f,v2,m,i,d,j,e,k⟩:=h;have l0:=d.ld 0;refine eB (xaa ?_);simp only[ae,bc,xab,aB,nO b,l0,xU e]
def Qg(h:px H o g rd wr)(a:Int):∀K,C3 M B4 (.func qs2) [.ptr g 0,.int .i64 a] H K=K B4 (.tuple [.int .u64 ((dk wr a).getD 0),.bool (dk wr a).isSome]) H:=by
 have b:=h;have⟨r,w,v1,l,f,v2,m,i,d,j,k,e⟩:=h;have l1:=d.ld 1;refine eB (q7a ?_);simp only[ae,bc,q7b,aB,nO b,l1,xU e]
def px.J_{H1:ar}{g r w:Nat}{v1 v2:AV}{n j i f:Nat}{a:List Pr}(h:At H g TD [.ptr r 0,.ptr w 0])(k:o g=9)(q:vT H o 10 r rd v1 n j)(l:vT H o 20 w wr v2 i f)(p:S0 H o 10 r a H1):vU H o g a wr H1:=by
 have⟨o',pv,mb,c,m,b,d⟩:=p;exact⟨o',⟨r,w,pv,mb,c,v2,i,f,h.fr d (by omega),(b g h.2).trans k,m,l.fr d (λ z _ e=>by omega) b⟩,b,d.mono λ z _ e=>by omega⟩
def px.WK{H1:ar}{g r w:Nat}{v1 v2:AV}{i f n j:Nat}{a:List Pr}(h:At H g TD [.ptr r 0,.ptr w 0])(k:o g=9)(l:vT H o 10 r rd v1 i f)(q:vT H o 20 w wr v2 n j)(p:S0 H o 20 w a H1):vU H o g rd a H1:=by
 have⟨o',pv,mb,c,m,b,d⟩:=p;exact⟨o',⟨r,w,v1,i,f,pv,mb,c,h.fr d (by omega),(b g h.2).trans k,l.fr d (λ z _ e=>by omega) b,m⟩,b,d.mono λ z _ e=>by omega⟩
def vU.then{H1 a:ar}{e w1 f w2:List Pr}(p:vU H o g e w1 H1)(k:∀o1,px H1 o1 g e w1->vU H1 o1 g f w2 a):vU H o g f w2 a:=by
 have⟨o1,h,b,d⟩:=p;have⟨o2,i,j,l⟩:=k o1 h;refine⟨o2,i,λ z q=>(j z (qn q d.au)).trans (b z q),d.trans l λ z q=>?_⟩;rcases xw z H.au with w|w
 .rw [b z w]at q;exact .inl q
 .exact .inr w
def Ll(H:ar)(o:Nat->Nat)(g:Nat)(ps:List Pr)(a:Int)(e:AV)(A:Prop)(B:Prop):Prop:=(dk ps a=B5/\ps.length=128/\e=.int .i64 70/\A)\/(¬(dk ps a=B5/\ps.length=128)/\e=.int .i64 0/\B)
def JQ(h:px H o g rd wr){a:Int}(ha:0<=a)(v:Int):zj M _X [.ptr g 0,.int .i64 a,.int .u64 v] H λ e H'=>Ll H o g rd a e (vU H o g rd wr H') (vU H o g (if dk rd a=B5 then rd ++ [⟨a,v⟩]else rd) wr H'):=by
 refine q7c ?_;have f:=h;have⟨r,w,v1,p,m,v2,s,n,i,j,b,k⟩:=h;have l0:=i.ld 0;have l:¬a<0:=HV.2 ha;cases q:dk rd a with
 |some y =>
  simp only[ae,bc,_C,aB,nO f,l,l0,xU b,q,BL];refine .inr ⟨λ w=>?_,rfl,?_⟩
  .rw [q]at w;cases w.1
  .rw [qv (by simp)];exact f.same
 |none =>
  have hn:iB rd a=none:=by rw[JG]at q;exact Option.map_eq_none_iff.1 q
  simp only[ae,bc,_C,aB,nO f,l,l0,xU b,q,BL];refine C3.q (Qx b a v hn) λ e H1⟨he,hp⟩=>?_;subst he;simp only[ae,bc]
  by_cases d:rd.length=128
  .rw [xb d]at hp⊢;exact .inl ⟨q,d,rfl,px.J_ i j b k hp⟩
  .rw [qv d]at hp⊢;exact .inr ⟨λ w=>d w.2,rfl,px.J_ i j b k hp⟩
def LS(h:px H o g rd wr):zj M qql [.ptr g 0] H λ _ H'=>vU H o g [] [] H':=by
 refine q46 ?_;have x:=h;have⟨r,w,v1,F,E,v2,C,v,d,k,y,A⟩:=h;have l0:=d.ld 0;simp only[ae,bc,q47,aB,nO x,l0];refine C3.q (ED y) λ _ H1 hp=>?_;have⟨o',pv,mb,c,u,b,i⟩:=hp;have f:=A.fr i (λ z _ e=>by omega) b;have a:=d.fr i (by omega);have l1:=a.ld 1;simp only[ae,bc,aB,l1];refine C3.q (ED f) λ _ D l=>?_;simp only[ae,bc];have G:vU H o g [] wr H1:=⟨o',⟨r,w,pv,mb,c,v2,C,v,a,(b g d.2).trans k,u,f⟩,b,i.mono λ z _ e=>by omega⟩
 have⟨o2,s,p,j,B,m,n⟩:=l;refine⟨o2,⟨r,w,pv,mb,c,s,p,j,a.fr n (by have:=(b g d.2).trans k;omega),(m g a.2).trans ((b g d.2).trans k),u.fr n (λ z _ e=>by omega) m,B⟩,λ z q=>(m z (qn q i.au)).trans (b z q),(i.mono λ z _ e=>by omega).trans n λ z q=>?_⟩;rcases xw z H.au with w|w
 .rw [b z w]at q;exact .inl (by omega)
 .exact .inr w
def MT(h:px H o g rd wr){a:Int}(ha:0<=a)(v:Int):zj M P_ [.ptr g 0,.int .i64 a,.int .u64 v] H λ e H'=>Ll H o g wr a e (vU H o g rd wr H') (vU H o g rd (fN wr a v) H'):=by
 refine q5a ?_;have C:=h;have⟨r,w,v1,L,J,v2,l,B,k,n,p,b⟩:=h;have l1:=k.ld 1;have E:¬a<0:=HV.2 ha;have D:=b.row.ld 1;have F:=b.row.ld 0;have f:=xmd b a;cases q:iB wr a with
 |some i =>
  rw[q]at f;have⟨K,x,s,I⟩:=pJ q;have sl:=CM b;have ix:=sl.idx s (z:=(i:Int)) rfl .i64;have⟨H1,s1,A,d⟩:=aL.Au BF b.ow s (j:=1) (by decide) (u:=.int .u64 v) rfl (y:=⟨x.a,v⟩) rfl;simp only[ae,bc,H_,aB,nO C,E,l1,D,f,F,ix,s1];refine .inr ⟨λ w=>(by rw[JG,q]at w;cases w.1),rfl,?_⟩;rw[Uu q,<-I];have n1:¬aM v2 w:=λ e=>by have:=b.o2 w e;have:=b.o0;omega
  have n2:¬aM v2 l:=λ e=>by have:=b.o2 l e;have:=b.o1;omega
  refine px.WK k n p b ⟨o,v2,l,B,⟨b.row.fr d n1,A,?_,qn b.ml d.au,by rw[xq];exact b.le,b.o0,b.o1,b.o2⟩,λ _ _=>rfl,d.mono λ z _ q=>.inr (.inr (b.o2 z q))⟩;rw[xg8 wr i v 0 B s,xq,d.ai l b.ml n2];exact b.mp
 |none =>
  have G:dk wr a=none:=by rw[JG,q];rfl
  rw[q]at f;simp only[ae,bc,H_,aB,nO C,E,l1,D,f];refine C3.q (Qx b a v q) λ e H1⟨he,hp⟩=>?_;subst he;simp only[ae,bc]
  by_cases m:wr.length=128
  .rw [xb m]at hp⊢;exact .inl ⟨G,m,rfl,px.WK k n p b hp⟩
  .rw [qv m]at hp⊢;rw[TG q];exact .inr ⟨λ w=>m w.2,rfl,px.WK k n p b hp⟩
end
end Go.Am
namespace Go.Am
open Lang Go.Proofs
variable{M:ao}[MK M]
def NR(v:AV)(i:Nat):AV:=.ptr (aD v) (cM 2 v i)
def Su{H1:ar}(e:Pr):Op.store 2 [.ptr H1.au 0,.agg (cG e)] (H1.alloc (OR [.int .i64 0,.int .u64 0] wx))=B1 (.undef,(H1.alloc (OR [.int .i64 0,.int .u64 0] wx)).set H1.au (OR (cG e) wx)):=(At.new H1 _ _).ij (k:=0) (n:=2) rfl (by decide) rfl
def xkk{H0:ar}{p:Nat}{v:AV}{ys:List Pr}(Z:Fq H0 v ys)(hp:H0.get p=B1 (OR [v] nS))(U:p<H0.au)(hl:ys.length<=1000000) :
 pH M vr [] [.ptr p 0] (λ x=>x=p\/aM v x) (λ _=>False) H0 ((N7 ys.length).map λ(i:Nat)=>[.int .i64 (i:Int),.agg (cG (ys.getD i ⟨0,0⟩))]):=by
 intro Y R S j H1 G K C D loc N step;have⟨p1,p2,p3⟩:=K p (.inl (.inl rfl))
 suffices h:zj M vr [.fn (.yield Y) [] [],.ptr p 0] H1 (Ic R S j (λ _=>False) H1 ((N7 ys.length).map λ(i:Nat)=>[AV.int .i64 (i:Int),AV.agg (cG (ys.getD i ⟨0,0⟩))]).length)by
  have⟨v,H',P,W',q1,q2,q3⟩:=h.elim;exact⟨v,H',W',P,q1,q2,q3⟩
 refine qo1 ?_;have lp:Op.ah [.ptr p 0] H1=B1 v:=by rw[zg (xe (by rw[p2];exact hp))];rfl
 have L:∀{a:ar},Fr j H1 a->Fq a v ys:=λ{a}f =>
  Own.fr Z (⟨zd G f.au,λ y d hw=>by
   have⟨y1,y2,y3⟩:=K y (.inl (kj.1 hw));rw[f.ai y (by omega) y3,y2]⟩:Fr (λ y=>¬(y=p\/aM v y)) H0 a) λ y d w=>w (.inr d)
 rw[xu,jd];simp only[ae,bc,Uf,lp,(aL.sl (L (Fr.refl _))).len];refine dm.intro (λ n E a=>∃(i:Nat)(V:Nat->Prop),E=[(7,.int .i64 (i:Int)),(6,.int .i64 ((ys.length:Nat):Int)),(5,v),(0,.fn (.yield Y) [] []),(1,.ptr p 0)]/\n=ys.length-i/\i<=ys.length/\Ov R j H1 a i V) ?_ ?_
 .exact ⟨_,_,⟨0,j,rfl,rfl,x9 _,⟨C,λ b hb=>⟨D b hb,.inl hb⟩,Fr.refl _⟩⟩,by simp only[ae,bc]⟩
 rintro n E a ⟨i,V,rfl,rfl,hi,hI⟩;rcases xw i ys.length with s|T
 .have B:(i:Int)<((ys.length:Nat):Int):=by omega
  obtain⟨e,he⟩:∃e,ys[i]? = B1 e:=⟨ys[i],by simp[s]⟩
  have sl:=aL.sl (L hI.fr);have ix:Op.aT 2 [v,.int .i64 (i:Int)]=B1 (NR v i):=sl.idx he rfl .i64;have ld:Op.aw 2 [NR v i] a=B1 (.agg (cG e)):=sl.aw BF (by decide) he;have bx:=Su (H1:=a) e;obtain⟨u,e2⟩:∃X,X=(a.alloc (OR [.int .i64 0,.int .u64 0] wx)).set a.au (OR (cG e) wx):=⟨_,rfl⟩
  rw[<-e2]at bx;have z:Fr Em a u:=by rw[e2];exact yB _ _
  have O:u.get a.au=B1 (OR (cG e) wx):=by rw[e2,xg]
  have I:Op.aw 2 [.ptr a.au 0] u=B1 (.agg (cG e)):=tD (xe O) (by simp[cG]);have n2:=z.au;have⟨bb,J,A,hr,Q,m,W,hs⟩:=step i [.int .i64 (i:Int),.agg (cG e)] (by rw[xj,js s,Im,z8,he];rfl) V u (loc _ _ _ _ hI.hR (λ y d=>z.ai y (hI.hV y d).1 id) n2) (λ y d=>⟨by have:=(hI.hV y d).1;omega,(hI.hV y d).2⟩) ((hI.fr.em z).mono λ _ _ q=>.inl q);have k:Fr j H1 J:=(hI.fr.em z).trans Q λ y q=>(hI.hV y q).2;have l:∀y,A y->y<J.au/\(j y\/H1.au<=y):=λ y q=>⟨(m y q).1,(m y q).2.elim (λ w=>(hI.hV y w).2) λ w=>.inr (by have:=hI.fr.au;omega)⟩
  have wj:ak .i64 ((i:Int)+1)=((i+1:Nat):Int):=by rw[ju (by omega) (by omega)];omega
  simp only[ae,bc,Uf,B,ix,ld,bx,I];refine C3.tZ hr ?_;cases bb with
  |true =>
   simp only[ae,bc,Uf,wj];exact⟨_,_,⟨i+1,A,rfl,rfl,by omega,⟨W rfl,l,k⟩⟩,by simp only[ae,bc],by omega⟩
  |false =>
   simp only[ae,bc];exact⟨A,k.mono λ _ _ q=>.inl q,l,.inr (hs rfl)⟩
 .have B:¬(i:Int)<((ys.length:Nat):Int):=by omega
  have F:i=ys.length:=by omega
  simp only[ae,bc,Uf,B];exact⟨V,hI.fr.mono λ _ _ q=>.inl q,hI.hV,.inl (by rw[<-F];exact hI.hR)⟩
structure SC(ys:List Pr)(t:Nat)(i:Nat)(V:Nat->Prop)(Hx:ar):Prop where
 vt:V t
 lt:t<Hx.au
 ls:∃lv,Hx.get t=B1 (OR [lv] nS)/\Fq Hx lv (ys.take i) /\ ∀a,aM lv a->V a/\t<a
def SC.loc{ys:List Pr}{t i:Nat}{V:Nat->Prop}{a Hb:ar}(h:SC ys t i V a)(hs:∀x,V x->Hb.get x=a.get x)(hn:a.au<=Hb.au):SC ys t i V Hb:=by
 have⟨lv,l1,l2,l3⟩:=h.ls;refine⟨h.vt,qn h.lt hn,lv,by rw[hs _ h.vt];exact l1,?_,l3⟩;exact Own.fr l2 (⟨hn,λ b _ hw=>hs b (kj.1 hw)⟩:Fr (λ b=>¬V b) a Hb) λ x d w=>w (l3 x d).1
section
variable{H H':ar}{o o':Nat->Nat}{t r mb c:Nat}{ps:List Pr}{pv:AV}
def xk4{α:Type}{enc:α->List AV}{e size:Nat}{H:ar}{v:AV}{xs:List α}(h:aL enc e size H v xs):AV.cells v=[v]:=by
 obtain⟨_,⟨_,rfl|⟨_,rfl,_⟩⟩|⟨_,rfl,_,_⟩⟩:=h<;>rfl
def yP{α:Type}{enc:α->List AV}{e size:Nat}{H:ar}{v:AV}{xs:List α}(h:aL enc e size H v xs)(a:xs≠[]):aM v (aD v):=⟨λ w=>by
 subst w;have:=(aL.sl h).len;have q:Op.dp [AV.nils]=B1 (.int .i64 0):=rfl;rw[q]at this;injection this with this;injection this with _ this
 exact a (jf.1 (by omega)),rfl⟩
def JA(h:vT H o t r ps pv mb c):zj M P9 [.ptr r 0] H λ v H'=>Fq H' v ps/\(∀z,aM v z->H.au<=z)/\Fr Em H H':=by
 refine xi5 ?_;have⟨H1,e1,f1,n1,g1⟩:=cI H (OR [.nils] nS);obtain⟨D,e2,E,-,g2⟩:=cI H1 (OR [pv] nS);have n2:D.au=H.au+2:=by rw[e2,xz,n1]
 have O:D.get H.au=B1 (OR [.nils] nS):=by rw[E.ai _ (by omega) id];exact g1
 have f2:=f1.em E;have ow2:Fq D pv ps:=Own.em h.ow f2;have l0:=(h.row.em f1).ld 0;have al:zj M qs5 [.ptr r 0] H1 λ v H'=>v=.fn (.func vr) [] [.ptr H1.au 0]/\H'=D:=by
  refine q7f ?_;simp only[ae,bc,q7g,aB,l0];refine C3.q (R:=λ v H'=>v=.fn (.func vr) [] [.ptr H1.au 0]/\H'=D) ?_ λ v H' q=>?_
  .refine qrs ?_;have mk:Op.bB vr 0 [.ptr H1.au 0]=B1 (.fn (.func vr) [] [.ptr H1.au 0]):=rfl;simp only[ae,bc,qrt,xk4 h.ow,<-e2];rfl
  .simp only[ae,bc];exact q
 simp only[ae,bc,YN,<-e1];refine C3.q al λ v H'⟨hv,hh⟩=>?_;subst hv;subst hh;simp only[ae,bc];have hl:=h.le;have lv:∀z,aM pv z->z<H.au:=λ z q=>Own.lt h.ow z q;refine iA.iter (fn:=Uq) (lp:=Pu) (pa:=ZS 0) (pb:=Y6 0) xfc w_.1 w_.2 (by decide) xcv xcw
  (xkk ow2 g2 (by omega) (by omega)) (λ i V Hx=>SC ps H.au i V Hx) (λ _ _ _=>False) (λ x=>x=H.au) (qm _) ?_ ?_ ?_ ?_ ?_ ?_ ?_ ?_
 .rintro x ((q|q)|q)
  .exact ⟨by omega,rfl,λ w=>by omega⟩
  .have:=lv x q;exact⟨by omega,rfl,λ w=>by omega⟩
  .exact q.elim
 .exact λ x U=>by omega
 .exact ⟨rfl,by omega,.nils,O,Own.nil ..,λ x q=>(q.1 rfl).elim⟩
 .exact λ i V Ha Hb h hs hn=>h.loc hs hn
 .exact λ e V Ha Hb h _ _=>h
 .intro L i lr lb x U hL V l b hV hf6 B P S;rw[xj,xk]at U;obtain⟨j,T,rfl⟩:=U;have G:i<ps.length:=by have:=(qo.1 T).1;rw[jd]at this;exact this
  rw[js G]at T;cases T;obtain⟨e,hk⟩:∃e,ps[i]? = B1 e:=⟨ps[i],by simp[G]⟩
  have he:ps.getD i ⟨0,0⟩=e:=by rw[z8,hk];rfl
  rw[he];refine⟨_,rfl,?_⟩;obtain⟨-,wa,wb,-⟩:=YN M ⟨B1 L,P9⟩;have bx:=Su (H1:=l) e;obtain⟨m,K⟩:∃X,X=(l.alloc (OR [.int .i64 0,.int .u64 0] wx)).set l.au (OR (cG e) wx):=⟨_,rfl⟩
  rw[<-K]at bx;have N:Fr Em l m:=by rw[K];exact yB _ _
  have n7:m.au=l.au+1:=by rw[K];rfl
  have g7:m.get l.au=B1 (OR (cG e) wx):=by rw[K,xg]
  simp only[ae,bc,wa,bx,zT];refine⟨by rw[N.ai L P id];exact S,?_⟩;have gL:(m.set L lb).get L=B1 lb:=xg ..;have g8:(m.set L lb).get l.au=B1 (OR (cG e) wx):=by rw[jv (by omega)];exact g7
  have f8:Fr (λ y=>V y\/y=L) l (m.set L lb):=(N.mono λ _ _ q=>q.elim).set (.inl (.inr rfl)) _;have u:=b.loc (Hb:=m.set L lb) (λ y hy=>by rw[jv (λ q:L=y=>B (by rw[q];exact hy)),N.ai y (hV y hy).1 id]) (by rw[oO];omega);have n8:(m.set L lb).au=l.au+1:=by rw[oO,n7]
  generalize m.set L lb=H8 at *;have⟨f,l1,l2,l3⟩:=u.ls;have Y:Op.ah [.ptr H.au 0] H8=B1 f:=zg (xe l1) 0;have ld:Op.aw 2 [.ptr l.au 0] H8=B1 (.agg (cG e)):=tD (xe g8) (by simp[cG]);have mK:(ps.take i).length<=128:=by rw[zx];omega
  simp only[ae,bc,wb,Y,ld];refine aL.mO (bytes:=16) l2 (a:=e) rfl rfl rfl rfl (by decide) (by omega) (by omega) λ k J A p F=>?_;have q9:At J H.au nS [f]:=⟨by rw[p.ai _ u.lt λ q=>by have:=(l3 _ q).2;omega];exact l1,qn u.lt p.au⟩
  have o1:aA k=true:=by have:=Sl.one (Own.sl A);exact this
  have st:=q9.st 0 o1 (by simp);obtain⟨C,n⟩:∃X,X=J.set H.au (OR ([f].set 0 k) nS):=⟨_,rfl⟩
  rw[<-n]at st;have s:Fr (On H.au) J C:=by rw[n];exact cm ..
  simp only[ae,bc,st];have I:∀y,aM k y->H.au<y:=λ y q=>(F y q).elim (λ q=>(l3 y q).2) λ q=>by have:=b.lt;omega
  have nf:=p.au;have Z:C.au=J.au:=by rw[n];rfl
  have tk:ps.take (i+1)=ps.take i ++ [e]:=by rw[vg,hk];rfl
  refine⟨rfl,?_,λ y=>V y\/aM k y,?_,?_,.inl ⟨rfl,.inl b.vt,by have:=b.lt;omega,k,by rw[n,xg];rfl,?_,λ y q=>⟨.inr q,I y q⟩⟩⟩
  .rw [s.ai L (by omega) (λ(q:L=H.au)=>B (by rw[q];exact b.vt)),p.ai L (by omega) λ q=>B (l3 _ q).1];exact gL
  .rintro y (q|q)
   .exact ⟨by have:=(hV y q).1;omega,.inl q⟩
   .refine ⟨by rw[Z];exact Own.lt A y q,?_⟩;rcases F y q with w|w
    .exact .inl (l3 y w).1
    .exact .inr (by omega)
  .exact ((f8.trans p λ y q=>.inl (.inl (l3 y q).1)).trans s λ y(q:y=H.au)=>.inl (.inl (by rw[q];exact b.vt)))
  .rw [tk];exact Own.fr A s λ y q(w:y=H.au)=>by have:=I y q;omega
 .rintro d V H' hd Q hg p hV b;rw[xu,jd]at b;have⟨f,l1,l2,l3⟩:=b.ls;rw[GJ]at l2;have hd':d≠H.au:=by omega
  have fd:Fr (On d) H' (H'.set d (.deferred B5)):=(Fr.refl H').set (W:=On d) (.inl rfl) _;have Y:Op.ah [.ptr H.au 0] H'=B1 f:=zg (xe l1) 0;simp only[ae,bc,YN,Y];refine⟨hg,Own.fr l2 fd λ z q(w:z=d)=>(hV z (l3 z q).1).2.2 w,λ z q=>?_,?_⟩
  .have:=(l3 z q).2;omega
  .exact (f2.trans (p.mono λ z _ q=>q.elim id NT) λ z q=>.inr (by omega)).trans fd λ z(q:z=d)=>.inr (by omega)
 .rintro e d V H' he hd Q hg p hV b;exact b.elim
end
section
variable{H H':ar}{o o':Nat->Nat}{g:Nat}{rd wr:List Pr}
def M4(h:px H o g rd wr):zj M vo [.ptr g 0] H λ v H'=>Fq H' v rd/\(∀z,aM v z->H.au<=z)/\Fr Em H H':=by
 refine q48 ?_;have a:=h;have⟨r,w,v1,k,e,v2,l,f,b,i,d,j⟩:=h;have l0:=b.ld 0;simp only[ae,bc,q49,aB,nO a,l0];refine C3.q (JA d) λ v H1 hp=>?_;simp only[ae,bc];exact hp
def xQ(h:px H o g rd wr):zj M _n [.ptr g 0] H λ v H'=>Fq H' v wr/\(∀z,aM v z->H.au<=z)/\Fr Em H H':=by
 refine q0d ?_;have a:=h;have⟨r,w,v1,k,e,v2,l,f,b,i,j,d⟩:=h;have l1:=b.ld 1;simp only[ae,bc,q0e,aB,nO a,l1];refine C3.q (JA d) λ v H1 hp=>?_;simp only[ae,bc];exact hp
end
end Go.Am
namespace Go.Am
open Lang Go.Proofs
variable{M:ao}[MK M]
def Bx(H:ar)(o:Nat->Nat)(b:Nat)(v:AV):Prop:=H.bQ b=B1 [v]/\b<H.au/\o b=30
def By(H:ar)(o:Nat->Nat)(b:Nat)(v:AV):Prop:=(∃t,H.get b=B1 (OR [v] t))/\b<H.au/\o b=31
def mq(f:Nat)(l:List Nat):AV:=.fn (.func f) [] (l.map λ b=>.ptr b 0)
def sL(H:ar)(o:Nat->Nat)(p:Nat)(kv:AV):K0->Prop
 | .wait=>kv=.fn (.func WS) [.ptr p 0] []
 | .left how=>∃b1 b2,kv=mq Yq [b1,b2]/\Bx H o b1 (.int .i64 how)/\Bx H o b2 (.ptr p 0)
 | .kY a=>0<=a /\ ∃b1 b2,kv=mq X5 [b1,b2]/\Bx H o b1 (.ptr p 0)/\Bx H o b2 (.int .i64 a)
 | .take=>kv=.fn (.func Vj) [.ptr p 0] []
 | .back l=>(∀x∈l,fJ x.v) /\ ∃b1 b2 lv y,kv=mq UX [b1,b2]/\Bx H o b1 (.ptr p 0)/\Bx H o b2 lv/\bM cG 2 H lv (y::l)/\aD lv<H.au/\o (aD lv)=30
 | .fin=>∃b1,kv=mq Xh [b1]/\Bx H o b1 (.ptr p 0)
def JM(H:ar)(o:Nat->Nat)(p:Nat)(gv:AV):Option K0->Prop
 |none=>gv=.fn (.func ZX) [.ptr p 0] []
 |some k=>∃b1 b2 kv,gv=mq qib [b1,b2]/\Bx H o b1 (.ptr p 0)/\Bx H o b2 kv/\sL H o p kv k
structure Kz(H:ar)(o:Nat->Nat)(p:Nat)(k:K0)(g:Int)(rd:List Pr)(bi bg bp bk br bs bl ba:Nat):Prop where
 hg:Bx H o bg (.int .u64 g)
 hp:Bx H o bp (.ptr p 0)
 hk:∃kv,Bx H o bk kv/\sL H o p kv k/\aA kv=B4
 hr:∃rv,Bx H o br rv/\bM cG 2 H rv rd/\(rd≠[]->aD rv<H.au/\o (aD rv)=30)/\aA rv=B4
 hs:By H o bs (mq SE [bi,br,bp,bl,ba])
 hl:Bx H o bl (mq Us [br,bi,bp,bs])
 ha:Bx H o ba (mq Tw [bg,bp,bk])
 hn:rd.length<=128
def Gb(H:ar)(o:Nat->Nat)(p:Nat)(tv:AV):Nx->Prop
 | .wD n k=>∃b1 b2 b3 kv,tv=mq B_ [b1,b2,b3]/\Bx H o b1 (.ptr p 0)/\Bx H o b2 (.int .u64 n)/\Bx H o b3 kv/\sL H o p kv k
 | .ur n k=>∃b1 b2 b3 kv,tv=mq Λ [b1,b2,b3]/\Bx H o b1 (.ptr p 0)/\Bx H o b2 (.int .u64 n)/\Bx H o b3 kv/\sL H o p kv k
 | .wN=>∃b1 b2 gv,tv=mq TA [b1,b2]/\Bx H o b1 (.ptr p 0)/\Bx H o b2 gv/\JM H o p gv B5
 | .xG k=>∃b1 b2 gv,tv=mq TA [b1,b2]/\Bx H o b1 (.ptr p 0)/\Bx H o b2 gv/\JM H o p gv (B1 k)
 | .look k g rd i=>∃bi bg bp bk br bs bl ba,tv=mq Us [br,bi,bp,bs]/\By H o bi (.int .i64 (i:Int))/\i<rd.length/\Kz H o p k g rd bi bg bp bk br bs bl ba
 | .again k g=>∃bg bp bk kv,tv=mq Tw [bg,bp,bk]/\Bx H o bg (.int .u64 g)/\Bx H o bp (.ptr p 0)/\Bx H o bk kv/\sL H o p kv k
 | .wP a=>0<=a /\ ∃b1 b2,tv=mq uL [b1,b2]/\Bx H o b1 (.ptr p 0)/\Bx H o b2 (.int .i64 a)
 | .oE a v=>(0<=a/\fJ v) /\ ∃b1 b2 b3,tv=mq F_ [b1,b2,b3]/\Bx H o b1 (.ptr p 0)/\Bx H o b2 (.int .i64 a)/\Bx H o b3 (.int .u64 v)
 | .uJ=>∃b1,tv=mq R2 [b1]/\Bx H o b1 (.ptr p 0)
 | .Gi k=>sL H o p tv k
def FC:Nx->Nat
 | .ur _ _=>PU
 | .uJ=>PU
 | .Gi _=>O_
 |_=>Pw
def Nw(H:ar)(o:Nat->Nat)(p:Nat)(fv:AV):Option Nx->Prop
 |none=>fv=.nilf
 |some n=>∃b tv,fv=mq (FC n) [b]/\Bx H o b tv/\Gb H o p tv n
def iW(r:Rq):List AV:=[.int .i64 r.op,.int .i64 r.a,.int .u64 r.v,.int .u64 r.o]
def dK(x:So)(g:Nat)(fv:AV):List AV:=.ptr g 0::(iW x.want ++ [fv,.bool x.busy,.bool x.live,.bool x.aF,.int .u64 x.snap,.int .u64 x.value,.int .i64 x.ended,.int .i64 x.points])
structure dV(H:ar)(o:Nat->Nat)(p:Nat)(x:So)(g:Nat)(fv:AV):Prop where
 row:At H p Dr (dK x g fv)
 lg:px H o g x.rd x.wr
 nx:Nw H o p fv x.au
 op:o p=8
 one:aA fv=B4
 vu:fJ x.value
 wu:∀y∈x.wr,fJ y.v
 qu:fJ x.want.v
def eL(H:ar)(o:Nat->Nat)(p:Nat)(x:So)(H':ar):Prop:=∃o' g fv,dV H' o' p x g fv/\(∀z,z<H.au->o' z=o z)/\Fr (λ z=>8<=o z) H H'
section
variable{H H':ar}{o o':Nat->Nat}{p g:Nat}{x y:So}{fv kv gv tv:AV}{k:K0}{n:Nx}
structure Gh(H:ar)(o:Nat->Nat)(H':ar)(o':Nat->Nat):Prop where
 ai:∀z,z<H.au->o z=30->H'.get z=H.get z
 own:∀z,z<H.au->o' z=o z
 au:H.au<=H'.au
structure pB(H:ar)(o:Nat->Nat)(H':ar)(o':Nat->Nat):Prop where
 m:Gh H o H' o'
 ai:∀z,z<H.au->o z=31->H'.get z=H.get z
def Gh.of{W:Nat->Prop}(a:Fr W H H')(hw:∀z,z<H.au->o z=30 -> ¬W z)(ho:∀z,z<H.au->o' z=o z):Gh H o H' o':=⟨λ z h q=>a.ai z h (hw z h q),ho,a.au⟩
def pB.of{W:Nat->Prop}(a:Fr W H H')(hw:∀z,z<H.au->30<=o z -> ¬W z)(ho:∀z,z<H.au->o' z=o z):pB H o H' o':=⟨Gh.of a (λ z h q=>hw z h (by omega)) ho,λ z h q=>a.ai z h (hw z h (by omega))⟩
def pB.own(a:pB H o H' o'):∀z,z<H.au->o' z=o z:=a.m.own
def Bx.km{b:Nat}{v:AV}(h:Bx H o b v)(a:Gh H o H' o'):Bx H' o' b v:=⟨(q73 (a.ai b h.2.1 h.2.2)).trans h.1,qn h.2.1 a.au,(a.own b h.2.1).trans h.2.2⟩
def Bx.ky{b:Nat}{v:AV}(h:Bx H o b v)(a:pB H o H' o'):Bx H' o' b v:=h.km a.m
def By.ky{b:Nat}{v:AV}(h:By H o b v)(a:pB H o H' o'):By H' o' b v:=⟨by rw[a.ai b h.2.1 h.2.2];exact h.1,qn h.2.1 a.m.au,(a.own b h.2.1).trans h.2.2⟩
def By.ld{b:Nat}{v:AV}(h:By H o b v):Op.ah [.ptr b 0] H=B1 v:=by have⟨t,q⟩:=h.1;exact zg (xe q) 0
def Bx.ld{b:Nat}{v:AV}(h:Bx H o b v):Op.ah [.ptr b 0] H=B1 v:=zg h.1 0
def Gh.sl{lv:AV}{b:List Pr}(a:Gh H o H' o')(h:bM cG 2 H lv b)(c:b≠[]->aD lv<H.au/\o (aD lv)=30):bM cG 2 H' lv b:=by
 cases b with
 |nil=>exact Sl.fr (W:=λ _=>True) h ⟨a.au,λ _ _ q=>(q trivial).elim⟩ (.inl rfl)
 |cons y l =>
  have⟨d,e⟩:=c (by simp);exact Sl.fr (W:=λ z=>z≠aD lv) h ⟨a.au,λ z _ q=>by rw[kj.1 q];exact a.ai _ d e⟩ (.inr λ q=>q rfl)
def sL.km(h:sL H o p kv k)(a:Gh H o H' o'):sL H' o' p kv k:=by
 cases k with
 |wait=>exact h
 |left how=>have⟨b,e,c,d,f⟩:=h;exact⟨b,e,c,d.km a,f.km a⟩
 |kY z=>have⟨i,b,e,c,d,f⟩:=h;exact⟨i,b,e,c,d.km a,f.km a⟩
 |take=>exact h
 |back l=>have⟨i,b,e,lv,y,c,d,f,q,j,m⟩:=h;exact⟨i,b,e,lv,y,c,d.km a,f.km a,a.sl q λ _=>⟨j,m⟩,qn j a.au,(a.own _ j).trans m⟩
 |fin=>have⟨b,c,d⟩:=h;exact⟨b,c,d.km a⟩
def sL.ky(h:sL H o p kv k)(a:pB H o H' o'):sL H' o' p kv k:=h.km a.m
def sL.one(h:sL H o p kv k):aA kv=true:=by
 cases k with
 |wait=>rw[show kv=_ from h];rfl
 |left how=>have⟨b,d,a,c,f⟩:=h;rw[a];rfl
 |kY z=>have⟨e,b,d,a,c,f⟩:=h;rw[a];rfl
 |take=>rw[show kv=_ from h];rfl
 |back l=>have⟨e,b,d,lv,y,a,c⟩:=h;rw[a];rfl
 |fin=>have⟨b,a,c⟩:=h;rw[a];rfl
def JM.ky{ko:Option K0}(h:JM H o p gv ko)(a:pB H o H' o'):JM H' o' p gv ko:=by
 cases ko with
 |none=>exact h
 |some k=>have⟨b,c,kv,d,e,f,i⟩:=h;exact⟨b,c,kv,d,e.ky a,f.ky a,i.ky a⟩
def Kz.ky{g:Int}{rd:List Pr}{bi d f bk i bs e c:Nat}(h:Kz H o p k g rd bi d f bk i bs e c)(a:pB H o H' o'):Kz H' o' p k g rd bi d f bk i bs e c:=by
 have⟨kv,j,l,r⟩:=h.hk;have⟨rv,s,t,b,u⟩:=h.hr;exact⟨h.hg.ky a,h.hp.ky a,⟨kv,j.ky a,l.ky a,r⟩,⟨rv,s.ky a,a.m.sl t b,λ q=>⟨qn (b q).1 a.m.au,(a.own _ (b q).1).trans (b q).2⟩,u⟩,h.hs.ky a,h.hl.ky a,h.ha.ky a,h.hn⟩
def Gb.ky(h:Gb H o p tv n)(a:pB H o H' o'):Gb H' o' p tv n:=by
 cases n with
 |wD m k=>have⟨d,f,l,kv,b,c,e,j,q⟩:=h;exact⟨d,f,l,kv,b,c.ky a,e.ky a,j.ky a,q.ky a⟩
 |ur m k=>have⟨d,f,l,kv,b,c,e,j,q⟩:=h;exact⟨d,f,l,kv,b,c.ky a,e.ky a,j.ky a,q.ky a⟩
 |wN=>have⟨d,f,gv,b,c,e,j⟩:=h;exact⟨d,f,gv,b,c.ky a,e.ky a,j.ky a⟩
 |xG k=>have⟨d,f,gv,b,c,e,j⟩:=h;exact⟨d,f,gv,b,c.ky a,e.ky a,j.ky a⟩
 |look k g rd i=>have⟨bi,t,w,bk,A,bs,u,s,b,c,e,j⟩:=h;exact⟨bi,t,w,bk,A,bs,u,s,b,c.ky a,e,j.ky a⟩
 |again k g=>have⟨d,f,l,kv,b,c,e,j,q⟩:=h;exact⟨d,f,l,kv,b,c.ky a,e.ky a,j.ky a,q.ky a⟩
 |wP z=>have⟨r,d,f,b,c,e⟩:=h;exact⟨r,d,f,b,c.ky a,e.ky a⟩
 |oE z v=>have⟨r,d,f,l,b,c,e,j⟩:=h;exact⟨r,d,f,l,b,c.ky a,e.ky a,j.ky a⟩
 |uJ=>have⟨d,b,c⟩:=h;exact⟨d,b,c.ky a⟩
 |Gi k=>exact sL.ky h a
def Nw.ky{no:Option Nx}(h:Nw H o p fv no)(a:pB H o H' o'):Nw H' o' p fv no:=by
 cases no with
 |none=>exact h
 |some n=>have⟨b,tv,c,d,e⟩:=h;exact⟨b,tv,c,d.ky a,e.ky a⟩
def dV.fr{W:Nat->Prop}(h:dV H o p x g fv)(a:Fr W H H')(hw:∀z,z<H.au->8<=o z -> ¬W z)(ho:∀z,z<H.au->o' z=o z):dV H' o' p x g fv :=
 ⟨h.row.fr a (hw p h.row.2 (by rw[h.op];decide)),h.lg.fr a (λ z q w=>hw z q (by omega)) ho,h.nx.ky (pB.of a (λ z q w=>hw z q (by omega)) ho),(ho p h.row.2).trans h.op,h.one,h.vu,h.wu,h.qu⟩
def dV.same(h:dV H o p x g fv):eL H o p x H:=⟨o,g,fv,h,λ _ _=>rfl,Fr.refl _⟩
def dV.box(h:dV H o p x g fv)(v:AV)(t:Nat):dV (H.alloc (OR [v] t)) (aP o H.au 30) p x g fv/\Bx (H.alloc (OR [v] t)) (aP o H.au 30) H.au v/\pB H o (H.alloc (OR [v] t)) (aP o H.au 30):=by
 have f:Fr Em H (H.alloc (OR [v] t)):=(Fr.refl H).alloc _;have ho:∀z,z<H.au->aP o H.au 30 z=o z:=λ z q=>iZ q;exact⟨h.fr f (λ _ _ _ q=>q) ho,⟨xe (xr ..),by rw[xz];omega,nj (qm _)⟩,pB.of f (λ _ _ _ q=>q) ho⟩
def eL.pre{H1:ar}{o1:Nat->Nat}(a:Fr Em H H1)(ho:∀z,z<H.au->o1 z=o z)(h:eL H1 o1 p y H'):eL H o p y H':=by
 have⟨o2,c,b,d,e,f⟩:=h;refine⟨o2,c,b,d,λ z q=>(e z (qn q a.au)).trans (ho z q),(a.mono λ _ _ q=>q.elim).trans f λ z q=>?_⟩;rcases xw z H.au with w|w
 .exact .inl (by rw[<-ho z w];exact q)
 .exact .inr w
def eL.then{H1:ar}(a:eL H o p x H1)(b:∀o1 e c,dV H1 o1 p x e c->eL H1 o1 p y H'):eL H o p y H':=by
 have⟨o1,e,c,j,f,h⟩:=a;have⟨o2,i,d,l,m,r⟩:=b o1 e c j;refine⟨o2,i,d,l,λ z q=>(m z (qn q h.au)).trans (f z q),h.trans r λ z q=>?_⟩;rcases xw z H.au with w|w
 .exact .inl (by rw[<-f z w];exact q)
 .exact .inr w
def dV.bq(h:dV H o p x g fv):Op.ah [.ptr p 0] H=B1 (.ptr g 0)/\Op.ah [.ptr p 5] H=B1 fv/\Op.ah [.ptr p 6] H=B1 (.bool x.busy)/\Op.ah [.ptr p 7] H=B1 (.bool x.live)/\Op.ah [.ptr p 8] H=B1 (.bool x.aF)/\Op.ah [.ptr p 9] H=B1 (.int .u64 x.snap)/\Op.ah [.ptr p 10] H=B1 (.int .u64 x.value)/\Op.ah [.ptr p 11] H=B1 (.int .i64 x.ended)/\Op.ah [.ptr p 12] H=B1 (.int .i64 x.points) :=
 ⟨h.row.ld 0,h.row.ld 5,h.row.ld 6,h.row.ld 7,h.row.ld 8,h.row.ld 9,h.row.ld 10,h.row.ld 11,h.row.ld 12⟩
def dV.put(h:dV H o p x g fv)(i:Nat){v:AV}(c:aA v=B4)(d:i<13)(he:(dK x g fv).set i v=dK y g fv)(hs:y.rd=x.rd/\y.wr=x.wr/\y.au=x.au/\y.want=x.want)(hu:fJ y.value) :
 ∃H',Op.store 1 [.ptr p i,v] H=B1 (.undef,H')/\dV H' o p y g fv/\Fr (On p) H H':=by
 refine⟨_,h.row.st i c d,?_,cm ..⟩;rw[he];have f:Fr (On p) H (H.set p (OR (dK y g fv) Dr)):=cm ..;have np:∀z,9<=o z -> ¬On p z:=λ z q(w:z=p)=>by rw[w,h.op]at q;omega
 have⟨e1,e2,a,b⟩:=hs;exact⟨h.row.set _,by rw[e1,e2];exact h.lg.fr f (λ z _ q=>np z q) λ _ _=>rfl,by rw[a];exact h.nx.ky (pB.of f (λ z _ q=>np z (by omega)) λ _ _=>rfl),h.op,h.one,hu,by rw[e2];exact h.wu,by rw[b];exact h.qu⟩
def dV.Df(h:dV H o p x g fv){H1:ar}(f:Fr (On p) H H1)(a:dV H1 o p y g fv):eL H o p y H1:=⟨o,g,fv,a,λ _ _=>rfl,f.mono λ z _(q:z=p)=>by rw[q,h.op];decide⟩
def MU(h:dV H o p x g fv){r:Rq}(hr:fJ r.v){nv:AV}(hn:Nw H o p nv (B1 n)):zj M oM [.ptr p 0,.agg (iW r),nv] H λ _ H'=>eL H o p (x.ask r n) H':=by
 refine q59 ?_;obtain⟨H1,e1,d,-,-⟩:=cI H (OR (iW r) Di);have j:At H1 H.au Di (iW r):=e1▸At.new H _ _;have e:=h.fr d (λ _ _ _ q=>q) λ _ _=>rfl;have l4:=j.fC (k:=0) (n:=4) (by simp[iW]);have one:aA nv=true:=by obtain⟨b,tv,q,-⟩:=hn;rw[q];rfl
 have s1:=e.row.ij (k:=1) (n:=4) (v:=.agg (iW r)) rfl (by simp[dK,iW]) rfl;have e2:(dK x g fv).take 1++AV.cells (.agg (iW r))++(dK x g fv).drop (1+4)=dK {x with want:=r} g fv:=rfl;rw[e2]at s1;obtain⟨H2,a⟩:∃X,X=H1.set p (OR (dK {x with want:=r} g fv) Dr):=⟨_,rfl⟩
 rw[<-a]at s1;have i:At H2 p Dr (dK {x with want:=r} g fv):=a▸e.row.set _;have s2:=i.st 5 one (by simp[dK,iW]);have m:(dK {x with want:=r} g fv).set 5 nv=dK (x.ask r n) g nv:=rfl;rw[m]at s2;have l:AV.cells (.agg (iW r))=iW r:=z6 _;have c:Op.aw 4 [.ptr H.au 0] H1=B1 (.agg (iW r)):=l4;simp only[ae,bc,q6a,aB,l,<-e1,c,s1,s2];have s:Fr (On p) H1 H2:=a▸cm ..;have t:Fr (On p) H2 (H2.set p (OR (dK (x.ask r n) g nv) Dr)):=cm ..;have f:Fr (On p) H (H2.set p (OR (dK (x.ask r n) g nv) Dr)):=((d.mono λ _ _ q=>q.elim).trans s λ z q=>.inl q).trans t λ z q=>.inl q;have np:∀z,9<=o z -> ¬On p z:=λ z q(w:z=p)=>by rw[w,h.op]at q;omega
 exact⟨o,g,nv,⟨i.set _,h.lg.fr f (λ z _ q=>np z q) λ _ _=>rfl,Nw.ky hn (pB.of f (λ z _ q=>np z (by omega)) λ _ _=>rfl),h.op,one,h.vu,h.wu,hr⟩,λ _ _=>rfl,f.mono λ z _(q:z=p)=>by rw[q,h.op];decide⟩
end
end Go.Am
namespace Go.Am
open Lang Go.Proofs
variable{M:ao}[MK M]
structure Mk(H:ar)(o:Nat->Nat)(H':ar)(o':Nat->Nat):Prop where
 f:Fr Em H H'
 ho:∀z,z<H.au->o' z=o z
section
variable{H H1 H2 H':ar}{o o1 o2 o':Nat->Nat}{p g:Nat}{x y:So}{fv kv gv tv:AV}{k:K0}{n:Nx}
def Mk.bk(m:Mk H o H1 o1):pB H o H1 o1:=pB.of m.f (λ _ _ _ q=>q) m.ho
def Mk.trans(m:Mk H o H1 o1)(w:Mk H1 o1 H2 o2):Mk H o H2 o2:=⟨m.f.em w.f,λ z q=>(w.ho z (qn q m.f.au)).trans (m.ho z q)⟩
def Mk.pre(m:Mk H o H1 o1)(h:eL H1 o1 p y H'):eL H o p y H':=eL.pre m.f m.ho h
def dV.bx(h:dV H o p x g fv)(v:AV)(t:Nat):∃H1 o1,H.alloc (OR [v] t)=H1/\dV H1 o1 p x g fv/\Bx H1 o1 H.au v/\Mk H o H1 o1:=by
 have⟨a,b,c⟩:=h.box v t;exact⟨_,_,rfl,a,b,(Fr.refl H).alloc _,c.own⟩
def dV.bz(h:dV H o p x g fv)(z:AV){v:AV}(a:aA v=B4)(t:Nat):∃H1 o1,Op.store 1 [.ptr H.au 0,v] (H.alloc (OR [z] t))=B1 (.undef,H1)/\dV H1 o1 p x g fv/\Bx H1 o1 H.au v/\Mk H o H1 o1:=by
 have s:=(At.new H [z] t).st 0 a (by simp);have f:Fr Em H ((H.alloc (OR [z] t)).set H.au (OR [v] t)):=((Fr.refl H).alloc _).set (.inr (qm _)) _;have ho:∀z,z<H.au->aP o H.au 30 z=o z:=λ z q=>iZ q;exact⟨_,aP o H.au 30,s,h.fr f (λ _ _ _ q=>q) ho,⟨xe (xg ..),by rw[oO,xz];omega,nj (qm _)⟩,f,ho⟩
def dV.by0(h:dV H o p x g fv)(v:AV)(t:Nat):∃H1 o1,H.alloc (OR [v] t)=H1/\dV H1 o1 p x g fv/\By H1 o1 H.au v/\Mk H o H1 o1:=by
 have f:Fr Em H (H.alloc (OR [v] t)):=(Fr.refl H).alloc _;have ho:∀z,z<H.au->aP o H.au 31 z=o z:=λ z q=>iZ q;exact⟨_,aP o H.au 31,rfl,h.fr f (λ _ _ _ q=>q) ho,⟨⟨t,xr ..⟩,by rw[xz];omega,nj (qm _)⟩,f,ho⟩
def dV.byz(h:dV H o p x g fv)(z:AV){v:AV}(a:aA v=B4)(t:Nat):∃H1 o1,Op.store 1 [.ptr H.au 0,v] (H.alloc (OR [z] t))=B1 (.undef,H1)/\dV H1 o1 p x g fv/\By H1 o1 H.au v/\Mk H o H1 o1:=by
 have s:=(At.new H [z] t).st 0 a (by simp);have f:Fr Em H ((H.alloc (OR [z] t)).set H.au (OR [v] t)):=((Fr.refl H).alloc _).set (.inr (qm _)) _;have ho:∀z,z<H.au->aP o H.au 31 z=o z:=λ z q=>iZ q;exact⟨_,aP o H.au 31,s,h.fr f (λ _ _ _ q=>q) ho,⟨⟨t,xg ..⟩,by rw[oO,xz];omega,nj (qm _)⟩,f,ho⟩
def dV.sty{b:Nat}{w v:AV}(h:dV H o p x g fv)(hn:x.au=B5)(hb:By H o b w)(i:aA v=B4):∃H1,Op.store 1 [.ptr b 0,v] H=B1 (.undef,H1)/\dV H1 o p x g fv/\By H1 o b v/\Gh H o H1 o/\Fr (On b) H H1:=by
 have⟨⟨t,j⟩,c,d⟩:=hb;have a:At H b t [w]:=⟨j,c⟩
 have f:Fr (On b) H (H.set b (OR [v] t)):=cm ..;have nb:∀z,o z≠31 -> ¬On b z:=λ z e(w:z=b)=>e (by rw[w];exact d);have nx:=h.nx;rw[hn]at nx;refine⟨_,a.st 0 i (by simp),⟨h.row.fr f (nb p (by rw[h.op];decide)),h.lg.Gf f (λ z _ e=>nb z (by omega)),by rw[hn];exact nx,h.op,h.one,h.vu,h.wu,h.qu⟩,⟨⟨t,xg ..⟩,c,d⟩,Gh.of f (λ z _ e=>nb z (by omega)) λ _ _=>rfl,f⟩
def Gb.one(h:Gb H o p tv n):aA tv=true:=by
 cases n with
 |wD m k=>have⟨c,d,e,kv,a,b⟩:=h;rw[a];rfl
 |ur m k=>have⟨c,d,e,kv,a,b⟩:=h;rw[a];rfl
 |wN=>have⟨c,d,gv,a,b⟩:=h;rw[a];rfl
 |xG k=>have⟨c,d,gv,a,b⟩:=h;rw[a];rfl
 |look k g rd i=>have⟨bi,l,r,bk,s,bs,q,j,a,b⟩:=h;rw[a];rfl
 |again k g=>have⟨c,d,e,kv,a,b⟩:=h;rw[a];rfl
 |wP z=>have⟨f,c,d,a,b⟩:=h;rw[a];rfl
 |oE z v=>have⟨f,c,d,e,a,b⟩:=h;rw[a];rfl
 |uJ=>have⟨c,a,b⟩:=h;rw[a];rfl
 |Gi k=>exact sL.one h
def JM.one{ko:Option K0}(h:JM H o p gv ko):aA gv=true:=by
 cases ko with
 |none=>rw[show gv=_ from h];rfl
 |some k=>have⟨b,c,kv,a,d⟩:=h;rw[a];rfl
def sZ(h:dV H o p x g fv)(a:Int)(b:Gb H o p tv n)(hk:FC n=Pw):zj M W_ [.ptr p 0,.int .i64 a,tv] H λ _ H'=>eL H o p (x.ask ⟨1,a,0,0⟩ n) H':=by
 refine q1g ?_;have⟨H1,o1,e1,f,d,c⟩:=h.bx tv UD;have e:Op.build [.int .i64 0,.int .i64 0,.int .u64 0,.int .u64 0] [(0,1),(1,1)] [.int .i64 1,.int .i64 a]=B1 (.agg (iW ⟨1,a,0,0⟩)):=rfl;simp only[ae,bc,q1h,zY b.one,e1,e];refine C3.q (MU f bK (n:=n) ⟨_,tv,by rw[hk];rfl,d,b.ky c.bk⟩) λ _ H2 hp=>?_;simp only[ae,bc];exact c.pre hp
def Qr(h:dV H o p x g fv)(a w:Int){v:Int}(i:fJ v)(b:Gb H o p tv n)(hk:FC n=PU):zj M _W [.ptr p 0,.int .i64 a,.int .u64 w,.int .u64 v,tv] H λ _ H'=>eL H o p (x.ask ⟨3,a,v,w⟩ n) H':=by
 refine q6b ?_;have⟨H1,o1,e1,f,d,c⟩:=h.bx tv Mf;have e:Op.build [.int .i64 0,.int .i64 0,.int .u64 0,.int .u64 0] [(0,1),(1,1),(2,1),(3,1)] [.int .i64 3,.int .i64 a,.int .u64 v,.int .u64 w]=B1 (.agg (iW ⟨3,a,v,w⟩)):=rfl;simp only[ae,bc,q6c,zY b.one,e1,e];refine C3.q (MU f (r:=⟨3,a,v,w⟩) i (n:=n) ⟨_,tv,by rw[hk];rfl,d,b.ky c.bk⟩) λ _ H2 hp=>?_;simp only[ae,bc];exact c.pre hp
def ER(h:dV H o p x g fv)(a:Int){v:Int}(i:fJ v)(b:sL H o p tv k):zj M δ [.ptr p 0,.int .i64 a,.int .u64 v,tv] H λ _ H'=>eL H o p (x.ask ⟨2,a,v,0⟩ (.Gi k)) H':=by
 refine qy5 ?_;have⟨H1,o1,e1,f,d,c⟩:=h.bx tv II;have e:Op.build [.int .i64 0,.int .i64 0,.int .u64 0,.int .u64 0] [(0,1),(1,1),(2,1)] [.int .i64 2,.int .i64 a,.int .u64 v]=B1 (.agg (iW ⟨2,a,v,0⟩)):=rfl;simp only[ae,bc,qy6,zY b.one,e1,e];refine C3.q (MU f (r:=⟨2,a,v,0⟩) i (n:=.Gi k) ⟨_,tv,rfl,d,b.ky c.bk⟩) λ _ H2 hp=>?_;simp only[ae,bc];exact c.pre hp
def xE(h:dV H o p x g fv)(z:Int)(hk:sL H o p kv k):zj M qnm [.ptr p 0,.int .u64 z,kv] H λ _ H'=>eL H o p (x.count z k) H':=by
 refine qyv ?_;have⟨H1,o1,e1,l,e,c⟩:=h.bx (.ptr p 0) LB;have⟨H2,o2,e2,m,f,s⟩:=l.bx (.int .u64 z) Vc;have⟨t,o3,j,r,i,d⟩:=m.bx kv II;have a:=s.trans d;have b:=e.ky a.bk;simp only[ae,bc,qyw,zY hk.one,e1,e2,j,b.ld];refine C3.q (sZ r 1 (n:=.wD z k) ⟨_,_,_,kv,rfl,b,f.ky d.bk,i,hk.ky (c.trans a).bk⟩ rfl) λ _ u hp=>?_;simp only[ae,bc];exact(c.trans a).pre hp
def oU(h:dV H o p x g fv)(a:Int):zj M UK [.ptr p 0,.int .i64 a] H λ _ H'=>eL H o p (x.leave a) H':=by
 refine qyz ?_;have⟨H1,o1,e1,f,d,j⟩:=h.bx (.ptr p 0) LB;have⟨H2,o2,e2,i,e,c⟩:=f.bx (.int .i64 a) bY;have b:=d.ky c.bk;simp only[ae,bc,qy0,e1,e2,b.ld];refine C3.q (xE i 18446744073709551615 (k:=.left a) ⟨_,_,rfl,e,b⟩) λ _ l hp=>?_;simp only[ae,bc];exact(j.trans c).pre hp
def Ms:Option K0->Nx
 |none=>.wN
 |some k=>.xG k
def qK(h:dV H o p x g fv){ko:Option K0}(hg:JM H o p gv ko):zj M qmi [.ptr p 0,gv] H λ _ H'=>eL H o p (x.ask ⟨1,0,0,0⟩ (Ms ko)) H':=by
 refine qwu ?_;have⟨H1,o1,e1,i,f,e⟩:=h.bx (.ptr p 0) LB;have⟨H2,o2,e2,j,d,c⟩:=i.bx gv UD;have b:=f.ky c.bk;have a:=hg.ky (e.trans c).bk;have l:Gb H2 o2 p (mq TA [H.au,H1.au]) (Ms ko):=by
  cases ko with
  |none=>exact⟨_,_,gv,rfl,b,d,a⟩
  |some k=>exact⟨_,_,gv,rfl,b,d,a⟩
 have hk:FC (Ms ko)=Pw:=by cases ko<;>rfl
 simp only[ae,bc,qwv,zY hg.one,e1,e2,b.ld];refine C3.q (sZ j 0 l hk) λ _ m hp=>?_;simp only[ae,bc];exact(e.trans c).pre hp
def WU(h:dV H o p x g fv)(hk:sL H o p kv k):zj M qkf [.ptr p 0,kv] H λ _ H'=>eL H o p (x.validate k) H':=by
 refine qsx ?_;have⟨H1,o1,e1,f,d,c⟩:=h.bx (.ptr p 0) LB;have⟨H2,o2,e2,i,e,a⟩:=f.bx kv II;have b:=d.ky a.bk;simp only[ae,bc,qsy,zY hk.one,e1,e2,b.ld];refine C3.q (qK i (ko:=B1 k) ⟨_,_,kv,rfl,b,e,hk.ky (c.trans a).bk⟩) λ _ j hp=>?_;simp only[ae,bc];exact(c.trans a).pre hp
def CL(h:dV H o p x g fv){a:Int}(ha:0<=a):zj M υ [.ptr p 0,.int .i64 a] H λ _ H'=>eL H o p (x.kY a) H':=by
 refine qyx ?_;have⟨H1,o1,e1,f,e,j⟩:=h.bx (.ptr p 0) LB;have⟨H2,o2,e2,i,b,d⟩:=f.bx (.int .i64 a) bY;have c:=e.ky d.bk;simp only[ae,bc,qyy,e1,e2,c.ld,b.ld];refine C3.q (sZ i a (n:=.wP a) ⟨ha,_,_,rfl,c,b⟩ rfl) λ _ l hp=>?_;simp only[ae,bc];exact(j.trans d).pre hp
def JT(h:dV H o p x g fv):zj M Vj [.ptr p 0] H λ _ H'=>eL H o p x.take H':=by
 refine q1k ?_;have⟨H1,o1,e1,b,a,c⟩:=h.bx (.ptr p 0) LB;simp only[ae,bc,q1l,aB,e1,a.ld,b.bq];refine C3.q (Qr b 0 x.snap (FN _) (n:=.uJ) ⟨_,rfl,a⟩ rfl) λ _ d hp=>?_;simp only[ae,bc];exact c.pre hp
def RW(h:dV H o p x g fv):zj M WS [.ptr p 0] H λ _ H'=>eL H o p x.tz H':=by
 refine q1m ?_;simp only[ae,bc,q1n];refine C3.q (qK h (ko:=B5) rfl) λ _ a hp=>?_;simp only[ae,bc];exact hp
def Kf(h:dV H o p x g fv){lv:AV}{l:List Pr}(hl:bM cG 2 H lv l)(hu:∀y∈l,fJ y.v)(hb:l≠[]->aD lv<H.au/\o (aD lv)=30)(one:aA lv=B4):zj M U' [.ptr p 0,lv] H λ _ H'=>eL H o p (x.back l) H':=by
 refine q1d ?_;have⟨H1,o1,e1,B,A,D⟩:=h.bx (.ptr p 0) LB;have⟨H2,o2,e2,s,r,t⟩:=B.bx lv nS;have e:=A.ky t.bk;have d:=D.trans t;have b:=d.bk.m.sl hl hb;have ln:=b.len;cases l with
 |nil =>
  have c:¬(0:Int)<(([]:List Pr).length:Int):=by decide
  simp only[ae,bc,qp4,aB,zY one,e1,e2,e.ld,r.ld,ln,c,s.bq];refine C3.q (ER s 0 (FN _) (k:=.fin) ⟨_,rfl,e⟩) λ _ w hp=>?_;simp only[ae,bc];exact d.pre hp
 |cons y l =>
  have c:(0:Int)<((y::l).length:Int):=by rw[zr];omega
  have ix:Op.aT 2 [lv,.int .i64 0]=B1 (.ptr (aD lv) (cM 2 lv 0)):=b.idx (i:=0) rfl rfl .i64;have l0:Op.ah [.ptr (aD lv) (cM 2 lv 0)] H2=B1 (.int .i64 y.a):=b.jA BF (i:=0) rfl (by decide);have l1:Op.ah [.ptr (aD lv) (cM 2 lv 0+1)] H2=B1 (.int .u64 y.v):=b.ah BF (i:=0) rfl (j:=1) (by decide);have⟨u,E⟩:=hb (by simp);simp only[ae,bc,qp4,zY one,e1,e2,e.ld,r.ld,ln,c,ix,l0,l1];refine C3.q (ER s y.a (hu y (by simp)) (k:=.back l) ⟨λ z C=>hu z (by simp[C]),_,_,lv,y,rfl,e,r,b,qn u d.f.au,(d.ho _ u).trans E⟩) λ _ w hp=>?_;simp only[ae,bc];exact d.pre hp
end
end Go.Am
namespace Go.Am
open Lang Go.Proofs
variable{M:ao}[MK M]
section
variable{H H1 H2 H':ar}{o o1 o2 o':Nat->Nat}{p g:Nat}{x y:So}{fv kv gv tv:AV}{k:K0}{n:Nx}
def dV.on(h:dV H o p x g fv)(f:Fr (On p) H H1):pB H o H1 o:=pB.of f (λ z _ q(w:z=p)=>by rw[w,h.op]at q;omega) λ _ _=>rfl
def dV.w0(h:dV H o p x g fv){W:Nat->Prop}(f:Fr W H H1)(hw:∀z,W z->z=p):Fr (λ z=>8<=o z) H H1:=f.mono λ z _ q=>by rw[hw z q,h.op];decide
def eL.step(h:dV H o p x g fv)(f:Fr (On p) H H1)(b:eL H1 o p y H'):eL H o p y H':=by
 have⟨o2,c,a,d,e,i⟩:=b;exact⟨o2,c,a,d,λ z q=>e z (qn q f.au),(h.w0 f λ _ q=>q).trans i λ z q=>.inl q⟩
def dV.log{rd wr:List Pr}(h:dV H o p x g fv)(hp:vU H o g rd wr H1)(hu:∀y∈wr,fJ y.v):∃o1,dV H1 o1 p {x with rd:=rd,wr:=wr} g fv/\pB H o H1 o1/\Fr (λ z=>8<=o z) H H1:=by
 have⟨o1,c,b,a⟩:=hp;have bk:pB H o H1 o1:=pB.of a (λ z _ q w=>by omega) b;exact⟨o1,⟨h.row.fr a (λ w=>by have:=h.op;omega),c,h.nx.ky bk,(b p h.row.2).trans h.op,h.one,h.vu,hu,h.qu⟩,bk,a.mono λ z _ q=>by omega⟩
def eL.after(c:∀z,z<H.au->o1 z=o z)(f:Fr (λ z=>8<=o z) H H1)(b:eL H1 o1 p y H'):eL H o p y H':=by
 have⟨o2,d,a,e,h,i⟩:=b;refine⟨o2,d,a,e,λ z q=>(h z (qn q f.au)).trans (c z q),f.trans i λ z q=>?_⟩;rcases xw z H.au with w|w
 .exact .inl (by rw[<-c z w];exact q)
 .exact .inr w
def Fe(h:dV H o p x g fv):zj M Uw [.ptr p 0] H λ _ H'=>dV H' o p {x with busy:=B2} g fv/\Fr (On p) H H':=by
 refine q1e ?_;have⟨H1,s1,b,a⟩:=h.put 6 (v:=.bool B2) (y:={x with busy:=B2}) rfl (by decide) rfl ⟨rfl,rfl,rfl,rfl⟩ h.vu;simp only[ae,bc,q1f,aB,s1];exact⟨b,a⟩
def wC(h:dV H o p x g fv)(v:Int):zj M TB [.ptr p 0,.int .u64 v] H λ _ H'=>dV H' o p (x.pA v) g fv/\Fr (On p) H H':=by
 refine qy1 ?_;have⟨H1,s1,c,a⟩:=h.put 9 (v:=.int .u64 v) (y:={x with snap:=v}) rfl (by decide) rfl ⟨rfl,rfl,rfl,rfl⟩ h.vu;have⟨H2,s2,d,b⟩:=c.put 12 (v:=.int .i64 (ak .i64 (x.points+1))) (y:=x.pA v) rfl (by decide) rfl ⟨rfl,rfl,rfl,rfl⟩ h.vu;simp only[ae,bc,qy2,aB,h.bq,s1,s2];exact⟨d,a.trans b λ z q=>.inl q⟩
def LA(h:dV H o p x g fv)(v:Int):zj M ZX [.ptr p 0,.int .u64 v] H λ _ H'=>eL H o p {x.pA v with live:=B4,busy:=B2} H':=by
 refine qyr ?_;simp only[ae,bc,qys];refine C3.q (wC h v) λ _ H1⟨d,a⟩=>?_;have⟨H2,s2,e,b⟩:=d.put 7 (v:=.bool B4) (y:={x.pA v with live:=B4}) rfl (by decide) rfl ⟨rfl,rfl,rfl,rfl⟩ h.vu;simp only[ae,bc,aB,s2];refine C3.q (Fe e) λ _ i⟨f,c⟩=>?_;simp only[ae,bc];exact h.Df ((a.trans b λ z q=>.inl q).trans c λ z q=>.inl q) f
def Fg(h:dV H o p x g fv)(hk:sL H o p kv k):∃f a c,kv=.fn (.func f) a c/\zj M f (a++c) H λ _ H'=>eL H o p (x.Gr k) H':=by
 cases k with
 |wait=>exact⟨_,_,_,hk,RW h⟩
 |take=>exact⟨_,_,_,hk,JT h⟩
 |left how =>
  obtain⟨d,r,rfl,b,j⟩:=hk;refine⟨_,_,_,rfl,?_⟩;show zj M Yq [.ptr d 0,.ptr r 0] H _;refine qus ?_;have⟨H1,s1,t,m⟩:=h.put 7 (v:=.bool B2) (y:={x with live:=B2}) rfl (by decide) rfl ⟨rfl,rfl,rfl,rfl⟩ h.vu;have d1:=b.ky (h.on m);have d2:=j.ky (h.on m);have⟨H2,s2,D,B⟩:=t.put 11 (v:=.int .i64 how) (y:={x with live:=B2,ended:=how}) rfl (by decide) rfl ⟨rfl,rfl,rfl,rfl⟩ h.vu;have e2:=d2.ky (t.on B);simp only[ae,bc,qut,aB,b.ld,j.ld,s1,d1.ld,d2.ld,s2,e2.ld];refine C3.q (Fe D) λ _ u⟨E,C⟩=>?_;simp only[ae,bc];exact h.Df ((m.trans B λ z q=>.inl q).trans C λ z q=>.inl q) E
 |kY a =>
  obtain⟨A,d,r,rfl,b,j⟩:=hk;refine⟨_,_,_,rfl,?_⟩;show zj M X5 [.ptr d 0,.ptr r 0] H _;refine qo6 ?_;simp only[ae,bc,qo7,b.ld,j.ld];refine C3.q (CL h A) λ _ u hp=>?_;simp only[ae,bc];exact hp
 |back l =>
  obtain⟨A,d,r,lv,y,rfl,b,j,hl,F,G⟩:=hk;refine⟨_,_,_,rfl,?_⟩;show zj M UX [.ptr d 0,.ptr r 0] H _;refine qwo ?_;have⟨s,s1,i,hb⟩:=hl.from BF (k:=1) (by simp) (z:=1) rfl .i64;simp only[ae,bc,qwp,b.ld,j.ld,s1];have nb:l≠[]->aD s<H.au/\o (aD s)=30:=λ e=>by
   rcases hb with w|w
   .subst w;have:=i.len;have e2:l.length=0:=by
     have q:Op.dp [AV.nils]=B1 (.int .i64 0):=rfl;rw[q]at this;injection this with this;injection this with _ this
     simp only[LI,yt]at this;omega
    exact(e (jf.1 e2)).elim
   .rw [w];exact⟨F,G⟩
  refine C3.q (Kf h (l:=l) i A nb i.one) λ _ u hp=>?_;simp only[ae,bc];exact hp
 |fin =>
  obtain⟨d,rfl,b⟩:=hk;refine⟨_,_,_,rfl,?_⟩;show zj M Xh [.ptr d 0] H _;refine qwq ?_;have⟨H1,s1,t,m⟩:=h.put 8 (v:=.bool B2) (y:={x with aF:=B2}) rfl (by decide) rfl ⟨rfl,rfl,rfl,rfl⟩ h.vu;have d1:=b.ky (h.on m);simp only[ae,bc,qwr,aB,b.ld,s1,d1.ld];refine C3.q (oU t 1) λ _ u hp=>?_;simp only[ae,bc];exact eL.step h m hp
def JC{i:Nat}{e:Int}{rd:List Pr}{bi j d bk m bs l f:Nat}(h:dV H o p x g fv)(r:By H o bi (.int .i64 (i:Int)))(hle:i<=rd.length)(v:Kz H o p k e rd bi j d bk m bs l f) :
 zj M SE [.ptr bi 0,.ptr m 0,.ptr d 0,.ptr l 0,.ptr f 0] H λ _ H'=>eL H o p (x.step k e rd i) H':=by
 refine qoc ?_;have⟨kv,w,z,A⟩:=v.hk;have⟨rv,t,s,B,C⟩:=v.hr;have ln:=s.len;unfold So.step;rcases xw i rd.length with q|q
 .have c:(i:Int)<(rd.length:Int):=by omega
  obtain⟨y,b⟩:∃y,rd[i]? = B1 y:=⟨rd[i],by simp[q]⟩
  have ix:Op.aT 2 [rv,.int .i64 (i:Int)]=B1 (.ptr (aD rv) (cM 2 rv i)):=s.idx b rfl .i64;have l0:Op.ah [.ptr (aD rv) (cM 2 rv i)] H=B1 (.int .i64 y.a):=s.jA BF b (by decide);simp only[ae,bc,Y_,r.ld,t.ld,ln,c,v.hp.ld,ix,l0,v.hl.ld,b];refine C3.q (sZ h y.a (n:=.look k e rd i) ⟨bi,j,d,bk,m,bs,l,f,rfl,r,q,v⟩ rfl) λ _ u hp=>?_;simp only[ae,bc];exact hp
 .have c:¬(i:Int)<(rd.length:Int):=by omega
  have b:rd[i]? = none:=z4 q;simp only[ae,bc,Y_,r.ld,t.ld,ln,c,v.hp.ld,v.ha.ld,b];refine C3.q (sZ h 0 (n:=.again k e) ⟨j,d,bk,kv,rfl,v.hg,v.hp,w,z⟩ rfl) λ _ u hp=>?_;simp only[ae,bc];exact hp
end
end Go.Am
namespace Go.Am
open Lang Go.Proofs
variable{M:ao}[MK M]
section
variable{H H1 H2 H':ar}{o o1 o2 o':Nat->Nat}{p g b f:Nat}{x y:So}{fv kv gv tv:AV}{k:K0}{n:Nx}{l:List Nat}{v:Int}{ok:Bool}{R:AV->ar->Prop}
def Ln(hb:Bx H o b (mq f l))(a:zj M f (.int .u64 v::l.map λ b=>.ptr b 0) H λ _ H'=>R .undef H'):zj M Pw [.int .u64 v,.bool ok,.ptr b 0] H λ _ H'=>R .undef H':=by
 refine qws ?_;simp only[ae,bc,qwt,hb.ld,mq];refine C3.q a λ _ c hp=>?_;simp only[ae,bc];exact hp
def p_(hb:Bx H o b (mq f l))(a:zj M f (.bool ok::l.map λ b=>.ptr b 0) H λ _ H'=>R .undef H'):zj M PU [.int .u64 v,.bool ok,.ptr b 0] H λ _ H'=>R .undef H':=by
 refine qyt ?_;simp only[ae,bc,qyu,hb.ld,mq];refine C3.q a λ _ c hp=>?_;simp only[ae,bc];exact hp
def pR{v:Int}(a:fJ v):Op.bin .rem [.int .u64 v,.int .u64 2]=B1 (.int .u64 (v % 2)):=by
 rw[sI .u64 _ _ (by decide),R9 a.1]
def son(h:dV H o p x g fv)(hn:x.au=B5)(hv:fJ v)(hb:Bx H o b tv)(O:Gb H o p tv n):zj M (FC n) [.int .u64 v,.bool ok,.ptr b 0] H λ _ H'=>eL H o p (x.on v ok n) H':=by
 cases n with
 |wD m k =>
  obtain⟨E,Y,J,kv,rfl,r,A,G,hk⟩:=O;refine Ln (R:=λ _ H'=>eL H o p _ H') hb ?_;refine qun ?_;simp only[ae,bc,qup,r.ld,A.ld];refine C3.q (Qr h 1 v (FN _) (n:=.ur m k) ⟨_,_,_,kv,rfl,r,A,G,hk⟩ rfl) λ _ d hp=>?_;simp only[ae,bc];exact hp
 |ur m k =>
  obtain⟨E,Y,J,kv,rfl,r,A,G,hk⟩:=O;refine p_ (R:=λ _ H'=>eL H o p _ H') hb ?_;refine qrx ?_;unfold So.on;cases ok with
  |true =>
   obtain⟨N,a,c,rfl,K⟩:=Fg (M:=M) h hk;simp only[ae,bc,qjs,G.ld];refine C3.q K λ _ d hp=>?_;simp only[ae,bc];exact hp
  |false =>
   simp only[ae,bc,qjs,r.ld,A.ld,G.ld,zu];refine C3.q (xE h m hk) λ _ d hp=>?_;simp only[ae,bc];exact hp
 |wN =>
  obtain⟨E,Y,gv,rfl,r,A,hg⟩:=O;refine Ln (R:=λ _ H'=>eL H o p _ H') hb ?_;refine qkk ?_;unfold So.on
  by_cases q:v % 2=1
  .simp only[ae,bc,TX,pR hv,xf q,r.ld,A.ld];refine C3.q (qK h (ko:=B5) hg) λ _ d hp=>?_;simp only[ae,bc];exact hp
  .have hg:gv=_:=hg;subst hg;simp only[ae,bc,TX,pR hv,q,A.ld];refine C3.q (LA h v) λ _ d hp=>?_;simp only[ae,bc];exact hp
 |xG k =>
  obtain⟨E,Y,gv,rfl,r,A,hg⟩:=O;refine Ln (R:=λ _ H'=>eL H o p _ H') hb ?_;refine qkk ?_;unfold So.on
  by_cases q:v % 2=1
  .simp only[ae,bc,TX,pR hv,xf q,r.ld,A.ld];refine C3.q (qK h (ko:=B1 k) hg) λ _ d hp=>?_;simp only[ae,bc];exact hp
  .obtain ⟨J,b4,kv,rfl,d1,d2,hk⟩:=hg;simp only[ae,bc,TX,pR hv,q,A.ld,mq,j7,FP];refine C3.q (R:=λ _ H'=>eL H o p (x.step k v x.rd 0) H') ?_ λ _ d hp=>?_
   .refine qqe ?_;have⟨H1,o1,e1,s,bg,C⟩:=h.bx (.int .u64 v) Vc;have d11:=d1.ky C.bk;simp only[ae,bc,qqf,aB,e1,d11.ld,s.bq];refine C3.q (M4 s.lg) λ rv H2⟨t,D,F⟩=>?_;have one:aA rv=true:=Sl.one (Own.sl t)
    -- what is made since
    have X:Mk H1 o1 H2 (aP o1 H1.au 30):=⟨F,λ z q=>iZ q⟩
    have T:=s.fr F (λ _ _ _ q=>q) X.ho;have hr:x.rd≠[]->aD rv<H2.au/\aP o1 H1.au 30 (aD rv)=30:=λ e=>by
     have on:=yP t e;exact⟨Own.lt t _ on,nj (D _ on)⟩
    have rt:∀{Hx ox},Mk H2 (aP o1 H1.au 30) Hx ox->bM cG 2 Hx rv x.rd/\(x.rd≠[]->aD rv<Hx.au/\ox (aD rv)=30):=λ m=>⟨m.bk.m.sl (aL.sl t) hr,λ e=>⟨qn (hr e).1 m.f.au,(m.ho _ (hr e).1).trans (hr e).2⟩⟩
    have⟨d,o3,s3,h3,br,m3⟩:=T.bz .nils one nS;have⟨u,o4,s4,h4,bi,m4⟩:=h3.byz (.int .i64 0) (v:=.int .i64 0) rfl bY;have⟨H5,o5,e5,h5,bs,m5⟩:=h4.by0 .nilf II;have⟨H6,o6,s6,h6,bl,m6⟩:=h5.bz .nilf (v:=mq Us [H2.au,d.au,J,u.au]) rfl UD;have⟨H7,o7,s7,h7,ba,m7⟩:=h6.bz .nilf (v:=mq Tw [H.au,J,b4]) rfl UD;have m13:=X.trans m3;have W:=((m4.trans m5).trans m6).trans m7;have m57:=(m5.trans m6).trans m7;have m67:=m6.trans m7;have m37:=m3.trans W;have m17:=m13.trans W;have Q:=C.trans m17;have⟨H8,s8,h8,V,U,f8⟩:=h7.sty hn (bs.ky m67.bk) (v:=mq SE [d.au,H2.au,J,H5.au,H6.au]) rfl;have P:=bi.ky m57.bk;have nb:d.au≠u.au:=by have:=m4.f.au;have:=bi.2.1;omega
    have bi8:By H8 o7 d.au (.int .i64 ((0:Nat):Int)):=⟨by rw[f8.ai _ P.2.1 nb];exact P.1,qn P.2.1 f8.au,P.2.2⟩
    have⟨t1,t2⟩:=rt m37;have n8:=f8.au;have one':=hk.one;have ln:=(aL.sl t).len;have B:Kz H8 o7 p k v x.rd d.au H.au J b4 H2.au u.au H5.au H6.au :=
     ⟨(bg.ky m17.bk).km U,(d1.ky Q.bk).km U,⟨kv,(d2.ky Q.bk).km U,(hk.ky Q.bk).km U,one'⟩,⟨rv,(br.ky W.bk).km U,U.sl t1 t2,λ e=>⟨qn (t2 e).1 n8,(t2 e).2⟩,one⟩,V,(bl.ky m7.bk).km U,ba.km U,by have:=h.lg;have⟨_,_,_,_,_,_,_,_,_,_,q,_⟩:=this;exact q.le⟩
    have S:=V.ld;simp only[mq,j7,FP]at s6 s7 s8 S;simp only[ae,bc,s3,s4,e5,kz,yt,s6,s7,s8,S];refine C3.q (JC h8 bi8 (x9 _) B) λ _ H9 hp=>?_;simp only[ae,bc];refine Q.pre ?_;have⟨o9,g9,fv9,w1,w2,w3⟩:=hp;exact⟨o9,g9,fv9,w1,λ z e=>w2 z (qn e n8),(f8.mono λ z _(e:z=u.au)=>by rw[e,V.2.2];decide).trans w3 λ z e=>.inl e⟩
   .simp only[ae,bc];exact hp
 |look k gg rd i =>
  obtain⟨bi,bg,bp,bk,br,bs,bl,ba,rfl,r,hi,B⟩:=O;refine Ln (R:=λ _ H'=>eL H o p _ H') hb ?_;refine qoa ?_;have⟨rv,t,D,F,r4⟩:=B.hr;obtain⟨y,hy⟩:∃y,rd[i]? = B1 y:=⟨rd[i],by simp[hi]⟩
  have hyd:rd.getD i ⟨0,0⟩=y:=by rw[z8,hy];rfl
  have ix:Op.aT 2 [rv,.int .i64 (i:Int)]=B1 (.ptr (aD rv) (cM 2 rv i)):=D.idx hy rfl .i64;have l1:Op.ah [.ptr (aD rv) (cM 2 rv i+1)] H=B1 (.int .u64 y.v):=D.ah BF hy (j:=1) (by decide);have eo:x.on v ok (.look k gg rd i)=if v≠y.v then x.leave 2 else x.step k gg rd (i+1):=by show(if v≠(rd.getD i ⟨0,0⟩).v then _ else _)=_;rw[hyd]
  rw[eo]
  by_cases q:v=y.v
  .have wj:ak .i64 ((i:Int)+1)=((i+1:Nat):Int):=by have:=B.hn;rw[ju (by omega) (by omega)];omega
   have⟨H1,s1,s,d1,C,I⟩:=h.sty hn r (v:=.int .i64 ((i+1:Nat):Int)) rfl;have nb:bs≠bi:=λ e=>by
    have a1:=B.hs.ld;have a2:=r.ld;rw[e,a2]at a1;injection a1 with a1;cases a1
   have ds:By H1 o bs _:=⟨by rw[I.ai bs B.hs.2.1 nb];exact B.hs.1,qn B.hs.2.1 I.au,B.hs.2.2⟩
   have⟨kv,k1,k2,k3⟩:=B.hk;have va1:Kz H1 o p k gg rd bi bg bp bk br bs bl ba:=⟨B.hg.km C,B.hp.km C,⟨kv,k1.km C,k2.km C,k3⟩,⟨rv,t.km C,C.sl D F,λ e=>⟨qn (F e).1 I.au,(F e).2⟩,r4⟩,ds,B.hl.km C,B.ha.km C,B.hn⟩
   simp only[ae,bc,C_,t.ld,r.ld,ix,l1,xf q,wj,s1,ds.ld,mq,j7,FP];refine C3.q (JC s d1 hi va1) λ _ d hp=>?_;simp only[ae,bc];have⟨o2,g2,fv2,w1,w2,w3⟩:=hp;exact⟨o2,g2,fv2,w1,λ z e=>w2 z (qn e I.au),(I.mono λ z _(e:z=bi)=>by rw[e,r.2.2];decide).trans w3 λ z e=>.inl e⟩
  .simp only[ae,bc,C_,t.ld,r.ld,ix,l1,q,B.hp.ld];refine C3.q (oU h 2) λ _ d hp=>?_;simp only[ae,bc];exact hp
 |again k gg =>
  obtain⟨bg,bp,bk,kv,rfl,r,A,G,hk⟩:=O;refine Ln (R:=λ _ H'=>eL H o p _ H') hb ?_;refine qob ?_;unfold So.on
  by_cases q:v=gg
  .simp only[ae,bc,W2,r.ld,A.ld,xf q];refine C3.q (wC h gg) λ _ H1⟨s,I⟩=>?_;have c31:=G.ky (h.on I);obtain⟨N,a,c,rfl,K⟩:=Fg (M:=M) s (hk.ky (h.on I));simp only[ae,bc,c31.ld];refine C3.q K λ _ d hp=>?_;simp only[ae,bc];exact eL.step h I hp
  .simp only[ae,bc,W2,r.ld,A.ld,G.ld,q];refine C3.q (WU h hk) λ _ d hp=>?_;simp only[ae,bc];exact hp
 |wP a =>
  obtain⟨ha,E,Y,rfl,r,A⟩:=O;refine Ln (R:=λ _ H'=>eL H o p _ H') hb ?_;refine quq ?_;have⟨H1,o1,e1,s,J,C⟩:=h.bx (.int .u64 v) Vc;have d1:=r.ky C.bk;have d2:=A.ky C.bk;simp only[ae,bc,qur,e1,d1.ld];refine C3.q (sZ s 0 (n:=.oE a v) ⟨⟨ha,hv⟩,_,_,_,rfl,d1,d2,J⟩ rfl) λ _ d hp=>?_;simp only[ae,bc];exact C.pre hp
 |oE a w =>
  obtain⟨⟨ha,hw⟩,E,Y,J,rfl,r,A,G⟩:=O;refine Ln (R:=λ _ H'=>eL H o p _ H') hb ?_;refine qry ?_
  by_cases q:v=x.snap
  .have lw:=W8 (M:=M) h.lg a;have go:∀(l:List Pr){H1:ar}{o1:Nat->Nat},x.ai a w=B1 l->(dk x.rd a).getD w=w->dV H1 o1 p {x with rd:=l} g fv->pB H o H1 o1->Fr (λ z=>8<=o z) H H1 ->
    ∃H2,Op.store 1 [.ptr p 10,.int .u64 w] H1=B1 (.undef,H2)/\Op.ah [.ptr E 0] H1=B1 (.ptr p 0)/\Op.ah [.ptr J 0] H1=B1 (.int .u64 w)/\Op.ah [.ptr E 0] H2=B1 (.ptr p 0)/\zj M TB [.ptr p 0,.int .u64 v] H2 λ _ d=>Op.ah [.ptr E 0] d=B1 (.ptr p 0)/\zj M Uw [.ptr p 0] d λ _ u=>eL H o p (x.on v ok (.oE a w)) u:=λ l{H1 o1}ek L s bk N=>by
    have⟨H2,s2,T,Z⟩:=s.put 10 (v:=.int .u64 w) (y:={x with rd:=l,value:=w}) rfl (by decide) rfl ⟨rfl,rfl,rfl,rfl⟩ hw;have d1:=r.ky bk;have d3:=G.ky bk;have e1:=d1.ky (s.on Z);refine⟨H2,s2,d1.ld,d3.ld,e1.ld,(wC T v).mono λ _ d⟨h3,f3⟩=>⟨(e1.ky (T.on f3)).ld,(Fe h3).mono λ _ u⟨h4,f4⟩=>?_⟩⟩;have e:x.on v ok (.oE a w) = {({x with rd:=l,value:=w}:So).pA v with busy:=B2}:=by
     show(if v≠x.snap then _ else if(dk x.rd a).getD w≠w then _ else match x.ai a w with|none=>_|some l=>_)=_;rw[qv (λ e=>e q),qv (λ e=>e L),ek]
    rw[e];exact eL.after bk.own N (s.Df ((Z.trans f3 λ z q=>.inl q).trans f4 λ z q=>.inl q) h4)
   have lv:∀{H1:ar}{o1:Nat->Nat},(dk x.rd a).getD w≠w\/(dk x.rd a).getD w=w/\x.ai a w=B5->dV H1 o1 p x g fv->pB H o H1 o1->Fr (λ z=>8<=o z) H H1->Op.ah [.ptr E 0] H1=B1 (.ptr p 0)/\zj M UK [.ptr p 0,.int .i64 2] H1 λ _ u=>eL H o p (x.on v ok (.oE a w)) u:=λ{H1 o1}L s bk N=>by
    refine⟨(r.ky bk).ld,(oU s 2).mono λ _ u hp=>?_⟩;have e:x.on v ok (.oE a w)=x.leave 2:=by
     show(if v≠x.snap then _ else if(dk x.rd a).getD w≠w then _ else match x.ai a w with|none=>_|some l=>_)=_;rw[qv (λ e=>e q)];rcases L with L|⟨L,ek⟩
     .rw [xb L]
     .rw [qv (λ e=>e L),ek]
    rw[e];exact eL.after bk.own N hp
   have bk0:pB H o H o:=⟨⟨λ _ _ _=>rfl,λ _ _=>rfl,qm _⟩,λ _ _ _=>rfl⟩
   have rest:∀{e:AV}{H1:ar},(dk x.rd a).getD w=w->Ll H o g x.rd a e (vU H o g x.rd x.wr H1) (vU H o g (if dk x.rd a=B5 then x.rd ++ [⟨a,w⟩]else x.rd) x.wr H1)->(e=.int .i64 70/\Op.ah [.ptr E 0] H1=B1 (.ptr p 0)/\zj M UK [.ptr p 0,.int .i64 2] H1 λ _ u=>eL H o p (x.on v ok (.oE a w)) u)\/e=.int .i64 0 /\ ∃H2,Op.store 1 [.ptr p 10,.int .u64 w] H1=B1 (.undef,H2)/\Op.ah [.ptr E 0] H1=B1 (.ptr p 0)/\Op.ah [.ptr J 0] H1=B1 (.int .u64 w)/\Op.ah [.ptr E 0] H2=B1 (.ptr p 0)/\zj M TB [.ptr p 0,.int .u64 v] H2 λ _ d=>Op.ah [.ptr E 0] d=B1 (.ptr p 0)/\zj M Uw [.ptr p 0] d λ _ u=>eL H o p (x.on v ok (.oE a w)) u:=λ L K=>by
    rcases K with⟨l1,l2,rfl,hp⟩|⟨l1,rfl,hp⟩
    .have ⟨o1,s,bk,N⟩:=h.log hp h.wu;exact .inl ⟨rfl,lv (.inr ⟨L,by unfold So.ai;rw[l1];simp only;rw[xb l2]⟩) s bk N⟩
    .have ⟨o1,s,bk,N⟩:=h.log hp h.wu;refine .inr ⟨rfl,go _ ?_ L s bk N⟩;unfold So.ai;cases hl:dk x.rd a with
     |some z=>simp only;rw[qv (by simp)]
     |none=>simp only;rw[qv λ e=>l1 ⟨hl,e⟩,xb trivial]
   cases hl:dk x.rd a with
   |some z =>
    rw[hl]at lw
    by_cases qz:z=w
    .subst qz;simp only[ae,bc,N8,aB,r.ld,h.bq,xf q,A.ld,lw,G.ld,vz,vn];refine C3.q (JQ h.lg ha z) λ e H1 K=>?_;rcases rest (by rw[hl];rfl) K with⟨rfl,t,D⟩|⟨rfl,H2,t,D,F,r4,r5⟩
     .have t7:¬(70:Int)=0:=by decide
      simp only[ae,bc,t7,t];refine C3.q D λ _ u hp=>?_;simp only[ae,bc];exact hp
     .simp only[ae,bc,N8,aB,t,D,F,r4];refine C3.q r5 λ _ d⟨r6,r7⟩=>?_;simp only[ae,bc,r6];refine C3.q r7 λ _ u hp=>?_;simp only[ae,bc];exact hp
    .simp only[ae,bc,N8,aB,r.ld,h.bq,xf q,A.ld,lw,G.ld,vz,vn,qz];refine C3.q (lv (.inl (by rw[hl];exact qz)) h bk0 (Fr.refl _)).2 λ _ u hp=>?_;simp only[ae,bc];exact hp
   |none =>
    rw[hl]at lw;simp only[ae,bc,N8,aB,r.ld,h.bq,xf q,A.ld,lw,G.ld,Option.getD_none,Lb];refine C3.q (JQ h.lg ha w) λ e H1 K=>?_;rcases rest (by rw[hl];rfl) K with⟨rfl,t,D⟩|⟨rfl,H2,t,D,F,r4,r5⟩
    .have t7:¬(70:Int)=0:=by decide
     simp only[ae,bc,t7,t];refine C3.q D λ _ u hp=>?_;simp only[ae,bc];exact hp
    .simp only[ae,bc,N8,aB,t,D,F,r4];refine C3.q r5 λ _ d⟨r6,r7⟩=>?_;simp only[ae,bc,r6];refine C3.q r7 λ _ u hp=>?_;simp only[ae,bc];exact hp
  .have e:x.on v ok (.oE a w)=x.validate (.kY a):=xb q;rw[e];simp only[ae,bc,N8,aB,r.ld,h.bq,q];refine C3.q (WU h (k:=.kY a) ⟨ha,_,_,rfl,r,A⟩) λ _ d hp=>?_;simp only[ae,bc];exact hp
 |uJ =>
  obtain⟨E,rfl,r⟩:=O;refine p_ (R:=λ _ H'=>eL H o p _ H') hb ?_;refine qww ?_;unfold So.on;cases ok with
  |true =>
   have⟨H1,s1,s,I⟩:=h.put 12 (v:=.int .i64 (ak .i64 (x.points+1))) (y:={x with points:=ak .i64 (x.points+1)}) rfl (by decide) rfl ⟨rfl,rfl,rfl,rfl⟩ h.vu;have d1:=r.ky (h.on I);have⟨H2,s2,T,Z⟩:=s.put 8 (v:=.bool B4) (y:={x with points:=ak .i64 (x.points+1),aF:=B4}) rfl (by decide) rfl ⟨rfl,rfl,rfl,rfl⟩ h.vu;have e1:=d1.ky (s.on Z);simp only[ae,bc,uF,aB,r.ld,h.bq,s1,d1.ld,s2,e1.ld,T.bq];refine C3.q (xQ T.lg) λ lv d⟨t,D,F⟩=>?_;have one:aA lv=true:=Sl.one (Own.sl t);have X:Mk H2 o d (aP o H2.au 30):=⟨F,λ z q=>iZ q⟩
   have h3:=T.fr F (λ _ _ _ q=>q) X.ho;have e3:=e1.ky X.bk;have hr:x.wr≠[]->aD lv<d.au/\aP o H2.au 30 (aD lv)=30:=λ e=>by
    have on:=yP t e;exact⟨Own.lt t _ on,nj (D _ on)⟩
   simp only[ae,bc,e3.ld];refine C3.q (Kf h3 (aL.sl t) h.wu hr one) λ _ u hp=>?_;simp only[ae,bc];exact eL.step h (I.trans Z λ z q=>.inl q) (X.pre hp)
  |false =>
   simp only[ae,bc,uF,r.ld,zu];refine C3.q (WU h (k:=.take) rfl) λ _ d hp=>?_;simp only[ae,bc];exact hp
 |Gi k =>
  refine quu ?_;obtain⟨N,a,c,rfl,K⟩:=Fg (M:=M) h O;simp only[ae,bc,quv,hb.ld];refine C3.q K λ _ d hp=>?_;simp only[ae,bc];exact hp
end
end Go.Am
namespace Go.Am
open Lang Go.Proofs
variable{M:ao}[MK M]
section
variable{H H1 H2 H':ar}{o o1 o2 o':Nat->Nat}{p g b f:Nat}{x y:So}{fv kv gv tv:AV}{v:Int}{ok:Bool}
def kS(h:dV H o p x g fv):∀K,C3 M B4 (.func lL) [.ptr p 0] H K=K B4 (.bool B2) H:=by
 refine eB (q1i ?_);simp only[ae,bc,q1j,aB,h.bq]
def ig(h:dV H o p x g fv):∀K,C3 M B4 (.func D_) [.ptr p 0] H K=K B4 (.bool x.busy) H:=by
 refine eB (q06 ?_);simp only[ae,bc,q07,aB,kS h,h.bq]
def J7(h:dV H o p x g fv):∀K,C3 M B4 (.func m_) [.ptr p 0] H K=K B4 (.bool x.aF) H:=by
 refine eB (qul ?_);simp only[ae,bc,qum,aB,kS h,h.bq]
def Fa(h:dV H o p x g fv):∀K,C3 M B4 (.func ω) [.ptr p 0] H K=K B4 (.int .u64 x.value) H:=by
 refine eB (qyp ?_);simp only[ae,bc,qyq,aB,kS h,h.bq]
def qY(h:dV H o p x g fv):∀K,C3 M B4 (.func _5) [.ptr p 0] H K=K B4 (.int .i64 x.ended) H:=by
 refine eB (qym ?_);simp only[ae,bc,qyn,aB,kS h,h.bq]
def eS(h:dV H o p x g fv):∀K,C3 M B4 (.func qx) [.ptr p 0] H K=K B4 (.int .i64 x.points) H:=by
 refine eB (qwm ?_);simp only[ae,bc,qwn,aB,kS h,h.bq]
def nA(h:dV H o p x g fv):∀K,C3 M B4 (.func _l) [.ptr p 0] H K=K B4 (.int .i64 (if x.ready=B4 then 0 else 80)) H:=by
 refine eB (qy3 ?_);unfold So.ready;cases q:x.busy<;>cases r:x.live<;>simp only[ae,bc,qy4,aB,kS h,h.bq,q,r,zu,Bool.true_and,Bool.false_and]
def L6(h:dV H o p x g fv)(a:Int):∀K,C3 M B4 (.func Γ) [.ptr p 0,.int .i64 a] H K=K B4 (.int .i64 (if x.ready=B4 then if 8<=a then 0 else 2 else 80)) H:=by
 refine eB (quw ?_);have d:¬(80:Int)=0:=by decide
 cases q:x.ready
 .simp only[ae,bc,U5,nA h,q,zu,d]
 .by_cases r:8<=a
  .have c:¬a<8:=HV.2 r;simp only[ae,bc,U5,nA h,q,c,xf r]
  .have c:a<8:=Int.not_le.1 r;simp only[ae,bc,U5,nA h,q,xf c,r]
def NZ:[AV.int .i64 0,.int .i64 0,.int .u64 0,.int .u64 0]=iW ⟨0,0,0,0⟩:=rfl
def R7(h:dV H o p x g fv):zj M E1 [.ptr p 0] H λ w H'=>(∃q,w=.tuple [.agg (iW x.want),.bool q])/\Fr Em H H':=by
 refine q1b ?_;obtain⟨H1,e1,i,-,-⟩:=cI H (OR (iW ⟨0,0,0,0⟩) Di);have d:At H1 H.au Di _:=e1▸At.new H _ _;have c:=h.fr i (λ _ _ _ q=>q) λ _ _=>rfl;have l4:Op.aw 4 [.ptr p 1] H1=B1 (.agg (iW x.want)):=c.row.fC (k:=1) (n:=4) (by simp[dK,iW]);have s1:=d.ij (k:=0) (n:=4) (v:=.agg (iW x.want)) rfl (by simp[iW]) rfl;have e2:(iW ⟨0,0,0,0⟩).take 0++AV.cells (.agg (iW x.want))++(iW ⟨0,0,0,0⟩).drop (0+4)=iW x.want:=rfl;rw[e2]at s1;obtain⟨H2,a⟩:∃X,X=H1.set H.au (OR (iW x.want) Di):=⟨_,rfl⟩
 rw[<-a]at s1;have j:Fr Em H H2:=a▸i.set (.inr (qm _)) _;have m:At H2 H.au Di (iW x.want):=a▸d.set _;have r:=h.fr j (λ _ _ _ q=>q) λ _ _=>rfl;have t:Op.aw 4 [.ptr H.au 0] H2=B1 (.agg (iW x.want)):=m.fC (k:=0) (n:=4) (by simp[iW]);obtain⟨q,s⟩:∃q:Bool,∀H,Op.eq .func B4 [fv,.nilf] H=B1 (.bool q):=by
  have:=h.nx;cases e:x.au with
  |none=>rw[e]at this;rw[show fv=_ from this];exact⟨B2,λ _=>rfl⟩
  |some n=>rw[e]at this;obtain⟨b,tv,rfl,-⟩:=this;exact⟨B4,λ _=>rfl⟩
 simp only[ae,bc,q1c,aB,NZ,<-e1,kS c,l4,c.bq,r.bq,s,s1,t];exact⟨⟨q,rfl⟩,j⟩
def Py(h:dV H o p x g fv)(m:fJ v):zj M Θ [.ptr p 0,.int .u64 v,.bool ok] H λ _ H'=>eL H o p (x.eX v ok) H':=by
 refine q08 ?_;unfold So.eX;have nx:=h.nx;cases e:x.au with
 |none =>
  rw[e]at nx;have nx:fv=.nilf:=nx;subst nx;have q:∀H,Op.eq .func B2 [.nilf,.nilf] H=B1 (.bool B4):=λ _=>rfl;simp only[ae,bc,Z',aB,kS h,h.bq,q];exact h.same
 |some n =>
  rw[e]at nx;obtain⟨b,tv,rfl,hb,j⟩:=nx;have q:∀f l H,Op.eq .func B2 [.fn f [] l,.nilf] H=B1 (.bool B2):=λ _ _ _=>rfl;have c:Op.build (iW ⟨0,0,0,0⟩) [] []=B1 (.agg (iW ⟨0,0,0,0⟩)):=rfl;have s1:=h.row.ij (k:=1) (n:=4) (v:=.agg (iW ⟨0,0,0,0⟩)) rfl (by simp[dK,iW]) rfl;have e2:(dK x g (mq (FC n) [b])).take 1++AV.cells (.agg (iW ⟨0,0,0,0⟩))++(dK x g (mq (FC n) [b])).drop (1+4)=dK {x with want:=⟨0,0,0,0⟩} g (mq (FC n) [b]):=rfl;rw[e2]at s1;obtain⟨H1,e1⟩:∃X,X=H.set p (OR (dK {x with want:=⟨0,0,0,0⟩} g (mq (FC n) [b])) Dr):=⟨_,rfl⟩
  rw[<-e1]at s1;have a:At H1 p Dr _:=e1▸h.row.set _;have s2:=a.st 5 (v:=.nilf) rfl (by simp[dK,iW]);have d:(dK {x with want:=⟨0,0,0,0⟩} g (mq (FC n) [b])).set 5 .nilf=dK {x with want:=⟨0,0,0,0⟩,au:=B5} g .nilf:=rfl;rw[d]at s2;have f:Fr (On p) H (H1.set p (OR (dK {x with want:=⟨0,0,0,0⟩,au:=B5} g .nilf) Dr)):=(e1▸cm H p _:Fr (On p) H H1).trans (cm ..) λ z q=>.inl q;have bk:=h.on f;have i:dV (H1.set p (OR (dK {x with want:=⟨0,0,0,0⟩,au:=B5} g .nilf) Dr)) o p {x with want:=⟨0,0,0,0⟩,au:=B5} g .nilf:=⟨a.set _,h.lg.fr f (λ z _ w(e:z=p)=>by rw[e,h.op]at w;omega) λ _ _=>rfl,rfl,h.op,rfl,h.vu,h.wu,bK⟩
  simp only[ae,bc,Z',aB,kS h,h.bq,q,NZ,c,s1,s2,mq,j7,FP];refine C3.q (son i rfl m (hb.ky bk) (j.ky bk)) λ _ r hp=>?_;simp only[ae,bc];exact eL.step h f hp
def LU(h:dV H o p x g fv):zj M qni [.ptr p 0] H λ _ H'=>eL H o p x.begin H':=by
 refine qyl ?_;unfold So.begin
 by_cases q:x.busy=B4\/x.live=B4
 .rw [xb q];cases b:x.busy
  .have l:x.live=true:=q.resolve_left (by rw[b];simp);simp only[ae,bc,Zm,aB,kS h,h.bq,b,l];exact h.same
  .simp only[ae,bc,Zm,aB,kS h,h.bq,b];exact h.same
 .rw [qv q];have b:x.busy=false:=by cases r:x.busy;rfl;exact(q (.inl r)).elim
  have l:x.live=false:=by cases r:x.live;rfl;exact(q (.inr r)).elim
  simp only[ae,bc,Zm,aB,kS h,h.bq,b,l];refine C3.q (LS h.lg) λ _ H1 hp=>?_;have⟨o1,a,bk,i⟩:=h.log hp (λ y w=>by cases w);have⟨H2,s2,j,c⟩:=a.put 10 (v:=.int .u64 0) (y:={x with rd:=[],wr:=[],value:=0}) rfl (by decide) rfl ⟨rfl,rfl,rfl,rfl⟩ bK;have⟨A,t,m,d⟩:=j.put 11 (v:=.int .i64 0) (y:={x with rd:=[],wr:=[],value:=0,ended:=0}) rfl (by decide) rfl ⟨rfl,rfl,rfl,rfl⟩ bK;have⟨B,u,s,e⟩:=m.put 6 (v:=.bool B4) (y:={x with rd:=[],wr:=[],value:=0,ended:=0,busy:=B4}) rfl (by decide) rfl ⟨rfl,rfl,rfl,rfl⟩ bK;simp only[ae,bc,aB,s2,t,u];refine C3.q (xE s 1 (k:=.wait) rfl) λ _ C hp=>?_;simp only[ae,bc];simp only[l]at hp;exact eL.after bk.own i (eL.step a ((c.trans d λ z q=>.inl q).trans e λ z q=>.inl q) hp)
def xjs(h:dV H o p x g fv)(a:Int):zj M D1 [.ptr p 0,.int .i64 a] H λ _ H'=>eL H o p (x.load a) H':=by
 refine q09 ?_;unfold So.load;have A:¬(80:Int)=0:=by decide
 have u:¬(2:Int)=0:=by decide
 by_cases q:x.ready=B4/\8<=a
 .rw [xb q];have lk:=Qg (M:=M) h.lg a;cases e:dk x.wr a with
  |some z =>
   rw[e]at lk;have s:fJ z:=by
    rw[JG]at e;obtain⟨i,m,rfl⟩:=xk.1 e;obtain⟨c,y,j,-⟩:=pJ m;rw[z8,j];exact h.wu y (zh j)
   have⟨H1,s1,c,d⟩:=h.put 10 (v:=.int .u64 z) (y:={x with value:=z}) rfl (by decide) rfl ⟨rfl,rfl,rfl,rfl⟩ s;simp only[ae,bc,Uc,aB,L6 h,q.1,xf q.2,h.bq,lk,vz,vn,s1];exact h.Df d c
  |none =>
   rw[e]at lk;have⟨H1,s1,c,d⟩:=h.put 6 (v:=.bool B4) (y:={x with busy:=B4}) rfl (by decide) rfl ⟨rfl,rfl,rfl,rfl⟩ h.vu;simp only[ae,bc,Uc,aB,L6 h,q.1,xf q.2,h.bq,lk,Option.getD_none,Lb,s1];refine C3.q (CL c (a:=a) (by omega)) λ _ B hp=>?_;simp only[ae,bc];exact eL.step h d hp
 .rw [qv q]
  by_cases r:x.ready=B4
  .have t:¬8<=a:=λ w=>q ⟨r,w⟩;simp only[ae,bc,Uc,L6 h,r,t,u];exact h.same
  .simp only[ae,bc,Uc,L6 h,qv r,A];exact h.same
def xf1(h:dV H o p x g fv)(a:Int)(j:fJ v):zj M S1 [.ptr p 0,.int .i64 a,.int .u64 v] H λ _ H'=>eL H o p (x.store a v) H':=by
 refine qyo ?_;unfold So.store;have B:¬(80:Int)=0:=by decide
 have z:¬(2:Int)=0:=by decide
 have A:¬(70:Int)=0:=by decide
 by_cases q:x.ready=B4/\8<=a
 .rw [xb q];simp only[ae,bc,Sd,aB,L6 h,q.1,xf q.2,h.bq];refine C3.q (MT h.lg (a:=a) (by omega) v) λ e H1 t=>?_;rcases t with⟨l1,l2,rfl,hp⟩|⟨l1,rfl,hp⟩
  .rw [xb ⟨l1,l2⟩];have⟨o1,c,bk,d⟩:=h.log hp h.wu;have⟨H2,s2,s,m⟩:=c.put 6 (v:=.bool B4) (y:={x with busy:=B4}) rfl (by decide) rfl ⟨rfl,rfl,rfl,rfl⟩ h.vu;simp only[ae,bc,aB,A,s2];refine C3.q (oU s 2) λ _ C hp=>?_;simp only[ae,bc,Sd];exact eL.after bk.own d (eL.step c m hp)
  .rw [qv l1];have hu:∀y∈fN x.wr a v,fJ y.v:=λ y w=>by
    cases e:iB x.wr a with
    |none=>rw[TG e]at w;exact(zt.1 w).elim (h.wu y) λ w=>by rw[jz.1 w];exact j
    |some i=>rw[Uu e]at w;exact(FU w).elim (h.wu y) λ w=>by rw[w];exact j
   have⟨o1,c,bk,d⟩:=h.log hp hu;simp only[ae,bc,Sd];exact⟨o1,_,_,c,bk.own,d⟩
 .rw [qv q]
  by_cases r:x.ready=B4
  .have u:¬8<=a:=λ w=>q ⟨r,w⟩;simp only[ae,bc,Sd,L6 h,r,u,z];exact h.same
  .simp only[ae,bc,Sd,L6 h,qv r,B];exact h.same
def xdr(h:dV H o p x g fv):zj M wz [.ptr p 0] H λ _ H'=>eL H o p x.bt H':=by
 refine qwl ?_;unfold So.bt;have s:¬(80:Int)=0:=by decide
 by_cases r:x.ready=B4
 .rw [xb r];have⟨H1,s1,a,e⟩:=h.put 6 (v:=.bool B4) (y:={x with busy:=B4}) rfl (by decide) rfl ⟨rfl,rfl,rfl,rfl⟩ h.vu;simp only[ae,bc,YT,aB,nA h,r,s1,a.bq];refine C3.q (xQ a.lg) λ lv H2⟨m,t,d⟩=>?_;have ln:=(aL.sl m).len;have i:=a.fr d (λ _ _ _ q=>q) λ _ _=>rfl
  by_cases q:x.wr.length=0
  .have c:((x.wr.length:Nat):Int)=0:=by omega
   rw[xb q];simp only[ae,bc,ln,xf c];refine C3.q (oU i 1) λ _ j hp=>?_;simp only[ae,bc];exact eL.step h e (eL.pre d (λ _ _=>rfl) hp)
  .have c:¬((x.wr.length:Nat):Int)=0:=by omega
   rw[qv q];simp only[ae,bc,YT,ln,c];refine C3.q (JT i) λ _ j hp=>?_;simp only[ae,bc];exact eL.step h e (eL.pre d (λ _ _=>rfl) hp)
 .rw [qv r];simp only[ae,bc,YT,nA h,qv r,s];exact h.same
def xjv(h:dV H o p x g fv):zj M qpt [.ptr p 0] H λ _ H'=>eL H o p x.Fm H':=by
 refine q1a ?_;unfold So.Fm;have d:¬(80:Int)=0:=by decide
 by_cases r:x.ready=B4
 .rw [xb r];have⟨H1,s1,c,a⟩:=h.put 6 (v:=.bool B4) (y:={x with busy:=B4}) rfl (by decide) rfl ⟨rfl,rfl,rfl,rfl⟩ h.vu;simp only[ae,bc,Wv,aB,nA h,r,s1];refine C3.q (oU c 3) λ _ e hp=>?_;simp only[ae,bc,Wv];exact eL.step h a hp
 .rw [qv r];simp only[ae,bc,Wv,nA h,qv r,d];exact h.same
end
end Go.Am
namespace Go.Am
open Lang Go.Proofs
variable{M:ao}[MK M]
def cE(c:Co)(f l sp:Nat)(cv rv ov pv:AV):List AV:=[.int .i64 c.id,.int .i64 c.lines,cv,.ptr f 0,.ptr l 0,.ptr sp 0,.int .i64 c.ph,.int .i64 c.want.kind,.int .i64 c.want.au,.int .i64 c.want.pO,.int .u64 c.want.value,.int .u64 c.want.addr,.int .u64 c.seq,rv,.int .i64 c.done,.bool c.wrote,.bool c.held,.bool c.said,.int .i64 c.blocks,.int .i64 c.pk,.bool c.halted,.bool c.Cl,ov,pv]
def tj(ps:List Pr):Prop:=∀i x,ps[i]? = B1 x->iB ps x.a=B1 i
structure Jw(c:Co)(k:Nat):Prop where
 id:0<=c.id
 l2:2<=c.lines
 l64:c.lines<=64
 cl:c.code.length<=1024
 ru:∀y∈c.aV,fJ y.v
 rl:c.aV.length<=k
 d0:0<=c.done
 wu:fJ c.want.addr
 LC:tj c.aV
structure dW(H:ar)(o:Nat->Nat)(p f l sp:Nat)(cv rv ov pv:AV)(c:Co)(os:List eF)(k:Nat):Prop where
 row:At H p Gv (cE c f l sp cv rv ov pv)
 fi:qF H o f c.fi
 la:lV H l c.la
 so:∃g fv,dV H o sp c.so g fv
 cd:bM fZ 5 H cv c.code
 rd:Fq H rv c.aV
 ou:aL eF.enc j9 9 H ov os
 op:o p=1
 of:o f=2
 ol:o l=3
 qI:∀z,aM rv z->o z=5
 pG:∀z,aM ov z->o z=6
 mG:c.code≠[]->aD cv<H.au/\o (aD cv)=7
 FJ:aA pv=B4
 w:Jw c k
section
variable{H H':ar}{o o':Nat->Nat}{p f l sp k k':Nat}{cv rv ov pv:AV}{c d:Co}{os os':List eF}
def Iq{α:Type}{enc:α->List AV}{size:Nat}{W:Nat->Prop}{lv:AV}{xs:List α}(h:bM enc size H lv xs)(a:Fr W H H')(hw:xs≠[] -> ¬W (aD lv)):bM enc size H' lv xs:=by
 cases xs with
 |nil=>exact Sl.fr h a (.inl rfl)
 |cons y l=>exact Sl.fr h a (.inr (hw (by simp)))
def dW.fr4{W:Nat->Prop}(h:dW H o p f l sp cv rv ov pv c os k)(a:Fr W H H')(hw:∀z,z<H.au->o z≠0->o z≠4 -> ¬W z)(ho:∀z,z<H.au->o' z=o z)(hk:k<=k'):dW H' o' p f l sp cv rv ov pv c os k':=by
 have⟨g,fv,hs⟩:=h.so;have r:=λ z(q:aM rv z)=>Own.lt h.rd z q;have u:=λ z(q:aM ov z)=>Own.lt h.ou z q;exact⟨h.row.fr a (hw p h.row.2 (by rw[h.op];decide) (by rw[h.op];decide)),h.fi.fr a h.of (λ z q e=>hw z q (by omega) (by omega)) ho,h.la.fr a (hw l h.la.at'.2 (by rw[h.ol];decide) (by rw[h.ol];decide)),⟨g,fv,hs.fr a (λ z q e=>hw z q (by omega) (by omega)) ho⟩,
  Iq h.cd a λ e=>hw _ (h.mG e).1 (by rw[(h.mG e).2];decide) (by rw[(h.mG e).2];decide),Own.fr h.rd a λ z q=>hw z (r z q) (by rw[h.qI z q];decide) (by rw[h.qI z q];decide),Own.fr h.ou a λ z q=>hw z (u z q) (by rw[h.pG z q];decide) (by rw[h.pG z q];decide),
  (ho p h.row.2).trans h.op,(ho f (by obtain⟨pv,q,-⟩:=h.fi.at';exact q.2)).trans h.of,(ho l h.la.at'.2).trans h.ol,λ z q=>(ho z (r z q)).trans (h.qI z q),λ z q=>(ho z (u z q)).trans (h.pG z q),λ e=>⟨qn (h.mG e).1 a.au,(ho _ (h.mG e).1).trans (h.mG e).2⟩,h.FJ,
  {h.w with rl:=zd h.w.rl hk}⟩
def dW.fr{W:Nat->Prop}(h:dW H o p f l sp cv rv ov pv c os k)(a:Fr W H H')(hw:∀z,z<H.au->o z≠0 -> ¬W z)(ho:∀z,z<H.au->o' z=o z)(hk:k<=k'):dW H' o' p f l sp cv rv ov pv c os k':=h.fr4 a (λ z q r _=>hw z q r) ho hk
def ia(H:ar)(o:Nat->Nat)(p f l sp:Nat)(cv pv:AV)(c:Co)(os:List eF)(k:Nat)(H':ar):Prop:=∃o' rv ov,dW H' o' p f l sp cv rv ov pv c os k/\(∀z,z<H.au->o' z=o z)/\Fr (λ z=>o z≠0) H H'
def dW.bq(h:dW H o p f l sp cv rv ov pv c os k):Op.ah [.ptr p 0] H=B1 (.int .i64 c.id)/\Op.ah [.ptr p 1] H=B1 (.int .i64 c.lines)/\Op.ah [.ptr p 2] H=B1 cv/\Op.ah [.ptr p 3] H=B1 (.ptr f 0)/\Op.ah [.ptr p 4] H=B1 (.ptr l 0)/\Op.ah [.ptr p 5] H=B1 (.ptr sp 0)/\Op.ah [.ptr p 6] H=B1 (.int .i64 c.ph)/\Op.ah [.ptr p 7] H=B1 (.int .i64 c.want.kind)/\Op.ah [.ptr p 12] H=B1 (.int .u64 c.seq) /\
 Op.ah [.ptr p 13] H=B1 rv/\Op.ah [.ptr p 14] H=B1 (.int .i64 c.done)/\Op.ah [.ptr p 15] H=B1 (.bool c.wrote)/\Op.ah [.ptr p 16] H=B1 (.bool c.held)/\Op.ah [.ptr p 17] H=B1 (.bool c.said)/\Op.ah [.ptr p 18] H=B1 (.int .i64 c.blocks)/\Op.ah [.ptr p 19] H=B1 (.int .i64 c.pk)/\Op.ah [.ptr p 20] H=B1 (.bool c.halted)/\Op.ah [.ptr p 21] H=B1 (.bool c.Cl)/\Op.ah [.ptr p 22] H=B1 ov/\Op.ah [.ptr p 23] H=B1 pv/\Op.aw 5 [.ptr p 7] H=B1 (.agg (bn c.want)) :=
 ⟨h.row.ld 0,h.row.ld 1,h.row.ld 2,h.row.ld 3,h.row.ld 4,h.row.ld 5,h.row.ld 6,h.row.ld 7,h.row.ld 12,h.row.ld 13,h.row.ld 14,h.row.ld 15,h.row.ld 16,h.row.ld 17,h.row.ld 18,h.row.ld 19,h.row.ld 20,h.row.ld 21,h.row.ld 22,h.row.ld 23,h.row.fC (k:=7) (n:=5) (by simp[cE])⟩
def dW.np(h:dW H o p f l sp cv rv ov pv c os k):∀z,o z≠1 -> ¬On p z:=λ z e(w:z=p)=>e (by rw[w];exact h.op)
def dW.cell(h:dW H o p f l sp cv rv ov pv c os k){rv' ov' pv':AV}(hs:d.fi=c.fi/\d.la=c.la/\d.so=c.so/\d.code=c.code)(hr:Fq H rv' d.aV /\ ∀z,aM rv' z->o z=5)(hu:aL eF.enc j9 9 H ov' os' /\ ∀z,aM ov' z->o z=6)(hp:aA pv'=B4)(hw:Jw d k') :
 dW (H.set p (OR (cE d f l sp cv rv' ov' pv') Gv)) o p f l sp cv rv' ov' pv' d os' k'/\Fr (On p) H (H.set p (OR (cE d f l sp cv rv' ov' pv') Gv)):=by
 have a:Fr (On p) H (H.set p (OR (cE d f l sp cv rv' ov' pv') Gv)):=cm ..;have⟨g,fv,b⟩:=h.so;have⟨e1,e2,j,i⟩:=hs;refine⟨⟨h.row.set _,?_,?_,⟨g,fv,?_⟩,?_,Own.fr hr.1 a λ z q=>h.np z (by rw[hr.2 z q];decide),Own.fr hu.1 a λ z q=>h.np z (by rw[hu.2 z q];decide),h.op,h.of,h.ol,hr.2,hu.2,?_,hp,hw⟩,a⟩
 .rw [e1];exact h.fi.fr a h.of (λ z q e=>h.np z (by omega)) λ _ _=>rfl
 .rw [e2];exact h.la.fr a (h.np l (by rw[h.ol];decide))
 .rw [j];exact b.fr a (λ z q e=>h.np z (by omega)) λ _ _=>rfl
 .rw [i];exact Iq h.cd a λ e=>h.np _ (by rw[(h.mG e).2];decide)
 .rw [i];exact h.mG
def dW.put(h:dW H o p f l sp cv rv ov pv c os k)(i:Nat){v:AV}(d:Co)(a:aA v=B4)(b:i<24)(he:(cE c f l sp cv rv ov pv).set i v=cE d f l sp cv rv ov pv)(hs:d.fi=c.fi/\d.la=c.la/\d.so=c.so/\d.code=c.code)(hr:d.aV=c.aV)(hw:Jw d k) :
 ∃H',Op.store 1 [.ptr p i,v] H=B1 (.undef,H')/\dW H' o p f l sp cv rv ov pv d os k/\Fr (On p) H H':=by
 have⟨e,g⟩:=h.cell (d:=d) hs (rv':=rv) ⟨by rw[hr];exact h.rd,h.qI⟩ ⟨h.ou,h.pG⟩ h.FJ hw;exact⟨_,by rw[h.row.st i a b,he],e,g⟩
def dW.Df(h:dW H o p f l sp cv rv ov pv c os k){H1:ar}(a:Fr (On p) H H1){e b:AV}(g:dW H1 o p f l sp cv e b pv d os' k'):ia H o p f l sp cv pv d os' k' H1:=⟨o,e,b,g,λ _ _=>rfl,a.mono λ z _(q:z=p)=>by rw[q,h.op];decide⟩
def dW.GZ(h:dW H o p f l sp cv rv ov pv c os k){y:Fi}(hp:Mx H o f y H'):ia H o p f l sp cv pv {c with fi:=y} os k H':=by
 have⟨i,a⟩:=hp;have ho:∀z,z<H.au->aP o H.au 2 z=o z:=λ z q=>iZ q;have b:∀z,o z≠2 -> ¬On f z:=λ z e(w:z=f)=>e (by rw[w];exact h.of);have⟨g,fv,hs⟩:=h.so;have r:=λ z(q:aM rv z)=>Own.lt h.rd z q;have u:=λ z(q:aM ov z)=>Own.lt h.ou z q;refine⟨aP o H.au 2,rv,ov,⟨h.row.fr a (b p (by rw[h.op];decide)),i,h.la.fr a (b l (by rw[h.ol];decide)),⟨g,fv,hs.fr a (λ z q e=>b z (by omega)) ho⟩,Iq h.cd a λ e=>b _ (by rw[(h.mG e).2];decide),Own.fr h.rd a λ z q=>b z (by rw[h.qI z q];decide),Own.fr h.ou a λ z q=>b z (by rw[h.pG z q];decide),
  (ho p h.row.2).trans h.op,(ho f (by obtain⟨pv,q,-⟩:=h.fi.at';exact q.2)).trans h.of,(ho l h.la.at'.2).trans h.ol,λ z q=>(ho z (r z q)).trans (h.qI z q),λ z q=>(ho z (u z q)).trans (h.pG z q),λ e=>⟨qn (h.mG e).1 a.au,(ho _ (h.mG e).1).trans (h.mG e).2⟩,h.FJ,{h.w with}⟩,ho,a.mono λ z _(q:z=f)=>by rw[q,h.of];decide⟩
def dW.Vs(h:dW H o p f l sp cv rv ov pv c os k){y:La}(hp:Po H l y H'):ia H o p f l sp cv pv {c with la:=y} os k H':=by
 have⟨b,a⟩:=hp;have nl:∀z,o z≠3 -> ¬On l z:=λ z e(w:z=l)=>e (by rw[w];exact h.ol);have⟨g,fv,hs⟩:=h.so;exact⟨o,rv,ov,⟨h.row.fr a (nl p (by rw[h.op];decide)),h.fi.fr a h.of (λ z q e=>nl z (by omega)) λ _ _=>rfl,b,⟨g,fv,hs.fr a (λ z q e=>nl z (by omega)) λ _ _=>rfl⟩,Iq h.cd a λ e=>nl _ (by rw[(h.mG e).2];decide),Own.fr h.rd a λ z q=>nl z (by rw[h.qI z q];decide),Own.fr h.ou a λ z q=>nl z (by rw[h.pG z q];decide),
  h.op,h.of,h.ol,h.qI,h.pG,λ e=>⟨qn (h.mG e).1 a.au,(h.mG e).2⟩,h.FJ,{h.w with}⟩,λ _ _=>rfl,a.mono λ z _(q:z=l)=>by rw[q,h.ol];decide⟩
def dW.Oo(h:dW H o p f l sp cv rv ov pv c os k){y:So}(hp:eL H o sp y H'):ia H o p f l sp cv pv {c with so:=y} os k H':=by
 have⟨o',g,fv,b,ho,a⟩:=hp;have nl:∀z,o z<8 -> ¬(8<=o z):=λ z e w=>by omega
 have r:=λ z(q:aM rv z)=>Own.lt h.rd z q;have u:=λ z(q:aM ov z)=>Own.lt h.ou z q;exact⟨o',rv,ov,⟨h.row.fr a (nl p (by rw[h.op];decide)),h.fi.fr a h.of (λ z q e=>nl z (by omega)) ho,h.la.fr a (nl l (by rw[h.ol];decide)),⟨g,fv,b⟩,Iq h.cd a λ e=>nl _ (by rw[(h.mG e).2];decide),Own.fr h.rd a λ z q=>nl z (by rw[h.qI z q];decide),Own.fr h.ou a λ z q=>nl z (by rw[h.pG z q];decide),
  (ho p h.row.2).trans h.op,(ho f (by obtain⟨pv,q,-⟩:=h.fi.at';exact q.2)).trans h.of,(ho l h.la.at'.2).trans h.ol,λ z q=>(ho z (r z q)).trans (h.qI z q),λ z q=>(ho z (u z q)).trans (h.pG z q),λ e=>⟨qn (h.mG e).1 a.au,(ho _ (h.mG e).1).trans (h.mG e).2⟩,h.FJ,{h.w with}⟩,ho,a.mono λ z _(q:8<=o z)=>by omega⟩
def Jw.mono(h:Jw c k)(hk:k<=k'):Jw c k':={h with rl:=zd h.rl hk}
end
end Go.Am
namespace Go.Am
open Lang Go.Proofs
variable{M:ao}[MK M]
section
variable{H H1 H':ar}{o o1:Nat->Nat}{p f l sp k k':Nat}{cv rv ov pv:AV}{c d:Co}{os os':List eF}{s t:CS}
def dW.em(h:dW H o p f l sp cv rv ov pv c os k)(a:Fr Em H H'):dW H' o p f l sp cv rv ov pv c os k:=h.fr a (λ _ _ _ q=>q) (λ _ _=>rfl) (qm _)
def ia.then(a:ia H o p f l sp cv pv c os k H1)(b:∀o1 g e,dW H1 o1 p f l sp cv g e pv c os k->ia H1 o1 p f l sp cv pv d os' k' H'):ia H o p f l sp cv pv d os' k' H':=by
 have⟨o1,g,e,n,j,m⟩:=a;have⟨o2,i,h,r,u,v⟩:=b _ _ _ n;refine⟨o2,i,h,r,λ z q=>(u z (qn q m.au)).trans (j z q),m.trans v λ z q=>?_⟩;rcases xw z H.au with w|w
 .exact .inl (by rw[<-j z w];exact q)
 .exact .inr w
def ia.pre(a:Fr Em H H1)(b:ia H1 o p f l sp cv pv d os' k' H'):ia H o p f l sp cv pv d os' k' H':=by
 have⟨o2,g,e,h,i,j⟩:=b;exact⟨o2,g,e,h,λ z q=>i z (qn q a.au),(a.mono λ _ _ q=>q.elim).trans j λ z q=>.inl q⟩
def Tj(x:eF):x.enc.length=9:=rfl
def Lf:eF:=⟨0,0,0,0,0,0,0,0,0⟩
def VO:[AV.int .i64 0,.int .i64 0,.int .i64 0,.int .i64 0,.int .i64 0,.int .i64 0,.int .i64 0,.int .u64 0,.int .i64 0]=Lf.enc:=rfl
def MI(h:dW H o p f l sp cv rv ov pv c os k):∀K,C3 M B4 (.func qpf) [.ptr p 0] H K=K B4 (.bool B2) H:=by
 refine eB (qz4 ?_);simp only[ae,bc,qz5,aB,h.bq]
def FF(h:dW H o p f l sp cv rv ov pv s.c s.o k)(hl:s.o.length<=1000)(r a v cd:Int):zj M WB [.ptr p 0,.int .i64 r,.int .i64 a,.int .u64 v,.int .i64 cd] H λ _ H'=>ia H o p f l sp cv pv (s.tell r a v cd).c (s.tell r a v cd).o k H':=by
 refine qz6 ?_;obtain⟨H1,e1,f1,-,-⟩:=cI H (OR Lf.enc j9);have P:At H1 H.au j9 _:=e1▸At.new H _ _;obtain⟨e,he⟩:∃e:eF,e=⟨r,0,s.c.id,-1,0,0,a,v,cd⟩:=⟨_,rfl⟩
 have S:Op.build Lf.enc [(0,1),(2,1),(3,1),(6,1),(7,1),(8,1)] [.int .i64 r,.int .i64 s.c.id,.int .i64 (-1),.int .i64 a,.int .u64 v,.int .i64 cd]=B1 (.agg e.enc):=by rw[he];rfl
 have s1:=P.ij (k:=0) (n:=9) (v:=.agg e.enc) rfl (by simp[eF.len]) rfl;have D:Lf.enc.take 0++AV.cells (.agg e.enc)++Lf.enc.drop (0+9)=e.enc:=by rw[z6];rfl
 rw[D]at s1;obtain⟨I,e2⟩:∃X,X=H1.set H.au (OR e.enc j9):=⟨_,rfl⟩
 rw[<-e2]at s1;have J:At I H.au j9 e.enc:=e2▸P.set _;have L:Fr Em H I:=e2▸f1.set (.inr (qm _)) _;have C:=h.em L;have n2:H.au<I.au:=J.2
 -- the list
 have app:∀{j:ar}(x:eF),Fr Em H j -> ∀{K:bF->(Nat->AV)->Bool->AV->ar->Prop}{m:Bool},(∀u y A,Op.store 1 [.ptr p 22,u] y=B1 (.undef,A)->ia H o p f l sp cv pv s.c (s.o ++ [x]) k A->K (.row (AV.cells (.agg x.enc)) j9 (0,0) B4) (Op.sliceTo 1 1) m u y) ->
  jN m (Op.buildSlice j9 1 Lf.enc [(0,9)] [.agg x.enc]) λ g o mk=>jN g (Op.append j9 9 72 [ov,mk j.au] (j.alloc o)) (K o mk):=λ{j}x B{K m}hk=>by
  have b:=h.em B;refine aL.mO b.ou (x:=.agg x.enc) (a:=x) rfl rfl rfl rfl (by decide) (by omega) (by omega) λ u y Y N hz=>?_;have one:aA u=true:=Sl.one (Own.sl Y);have lu:=λ z(q:aM ov z)=>Own.lt b.ou z q
  -- new rows are of the told list
  have ho:∀z,z<j.au->aP o j.au 6 z=o z:=λ z q=>iZ q;have W:∀z,o z≠6 -> ¬aM ov z:=λ z q w=>q (b.pG z w);have f34:Fr (λ z=>o z≠0) j y:=N.mono λ z _ q=>by rw[b.pG z q];decide
  have⟨g,fv,hs⟩:=b.so;have lr:=λ z(q:aM rv z)=>Own.lt b.rd z q;have Z:At y p Gv _:=b.row.fr N (W p (by rw[b.op];decide));have st:=Z.st 22 one (by simp[cE]);have e5:(cE s.c f l sp cv rv ov pv).set 22 u=cE s.c f l sp cv rv u pv:=rfl;rw[e5]at st;obtain⟨A,O⟩:∃X,X=y.set p (OR (cE s.c f l sp cv rv u pv) Gv):=⟨_,rfl⟩
  rw[<-O]at st;have U:Fr (On p) y A:=O▸cm ..;have i:Fr (λ z=>aM ov z\/z=p) j A:=(N.mono λ z _ q=>.inl q).trans U λ z q=>.inl (.inr q);have nw:∀z,o z≠6->o z≠1 -> ¬(aM ov z\/z=p):=λ z e6 e1 w=>w.elim (W z e6) λ w=>e1 (by rw[w];exact b.op);have no:∀z,aM u z->aP o j.au 6 z=6:=λ z q=>(hz z q).elim (λ w=>(ho z (lu z w)).trans (b.pG z w)) λ w=>nj w;refine hk u y A st (ia.pre B ⟨aP o j.au 6,rv,u,⟨O▸Z.set _,b.fi.fr i b.of (λ z q e=>nw z (by omega) (by omega)) ho,b.la.fr i (nw l (by rw[b.ol];decide) (by rw[b.ol];decide)),⟨g,fv,hs.fr i (λ z q e=>nw z (by omega) (by omega)) ho⟩,Iq b.cd i λ e=>nw _ (by rw[(b.mG e).2];decide) (by rw[(b.mG e).2];decide),Own.fr b.rd i λ z q=>nw z (by rw[b.qI z q];decide) (by rw[b.qI z q];decide),Own.fr Y U λ z q(w:z=p)=>?_,
   (ho p b.row.2).trans b.op,(ho f (by obtain⟨pv,q,-⟩:=b.fi.at';exact q.2)).trans b.of,(ho l b.la.at'.2).trans b.ol,λ z q=>(ho z (lr z q)).trans (b.qI z q),no,λ e=>⟨qn (b.mG e).1 i.au,(ho _ (b.mG e).1).trans (b.mG e).2⟩,b.FJ,b.w⟩,ho,i.mono λ z _ q=>q.elim (λ q=>by rw[b.pG z q];decide) λ q=>by rw[q,b.op];decide⟩)
  have:=no z q;rw[w,ho p b.row.2,b.op]at this;omega
 have ld:∀{j:ar}{x:eF},At j H.au j9 x.enc->Op.aw 9 [.ptr H.au 0] j=B1 (.agg x.enc):=λ a=>a.fC (k:=0) (n:=9) (by simp[eF.len])
 by_cases q:s.c.la.lane=0
 .have ev:CS.MH s.c r a v cd=e:=by rw[he];unfold CS.MH;rw[xb q]
  unfold CS.tell;rw[ev];simp only[ae,bc,Xa,aB,VO,<-e1,h.bq,S,s1,C.bq,iP C.la,xf q,ld J];refine app e L λ u y A st hp=>?_;simp only[ae,bc,st];exact hp
 .obtain ⟨D,E⟩:∃x:eF,x=⟨r,0,s.c.id,ak .i64 (s.c.blocks-1),0,0,a,v,cd⟩:=⟨_,rfl⟩
  obtain⟨G,F⟩:∃x:eF,x=⟨r,0,s.c.id,ak .i64 (s.c.blocks-1),s.c.la.tries,0,a,v,cd⟩:=⟨_,rfl⟩
  have ev:CS.MH s.c r a v cd=⟨r,0,s.c.id,ak .i64 (s.c.blocks-1),s.c.la.tries,s.c.la.lane,a,v,cd⟩:=by unfold CS.MH;rw[qv q]
  unfold CS.tell;rw[ev];simp only[ae,bc,Xa,aB,VO,<-e1,h.bq,S,s1,C.bq,iP C.la,q];refine C3.q (U9 C.la) λ w j⟨hw,B⟩=>?_;subst hw;have b:=C.em B;have Q:=J.em B;have t1:=Q.st 3 (v:=.int .i64 (ak .i64 (s.c.blocks-1))) rfl (by simp[eF.len]);have y1:e.enc.set 3 (.int .i64 (ak .i64 (s.c.blocks-1)))=D.enc:=by rw[he,E];rfl
  rw[y1]at t1;have R:=Q.set D.enc;have t2:=R.st 4 (v:=.int .i64 s.c.la.tries) rfl (by simp[eF.len]);have y2:D.enc.set 4 (.int .i64 s.c.la.tries)=G.enc:=by rw[E,F];rfl
  rw[y2]at t2;have T:=R.set G.enc;have t3:=T.st 5 (v:=.int .i64 s.c.la.lane) rfl (by simp[eF.len]);have y3:G.enc.set 5 (.int .i64 s.c.la.lane)=eF.enc ⟨r,0,s.c.id,ak .i64 (s.c.blocks-1),s.c.la.tries,s.c.la.lane,a,v,cd⟩:=by rw[F];rfl
  rw[y3]at t3;have d3:=T.set (eF.enc ⟨r,0,s.c.id,ak .i64 (s.c.blocks-1),s.c.la.tries,s.c.la.lane,a,v,cd⟩);have V:Fr Em H _:=(((L.em B).set (.inr (qm _)) (OR D.enc j9)).set (.inr (qm _)) (OR G.enc j9)).set (.inr (qm _)) (OR (eF.enc ⟨r,0,s.c.id,ak .i64 (s.c.blocks-1),s.c.la.tries,s.c.la.lane,a,v,cd⟩) j9);have h6:=h.em V;simp only[ae,bc,Xa,aB,b.bq,iP b.la,t1,t2,t3,h6.bq,ld d3];refine app _ V λ u y A st hp=>?_;simp only[ae,bc,st];exact hp
end
end Go.Am
namespace Go.Am
open Lang Go.Proofs
variable{M:ao}[MK M]
section
variable{H H1 H':ar}{o o1:Nat->Nat}{p f l sp k k':Nat}{cv rv ov pv:AV}{c d:Co}{os os':List eF}{s t:CS}
def ia.tw(a:∀z,z<H.au->o1 z=o z)(w:Fr (λ z=>o z≠0) H H1)(b:ia H1 o1 p f l sp cv pv d os' k' H'):ia H o p f l sp cv pv d os' k' H':=by
 have⟨o2,g,e,h,i,j⟩:=b;refine⟨o2,g,e,h,λ z q=>(i z (qn q w.au)).trans (a z q),w.trans j λ z q=>?_⟩;rcases xw z H.au with r|r
 .exact .inl (by rw[<-a z r];exact q)
 .exact .inr r
def dW.loc(h:dW H o p f l sp cv rv ov pv c os k)(a:Fr Em H H1)(hn:H.au<H1.au):dW H1 (aP o H.au 0) p f l sp cv rv ov pv c os k/\(∀z,z<H.au->aP o H.au 0 z=o z)/\aP o H.au 0 H.au=0 :=
 ⟨h.fr a (λ _ _ _ q=>q) (λ z q=>iZ q) (qm _),λ z q=>iZ q,nj (qm _)⟩
def dW.og(h:dW H o p f l sp cv rv ov pv c os k){H1:ar}(a:Fr (On p) H H1):Fr (λ z=>o z≠0) H H1:=a.mono λ z _(q:z=p)=>by rw[q,h.op];decide
def dW.one(h:dW H o p f l sp cv rv ov pv c os k){H1:ar}(a:Fr (On p) H H1)(b:ia H1 o p f l sp cv pv d os' k' H'):ia H o p f l sp cv pv d os' k' H':=ia.tw (λ _ _=>rfl) (h.og a) b
def KY(h:dW H o p f l sp cv rv ov pv s.c s.o k)(n:Int):zj M Zd [.ptr p 0,.int .i64 n] H λ _ H'=>ia H o p f l sp cv pv (s.fG n).c (s.fG n).o k H':=by
 refine qzy ?_;simp only[ae,bc,qzz,aB,h.bq];refine C3.q (J0 h.fi n) λ _ H1 hp=>?_;have⟨o1,m,j,a,b,e⟩:=h.GZ hp;have⟨r,s2,i,g⟩:=a.put 19 (v:=.int .i64 (ak .i64 (s.c.pk+1))) (s.fG n).c rfl (by decide) rfl ⟨rfl,rfl,rfl,rfl⟩ rfl {a.w with};simp only[ae,bc,aB,a.bq,s2];exact ia.tw b e (a.Df g i)
def b_(h:dW H o p f l sp cv rv ov pv s.c s.o k):zj M qna [.ptr p 0] H λ _ H'=>ia H o p f l sp cv pv s.leave.c s.leave.o k H':=by
 refine qxh ?_;simp only[ae,bc,qxi,aB,h.bq];refine C3.q (Kw h.la) λ _ H1 hp=>?_;have⟨o1,z,x,a,g,j⟩:=h.Vs hp;simp only[ae,bc,aB,a.bq];refine C3.q (Px a.fi) λ _ D hp=>?_;have⟨o2,A,y,b,i,m⟩:=a.GZ hp;have⟨E,B,e,n⟩:=b.put 16 (v:=.bool B2) {s.c with la:=s.c.la.leave,fi:=s.c.fi.drop,held:=B2} rfl (by decide) rfl ⟨rfl,rfl,rfl,rfl⟩ rfl {b.w with};have⟨F,C,u,r⟩:=e.put 6 (v:=.int .i64 0) s.leave.c rfl (by decide) rfl ⟨rfl,rfl,rfl,rfl⟩ rfl {e.w with};simp only[ae,bc,aB,B,C];exact ia.tw g j (ia.tw i m (b.one n (e.Df r u)))
def q3w(h:dW H o p f l sp cv rv ov pv s.c s.o k)(hl:s.o.length<=1000):zj M qjb [.ptr p 0] H λ _ H'=>ia H o p f l sp cv pv s.av.c s.av.o k H':=by
 refine qq4 ?_;have fin:∀{H1:ar}{o1:Nat->Nat}{b a:AV}{t:CS},dW H1 o1 p f l sp cv b a pv t.c t.o k -> ∃r e,Op.store 1 [.ptr p 17,.bool B4] H1=B1 (.undef,r)/\Op.store 1 [.ptr p 16,.bool B2] r=B1 (.undef,e)/\ia H1 o1 p f l sp cv pv {t.c with said:=B4,held:=B2} t.o k e:=λ{H1 o1 b a t}g=>by
  have⟨e,i,n,y⟩:=g.put 17 (v:=.bool B4) {t.c with said:=B4} rfl (by decide) rfl ⟨rfl,rfl,rfl,rfl⟩ rfl {g.w with};have⟨m,j,A,z⟩:=n.put 16 (v:=.bool B2) {t.c with said:=B4,held:=B2} rfl (by decide) rfl ⟨rfl,rfl,rfl,rfl⟩ rfl {n.w with};exact⟨e,m,i,j,g.one y (n.Df z A)⟩
 unfold CS.av;cases q:s.c.said with
 |true =>
  have⟨e,m,i,j,hp⟩:=fin h;simp only[ae,bc,Xn,aB,h.bq,q,i,j];exact hp
 |false =>
  simp only[ae,bc,Xn,aB,h.bq,q,zu];refine C3.q (FF h hl 5 0 0 0) λ _ H1⟨o1,b,a,g,u,x⟩=>?_;have⟨e,m,i,j,hp⟩:=fin (t:=s.tell 5 0 0 0) g;simp only[ae,bc,Xn,aB,i,j];exact ia.tw u x hp
def xen(s:CS):s.av.o.length<=s.o.length+1:=by
 unfold CS.av;simp only;split
 .omega
 .show (s.o ++ [_]).length<=_;rw[xc];simp
def xb0(s:CS):s.av.leave.c.fi.pc=s.c.fi.pc:=by
 unfold CS.av;simp only;split<;>rfl
def Rg(h:dW H o p f l sp cv rv ov pv s.c s.o k)(hl:s.o.length<=1000):zj M ο [.ptr p 0] H λ _ H'=>ia H o p f l sp cv pv s.bH.c s.bH.o k H':=by
 refine qtt ?_;simp only[ae,bc,qtu];refine C3.q (q3w h hl) λ _ H1⟨o1,C,z,x,g,m⟩=>?_;simp only[ae,bc];refine C3.q (b_ x) λ _ G⟨o2,D,A,a,i,n⟩=>?_;have e:=xb0 s;simp only[ae,bc,aB,a.bq,fpc a.fi,e];refine C3.q (J0 a.fi (ak .i64 (s.c.fi.pc+1))) λ _ I hp=>?_;have⟨o3,E,B,b,j,r⟩:=a.GZ hp;have⟨J,F,y,u⟩:=b.put 19 (v:=.int .i64 (ak .i64 (s.av.leave.c.pk+1))) s.bH.c rfl (by decide) rfl ⟨rfl,rfl,rfl,rfl⟩ rfl {b.w with};simp only[ae,bc,aB,b.bq,F];exact ia.tw g m (ia.tw i n (ia.tw j r (b.Df u y)))
def J'(h:dW H o p f l sp cv rv ov pv s.c s.o k)(hl:s.o.length<=1000)(cd:Int):zj M YZ [.ptr p 0,.int .i64 cd] H λ _ H'=>ia H o p f l sp cv pv (s.abort cd).c (s.abort cd).o k H':=by
 refine qxc ?_;simp only[ae,bc,qxd];refine C3.q (FF h hl 6 0 0 cd) λ _ H1⟨o1,B,y,a,g,m⟩=>?_;simp only[ae,bc,aB,a.bq];refine C3.q (xgw a.fi) λ _ F hp=>?_;have⟨o2,C,z,b,i,n⟩:=a.GZ hp;simp only[ae,bc,aB,b.bq];refine C3.q (MQ b.la cd) λ _ G hp=>?_;have⟨o3,D,A,e,j,r⟩:=b.Vs hp;have⟨I,E,x,u⟩:=e.put 6 (v:=.int .i64 1) (s.abort cd).c rfl (by decide) rfl ⟨rfl,rfl,rfl,rfl⟩ rfl {e.w with};simp only[ae,bc,aB,E];exact ia.tw g m (ia.tw i n (ia.tw j r (e.Df u x)))
def U7(h:dW H o p f l sp cv rv ov pv s.c s.o k)(hl:s.o.length<=1000):zj M i' [.ptr p 0] H λ _ H'=>ia H o p f l sp cv pv s.breaks.c s.breaks.o k H':=by
 refine qvn ?_;simp only[ae,bc,qvo];refine C3.q (FF h hl 6 0 0 7) λ _ H1⟨o1,D,A,a,g,m⟩=>?_;simp only[ae,bc,aB,a.bq];refine C3.q (xgw a.fi) λ _ J hp=>?_;have⟨o2,E,B,y,i,n⟩:=a.GZ hp;simp only[ae,bc];refine C3.q (b_ (s:=(s.tell 6 0 0 7).fi .restore) y) λ _ K⟨o3,F,C,b,j,r⟩=>?_;have⟨L,G,e,u⟩:=b.put 20 (v:=.bool B4) {((s.tell 6 0 0 7).fi .restore).leave.c with halted:=B4} rfl (by decide) rfl ⟨rfl,rfl,rfl,rfl⟩ rfl {b.w with};have⟨N,I,z,x⟩:=e.put 21 (v:=.bool B4) s.breaks.c rfl (by decide) rfl ⟨rfl,rfl,rfl,rfl⟩ rfl {e.w with};simp only[ae,bc,aB,G,I];exact ia.tw g m (ia.tw i n (ia.tw j r (b.one u (e.Df x z))))
def QP(h:dW H o p f l sp cv rv ov pv c os k){u:Int}(hu:fJ u):∀K,C3 M B4 (.func lx) [.ptr p 0,.int .u64 u] H K=K B4 (.tuple [.int .i64 (if CS.HO c u=B4 then 8+u else 0),.bool (CS.HO c u)]) H:=by
 refine eB (q6w ?_);have g:=h.w.l2;have i:=h.w.l64;have w1:ak .i64 (c.lines-1)=c.lines-1:=ju (by omega) (by omega);have w2:ak .i64 ((c.lines-1)*8)=(c.lines-1)*8:=ju (by omega) (by omega);have b:ak .u64 ((c.lines-1)*8)=(c.lines-1)*8:=oy (by omega) (by omega);unfold CS.HO
 by_cases q:(c.lines-1)*8<=u
 .have a:¬u<(c.lines-1)*8:=HV.2 q;simp only[ae,bc,qtf,aB,h.bq,w1,w2,b,xf q,a,zu]
 .have a:u<(c.lines-1)*8:=Int.not_le.1 q;have w4:ak .i64 u=u:=ju (by have:=hu.1;omega) (by omega);have e:ak .i64 (8+u)=8+u:=ju (by have:=hu.1;omega) (by omega);simp only[ae,bc,qtf,aB,h.bq,w1,w2,b,q,xf a,w4,e]
def Sj(h:dW H o p f l sp cv rv ov pv s.c s.o k)(hl:s.o.length<=1000)(e:oK)(hu:fJ e.addr){v:Int}(S:fJ v):zj M XK [.ptr p 0,.agg (bn e),.int .u64 v] H λ _ H'=>ia H o p f l sp cv pv (s.eV e v).c (s.eV e v).o k H':=by
 refine qvr ?_;obtain⟨H1,e1,I,-,-⟩:=cI H (OR (bn e) jr);have z:At H1 H.au jr _:=e1▸At.new H _ _;have⟨r,O,n1⟩:=h.loc I (show H.au<H1.au from z.2);have l4:Op.ah [.ptr H.au 4] H1=B1 (.int .u64 e.addr):=z.ld 4;have ce:AV.cells (.agg (bn e))=bn e:=z6 _;obtain⟨m,b⟩:∃m:Int,m=if s.c.la.lane=0 then 7 else 2:=⟨_,rfl⟩
 obtain⟨a,ha⟩:∃a:Int,a=if CS.HO s.c e.addr=B4 then 8+e.addr else 0:=⟨_,rfl⟩
 have n:=QP (M:=M) r hu;rw[<-ha]at n;have main:∀{K:Bool->AV->ar->Prop},(∀w j o2 i g,dW j o2 p f l sp cv i g pv (s.tell m a v 0).c (s.tell m a v 0).o k->Op.ah [.ptr p 3] j=B1 (.ptr f 0)->Op.ah [.ptr H.au 2] j=B1 (.int .i64 e.pO)->(zj M Xb [.ptr f 0,.int .i64 e.pO,.int .u64 v] j λ _ x=>Op.ah [.ptr H.au 1] x=B1 (.int .i64 e.au)/\zj M Zd [.ptr p 0,.int .i64 e.au] x λ _ y=>ia H o p f l sp cv pv (s.eV e v).c (s.eV e v).o k y)->K B4 w j)->C3 M B4 (.func WB) [.ptr p 0,.int .i64 m,.int .i64 a,.int .u64 v,.int .i64 0] H1 K:=λ hk=>by
  refine C3.q (FF r hl m a v 0) λ w j⟨o2,i,g,u,G,J⟩=>?_;have F:=z.fr J (λ q=>q n1);have n2:o2 H.au=0:=(G _ z.2).trans n1;refine hk w j o2 i g u u.bq.2.2.2.1 (F.ld 2) ((Ki u.fi e.pO S).mono λ _ x hp=>?_);have⟨o3,U,T,R,P,L⟩:=u.GZ hp;have N:=F.fr L (λ q=>q n2);refine⟨N.ld 1,(KY (s:=(s.tell m a v 0).fi (·.set e.pO v)) R e.au).mono λ _ y hp=>?_⟩;have Q:s.eV e v=((s.tell m a v 0).fi (·.set e.pO v)).fG e.au:=by rw[b,ha];rfl
  rw[Q];exact ia.tw O (I.mono λ _ _ q=>q.elim) (ia.tw G J (ia.tw P L hp))
 by_cases q:s.c.la.lane=0
 .rw [xb q]at b;subst b;simp only[ae,bc,z_,aB,ce,<-e1,l4,n,r.bq,iP r.la,xf q];refine main λ w j o2 i g u A B C=>?_;simp only[ae,bc,aB,A,B];refine C3.q C λ _ x⟨D,E⟩=>?_;simp only[ae,bc,D];refine C3.q E λ _ y hp=>?_;simp only[ae,bc];exact hp
 .rw [qv q]at b;subst b;simp only[ae,bc,z_,aB,ce,<-e1,l4,n,r.bq,iP r.la,q];refine main λ w j o2 i g u A B C=>?_;simp only[ae,bc,aB,A,B];refine C3.q C λ _ x⟨D,E⟩=>?_;simp only[ae,bc,D];refine C3.q E λ _ y hp=>?_;simp only[ae,bc];exact hp
def Sf(h:dW H o p f l sp cv rv ov pv s.c s.o k)(hl:s.o.length<=1000)(b:Int)(e:oK)(a:Int):zj M qme [.ptr p 0,.int .i64 b,.agg (bn e),.int .i64 a] H λ _ H'=>ia H o p f l sp cv pv (s.stored b e a).c (s.stored b e a).o k H':=by
 refine qvt ?_;obtain⟨H1,e1,i,-,-⟩:=cI H (OR (bn e) jr);have g:At H1 H.au jr _:=e1▸At.new H _ _;have⟨u,n,n1⟩:=h.loc i (show H.au<H1.au from g.2);have l3:Op.ah [.ptr H.au 3] H1=B1 (.int .u64 e.value):=g.ld 3;have ce:AV.cells (.agg (bn e))=bn e:=z6 _;simp only[ae,bc,qvu,ce,<-e1,l3];refine C3.q (FF u hl b a e.value 0) λ _ m⟨o2,x,w,v,r,j⟩=>?_;have l1:Op.ah [.ptr H.au 1] m=B1 (.int .i64 e.au):=(g.fr j (λ q=>q n1)).ld 1;simp only[ae,bc,l1];refine C3.q (KY (s:=s.tell b a e.value 0) v e.au) λ _ y hp=>?_;simp only[ae,bc];exact ia.tw n (i.mono λ _ _ q=>q.elim) (ia.tw r j hp)
end
end Go.Am
