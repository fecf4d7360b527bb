import Derived.Test.YtpnpgihabgglcaaGreatDoorAmUZf
import Derived.Test.YtpnpgihabgglcaaGreatDoorAmUZj
import Derived.Test.YtpnpgihabgglcaaGreatDoorAmUZh
set_option linter.defProp false
set_option linter.unusedVariables false
set_option linter.unusedSimpArgs false
set_option linter.unusedSectionVars false
set_option maxRecDepth 100000
open Nat renaming reduceEqDiff→bc
namespace Go.Am
open Lang Go.Proofs
variable{M:ak}[MK M]
def cw(p:Pr):List AV:=[.int .i64 p.a,.int .u64 p.v]
def C2(p:Pr):(cw p).length=2:=rfl
abbrev Dx(H:ar)(v:AV)(ps:List Pr):Prop:=a9 cw vz 2 H v ps
def a9.oH{α:Type}{enc:α->List AV}{e size:Nat}{H:ar}{v:AV}{xs:List α}(h:a9 enc e size H v xs){bytes:Nat}{zero:List AV}{x:AV}{a:α}(j:x.cells=enc a)(hs:(enc a).length=size)(q:zero.length=size)(f:aJ (enc a)=true)(k:0<size)
 (p:(xs.length+1)*bytes<=140737488355328) (i:xs.length+1<=140737488355328) {K:bH->(Nat->AV)->Bool->AV->ar->Prop} {m:Bool}
 (hk:∀d H',a9 enc e size H' d (xs ++ [a])->Fr (aW v) H H'->(∀b,aW d b->aW v b\/H.au<=b)->K (.row x.cells e (0,0) true) (Op.sliceTo 1 1) m d H') :
 iS m (Op.buildSlice e 1 zero [(0,size)] [x]) λ g o mk=>iS g (Op.append e size bytes [v,mk H.au] (H.alloc o)) (K o mk):=by
 refine mK h q (by rw[j];exact hs) (by rw[j];exact f) k p i λ d H' f l n=>hk d H' ?_ l n;unfold a9;rw[kq,qv]
 simpa[j]using f
def hJ:List Pr->Int->Option Nat
 |[],_=>none
 |x::r,a=>if x.a=a then some 0 else(hJ r a).map (·+1)
def IK:∀(ps:List Pr)(a:Int),da ps a=(hJ ps a).map λ i=>(ps.getD i ⟨0,0⟩).v
 |[],a=>rfl
 |x::r,a=>by
  unfold da hJ;split
  .rfl
  .rw [IK r a];cases hJ r a<;>rfl
def oY:∀{ps:List Pr}{a:Int}{i:Nat},hJ ps a=some i->i<ps.length /\ ∃x,ps[i]? = some x/\x.a=a
 |x::r,a,i,h=>by
  unfold hJ at h;split at h
  .injection h with h;subst h;exact⟨Nat.zero_lt_succ _,x,rfl,by assumption⟩
  .obtain ⟨j,f,rfl⟩:=xl.1 h;obtain⟨b,y,d,e⟩:=oY f;exact⟨Nat.succ_lt_succ b,y,d,e⟩
def SN:∀{ps:List Pr}{a v:Int},hJ ps a=none->fk ps a v=ps ++ [⟨a,v⟩]
 |[],a,v,_=>rfl
 |x::r,a,v,h=>by
  unfold hJ at h;split at h
  .cases h
  .rename_i q;rw[Option.map_eq_none_iff]at h;unfold fk;rw[qo q,SN h];rfl
def Rr:∀{ps:List Pr}{a v:Int}{i:Nat},hJ ps a=some i->fk ps a v=ps.set i ⟨a,v⟩
 |x::r,a,v,i,h=>by
  unfold hJ at h;unfold fk;split at h
  .rename_i q;injection h with h;subst h;rw[qr q];rfl
  .rename_i q;obtain⟨j,b,rfl⟩:=xl.1 h;rw[qo q,Rr b];rfl
def jF:List Pr->Nat->Nat->List (AV×AV×Nat)
 |[],_,_=>[]
 |x::r,i,c=>(.int .i64 x.a,.int .i64 (i:Int),c)::jF r (i+1) (c+1)
def Vc:∀(ps:List Pr)(a:Int)(i c j:Nat),findKey .int (.int .i64 a) (jF ps i c) j=some ((hJ ps a).map λ n=>(j+n,.int .i64 ((i+n:Nat):Int)))
 |[],a,i,c,j=>rfl
 |x::r,a,i,c,j=>by
  have e:bj .int (.int .i64 a) (.int .i64 x.a)=some (decide (a=x.a)):=by simp only[bj,sJ,kE,Nat.beq,xm,yh]
  unfold jF findKey hJ;rw[e,qm]
  by_cases q:x.a=a
  .rw [kj q.symm,qr q];rfl
  .rw [j9 (λ w=>q w.symm),qo q,zj,Vc r a (i+1) (c+1) (j+1)];cases hJ r a with
   |none=>rfl
   |some n=>simp only[wl];rw[show j+1+n=j+(n+1)by omega,show i+1+n=i+(n+1)by omega]
def YM:∀(ps:List Pr)(x:Pr)(i c:Nat),jF (ps ++ [x]) i c=jF ps i c ++ [(.int .i64 x.a,.int .i64 ((i+ps.length:Nat):Int),c+ps.length)]
 |[],x,i,c=>rfl
 |y::r,x,i,c=>by
  show _::jF (r ++ [x]) (i+1) (c+1)=_::(jF r (i+1) (c+1)++_);rw[YM r x,z6];congr 3;simp only[xv,AV.int.injEq,B0];constructor<;>omega
def xen:∀(ps:List Pr)(n:Nat)(v:Int)(i c:Nat){x:Pr},ps[n]? = some x->jF (ps.set n ⟨x.a,v⟩) i c=jF ps i c
 |y::r,0,v,i,c,x,h=>by injection h with h;subst h;rfl
 |y::r,n+1,v,i,c,x,h=>by
  show _::jF (r.set n _) (i+1) (c+1)=_;rw[xen r n v (i+1) (c+1) h];rfl
structure tY(H:ar)(o:Nat->Nat)(t r:Nat)(ps:List Pr)(pv:AV)(mb c:Nat):Prop where
 row:At H r HF [pv,.map mb]
 ow:Dx H pv ps
 mp:H.get mb=some (.map (jF ps 0 c) (c+ps.length))
 ml:mb<H.au
 le:ps.length<=128
 o0:o r=t
 o1:o mb=t+1
 o2:∀z,aW pv z->o z=t+2
section
variable{H H':ar}{o o':Nat->Nat}{t r mb c:Nat}{ps:List Pr}{pv:AV}
def tY.fr{W:Nat->Prop}(h:tY H o t r ps pv mb c)(a:Fr W H H')(hw:∀z,z<H.au->(o z=t\/o z=t+1\/o z=t+2) -> ¬W z)(ho:∀z,z<H.au->o' z=o z):tY H' o' t r ps pv mb c :=
 ⟨h.row.fr a (hw r h.row.2 (.inl h.o0)),Own.fr h.ow a λ z q=>hw z (Own.lt h.ow z q) (.inr (.inr (h.o2 z q))),(a.ah mb h.ml (hw mb h.ml (.inr (.inl h.o1)))).trans h.mp,qj h.ml a.au,h.le,(ho r h.row.2).trans h.o0,(ho mb h.ml).trans h.o1,λ z q=>(ho z (Own.lt h.ow z q)).trans (h.o2 z q)⟩
def SV{b:Nat}{es:List (AV×AV×Nat)}{k:Nat}(h:H.get b=some (.map es k)):H.gI b=some (es,k):=by unfold ar.gI;rw[h]
def t5(h:tY H o t r ps pv mb c)(a:Int):Op.lookup .int (.int .i64 0) true [.map mb,.int .i64 a] H=some (match hJ ps a with|some i=>.tuple [.int .i64 (i:Int),.bool true]|none=>.tuple [.int .i64 0,.bool false]):=by
 simp only[Op.lookup,cW,xm,SV h.mp,qm,Vc];cases hJ ps a<;>simp
def DF(h:tY H o t r ps pv mb c):dU cw 2 H pv ps:=a9.sl h.ow
def wG(h:tY H o t r ps pv mb c)(a:Int):∀K,C3 M true (.func qo2) [.ptr r 0,.int .i64 a] H K=K true (.tuple [.int .u64 ((da ps a).getD 0),.bool (da ps a).isSome]) H:=by
 refine dW (q3g ?_);have l0:=h.row.ld 0;have l1:=h.row.ld 1;rw[IK];have f:=t5 h a;cases q:hJ ps a with
 |none =>
  rw[q]at f;simp only[aa,bc,qpx,aA,l1,f];rfl
 |some i =>
  rw[q]at f;obtain⟨d,x,b,-⟩:=oY q;have sl:=DF h;have ix:=sl.idx b (z:=(i:Int)) rfl .i64;have ld:Op.ae [.ptr (aH pv) (cG 2 pv i+1)] H=some (.int .u64 x.v):=sl.ae C2 b (j:=1) (by decide);simp only[aa,bc,qpx,aA,l0,l1,f,ix,ld];simp only[wl,vi,y8,zy,b]
def RU(H:ar)(o:Nat->Nat)(t r:Nat)(ps:List Pr)(H':ar):Prop:=∃o' pv mb c,tY H' o' t r ps pv mb c/\(∀z,z<H.au->o' z=o z)/\Fr (λ z=>o z=t\/o z=t+1\/o z=t+2) H H'
def Cd(h:tY H o t r ps pv mb c):za M qn1 [.ptr r 0] H λ _ H'=>RU H o t r [] H':=by
 refine qyi ?_;have l1:=h.row.ld 1;have s1:Op.bO [.map mb] H=some (.tuple [],H.set mb (.map [] (c+ps.length))):=by simp only[Op.bO,SV h.mp,qm]
 have d:r≠mb:=λ q=>by have a:=h.o0;have b:=h.o1;rw[q]at a;omega
 have e:At (H.set mb (.map [] (c+ps.length))) r HF [pv,.map mb]:=h.row.fr (cE H mb _) d;have s2:=e.st 0 (v:=.nils) rfl (by simp);simp only[aa,bc,qyj,aA,l1,s1,s2];refine⟨o,.nils,mb,c+ps.length,⟨e.set _,Own.nil ..,?_,h.ml,xy _,h.o0,h.o1,λ z q=>(q.1 rfl).elim⟩,λ _ _=>rfl,?_⟩
 .rw [yk d,xc];rfl
 .exact ((cE H mb _).mono λ z _ q=>.inr (.inl ((congrArg o q).trans h.o1))).trans (cE _ r _) λ z q=>.inl (.inl ((congrArg o q).trans h.o0))
def Qk(h:tY H o t r ps pv mb c)(a v:Int)(hn:hJ ps a=none):za M Yl [.ptr r 0,.int .i64 a,.int .u64 v] H λ w H'=>w=.int .i64 (if ps.length=128 then 70 else 0)/\RU H o t r (if ps.length=128 then ps else ps ++ [⟨a,v⟩]) H':=by
 refine q5g ?_;have l0:=h.row.ld 0;have l1:=h.row.ld 1;have ln:=(DF h).len;have hle:=h.le
 by_cases q:ps.length=128
 .have s:((ps.length:Nat):Int)=128:=by omega
  rw[qr q,qr q];simp only[aa,bc,qrr,aA,l0,ln,xb s];exact⟨o,pv,mb,c,h,λ _ _=>rfl,Fr.refl _⟩
 .have s:¬((ps.length:Nat):Int)=128:=by omega
  rw[qo q,qo q];have s1:Op.mapUpdate .int [.map mb,.int .i64 a,.int .i64 ((ps.length:Nat):Int)] H=some (.undef,H.set mb (.map (jF (ps ++ [⟨a,v⟩]) 0 c) (c+(ps ++ [(⟨a,v⟩:Pr)]).length))):=by
   simp only[Op.mapUpdate,cW,xm,SV h.mp,qm,Vc,hn,Option.map_none,YM,jy,qv,z6,yi];rfl
  obtain⟨H1,j⟩:∃X,X=H.set mb (.map (jF (ps ++ [⟨a,v⟩]) 0 c) (c+(ps ++ [(⟨a,v⟩:Pr)]).length)):=⟨_,rfl⟩
  rw[<-j]at s1;have k:Fr (On mb) H H1:=j▸cE H mb _;have x:r≠mb:=λ q=>by have a:=h.o0;have b:=h.o1;rw[q]at a;omega
  have y:At H1 r HF [pv,.map mb]:=h.row.fr k x;have np:∀z,aW pv z->z≠mb/\z≠r:=λ z w=>⟨λ e=>by have a:=h.o2 z w;have b:=h.o1;rw[e]at a;omega,λ e=>by have a:=h.o2 z w;have b:=h.o0;rw[e]at a;omega⟩
  have p:Dx H1 pv ps:=Own.fr h.ow k λ z w=>(np z w).1;have n:=y.ld 0;have B:Op.build [.int .i64 0,.int .u64 0] [(0,1),(1,1)] [.int .i64 a,.int .u64 v]=some (.agg (cw ⟨a,v⟩)):=rfl;simp only[aa,bc,qrr,aA,l0,ln,s,l1,s1,n,B];refine a9.oH (bytes:=16) p (a:=⟨a,v⟩) rfl rfl rfl rfl (by decide) (by omega) (by omega) λ pv' d i f u=>?_;have A:At d r HF [pv,.map mb]:=y.fr f λ w=>(np r w).2 rfl;have one:av pv'=true:=by have:=Sl.one (Own.sl i);exact this
  have C:=A.st 0 one (by simp);simp only[aa,bc,C];have l:Fr (On r) d (d.set r (OR [pv',.map mb] HF)):=cE ..;have n1:H1.au=H.au:=by rw[j];rfl
  have m:∀z,aW pv' z->z≠r/\z≠mb:=λ z w=>(u z w).elim (λ w=>⟨(np z w).2,(np z w).1⟩) λ w=>⟨λ e=>by have:=h.row.2;omega,λ e=>by have:=h.ml;omega⟩
  refine⟨aR o H.au (t+2),pv',mb,c,⟨A.set _,Own.fr i l λ z w=>(m z w).1,?_,?_,?_,(i6 h.row.2).trans h.o0,(i6 h.ml).trans h.o1,λ z w=>?_⟩,λ z w=>i6 w,?_⟩
  .show (d.set r (OR [pv',.map mb] HF)).get mb=_;rw[l.ah mb (by have:=f.au;have:=h.ml;omega) (λ w=>x (show mb=r from w).symm),f.ah mb (by have:=h.ml;omega) λ w=>(np mb w).1 rfl,j,xc]
  .have:=f.au;have:=h.ml;show mb<d.au;omega
  .rw [qv];simp only[z6,yi];omega
  .rcases u z w with w|w
   .exact (i6 (by have:=Own.lt h.ow z w;exact this)).trans (h.o2 z w)
   .exact mG (by omega)
  .exact ((k.mono λ z _ q=>.inr (.inl ((congrArg o q).trans h.o1))).trans f λ z q=>.inl (.inr (.inr (h.o2 z q)))).trans l λ z q=>.inl (.inl ((congrArg o q).trans h.o0))
end
def oZ(H:ar)(o:Nat->Nat)(g:Nat)(rd wr:List Pr):Prop:=∃r w v1 m1 c1 v2 m2 c2,At H g RW [.ptr r 0,.ptr w 0]/\o g=9/\tY H o 10 r rd v1 m1 c1/\tY H o 20 w wr v2 m2 c2
def tV(H:ar)(o:Nat->Nat)(g:Nat)(rd wr:List Pr)(H':ar):Prop:=∃o',oZ H' o' g rd wr/\(∀z,z<H.au->o' z=o z)/\Fr (λ z=>9<=o z/\o z<=22) H H'
section
variable{H H':ar}{o o':Nat->Nat}{g:Nat}{rd wr:List Pr}
def oZ.fr{W:Nat->Prop}(h:oZ H o g rd wr)(a:Fr W H H')(hw:∀z,z<H.au->9<=o z -> ¬W z)(ho:∀z,z<H.au->o' z=o z):oZ H' o' g rd wr:=by
 obtain⟨r,w,v1,l,d,v2,m,f,b,i,j,k⟩:=h;exact⟨r,w,v1,l,d,v2,m,f,b.fr a (hw g b.2 (by omega)),(ho g b.2).trans i,j.fr a (λ z q e=>hw z q (by omega)) ho,k.fr a (λ z q e=>hw z q (by omega)) ho⟩
def oZ.Ef{W:Nat->Prop}(h:oZ H o g rd wr)(a:Fr W H H')(hw:∀z,z<H.au->9<=o z/\o z<=22 -> ¬W z):oZ H' o g rd wr:=by
 obtain⟨r,w,v1,l,d,v2,m,f,b,i,j,k⟩:=h;exact⟨r,w,v1,l,d,v2,m,f,b.fr a (hw g b.2 (by omega)),i,j.fr a (λ z q e=>hw z q (by omega)) λ _ _=>rfl,k.fr a (λ z q e=>hw z q (by omega)) λ _ _=>rfl⟩
def oZ.same(h:oZ H o g rd wr):tV H o g rd wr H:=⟨o,h,λ _ _=>rfl,Fr.refl _⟩
def mQ(h:oZ H o g rd wr):∀K,C3 M true (.func Z1) [.ptr g 0] H K=K true (.bool false) H:=by
 obtain⟨r,w,v1,e,b,v2,f,d,a,-⟩:=h;have l0:=a.ld 0;refine dW (q5c ?_);simp only[aa,bc,q5d,aA,l0]
def Xp(h:oZ H o g rd wr)(a:Int):∀K,C3 M true (.func qs1) [.ptr g 0,.int .i64 a] H K=K true (.tuple [.int .u64 ((da rd a).getD 0),.bool (da rd a).isSome]) H:=by
 have b:=h;obtain⟨r,w,v1,l,f,v2,m,i,d,j,e,k⟩:=h;have l0:=d.ld 0;refine dW (q7y ?_);simp only[aa,bc,q7z,aA,mQ b,l0,wG e]
def Qh(h:oZ H o g rd wr)(a:Int):∀K,C3 M true (.func mm) [.ptr g 0,.int .i64 a] H K=K true (.tuple [.int .u64 ((da wr a).getD 0),.bool (da wr a).isSome]) H:=by
 have b:=h;obtain⟨r,w,v1,l,f,v2,m,i,d,j,k,e⟩:=h;have l1:=d.ld 1;refine dW (q49 ?_);simp only[aa,bc,q5a,aA,mQ b,l1,wG e]
def oZ.va{H1:ar}{g r w:Nat}{v1 v2:AV}{n j i f:Nat}{a:List Pr}(h:At H g RW [.ptr r 0,.ptr w 0])(k:o g=9)(q:tY H o 10 r rd v1 n j)(l:tY H o 20 w wr v2 i f)(p:RU H o 10 r a H1):tV H o g a wr H1:=by
 obtain⟨o',pv,mb,c,m,b,d⟩:=p;exact⟨o',⟨r,w,pv,mb,c,v2,i,f,h.fr d (by omega),(b g h.2).trans k,m,l.fr d (λ z _ e=>by omega) b⟩,b,d.mono λ z _ e=>by omega⟩
def oZ.TD{H1:ar}{g r w:Nat}{v1 v2:AV}{i f n j:Nat}{a:List Pr}(h:At H g RW [.ptr r 0,.ptr w 0])(k:o g=9)(l:tY H o 10 r rd v1 i f)(q:tY H o 20 w wr v2 n j)(p:RU H o 20 w a H1):tV H o g rd a H1:=by
 obtain⟨o',pv,mb,c,m,b,d⟩:=p;exact⟨o',⟨r,w,v1,i,f,pv,mb,c,h.fr d (by omega),(b g h.2).trans k,l.fr d (λ z _ e=>by omega) b,m⟩,b,d.mono λ z _ e=>by omega⟩
def tV.then{H1 a:ar}{e h f i:List Pr}(p:tV H o g e h H1)(k:∀o1,oZ H1 o1 g e h->tV H1 o1 g f i a):tV H o g f i a:=by
 obtain⟨o1,j,b,d⟩:=p;obtain⟨o2,l,m,n⟩:=k o1 j;refine⟨o2,l,λ z q=>(m z (qj q d.au)).trans (b z q),d.trans n λ z q=>?_⟩;rcases xq z H.au with w|w
 .rw [b z w]at q;exact .inl q
 .exact .inr w
def Jb(H:ar)(o:Nat->Nat)(g:Nat)(ps:List Pr)(a:Int)(e:AV)(A:Prop)(B:Prop):Prop:=(da ps a=none/\ps.length=128/\e=.int .i64 70/\A)\/(¬(da ps a=none/\ps.length=128)/\e=.int .i64 0/\B)
def Hv(h:oZ H o g rd wr){a:Int}(ha:0<=a)(v:Int):za M Zg [.ptr g 0,.int .i64 a,.int .u64 v] H λ e H'=>Jb H o g rd a e (tV H o g rd wr H') (tV H o g (if da rd a=none then rd ++ [⟨a,v⟩]else rd) wr H'):=by
 refine q5b ?_;have f:=h;obtain⟨r,w,v1,p,m,v2,s,n,i,j,b,k⟩:=h;have l0:=i.ld 0;have l:¬a<0:=Ik.2 ha;cases q:da rd a with
 |some y =>
  simp only[aa,bc,qrq,aA,mQ f,l,l0,wG b,q,Option.isSome];refine .inr ⟨λ w=>?_,rfl,?_⟩
  .rw [q]at w;cases w.1
  .rw [qo (by simp)];exact f.same
 |none =>
  have hn:hJ rd a=none:=by rw[IK]at q;exact Option.map_eq_none_iff.1 q
  simp only[aa,bc,qrq,aA,mQ f,l,l0,wG b,q,Option.isSome];refine C3.q (Qk (M:=M) b a v hn) λ e H1⟨he,hp⟩=>?_;subst he;simp only[aa,bc]
  by_cases d:rd.length=128
  .rw [qr d]at hp⊢;exact .inl ⟨q,d,rfl,oZ.va i j b k hp⟩
  .rw [qo d]at hp⊢;exact .inr ⟨λ w=>d w.2,rfl,oZ.va i j b k hp⟩
def Jx(h:oZ H o g rd wr):za M Ym [.ptr g 0] H λ _ H'=>tV H o g [] [] H':=by
 refine q3b ?_;have x:=h;obtain⟨r,w,v1,F,E,v2,C,v,d,k,y,A⟩:=h;have l0:=d.ld 0;simp only[aa,bc,q3c,aA,mQ x,l0];refine C3.q (Cd (M:=M) y) λ _ H1 hp=>?_;obtain⟨o',pv,mb,c,u,b,i⟩:=hp;have f:=A.fr i (λ z _ e=>by omega) b;have a:=d.fr i (by omega);have l1:=a.ld 1;simp only[aa,bc,aA,l1];refine C3.q (Cd (M:=M) f) λ _ D l=>?_;simp only[aa,bc];have G:tV H o g [] wr H1:=⟨o',⟨r,w,pv,mb,c,v2,C,v,a,(b g d.2).trans k,u,f⟩,b,i.mono λ z _ e=>by omega⟩
 obtain⟨o2,s,p,j,B,m,n⟩:=l;refine⟨o2,⟨r,w,pv,mb,c,s,p,j,a.fr n (by have:=(b g d.2).trans k;omega),(m g a.2).trans ((b g d.2).trans k),u.fr n (λ z _ e=>by omega) m,B⟩,λ z q=>(m z (qj q i.au)).trans (b z q),(i.mono λ z _ e=>by omega).trans n λ z q=>?_⟩;rcases xq z H.au with w|w
 .rw [b z w]at q;exact .inl (by omega)
 .exact .inr w
def Kh(h:oZ H o g rd wr){a:Int}(ha:0<=a)(v:Int):za M qo1 [.ptr g 0,.int .i64 a,.int .u64 v] H λ e H'=>Jb H o g wr a e (tV H o g rd wr H') (tV H o g rd (fk wr a v) H'):=by
 refine q3f ?_;have C:=h;obtain⟨r,w,v1,L,J,v2,l,B,k,n,p,b⟩:=h;have l1:=k.ld 1;have E:¬a<0:=Ik.2 ha;have D:=b.row.ld 1;have F:=b.row.ld 0;have f:=t5 b a;cases q:hJ wr a with
 |some i =>
  rw[q]at f;obtain⟨K,x,s,I⟩:=oY q;have sl:=DF b;have ix:=sl.idx s (z:=(i:Int)) rfl .i64;obtain⟨H1,s1,A,d⟩:=a9.yK C2 b.ow s (j:=1) (by decide) (u:=.int .u64 v) rfl (y:=⟨x.a,v⟩) rfl;simp only[aa,bc,qpw,aA,mQ C,E,l1,D,f,F,ix,s1];refine .inr ⟨λ w=>(by rw[IK,q]at w;cases w.1),rfl,?_⟩;rw[Rr q,<-I];have n1:¬aW v2 w:=λ e=>by have:=b.o2 w e;have:=b.o0;omega
  have n2:¬aW v2 l:=λ e=>by have:=b.o2 l e;have:=b.o1;omega
  refine oZ.TD k n p b ⟨o,v2,l,B,⟨b.row.fr d n1,A,?_,qj b.ml d.au,by rw[xg];exact b.le,b.o0,b.o1,b.o2⟩,λ _ _=>rfl,d.mono λ z _ q=>.inr (.inr (b.o2 z q))⟩;rw[xen wr i v 0 B s,xg,d.ah l b.ml n2];exact b.mp
 |none =>
  have G:da wr a=none:=by rw[IK,q];rfl
  rw[q]at f;simp only[aa,bc,qpw,aA,mQ C,E,l1,D,f];refine C3.q (Qk (M:=M) b a v q) λ e H1⟨he,hp⟩=>?_;subst he;simp only[aa,bc]
  by_cases m:wr.length=128
  .rw [qr m]at hp⊢;exact .inl ⟨G,m,rfl,oZ.TD k n p b hp⟩
  .rw [qo m]at hp⊢;rw[SN q];exact .inr ⟨λ w=>m w.2,rfl,oZ.TD k n p b hp⟩
end
end Go.Am
namespace Go.Am
open Lang Go.Proofs
variable{M:ak}[MK M]
def LD(v:AV)(i:Nat):AV:=.ptr (aH v) (cG 2 v i)
def QW{H1:ar}(e:Pr):Op.store 2 [.ptr H1.au 0,.agg (cw e)] (H1.alloc (OR [.int .i64 0,.int .u64 0] vz))=some (.undef,(H1.alloc (OR [.int .i64 0,.int .u64 0] vz)).set H1.au (OR (cw e) vz)):=(At.new H1 _ _).gK (k:=0) (n:=2) rfl (by decide) rfl
def xht{H0:ar}{p:Nat}{v:AV}{ys:List Pr}(hv:Dx H0 v ys)(hp:H0.get p=some (OR [v] nh))(W:p<H0.au)(hl:ys.length<=1000000) :
 tJ M vh [] [.ptr p 0] (λ x=>x=p\/aW v x) (λ _=>False) H0 ((List.range ys.length).map λ(i:Nat)=>[.int .i64 (i:Int),.agg (cw (ys.getD i ⟨0,0⟩))]):=by
 intro Y R S j H1 I L D F loc O step;obtain⟨p1,p2,p3⟩:=L p (.inl (.inl rfl))
 suffices h:za M vh [.fn (.yield Y) [] [],.ptr p 0] H1 (MX R S j (λ _=>False) H1 ((List.range ys.length).map λ(i:Nat)=>[AV.int .i64 (i:Int),AV.agg (cw (ys.getD i ⟨0,0⟩))]).length)by
  obtain⟨v,H',Q,W',q1,q2,q3⟩:=h.elim;exact⟨v,H',W',Q,q1,q2,q3⟩
 refine qnj ?_;have lp:Op.ae [.ptr p 0] H1=some v:=by rw[xz (qy (by rw[p2];exact hp))];rfl
 have N:∀{a:ar},Fr j H1 a->Dx a v ys:=λ{a}f =>
  Own.fr hv (⟨xu I f.au,λ y d hw=>by
   obtain⟨y1,y2,y3⟩:=L y (.inl (GA.1 hw));rw[f.ah y (by omega) y3,y2]⟩:Fr (λ y=>¬(y=p\/aW v y)) H0 a) λ y d w=>w (.inr d)
 rw[xp,j0];simp only[aa,bc,Sn,lp,(a9.sl (N (Fr.refl _))).len];refine de.intro (λ n E a=>∃(i:Nat)(V:Nat->Prop),E=[(7,.int .i64 (i:Int)),(6,.int .i64 ((ys.length:Nat):Int)),(5,v),(0,.fn (.yield Y) [] []),(1,.ptr p 0)]/\n=ys.length-i/\i<=ys.length/\Mq R j H1 a i V) ?_ ?_
 .exact ⟨_,_,⟨0,j,rfl,rfl,xy _,⟨D,λ b hb=>⟨F b hb,.inl hb⟩,Fr.refl _⟩⟩,by simp only[aa,bc]⟩
 rintro n E a ⟨i,V,rfl,rfl,hi,hI⟩;rcases xq i ys.length with s|U
 .have B:(i:Int)<((ys.length:Nat):Int):=by omega
  obtain⟨e,he⟩:∃e,ys[i]? = some e:=⟨ys[i],by simp[s]⟩
  have sl:=a9.sl (N hI.fr);have ix:Op.aO 2 [v,.int .i64 (i:Int)]=some (LD v i):=sl.idx he rfl .i64;have ld:Op.aq 2 [LD v i] a=some (.agg (cw e)):=sl.aq C2 (by decide) he;have bx:=QW (H1:=a) e;obtain⟨u,C⟩:∃X,X=(a.alloc (OR [.int .i64 0,.int .u64 0] vz)).set a.au (OR (cw e) vz):=⟨_,rfl⟩
  rw[<-C]at bx;have z:Fr Em a u:=by rw[C];exact wO _ _
  have P:u.get a.au=some (OR (cw e) vz):=by rw[C,xc]
  have J:Op.aq 2 [.ptr a.au 0] u=some (.agg (cw e)):=rq (qy P) (by simp[cw]);have n2:=z.au
  obtain⟨bb,K,A,hr,T,m,Z,hs⟩:=step i [.int .i64 (i:Int),.agg (cw e)] (by rw[xj,yg s,wl,zy,he];rfl) V u (loc _ _ _ _ hI.hR (λ y d=>z.ah y (hI.hV y d).1 id) n2) (λ y d=>⟨by have:=(hI.hV y d).1;omega,(hI.hV y d).2⟩) ((hI.fr.em z).mono λ _ _ q=>.inl q);have k:Fr j H1 K:=(hI.fr.em z).trans T λ y q=>(hI.hV y q).2;have l:∀y,A y->y<K.au/\(j y\/H1.au<=y):=λ y q=>⟨(m y q).1,(m y q).2.elim (λ w=>(hI.hV y w).2) λ w=>.inr (by have:=hI.fr.au;omega)⟩
  have wj:aj .i64 ((i:Int)+1)=((i+1:Nat):Int):=by rw[js (by omega) (by omega)];omega
  simp only[aa,bc,Sn,B,ix,ld,bx,J];refine C3.xV hr ?_;cases bb with
  |true =>
   simp only[aa,bc,Sn,wj];exact⟨_,_,⟨i+1,A,rfl,rfl,by omega,⟨Z rfl,l,k⟩⟩,by simp only[aa,bc],by omega⟩
  |false =>
   simp only[aa,bc];exact⟨A,k.mono λ _ _ q=>.inl q,l,.inr (hs rfl)⟩
 .have B:¬(i:Int)<((ys.length:Nat):Int):=by omega
  have G:i=ys.length:=by omega
  simp only[aa,bc,Sn,B];exact⟨V,hI.fr.mono λ _ _ q=>.inl q,hI.hV,.inl (by rw[<-G];exact hI.hR)⟩
structure R9(ys:List Pr)(t:Nat)(i:Nat)(V:Nat->Prop)(Hx:ar):Prop where
 vt:V t
 lt:t<Hx.au
 ls:∃lv,Hx.get t=some (OR [lv] nh)/\Dx Hx lv (ys.take i) /\ ∀a,aW lv a->V a/\t<a
def R9.loc{ys:List Pr}{t i:Nat}{V:Nat->Prop}{a Hb:ar}(h:R9 ys t i V a)(hs:∀x,V x->Hb.get x=a.get x)(hn:a.au<=Hb.au):R9 ys t i V Hb:=by
 obtain⟨lv,l1,l2,l3⟩:=h.ls;refine⟨h.vt,qj h.lt hn,lv,by rw[hs _ h.vt];exact l1,?_,l3⟩;exact Own.fr l2 (⟨hn,λ b _ hw=>hs b (GA.1 hw)⟩:Fr (λ b=>¬V b) a Hb) λ x d w=>w (l3 x d).1
section
variable{H H':ar}{o o':Nat->Nat}{t r mb c:Nat}{ps:List Pr}{pv:AV}
def xie{α:Type}{enc:α->List AV}{e size:Nat}{H:ar}{v:AV}{xs:List α}(h:a9 enc e size H v xs):AV.cells v=[v]:=by
 obtain⟨_,⟨_,rfl|⟨_,rfl,_⟩⟩|⟨_,rfl,_,_⟩⟩:=h<;>rfl
def vS{α:Type}{enc:α->List AV}{e size:Nat}{H:ar}{v:AV}{xs:List α}(h:a9 enc e size H v xs)(a:xs≠[]):aW v (aH v):=⟨λ w=>by
 subst w;have:=(a9.sl h).len;have q:Op.dc [AV.nils]=some (.int .i64 0):=rfl;rw[q]at this;injection this with this;injection this with _ this
 exact a (jt.1 (by omega)),rfl⟩
def IE(h:tY H o t r ps pv mb c):za M OA [.ptr r 0] H λ v H'=>Dx H' v ps/\(∀z,aW v z->H.au<=z)/\Fr Em H H':=by
 refine xgf ?_;obtain⟨H1,e1,f1,n1,g1⟩:=bX H (OR [.nils] nh);obtain⟨D,e2,E,-,g2⟩:=bX H1 (OR [pv] nh);have n2:D.au=H.au+2:=by rw[e2,xx,n1]
 have P:D.get H.au=some (OR [.nils] nh):=by rw[E.ah _ (by omega) id];exact g1
 have f2:=f1.em E;have ow2:Dx D pv ps:=Own.em h.ow f2;have l0:=(h.row.em f1).ld 0;have al:za M qrc [.ptr r 0] H1 λ v H'=>v=.fn (.func vh) [] [.ptr H1.au 0]/\H'=D:=by
  refine q5e ?_;simp only[aa,bc,q5f,aA,l0];refine C3.q (R:=λ v H'=>v=.fn (.func vh) [] [.ptr H1.au 0]/\H'=D) ?_ λ v H' q=>?_
  .refine qp3 ?_;have mk:Op.bD vh 0 [.ptr H1.au 0]=some (.fn (.func vh) [] [.ptr H1.au 0]):=rfl;simp only[aa,bc,qp4,xie h.ow,<-e2];rfl
  .simp only[aa,bc];exact q
 simp only[aa,bc,W1,<-e1];refine C3.q al λ v H'⟨hv,hh⟩=>?_;subst hv;subst hh;simp only[aa,bc];have hl:=h.le;have lv:∀z,aW pv z->z<H.au:=λ z q=>Own.lt h.ow z q
 refine jB.iter (fn:=SQ) (lp:=Qf) (pa:=W8 0) (pb:=Tb 0) xco YV.1 YV.2 (by decide) xad xae
  (xht (M:=M) ow2 g2 (by omega) (by omega)) (λ i V Hx=>R9 ps H.au i V Hx) (λ _ _ _=>False) (λ x=>x=H.au) (qg _) ?_ ?_ ?_ ?_ ?_ ?_ ?_ ?_
 .rintro x ((q|q)|q)
  .exact ⟨by omega,rfl,λ w=>by omega⟩
  .have:=lv x q;exact⟨by omega,rfl,λ w=>by omega⟩
  .exact q.elim
 .exact λ x U=>by omega
 .exact ⟨rfl,by omega,.nils,P,Own.nil ..,λ x q=>(q.1 rfl).elim⟩
 .exact λ i V Ha Hb h hs hn=>h.loc hs hn
 .exact λ e V Ha Hb h _ _=>h
 .intro L i lr lb x U hL V l b hV hf6 B Q T;rw[xj,xl]at U;obtain⟨j,I,rfl⟩:=U;have G:i<ps.length:=by have:=(qk.1 I).1;rw[j0]at this;exact this
  rw[yg G]at I;injection I with I;subst I
  obtain⟨e,hk⟩:∃e,ps[i]? = some e:=⟨ps[i],by simp[G]⟩
  have he:ps.getD i ⟨0,0⟩=e:=by rw[zy,hk];rfl
  rw[he];refine⟨_,rfl,?_⟩;obtain⟨-,wa,wb,-⟩:=W1 M ⟨some L,OA⟩;have bx:=QW (H1:=l) e;obtain⟨m,N⟩:∃X,X=(l.alloc (OR [.int .i64 0,.int .u64 0] vz)).set l.au (OR (cw e) vz):=⟨_,rfl⟩
  rw[<-N]at bx;have O:Fr Em l m:=by rw[N];exact wO _ _
  have n7:m.au=l.au+1:=by rw[N];rfl
  have g7:m.get l.au=some (OR (cw e) vz):=by rw[N,xc]
  simp only[aa,bc,wa,bx,Fx];refine⟨by rw[O.ah L Q id];exact T,?_⟩;have gL:(m.set L lb).get L=some lb:=xc ..;have g8:(m.set L lb).get l.au=some (OR (cw e) vz):=by rw[yk (by omega)];exact g7
  have f8:Fr (λ y=>V y\/y=L) l (m.set L lb):=(O.mono λ _ _ q=>q.elim).set (.inl (.inr rfl)) _;have u:=b.loc (Hb:=m.set L lb) (λ y hy=>by rw[yk (λ q:L=y=>B (by rw[q];exact hy)),O.ah y (hV y hy).1 id]) (by rw[su];omega);have n8:(m.set L lb).au=l.au+1:=by rw[su,n7]
  generalize m.set L lb=H8 at *;obtain⟨f,l1,l2,l3⟩:=u.ls;have Y:Op.ae [.ptr H.au 0] H8=some f:=xz (qy l1) 0;have ld:Op.aq 2 [.ptr l.au 0] H8=some (.agg (cw e)):=rq (qy g8) (by simp[cw]);have ny:(ps.take i).length<=128:=by rw[j6];omega
  simp only[aa,bc,wb,Y,ld];refine a9.oH (bytes:=16) l2 (a:=e) rfl rfl rfl rfl (by decide) (by omega) (by omega) λ k K A p F=>?_;have q9:At K H.au nh [f]:=⟨by rw[p.ah _ u.lt λ q=>by have:=(l3 _ q).2;omega];exact l1,qj u.lt p.au⟩
  have o1:av k=true:=by have:=Sl.one (Own.sl A);exact this
  have st:=q9.st 0 o1 (by simp);obtain⟨C,n⟩:∃X,X=K.set H.au (OR ([f].set 0 k) nh):=⟨_,rfl⟩
  rw[<-n]at st;have s:Fr (On H.au) K C:=by rw[n];exact cE ..
  simp only[aa,bc,st];have J:∀y,aW k y->H.au<y:=λ y q=>(F y q).elim (λ q=>(l3 y q).2) λ q=>by have:=b.lt;omega
  have nf:=p.au
  have Z:C.au=K.au:=by rw[n];rfl
  have tk:ps.take (i+1)=ps.take i ++ [e]:=by rw[L7,hk];rfl
  refine⟨rfl,?_,λ y=>V y\/aW k y,?_,?_,.inl ⟨rfl,.inl b.vt,by have:=b.lt;omega,k,by rw[n,xc];rfl,?_,λ y q=>⟨.inr q,J y q⟩⟩⟩
  .rw [s.ah L (by omega) (λ(q:L=H.au)=>B (by rw[q];exact b.vt)),p.ah L (by omega) λ q=>B (l3 _ q).1];exact gL
  .rintro y (q|q)
   .exact ⟨by have:=(hV y q).1;omega,.inl q⟩
   .refine ⟨by rw[Z];exact Own.lt A y q,?_⟩;rcases F y q with w|w
    .exact .inl (l3 y w).1
    .exact .inr (by omega)
  .exact ((f8.trans p λ y q=>.inl (.inl (l3 y q).1)).trans s λ y(q:y=H.au)=>.inl (.inl (by rw[q];exact b.vt)))
  .rw [tk];exact Own.fr A s λ y q(w:y=H.au)=>by have:=J y q;omega
 .rintro d V H' hd S hg p hV b;rw[xp,j0]at b;obtain⟨f,l1,l2,l3⟩:=b.ls;rw[List.take_length]at l2;have hd':d≠H.au:=by omega
  have fd:Fr (On d) H' (H'.set d (.deferred none)):=(Fr.refl H').set (W:=On d) (.inl rfl) _;have Y:Op.ae [.ptr H.au 0] H'=some f:=xz (qy l1) 0;simp only[aa,bc,W1,Y];refine⟨hg,Own.fr l2 fd λ z q(w:z=d)=>(hV z (l3 z q).1).2.2 w,λ z q=>?_,?_⟩
  .have:=(l3 z q).2;omega
  .exact (f2.trans (p.mono λ z _ q=>q.elim id False.elim) λ z q=>.inr (by omega)).trans fd λ z(q:z=d)=>.inr (by omega)
 .rintro e d V H' he hd S hg p hV b;exact b.elim
end
section
variable{H H':ar}{o o':Nat->Nat}{g:Nat}{rd wr:List Pr}
def K5(h:oZ H o g rd wr):za M YG [.ptr g 0] H λ v H'=>Dx H' v rd/\(∀z,aW v z->H.au<=z)/\Fr Em H H':=by
 refine q3d ?_;have a:=h;obtain⟨r,w,v1,k,e,v2,l,f,b,i,d,j⟩:=h;have l0:=b.ld 0;simp only[aa,bc,q3e,aA,mQ a,l0];refine C3.q (IE (M:=M) d) λ v H1 hp=>?_;simp only[aa,bc];exact hp
def vN(h:oZ H o g rd wr):za M hH [.ptr g 0] H λ v H'=>Dx H' v wr/\(∀z,aW v z->H.au<=z)/\Fr Em H H':=by
 refine qyg ?_;have a:=h;obtain⟨r,w,v1,k,e,v2,l,f,b,i,j,d⟩:=h;have l1:=b.ld 1;simp only[aa,bc,qyh,aA,mQ a,l1];refine C3.q (IE (M:=M) d) λ v H1 hp=>?_;simp only[aa,bc];exact hp
end
end Go.Am
namespace Go.Am
open Lang Go.Proofs
variable{M:ak}[MK M]
def Bx(H:ar)(o:Nat->Nat)(b:Nat)(v:AV):Prop:=H.bT b=some [v]/\b<H.au/\o b=30
def By(H:ar)(o:Nat->Nat)(b:Nat)(v:AV):Prop:=(∃t,H.get b=some (OR [v] t))/\b<H.au/\o b=31
def kV(f:Nat)(l:List Nat):AV:=.fn (.func f) [] (l.map λ b=>.ptr b 0)
def rH(H:ar)(o:Nat->Nat)(p:Nat)(kv:AV):K0->Prop
 | .wait=>kv=.fn (.func SW) [.ptr p 0] []
 | .left how=>∃b1 b2,kv=kV X0 [b1,b2]/\Bx H o b1 (.int .i64 how)/\Bx H o b2 (.ptr p 0)
 | .jZ a=>0<=a /\ ∃b1 b2,kv=kV VL [b1,b2]/\Bx H o b1 (.ptr p 0)/\Bx H o b2 (.int .i64 a)
 | .take=>kv=.fn (.func Tt) [.ptr p 0] []
 | .back l=>(∀x∈l,fM x.v) /\ ∃b1 b2 lv y,kv=kV Ux [b1,b2]/\Bx H o b1 (.ptr p 0)/\Bx H o b2 lv/\dU cw 2 H lv (y::l)/\aH lv<H.au/\o (aH lv)=30
 | .fin=>∃b1,kv=kV W6 [b1]/\Bx H o b1 (.ptr p 0)
def HV(H:ar)(o:Nat->Nat)(p:Nat)(gv:AV):Option K0->Prop
 |none=>gv=.fn (.func Ta) [.ptr p 0] []
 |some k=>∃b1 b2 kv,gv=kV Zi [b1,b2]/\Bx H o b1 (.ptr p 0)/\Bx H o b2 kv/\rH H o p kv k
structure I8(H:ar)(o:Nat->Nat)(p:Nat)(k:K0)(g:Int)(rd:List Pr)(bi bg bp bk br bs bl ba:Nat):Prop where
 hg:Bx H o bg (.int .u64 g)
 hp:Bx H o bp (.ptr p 0)
 hk:∃kv,Bx H o bk kv/\rH H o p kv k/\av kv=true
 hr:∃rv,Bx H o br rv/\dU cw 2 H rv rd/\(rd≠[]->aH rv<H.au/\o (aH rv)=30)/\av rv=true
 hs:By H o bs (kV Sc [bi,br,bp,bl,ba])
 hl:Bx H o bl (kV Rz [br,bi,bp,bs])
 ha:Bx H o ba (kV Rj [bg,bp,bk])
 hn:rd.length<=128
def Ee(H:ar)(o:Nat->Nat)(p:Nat)(tv:AV):Nx->Prop
 | .uD n k=>∃b1 b2 b3 kv,tv=kV qkc [b1,b2,b3]/\Bx H o b1 (.ptr p 0)/\Bx H o b2 (.int .u64 n)/\Bx H o b3 kv/\rH H o p kv k
 | .td n k=>∃b1 b2 b3 kv,tv=kV Yt [b1,b2,b3]/\Bx H o b1 (.ptr p 0)/\Bx H o b2 (.int .u64 n)/\Bx H o b3 kv/\rH H o p kv k
 | .uG=>∃b1 b2 gv,tv=kV Rn [b1,b2]/\Bx H o b1 (.ptr p 0)/\Bx H o b2 gv/\HV H o p gv none
 | .uY k=>∃b1 b2 gv,tv=kV Rn [b1,b2]/\Bx H o b1 (.ptr p 0)/\Bx H o b2 gv/\HV H o p gv (some k)
 | .look k g rd i=>∃bi bg bp bk br bs bl ba,tv=kV Rz [br,bi,bp,bs]/\By H o bi (.int .i64 (i:Int))/\i<rd.length/\I8 H o p k g rd bi bg bp bk br bs bl ba
 | .again k g=>∃bg bp bk kv,tv=kV Rj [bg,bp,bk]/\Bx H o bg (.int .u64 g)/\Bx H o bp (.ptr p 0)/\Bx H o bk kv/\rH H o p kv k
 | .u9 a=>0<=a /\ ∃b1 b2,tv=kV qkd [b1,b2]/\Bx H o b1 (.ptr p 0)/\Bx H o b2 (.int .i64 a)
 | .mW a v=>(0<=a/\fM v) /\ ∃b1 b2 b3,tv=kV qid [b1,b2,b3]/\Bx H o b1 (.ptr p 0)/\Bx H o b2 (.int .i64 a)/\Bx H o b3 (.int .u64 v)
 | .sT=>∃b1,tv=kV ZJ [b1]/\Bx H o b1 (.ptr p 0)
 | .EB k=>rH H o p tv k
def ED:Nx->Nat
 | .td _ _=>NS
 | .sT=>NS
 | .EB _=>Yg
 |_=>Pu
def ME(H:ar)(o:Nat->Nat)(p:Nat)(fv:AV):Option Nx->Prop
 |none=>fv=.nilf
 |some n=>∃b tv,fv=kV (ED n) [b]/\Bx H o b tv/\Ee H o p tv n
def iL(r:Rq):List AV:=[.int .i64 r.op,.int .i64 r.a,.int .u64 r.v,.int .u64 r.o]
def dy(x:So)(g:Nat)(fv:AV):List AV:=.ptr g 0::(iL x.want ++ [fv,.bool x.busy,.bool x.live,.bool x.aC,.int .u64 x.snap,.int .u64 x.value,.int .i64 x.ended,.int .i64 x.points])
structure dK(H:ar)(o:Nat->Nat)(p:Nat)(x:So)(g:Nat)(fv:AV):Prop where
 row:At H p Cy (dy x g fv)
 lg:oZ H o g x.rd x.wr
 nx:ME H o p fv x.au
 op:o p=8
 one:av fv=true
 vu:fM x.value
 wu:∀y∈x.wr,fM y.v
 qu:fM x.want.v
def eh(H:ar)(o:Nat->Nat)(p:Nat)(x:So)(H':ar):Prop:=∃o' g fv,dK H' o' p x g fv/\(∀z,z<H.au->o' z=o z)/\Fr (λ z=>8<=o z) H H'
section
variable{H H':ar}{o o':Nat->Nat}{p g:Nat}{x y:So}{fv kv gv tv:AV}{k:K0}{n:Nx}
structure EE(H:ar)(o:Nat->Nat)(H':ar)(o':Nat->Nat):Prop where
 ah:∀z,z<H.au->o z=30->H'.get z=H.get z
 own:∀z,z<H.au->o' z=o z
 au:H.au<=H'.au
structure oU(H:ar)(o:Nat->Nat)(H':ar)(o':Nat->Nat):Prop where
 m:EE H o H' o'
 ah:∀z,z<H.au->o z=31->H'.get z=H.get z
def EE.of{W:Nat->Prop}(a:Fr W H H')(hw:∀z,z<H.au->o z=30 -> ¬W z)(ho:∀z,z<H.au->o' z=o z):EE H o H' o':=⟨λ z h q=>a.ah z h (hw z h q),ho,a.au⟩
def oU.of{W:Nat->Prop}(a:Fr W H H')(hw:∀z,z<H.au->30<=o z -> ¬W z)(ho:∀z,z<H.au->o' z=o z):oU H o H' o':=⟨EE.of a (λ z h q=>hw z h (by omega)) ho,λ z h q=>a.ah z h (hw z h (by omega))⟩
def oU.own(a:oU H o H' o'):∀z,z<H.au->o' z=o z:=a.m.own
def Bx.km{b:Nat}{v:AV}(h:Bx H o b v)(a:EE H o H' o'):Bx H' o' b v:=⟨(Z3 (a.ah b h.2.1 h.2.2)).trans h.1,qj h.2.1 a.au,(a.own b h.2.1).trans h.2.2⟩
def Bx.ky{b:Nat}{v:AV}(h:Bx H o b v)(a:oU H o H' o'):Bx H' o' b v:=h.km a.m
def By.ky{b:Nat}{v:AV}(h:By H o b v)(a:oU H o H' o'):By H' o' b v:=⟨by rw[a.ah b h.2.1 h.2.2];exact h.1,qj h.2.1 a.m.au,(a.own b h.2.1).trans h.2.2⟩
def By.ld{b:Nat}{v:AV}(h:By H o b v):Op.ae [.ptr b 0] H=some v:=by obtain⟨t,q⟩:=h.1;exact xz (qy q) 0
def Bx.ld{b:Nat}{v:AV}(h:Bx H o b v):Op.ae [.ptr b 0] H=some v:=xz h.1 0
def EE.sl{lv:AV}{b:List Pr}(a:EE H o H' o')(h:dU cw 2 H lv b)(c:b≠[]->aH lv<H.au/\o (aH lv)=30):dU cw 2 H' lv b:=by
 cases b with
 |nil=>exact Sl.fr (W:=λ _=>True) h ⟨a.au,λ _ _ q=>(q trivial).elim⟩ (.inl rfl)
 |cons y l =>
  obtain⟨d,e⟩:=c (by simp);exact Sl.fr (W:=λ z=>z≠aH lv) h ⟨a.au,λ z _ q=>by rw[GA.1 q];exact a.ah _ d e⟩ (.inr λ q=>q rfl)
def rH.km(h:rH H o p kv k)(a:EE H o H' o'):rH H' o' p kv k:=by
 cases k with
 |wait=>exact h
 |left how=>obtain⟨b,e,c,d,f⟩:=h;exact⟨b,e,c,d.km a,f.km a⟩
 |jZ z=>obtain⟨i,b,e,c,d,f⟩:=h;exact⟨i,b,e,c,d.km a,f.km a⟩
 |take=>exact h
 |back l=>obtain⟨i,b,e,lv,y,c,d,f,q,j,m⟩:=h;exact⟨i,b,e,lv,y,c,d.km a,f.km a,a.sl q λ _=>⟨j,m⟩,qj j a.au,(a.own _ j).trans m⟩
 |fin=>obtain⟨b,c,d⟩:=h;exact⟨b,c,d.km a⟩
def rH.ky(h:rH H o p kv k)(a:oU H o H' o'):rH H' o' p kv k:=h.km a.m
def rH.one(h:rH H o p kv k):av kv=true:=by
 cases k with
 |wait=>rw[show kv=_ from h];rfl
 |left how=>obtain⟨b,d,a,c,f⟩:=h;rw[a];rfl
 |jZ z=>obtain⟨e,b,d,a,c,f⟩:=h;rw[a];rfl
 |take=>rw[show kv=_ from h];rfl
 |back l=>obtain⟨e,b,d,lv,y,a,c⟩:=h;rw[a];rfl
 |fin=>obtain⟨b,a,c⟩:=h;rw[a];rfl
def HV.ky{ko:Option K0}(h:HV H o p gv ko)(a:oU H o H' o'):HV H' o' p gv ko:=by
 cases ko with
 |none=>exact h
 |some k=>obtain⟨b,c,kv,d,e,f,i⟩:=h;exact⟨b,c,kv,d,e.ky a,f.ky a,i.ky a⟩
def I8.ky{g:Int}{rd:List Pr}{bi d f bk i bs e c:Nat}(h:I8 H o p k g rd bi d f bk i bs e c)(a:oU H o H' o'):I8 H' o' p k g rd bi d f bk i bs e c:=by
 obtain⟨kv,j,l,r⟩:=h.hk;obtain⟨rv,s,t,b,u⟩:=h.hr;exact⟨h.hg.ky a,h.hp.ky a,⟨kv,j.ky a,l.ky a,r⟩,⟨rv,s.ky a,a.m.sl t b,λ q=>⟨qj (b q).1 a.m.au,(a.own _ (b q).1).trans (b q).2⟩,u⟩,h.hs.ky a,h.hl.ky a,h.ha.ky a,h.hn⟩
def Ee.ky(h:Ee H o p tv n)(a:oU H o H' o'):Ee H' o' p tv n:=by
 cases n with
 |uD m k=>obtain⟨d,f,l,kv,b,c,e,j,q⟩:=h;exact⟨d,f,l,kv,b,c.ky a,e.ky a,j.ky a,q.ky a⟩
 |td m k=>obtain⟨d,f,l,kv,b,c,e,j,q⟩:=h;exact⟨d,f,l,kv,b,c.ky a,e.ky a,j.ky a,q.ky a⟩
 |uG=>obtain⟨d,f,gv,b,c,e,j⟩:=h;exact⟨d,f,gv,b,c.ky a,e.ky a,j.ky a⟩
 |uY k=>obtain⟨d,f,gv,b,c,e,j⟩:=h;exact⟨d,f,gv,b,c.ky a,e.ky a,j.ky a⟩
 |look k g rd i=>obtain⟨bi,t,w,bk,A,bs,u,s,b,c,e,j⟩:=h;exact⟨bi,t,w,bk,A,bs,u,s,b,c.ky a,e,j.ky a⟩
 |again k g=>obtain⟨d,f,l,kv,b,c,e,j,q⟩:=h;exact⟨d,f,l,kv,b,c.ky a,e.ky a,j.ky a,q.ky a⟩
 |u9 z=>obtain⟨r,d,f,b,c,e⟩:=h;exact⟨r,d,f,b,c.ky a,e.ky a⟩
 |mW z v=>obtain⟨r,d,f,l,b,c,e,j⟩:=h;exact⟨r,d,f,l,b,c.ky a,e.ky a,j.ky a⟩
 |sT=>obtain⟨d,b,c⟩:=h;exact⟨d,b,c.ky a⟩
 |EB k=>exact rH.ky h a
def ME.ky{no:Option Nx}(h:ME H o p fv no)(a:oU H o H' o'):ME H' o' p fv no:=by
 cases no with
 |none=>exact h
 |some n=>obtain⟨b,tv,c,d,e⟩:=h;exact⟨b,tv,c,d.ky a,e.ky a⟩
def dK.fr{W:Nat->Prop}(h:dK H o p x g fv)(a:Fr W H H')(hw:∀z,z<H.au->8<=o z -> ¬W z)(ho:∀z,z<H.au->o' z=o z):dK H' o' p x g fv :=
 ⟨h.row.fr a (hw p h.row.2 (by rw[h.op];decide)),h.lg.fr a (λ z q w=>hw z q (by omega)) ho,h.nx.ky (oU.of a (λ z q w=>hw z q (by omega)) ho),(ho p h.row.2).trans h.op,h.one,h.vu,h.wu,h.qu⟩
def dK.same(h:dK H o p x g fv):eh H o p x H:=⟨o,g,fv,h,λ _ _=>rfl,Fr.refl _⟩
def dK.box(h:dK H o p x g fv)(v:AV)(t:Nat):dK (H.alloc (OR [v] t)) (aR o H.au 30) p x g fv/\Bx (H.alloc (OR [v] t)) (aR o H.au 30) H.au v/\oU H o (H.alloc (OR [v] t)) (aR o H.au 30):=by
 have f:Fr Em H (H.alloc (OR [v] t)):=(Fr.refl H).alloc _;have ho:∀z,z<H.au->aR o H.au 30 z=o z:=λ z q=>i6 q
 exact⟨h.fr f (λ _ _ _ q=>q) ho,⟨qy (xf ..),by rw[xx];omega,mG (qg _)⟩,oU.of f (λ _ _ _ q=>q) ho⟩
def eh.pre{H1:ar}{o1:Nat->Nat}(a:Fr Em H H1)(ho:∀z,z<H.au->o1 z=o z)(h:eh H1 o1 p y H'):eh H o p y H':=by
 obtain⟨o2,c,b,d,e,f⟩:=h;refine⟨o2,c,b,d,λ z q=>(e z (qj q a.au)).trans (ho z q),(a.mono λ _ _ q=>q.elim).trans f λ z q=>?_⟩;rcases xq z H.au with w|w
 .exact .inl (by rw[<-ho z w];exact q)
 .exact .inr w
def eh.then{H1:ar}(a:eh H o p x H1)(b:∀o1 e c,dK H1 o1 p x e c->eh H1 o1 p y H'):eh H o p y H':=by
 obtain⟨o1,e,c,j,f,h⟩:=a;obtain⟨o2,i,d,l,m,r⟩:=b o1 e c j;refine⟨o2,i,d,l,λ z q=>(m z (qj q h.au)).trans (f z q),h.trans r λ z q=>?_⟩;rcases xq z H.au with w|w
 .exact .inl (by rw[<-f z w];exact q)
 .exact .inr w
def dK.bq(h:dK H o p x g fv):Op.ae [.ptr p 0] H=some (.ptr g 0)/\Op.ae [.ptr p 5] H=some fv/\Op.ae [.ptr p 6] H=some (.bool x.busy)/\Op.ae [.ptr p 7] H=some (.bool x.live)/\Op.ae [.ptr p 8] H=some (.bool x.aC)/\Op.ae [.ptr p 9] H=some (.int .u64 x.snap)/\Op.ae [.ptr p 10] H=some (.int .u64 x.value)/\Op.ae [.ptr p 11] H=some (.int .i64 x.ended)/\Op.ae [.ptr p 12] H=some (.int .i64 x.points) :=
 ⟨h.row.ld 0,h.row.ld 5,h.row.ld 6,h.row.ld 7,h.row.ld 8,h.row.ld 9,h.row.ld 10,h.row.ld 11,h.row.ld 12⟩
def dK.put(h:dK H o p x g fv)(i:Nat){v:AV}(e:av v=true)(j:i<13)(he:(dy x g fv).set i v=dy y g fv)(hs:y.rd=x.rd/\y.wr=x.wr/\y.au=x.au/\y.want=x.want)(hu:fM y.value) :
 ∃H',Op.store 1 [.ptr p i,v] H=some (.undef,H')/\dK H' o p y g fv/\Fr (On p) H H':=by
 refine⟨_,h.row.st i e j,?_,cE ..⟩;rw[he];have f:Fr (On p) H (H.set p (OR (dy y g fv) Cy)):=cE ..;have np:∀z,9<=o z -> ¬On p z:=λ z q(w:z=p)=>by rw[w,h.op]at q;omega
 obtain⟨b,a,c,d⟩:=hs;exact⟨h.row.set _,by rw[b,a];exact h.lg.fr f (λ z _ q=>np z q) λ _ _=>rfl,by rw[c];exact h.nx.ky (oU.of f (λ z _ q=>np z (by omega)) λ _ _=>rfl),h.op,h.one,hu,by rw[a];exact h.wu,by rw[d];exact h.qu⟩
def dK.Ab(h:dK H o p x g fv){H1:ar}(f:Fr (On p) H H1)(a:dK H1 o p y g fv):eh H o p y H1:=⟨o,g,fv,a,λ _ _=>rfl,f.mono λ z _(q:z=p)=>by rw[q,h.op];decide⟩
def Jy(h:dK H o p x g fv){r:Rq}(hr:fM r.v){nv:AV}(hn:ME H o p nv (some n)):za M qo7 [.ptr p 0,.agg (iL r),nv] H λ _ H'=>eh H o p (x.ask r n) H':=by
 refine q4c ?_;obtain⟨H1,d,e,-,-⟩:=bX H (OR (iL r) zY);have l:At H1 H.au zY (iL r):=d▸At.new H _ _
 have i:=h.fr e (λ _ _ _ q=>q) λ _ _=>rfl;have l4:=l.fp (k:=0) (n:=4) (by simp[iL]);have one:av nv=true:=by obtain⟨b,tv,q,-⟩:=hn;rw[q];rfl
 have s1:=i.row.gK (k:=1) (n:=4) (v:=.agg (iL r)) rfl (by simp[dy,iL]) rfl;have s:(dy x g fv).take 1++AV.cells (.agg (iL r))++(dy x g fv).drop (1+4)=dy {x with want:=r} g fv:=rfl;rw[s]at s1;obtain⟨H2,a⟩:∃X,X=H1.set p (OR (dy {x with want:=r} g fv) Cy):=⟨_,rfl⟩
 rw[<-a]at s1;have j:At H2 p Cy (dy {x with want:=r} g fv):=a▸i.row.set _;have s2:=j.st 5 one (by simp[dy,iL]);have t:(dy {x with want:=r} g fv).set 5 nv=dy (x.ask r n) g nv:=rfl;rw[t]at s2;have m:AV.cells (.agg (iL r))=iL r:=zu _;have c:Op.aq 4 [.ptr H.au 0] H1=some (.agg (iL r)):=l4;simp only[aa,bc,q4d,aA,m,<-d,c,s1,s2];have u:Fr (On p) H1 H2:=a▸cE ..;have A:Fr (On p) H2 (H2.set p (OR (dy (x.ask r n) g nv) Cy)):=cE ..;have f:Fr (On p) H (H2.set p (OR (dy (x.ask r n) g nv) Cy)):=((e.mono λ _ _ q=>q.elim).trans u λ z q=>.inl q).trans A λ z q=>.inl q;have np:∀z,9<=o z -> ¬On p z:=λ z q(w:z=p)=>by rw[w,h.op]at q;omega
 exact⟨o,g,nv,⟨j.set _,h.lg.fr f (λ z _ q=>np z q) λ _ _=>rfl,ME.ky hn (oU.of f (λ z _ q=>np z (by omega)) λ _ _=>rfl),h.op,one,h.vu,h.wu,hr⟩,λ _ _=>rfl,f.mono λ z _(q:z=p)=>by rw[q,h.op];decide⟩
end
end Go.Am
namespace Go.Am
open Lang Go.Proofs
variable{M:ak}[MK M]
structure Mk(H:ar)(o:Nat->Nat)(H':ar)(o':Nat->Nat):Prop where
 f:Fr Em H H'
 ho:∀z,z<H.au->o' z=o z
section
variable{H H1 H2 H':ar}{o o1 o2 o':Nat->Nat}{p g:Nat}{x y:So}{fv kv gv tv:AV}{k:K0}{n:Nx}
def Mk.bk(m:Mk H o H1 o1):oU H o H1 o1:=oU.of m.f (λ _ _ _ q=>q) m.ho
def Mk.trans(m:Mk H o H1 o1)(w:Mk H1 o1 H2 o2):Mk H o H2 o2:=⟨m.f.em w.f,λ z q=>(w.ho z (qj q m.f.au)).trans (m.ho z q)⟩
def Mk.pre(m:Mk H o H1 o1)(h:eh H1 o1 p y H'):eh H o p y H':=eh.pre m.f m.ho h
def dK.bx(h:dK H o p x g fv)(v:AV)(t:Nat):∃H1 o1,H.alloc (OR [v] t)=H1/\dK H1 o1 p x g fv/\Bx H1 o1 H.au v/\Mk H o H1 o1:=by
 obtain⟨a,b,c⟩:=h.box v t;exact⟨_,_,rfl,a,b,(Fr.refl H).alloc _,c.own⟩
def dK.bz(h:dK H o p x g fv)(z:AV){v:AV}(a:av v=true)(t:Nat):∃H1 o1,Op.store 1 [.ptr H.au 0,v] (H.alloc (OR [z] t))=some (.undef,H1)/\dK H1 o1 p x g fv/\Bx H1 o1 H.au v/\Mk H o H1 o1:=by
 have s:=(At.new H [z] t).st 0 a (by simp);have f:Fr Em H ((H.alloc (OR [z] t)).set H.au (OR [v] t)):=((Fr.refl H).alloc _).set (.inr (qg _)) _;have ho:∀z,z<H.au->aR o H.au 30 z=o z:=λ z q=>i6 q
 exact⟨_,aR o H.au 30,s,h.fr f (λ _ _ _ q=>q) ho,⟨qy (xc ..),by rw[su,xx];omega,mG (qg _)⟩,f,ho⟩
def dK.by0(h:dK H o p x g fv)(v:AV)(t:Nat):∃H1 o1,H.alloc (OR [v] t)=H1/\dK H1 o1 p x g fv/\By H1 o1 H.au v/\Mk H o H1 o1:=by
 have f:Fr Em H (H.alloc (OR [v] t)):=(Fr.refl H).alloc _;have ho:∀z,z<H.au->aR o H.au 31 z=o z:=λ z q=>i6 q
 exact⟨_,aR o H.au 31,rfl,h.fr f (λ _ _ _ q=>q) ho,⟨⟨t,xf ..⟩,by rw[xx];omega,mG (qg _)⟩,f,ho⟩
def dK.byz(h:dK H o p x g fv)(z:AV){v:AV}(a:av v=true)(t:Nat):∃H1 o1,Op.store 1 [.ptr H.au 0,v] (H.alloc (OR [z] t))=some (.undef,H1)/\dK H1 o1 p x g fv/\By H1 o1 H.au v/\Mk H o H1 o1:=by
 have s:=(At.new H [z] t).st 0 a (by simp);have f:Fr Em H ((H.alloc (OR [z] t)).set H.au (OR [v] t)):=((Fr.refl H).alloc _).set (.inr (qg _)) _;have ho:∀z,z<H.au->aR o H.au 31 z=o z:=λ z q=>i6 q
 exact⟨_,aR o H.au 31,s,h.fr f (λ _ _ _ q=>q) ho,⟨⟨t,xc ..⟩,by rw[su,xx];omega,mG (qg _)⟩,f,ho⟩
def dK.sty{b:Nat}{w v:AV}(h:dK H o p x g fv)(hn:x.au=none)(hb:By H o b w)(i:av v=true):∃H1,Op.store 1 [.ptr b 0,v] H=some (.undef,H1)/\dK H1 o p x g fv/\By H1 o b v/\EE H o H1 o/\Fr (On b) H H1:=by
 obtain⟨⟨t,j⟩,c,d⟩:=hb;have a:At H b t [w]:=⟨j,c⟩
 have f:Fr (On b) H (H.set b (OR [v] t)):=cE ..;have nb:∀z,o z≠31 -> ¬On b z:=λ z e(w:z=b)=>e (by rw[w];exact d);have nx:=h.nx;rw[hn]at nx;refine⟨_,a.st 0 i (by simp),⟨h.row.fr f (nb p (by rw[h.op];decide)),h.lg.Ef f (λ z _ e=>nb z (by omega)),by rw[hn];exact nx,h.op,h.one,h.vu,h.wu,h.qu⟩,⟨⟨t,xc ..⟩,c,d⟩,EE.of f (λ z _ e=>nb z (by omega)) λ _ _=>rfl,f⟩
def Ee.one(h:Ee H o p tv n):av tv=true:=by
 cases n with
 |uD m k=>obtain⟨c,d,e,kv,a,b⟩:=h;rw[a];rfl
 |td m k=>obtain⟨c,d,e,kv,a,b⟩:=h;rw[a];rfl
 |uG=>obtain⟨c,d,gv,a,b⟩:=h;rw[a];rfl
 |uY k=>obtain⟨c,d,gv,a,b⟩:=h;rw[a];rfl
 |look k g rd i=>obtain⟨bi,l,r,bk,s,bs,q,j,a,b⟩:=h;rw[a];rfl
 |again k g=>obtain⟨c,d,e,kv,a,b⟩:=h;rw[a];rfl
 |u9 z=>obtain⟨f,c,d,a,b⟩:=h;rw[a];rfl
 |mW z v=>obtain⟨f,c,d,e,a,b⟩:=h;rw[a];rfl
 |sT=>obtain⟨c,a,b⟩:=h;rw[a];rfl
 |EB k=>exact rH.one h
def HV.one{ko:Option K0}(h:HV H o p gv ko):av gv=true:=by
 cases ko with
 |none=>rw[show gv=_ from h];rfl
 |some k=>obtain⟨b,c,kv,a,d⟩:=h;rw[a];rfl
def rU(h:dK H o p x g fv)(a:Int)(b:Ee H o p tv n)(hk:ED n=Pu):za M YY [.ptr p 0,.int .i64 a,tv] H λ _ H'=>eh H o p (x.ask ⟨1,a,0,0⟩ n) H':=by
 refine qzj ?_;obtain⟨H1,o1,f,i,d,c⟩:=h.bx tv Sw;have e:Op.build [.int .i64 0,.int .i64 0,.int .u64 0,.int .u64 0] [(0,1),(1,1)] [.int .i64 1,.int .i64 a]=some (.agg (iL ⟨1,a,0,0⟩)):=rfl;simp only[aa,bc,qzk,EF b.one,f,e];refine C3.q (Jy (M:=M) i bF (n:=n) ⟨_,tv,by rw[hk];rfl,d,b.ky c.bk⟩) λ _ H2 hp=>?_;simp only[aa,bc];exact c.pre hp
def PV(h:dK H o p x g fv)(a w:Int){v:Int}(j:fM v)(b:Ee H o p tv n)(hk:ED n=NS):za M Yy [.ptr p 0,.int .i64 a,.int .u64 w,.int .u64 v,tv] H λ _ H'=>eh H o p (x.ask ⟨3,a,v,w⟩ n) H':=by
 refine q4e ?_;obtain⟨H1,o1,f,i,d,c⟩:=h.bx tv Jm;have e:Op.build [.int .i64 0,.int .i64 0,.int .u64 0,.int .u64 0] [(0,1),(1,1),(2,1),(3,1)] [.int .i64 3,.int .i64 a,.int .u64 v,.int .u64 w]=some (.agg (iL ⟨3,a,v,w⟩)):=rfl;simp only[aa,bc,q4f,EF b.one,f,e];refine C3.q (Jy (M:=M) i (r:=⟨3,a,v,w⟩) j (n:=n) ⟨_,tv,by rw[hk];rfl,d,b.ky c.bk⟩) λ _ H2 hp=>?_;simp only[aa,bc];exact c.pre hp
def Bj(h:dK H o p x g fv)(a:Int){v:Int}(j:fM v)(b:rH H o p tv k):za M qmg [.ptr p 0,.int .i64 a,.int .u64 v,tv] H λ _ H'=>eh H o p (x.ask ⟨2,a,v,0⟩ (.EB k)) H':=by
 refine qw5 ?_;obtain⟨H1,o1,f,i,d,c⟩:=h.bx tv GD;have e:Op.build [.int .i64 0,.int .i64 0,.int .u64 0,.int .u64 0] [(0,1),(1,1),(2,1)] [.int .i64 2,.int .i64 a,.int .u64 v]=some (.agg (iL ⟨2,a,v,0⟩)):=rfl;simp only[aa,bc,qw6,EF b.one,f,e];refine C3.q (Jy (M:=M) i (r:=⟨2,a,v,0⟩) j (n:=.EB k) ⟨_,tv,rfl,d,b.ky c.bk⟩) λ _ H2 hp=>?_;simp only[aa,bc];exact c.pre hp
def u3(h:dK H o p x g fv)(z:Int)(hk:rH H o p kv k):za M qmd [.ptr p 0,.int .u64 z,kv] H λ _ H'=>eh H o p (x.count z k) H':=by
 refine qwv ?_;obtain⟨H1,o1,j,r,e,c⟩:=h.bx (.ptr p 0) I7;obtain⟨H2,o2,l,s,f,u⟩:=r.bx (.int .u64 z) OB;obtain⟨v,o3,m,t,i,d⟩:=s.bx kv GD;have a:=u.trans d;have b:=e.ky a.bk;simp only[aa,bc,qww,EF hk.one,j,l,m,b.ld];refine C3.q (rU (M:=M) t 1 (n:=.uD z k) ⟨_,_,_,kv,rfl,b,f.ky d.bk,i,hk.ky (c.trans a).bk⟩ rfl) λ _ w hp=>?_;simp only[aa,bc];exact(c.trans a).pre hp
def oh(h:dK H o p x g fv)(a:Int):za M Q6 [.ptr p 0,.int .i64 a] H λ _ H'=>eh H o p (x.leave a) H':=by
 refine qwz ?_;obtain⟨H1,o1,f,j,d,m⟩:=h.bx (.ptr p 0) I7;obtain⟨H2,o2,i,l,e,c⟩:=j.bx (.int .i64 a) cK;have b:=d.ky c.bk;simp only[aa,bc,qw0,f,i,b.ld];refine C3.q (u3 (M:=M) l 18446744073709551615 (k:=.left a) ⟨_,_,rfl,e,b⟩) λ _ r hp=>?_;simp only[aa,bc];exact(m.trans c).pre hp
def KD:Option K0->Nx
 |none=>.uG
 |some k=>.uY k
def pL(h:dK H o p x g fv){ko:Option K0}(hg:HV H o p gv ko):za M qla [.ptr p 0,gv] H λ _ H'=>eh H o p (x.ask ⟨1,0,0,0⟩ (KD ko)) H':=by
 refine quv ?_;obtain⟨H1,o1,i,l,f,e⟩:=h.bx (.ptr p 0) I7;obtain⟨H2,o2,j,m,d,c⟩:=l.bx gv Sw;have b:=f.ky c.bk;have a:=hg.ky (e.trans c).bk;have r:Ee H2 o2 p (kV Rn [H.au,H1.au]) (KD ko):=by
  cases ko with
  |none=>exact⟨_,_,gv,rfl,b,d,a⟩
  |some k=>exact⟨_,_,gv,rfl,b,d,a⟩
 have hk:ED (KD ko)=Pu:=by cases ko<;>rfl
 simp only[aa,bc,quw,EF hg.one,i,j,b.ld];refine C3.q (rU (M:=M) m 0 r hk) λ _ s hp=>?_;simp only[aa,bc];exact(e.trans c).pre hp
def Xb(h:dK H o p x g fv)(hk:rH H o p kv k):za M qi6 [.ptr p 0,kv] H λ _ H'=>eh H o p (x.validate k) H':=by
 refine qq4 ?_;obtain⟨H1,o1,f,j,d,c⟩:=h.bx (.ptr p 0) I7;obtain⟨H2,o2,i,l,e,a⟩:=j.bx kv GD;have b:=d.ky a.bk;simp only[aa,bc,qq5,EF hk.one,f,i,b.ld];refine C3.q (pL (M:=M) l (ko:=some k) ⟨_,_,kv,rfl,b,e,hk.ky (c.trans a).bk⟩) λ _ m hp=>?_;simp only[aa,bc];exact(c.trans a).pre hp
def CX(h:dK H o p x g fv){a:Int}(ha:0<=a):za M ZQ [.ptr p 0,.int .i64 a] H λ _ H'=>eh H o p (x.jZ a) H':=by
 refine qwx ?_;obtain⟨H1,o1,f,j,e,m⟩:=h.bx (.ptr p 0) I7;obtain⟨H2,o2,i,l,b,d⟩:=j.bx (.int .i64 a) cK;have c:=e.ky d.bk;simp only[aa,bc,qwy,f,i,c.ld,b.ld];refine C3.q (rU (M:=M) l a (n:=.u9 a) ⟨ha,_,_,rfl,c,b⟩ rfl) λ _ r hp=>?_;simp only[aa,bc];exact(m.trans d).pre hp
def HN(h:dK H o p x g fv):za M Tt [.ptr p 0] H λ _ H'=>eh H o p x.take H':=by
 refine qzn ?_;obtain⟨H1,o1,c,b,a,d⟩:=h.bx (.ptr p 0) I7;simp only[aa,bc,qzo,aA,c,a.ld,b.bq];refine C3.q (PV (M:=M) b 0 x.snap (Ek _) (n:=.sT) ⟨_,rfl,a⟩ rfl) λ _ e hp=>?_;simp only[aa,bc];exact d.pre hp
def M1(h:dK H o p x g fv):za M SW [.ptr p 0] H λ _ H'=>eh H o p x.sG H':=by
 refine qzp ?_;simp only[aa,bc,qzq];refine C3.q (pL (M:=M) h (ko:=none) rfl) λ _ a hp=>?_;simp only[aa,bc];exact hp
def IQ(h:dK H o p x g fv){lv:AV}{l:List Pr}(hl:dU cw 2 H lv l)(hu:∀y∈l,fM y.v)(hb:l≠[]->aH lv<H.au/\o (aH lv)=30)(one:av lv=true):za M Yc [.ptr p 0,lv] H λ _ H'=>eh H o p (x.back l) H':=by
 refine qzg ?_;obtain⟨H1,o1,t,D,C,F⟩:=h.bx (.ptr p 0) I7;obtain⟨H2,o2,u,s,r,w⟩:=D.bx lv nh;have e:=C.ky w.bk;have d:=F.trans w;have b:=d.bk.m.sl hl hb;have ln:=b.len;cases l with
 |nil =>
  have c:¬(0:Int)<(([]:List Pr).length:Int):=by decide
  simp only[aa,bc,qom,aA,EF one,t,u,e.ld,r.ld,ln,c,s.bq];refine C3.q (Bj (M:=M) s 0 (Ek _) (k:=.fin) ⟨_,rfl,e⟩) λ _ B hp=>?_;simp only[aa,bc];exact d.pre hp
 |cons y l =>
  have c:(0:Int)<((y::l).length:Int):=by rw[z6];omega
  have ix:Op.aO 2 [lv,.int .i64 0]=some (.ptr (aH lv) (cG 2 lv 0)):=b.idx (i:=0) rfl rfl .i64;have l0:Op.ae [.ptr (aH lv) (cG 2 lv 0)] H2=some (.int .i64 y.a):=b.lT C2 (i:=0) rfl (by decide);have l1:Op.ae [.ptr (aH lv) (cG 2 lv 0+1)] H2=some (.int .u64 y.v):=b.ae C2 (i:=0) rfl (j:=1) (by decide);obtain⟨A,G⟩:=hb (by simp);simp only[aa,bc,qom,EF one,t,u,e.ld,r.ld,ln,c,ix,l0,l1];refine C3.q (Bj (M:=M) s y.a (hu y (by simp)) (k:=.back l) ⟨λ z E=>hu z (by simp[E]),_,_,lv,y,rfl,e,r,b,qj A d.f.au,(d.ho _ A).trans G⟩) λ _ B hp=>?_;simp only[aa,bc];exact d.pre hp
end
end Go.Am
namespace Go.Am
open Lang Go.Proofs
variable{M:ak}[MK M]
section
variable{H H1 H2 H':ar}{o o1 o2 o':Nat->Nat}{p g:Nat}{x y:So}{fv kv gv tv:AV}{k:K0}{n:Nx}
def dK.on(h:dK H o p x g fv)(f:Fr (On p) H H1):oU H o H1 o:=oU.of f (λ z _ q(w:z=p)=>by rw[w,h.op]at q;omega) λ _ _=>rfl
def dK.w0(h:dK H o p x g fv){W:Nat->Prop}(f:Fr W H H1)(hw:∀z,W z->z=p):Fr (λ z=>8<=o z) H H1:=f.mono λ z _ q=>by rw[hw z q,h.op];decide
def eh.step(h:dK H o p x g fv)(f:Fr (On p) H H1)(b:eh H1 o p y H'):eh H o p y H':=by
 obtain⟨o2,c,a,d,e,i⟩:=b;exact⟨o2,c,a,d,λ z q=>e z (qj q f.au),(h.w0 f λ _ q=>q).trans i λ z q=>.inl q⟩
def dK.log{rd wr:List Pr}(h:dK H o p x g fv)(hp:tV H o g rd wr H1)(hu:∀y∈wr,fM y.v):∃o1,dK H1 o1 p {x with rd:=rd,wr:=wr} g fv/\oU H o H1 o1/\Fr (λ z=>8<=o z) H H1:=by
 obtain⟨o1,c,b,a⟩:=hp;have bk:oU H o H1 o1:=oU.of a (λ z _ q w=>by omega) b;exact⟨o1,⟨h.row.fr a (λ w=>by have:=h.op;omega),c,h.nx.ky bk,(b p h.row.2).trans h.op,h.one,h.vu,hu,h.qu⟩,bk,a.mono λ z _ q=>by omega⟩
def eh.after(c:∀z,z<H.au->o1 z=o z)(f:Fr (λ z=>8<=o z) H H1)(b:eh H1 o1 p y H'):eh H o p y H':=by
 obtain⟨o2,d,a,e,h,i⟩:=b;refine⟨o2,d,a,e,λ z q=>(h z (qj q f.au)).trans (c z q),f.trans i λ z q=>?_⟩;rcases xq z H.au with w|w
 .exact .inl (by rw[<-c z w];exact q)
 .exact .inr w
def AF(h:dK H o p x g fv):za M SB [.ptr p 0] H λ _ H'=>dK H' o p {x with busy:=false} g fv/\Fr (On p) H H':=by
 refine qzh ?_;obtain⟨H1,s1,b,a⟩:=h.put 6 (v:=.bool false) (y:={x with busy:=false}) rfl (by decide) rfl ⟨rfl,rfl,rfl,rfl⟩ h.vu;simp only[aa,bc,qzi,aA,s1];exact⟨b,a⟩
def uR(h:dK H o p x g fv)(v:Int):za M RY [.ptr p 0,.int .u64 v] H λ _ H'=>dK H' o p (x.oO v) g fv/\Fr (On p) H H':=by
 refine qw1 ?_;obtain⟨H1,s1,c,a⟩:=h.put 9 (v:=.int .u64 v) (y:={x with snap:=v}) rfl (by decide) rfl ⟨rfl,rfl,rfl,rfl⟩ h.vu;obtain⟨H2,s2,d,b⟩:=c.put 12 (v:=.int .i64 (aj .i64 (x.points+1))) (y:=x.oO v) rfl (by decide) rfl ⟨rfl,rfl,rfl,rfl⟩ h.vu;simp only[aa,bc,qw2,aA,h.bq,s1,s2];exact⟨d,a.trans b λ z q=>.inl q⟩
def JA(h:dK H o p x g fv)(v:Int):za M Ta [.ptr p 0,.int .u64 v] H λ _ H'=>eh H o p {x.oO v with live:=true,busy:=false} H':=by
 refine qwr ?_;simp only[aa,bc,qws];refine C3.q (uR (M:=M) h v) λ _ H1⟨d,a⟩=>?_;obtain⟨H2,s2,e,b⟩:=d.put 7 (v:=.bool true) (y:={x.oO v with live:=true}) rfl (by decide) rfl ⟨rfl,rfl,rfl,rfl⟩ h.vu;simp only[aa,bc,aA,s2];refine C3.q (AF (M:=M) e) λ _ i⟨f,c⟩=>?_;simp only[aa,bc];exact h.Ab ((a.trans b λ z q=>.inl q).trans c λ z q=>.inl q) f
def Cr(h:dK H o p x g fv)(hk:rH H o p kv k):∃f a c,kv=.fn (.func f) a c/\za M f (a++c) H λ _ H'=>eh H o p (x.Fz k) H':=by
 cases k with
 |wait=>exact⟨_,_,_,hk,M1 h⟩
 |take=>exact⟨_,_,_,hk,HN h⟩
 |left how =>
  obtain⟨d,r,rfl,b,j⟩:=hk;refine⟨_,_,_,rfl,?_⟩;show za M X0 [.ptr d 0,.ptr r 0] H _;refine qss ?_;obtain⟨H1,s1,t,m⟩:=h.put 7 (v:=.bool false) (y:={x with live:=false}) rfl (by decide) rfl ⟨rfl,rfl,rfl,rfl⟩ h.vu;have d1:=b.ky (h.on m);have d2:=j.ky (h.on m);obtain⟨H2,s2,E,C⟩:=t.put 11 (v:=.int .i64 how) (y:={x with live:=false,ended:=how}) rfl (by decide) rfl ⟨rfl,rfl,rfl,rfl⟩ h.vu;have A:=d2.ky (t.on C);simp only[aa,bc,qst,aA,b.ld,j.ld,s1,d1.ld,d2.ld,s2,A.ld];refine C3.q (AF (M:=M) E) λ _ u⟨F,D⟩=>?_;simp only[aa,bc];exact h.Ab ((m.trans C λ z q=>.inl q).trans D λ z q=>.inl q) F
 |jZ a =>
  obtain⟨B,d,r,rfl,b,j⟩:=hk;refine⟨_,_,_,rfl,?_⟩;show za M VL [.ptr d 0,.ptr r 0] H _;refine qno ?_;simp only[aa,bc,qnp,b.ld,j.ld];refine C3.q (CX (M:=M) h B) λ _ u hp=>?_;simp only[aa,bc];exact hp
 |back l =>
  obtain⟨B,d,r,lv,y,rfl,b,j,hl,G,I⟩:=hk;refine⟨_,_,_,rfl,?_⟩;show za M Ux [.ptr d 0,.ptr r 0] H _;refine qup ?_;obtain⟨s,s1,i,hb⟩:=hl.from C2 (k:=1) (by simp) (z:=1) rfl .i64
  simp only[aa,bc,quq,b.ld,j.ld,s1];have nb:l≠[]->aH s<H.au/\o (aH s)=30:=λ e=>by
   rcases hb with w|w
   .subst w;have:=i.len;have A:l.length=0:=by
     have q:Op.dc [AV.nils]=some (.int .i64 0):=rfl;rw[q]at this;injection this with this;injection this with _ this
     simp only[KI,ym]at this;omega
    exact(e (jt.1 A)).elim
   .rw [w];exact⟨G,I⟩
  refine C3.q (IQ (M:=M) h (l:=l) i B nb i.one) λ _ u hp=>?_;simp only[aa,bc];exact hp
 |fin =>
  obtain⟨d,rfl,b⟩:=hk;refine⟨_,_,_,rfl,?_⟩;show za M W6 [.ptr d 0] H _;refine qur ?_;obtain⟨H1,s1,t,m⟩:=h.put 8 (v:=.bool false) (y:={x with aC:=false}) rfl (by decide) rfl ⟨rfl,rfl,rfl,rfl⟩ h.vu;have d1:=b.ky (h.on m);simp only[aa,bc,qus,aA,b.ld,s1,d1.ld];refine C3.q (oh (M:=M) t 1) λ _ u hp=>?_;simp only[aa,bc];exact eh.step h m hp
def Ig{i:Nat}{e:Int}{rd:List Pr}{bi j d bk m bs l f:Nat}(h:dK H o p x g fv)(r:By H o bi (.int .i64 (i:Int)))(hle:i<=rd.length)(v:I8 H o p k e rd bi j d bk m bs l f) :
 za M Sc [.ptr bi 0,.ptr m 0,.ptr d 0,.ptr l 0,.ptr f 0] H λ _ H'=>eh H o p (x.step k e rd i) H':=by
 refine qmy ?_;obtain⟨kv,w,z,A⟩:=v.hk;obtain⟨rv,t,s,B,C⟩:=v.hr;have ln:=s.len;unfold So.step;rcases xq i rd.length with q|q
 .have c:(i:Int)<(rd.length:Int):=by omega
  obtain⟨y,b⟩:∃y,rd[i]? = some y:=⟨rd[i],by simp[q]⟩
  have ix:Op.aO 2 [rv,.int .i64 (i:Int)]=some (.ptr (aH rv) (cG 2 rv i)):=s.idx b rfl .i64;have l0:Op.ae [.ptr (aH rv) (cG 2 rv i)] H=some (.int .i64 y.a):=s.lT C2 b (by decide);simp only[aa,bc,X7,r.ld,t.ld,ln,c,v.hp.ld,ix,l0,v.hl.ld,b];refine C3.q (rU (M:=M) h y.a (n:=.look k e rd i) ⟨bi,j,d,bk,m,bs,l,f,rfl,r,q,v⟩ rfl) λ _ u hp=>?_;simp only[aa,bc];exact hp
 .have c:¬(i:Int)<(rd.length:Int):=by omega
  have b:rd[i]? = none:=zz q;simp only[aa,bc,X7,r.ld,t.ld,ln,c,v.hp.ld,v.ha.ld,b];refine C3.q (rU (M:=M) h 0 (n:=.again k e) ⟨j,d,bk,kv,rfl,v.hg,v.hp,w,z⟩ rfl) λ _ u hp=>?_;simp only[aa,bc];exact hp
end
end Go.Am
namespace Go.Am
open Lang Go.Proofs
variable{M:ak}[MK M]
section
variable{H H1 H2 H':ar}{o o1 o2 o':Nat->Nat}{p g b f:Nat}{x y:So}{fv kv gv tv:AV}{k:K0}{n:Nx}{l:List Nat}{v:Int}{ok:Bool}{R:AV->ar->Prop}
def JO(hb:Bx H o b (kV f l))(a:za M f (.int .u64 v::l.map λ b=>.ptr b 0) H λ _ H'=>R .undef H'):za M Pu [.int .u64 v,.bool ok,.ptr b 0] H λ _ H'=>R .undef H':=by
 refine qut ?_;simp only[aa,bc,quu,hb.ld,kV];refine C3.q a λ _ c hp=>?_;simp only[aa,bc];exact hp
def Ys(hb:Bx H o b (kV f l))(a:za M f (.bool ok::l.map λ b=>.ptr b 0) H λ _ H'=>R .undef H'):za M NS [.int .u64 v,.bool ok,.ptr b 0] H λ _ H'=>R .undef H':=by
 refine qwt ?_;simp only[aa,bc,qwu,hb.ld,kV];refine C3.q a λ _ c hp=>?_;simp only[aa,bc];exact hp
def oi{v:Int}(a:fM v):Op.bin .rem [.int .u64 v,.int .u64 2]=some (.int .u64 (v % 2)):=by
 rw[tq .u64 _ _ (by decide),QV a.1]
def son(h:dK H o p x g fv)(hn:x.au=none)(hv:fM v)(hb:Bx H o b tv)(O:Ee H o p tv n):za M (ED n) [.int .u64 v,.bool ok,.ptr b 0] H λ _ H'=>eh H o p (x.on v ok n) H':=by
 cases n with
 |uD m k =>
  obtain⟨E,Z,J,kv,rfl,r,A,G,hk⟩:=O;refine JO (R:=λ _ H'=>eh H o p _ H') hb ?_;refine qso ?_;simp only[aa,bc,qsp,r.ld,A.ld];refine C3.q (PV (M:=M) h 1 v (Ek _) (n:=.td m k) ⟨_,_,_,kv,rfl,r,A,G,hk⟩ rfl) λ _ d hp=>?_;simp only[aa,bc];exact hp
 |td m k =>
  obtain⟨E,Z,J,kv,rfl,r,A,G,hk⟩:=O;refine Ys (R:=λ _ H'=>eh H o p _ H') hb ?_;refine qp7 ?_;unfold So.on;cases ok with
  |true =>
   obtain⟨N,a,c,rfl,K⟩:=Cr (M:=M) h hk;simp only[aa,bc,qin,G.ld];refine C3.q K λ _ d hp=>?_;simp only[aa,bc];exact hp
  |false =>
   simp only[aa,bc,qin,r.ld,A.ld,G.ld,zx];refine C3.q (u3 (M:=M) h m hk) λ _ d hp=>?_;simp only[aa,bc];exact hp
 |uG =>
  obtain⟨E,Z,gv,rfl,r,A,hg⟩:=O;refine JO (R:=λ _ H'=>eh H o p _ H') hb ?_;refine qjc ?_;unfold So.on
  by_cases q:v % 2=1
  .simp only[aa,bc,Ri,oi hv,xb q,r.ld,A.ld];refine C3.q (pL (M:=M) h (ko:=none) hg) λ _ d hp=>?_;simp only[aa,bc];exact hp
  .have hg:gv=_:=hg;subst hg;simp only[aa,bc,Ri,oi hv,q,A.ld];refine C3.q (JA (M:=M) h v) λ _ d hp=>?_;simp only[aa,bc];exact hp
 |uY k =>
  obtain⟨E,Z,gv,rfl,r,A,hg⟩:=O;refine JO (R:=λ _ H'=>eh H o p _ H') hb ?_;refine qjc ?_;unfold So.on
  by_cases q:v % 2=1
  .simp only[aa,bc,Ri,oi hv,xb q,r.ld,A.ld];refine C3.q (pL (M:=M) h (ko:=some k) hg) λ _ d hp=>?_;simp only[aa,bc];exact hp
  .obtain ⟨J,b4,kv,rfl,d1,d2,hk⟩:=hg;simp only[aa,bc,Ri,oi hv,q,A.ld,kV,ji,EI];refine C3.q (R:=λ _ H'=>eh H o p (x.step k v x.rd 0) H') ?_ λ _ d hp=>?_
   .refine qos ?_;obtain⟨H1,o1,Q,s,bg,C⟩:=h.bx (.int .u64 v) OB;have d11:=d1.ky C.bk;simp only[aa,bc,qot,aA,Q,d11.ld,s.bq];refine C3.q (K5 (M:=M) s.lg) λ rv H2⟨t,D,F⟩=>?_;have one:av rv=true:=Sl.one (Own.sl t)
    -- what is made since
    have Y:Mk H1 o1 H2 (aR o1 H1.au 30):=⟨F,λ z q=>i6 q⟩
    have U:=s.fr F (λ _ _ _ q=>q) Y.ho;have hr:x.rd≠[]->aH rv<H2.au/\aR o1 H1.au 30 (aH rv)=30:=λ e=>by
     have on:=vS t e;exact⟨Own.lt t _ on,mG (D _ on)⟩
    have rt:∀{Hx ox},Mk H2 (aR o1 H1.au 30) Hx ox->dU cw 2 Hx rv x.rd/\(x.rd≠[]->aH rv<Hx.au/\ox (aH rv)=30):=λ m=>⟨m.bk.m.sl (a9.sl t) hr,λ e=>⟨qj (hr e).1 m.f.au,(m.ho _ (hr e).1).trans (hr e).2⟩⟩
    obtain⟨d,o3,s3,h3,br,m3⟩:=U.bz .nils one nh;obtain⟨u,o4,s4,h4,bi,m4⟩:=h3.byz (.int .i64 0) (v:=.int .i64 0) rfl cK;obtain⟨H5,o5,e5,h5,bs,m5⟩:=h4.by0 .nilf GD;obtain⟨H6,o6,s6,h6,bl,m6⟩:=h5.bz .nilf (v:=kV Rz [H2.au,d.au,J,u.au]) rfl Sw;obtain⟨H7,o7,s7,h7,ba,m7⟩:=h6.bz .nilf (v:=kV Rj [H.au,J,b4]) rfl Sw;have m13:=Y.trans m3;have X:=((m4.trans m5).trans m6).trans m7;have m57:=(m5.trans m6).trans m7;have m67:=m6.trans m7;have m37:=m3.trans X;have m17:=m13.trans X;have S:=C.trans m17;obtain⟨H8,s8,h8,W,V,f8⟩:=h7.sty hn (bs.ky m67.bk) (v:=kV Sc [d.au,H2.au,J,H5.au,H6.au]) rfl;have P:=bi.ky m57.bk;have nb:d.au≠u.au:=by have:=m4.f.au;have:=bi.2.1;omega
    have bi8:By H8 o7 d.au (.int .i64 ((0:Nat):Int)):=⟨by rw[f8.ah _ P.2.1 nb];exact P.1,qj P.2.1 f8.au,P.2.2⟩
    obtain⟨t1,t2⟩:=rt m37;have n8:=f8.au
    have one':=hk.one;have ln:=(a9.sl t).len;have B:I8 H8 o7 p k v x.rd d.au H.au J b4 H2.au u.au H5.au H6.au :=
     ⟨(bg.ky m17.bk).km V,(d1.ky S.bk).km V,⟨kv,(d2.ky S.bk).km V,(hk.ky S.bk).km V,one'⟩,⟨rv,(br.ky X.bk).km V,V.sl t1 t2,λ e=>⟨qj (t2 e).1 n8,(t2 e).2⟩,one⟩,W,(bl.ky m7.bk).km V,ba.km V,by have:=h.lg;obtain⟨_,_,_,_,_,_,_,_,_,_,q,_⟩:=this;exact q.le⟩
    have T:=W.ld;simp only[kV,ji,EI]at s6 s7 s8 T;simp only[aa,bc,s3,s4,e5,yz,ym,s6,s7,s8,T];refine C3.q (Ig (M:=M) h8 bi8 (xy _) B) λ _ H9 hp=>?_;simp only[aa,bc];refine S.pre ?_;obtain⟨o9,g9,fv9,w1,w2,w3⟩:=hp;exact⟨o9,g9,fv9,w1,λ z e=>w2 z (qj e n8),(f8.mono λ z _(e:z=u.au)=>by rw[e,W.2.2];decide).trans w3 λ z e=>.inl e⟩
   .simp only[aa,bc];exact hp
 |look k gg rd i =>
  obtain⟨bi,bg,bp,bk,br,bs,bl,ba,rfl,r,hi,B⟩:=O;refine JO (R:=λ _ H'=>eh H o p _ H') hb ?_;refine qmw ?_;obtain⟨rv,t,D,F,r4⟩:=B.hr;obtain⟨y,hy⟩:∃y,rd[i]? = some y:=⟨rd[i],by simp[hi]⟩
  have hyd:rd.getD i ⟨0,0⟩=y:=by rw[zy,hy];rfl
  have ix:Op.aO 2 [rv,.int .i64 (i:Int)]=some (.ptr (aH rv) (cG 2 rv i)):=D.idx hy rfl .i64;have l1:Op.ae [.ptr (aH rv) (cG 2 rv i+1)] H=some (.int .u64 y.v):=D.ae C2 hy (j:=1) (by decide);have eo:x.on v ok (.look k gg rd i)=if v≠y.v then x.leave 2 else x.step k gg rd (i+1):=by show(if v≠(rd.getD i ⟨0,0⟩).v then _ else _)=_;rw[hyd]
  rw[eo]
  by_cases q:v=y.v
  .have wj:aj .i64 ((i:Int)+1)=((i+1:Nat):Int):=by have:=B.hn;rw[js (by omega) (by omega)];omega
   obtain⟨H1,s1,s,d1,C,I⟩:=h.sty hn r (v:=.int .i64 ((i+1:Nat):Int)) rfl;have nb:bs≠bi:=λ e=>by
    have a1:=B.hs.ld;have a2:=r.ld;rw[e,a2]at a1;injection a1 with a1;cases a1
   have ds:By H1 o bs _:=⟨by rw[I.ah bs B.hs.2.1 nb];exact B.hs.1,qj B.hs.2.1 I.au,B.hs.2.2⟩
   obtain⟨kv,k1,k2,k3⟩:=B.hk;have va1:I8 H1 o p k gg rd bi bg bp bk br bs bl ba:=⟨B.hg.km C,B.hp.km C,⟨kv,k1.km C,k2.km C,k3⟩,⟨rv,t.km C,C.sl D F,λ e=>⟨qj (F e).1 I.au,(F e).2⟩,r4⟩,ds,B.hl.km C,B.ha.km C,B.hn⟩
   simp only[aa,bc,oS,t.ld,r.ld,ix,l1,xb q,wj,s1,ds.ld,kV,ji,EI];refine C3.q (Ig (M:=M) s d1 hi va1) λ _ d hp=>?_;simp only[aa,bc];obtain⟨o2,g2,fv2,w1,w2,w3⟩:=hp;exact⟨o2,g2,fv2,w1,λ z e=>w2 z (qj e I.au),(I.mono λ z _(e:z=bi)=>by rw[e,r.2.2];decide).trans w3 λ z e=>.inl e⟩
  .simp only[aa,bc,oS,t.ld,r.ld,ix,l1,q,B.hp.ld];refine C3.q (oh (M:=M) h 2) λ _ d hp=>?_;simp only[aa,bc];exact hp
 |again k gg =>
  obtain⟨bg,bp,bk,kv,rfl,r,A,G,hk⟩:=O;refine JO (R:=λ _ H'=>eh H o p _ H') hb ?_;refine qmx ?_;unfold So.on
  by_cases q:v=gg
  .simp only[aa,bc,Zb,r.ld,A.ld,xb q];refine C3.q (uR (M:=M) h gg) λ _ H1⟨s,I⟩=>?_;have c31:=G.ky (h.on I);obtain⟨N,a,c,rfl,K⟩:=Cr (M:=M) s (hk.ky (h.on I));simp only[aa,bc,c31.ld];refine C3.q K λ _ d hp=>?_;simp only[aa,bc];exact eh.step h I hp
  .simp only[aa,bc,Zb,r.ld,A.ld,G.ld,q];refine C3.q (Xb (M:=M) h hk) λ _ d hp=>?_;simp only[aa,bc];exact hp
 |u9 a =>
  obtain⟨ha,E,Z,rfl,r,A⟩:=O;refine JO (R:=λ _ H'=>eh H o p _ H') hb ?_;refine qsq ?_;obtain⟨H1,o1,Q,s,J,C⟩:=h.bx (.int .u64 v) OB;have d1:=r.ky C.bk;have d2:=A.ky C.bk;simp only[aa,bc,qsr,Q,d1.ld];refine C3.q (rU (M:=M) s 0 (n:=.mW a v) ⟨⟨ha,hv⟩,_,_,_,rfl,d1,d2,J⟩ rfl) λ _ d hp=>?_;simp only[aa,bc];exact C.pre hp
 |mW a w =>
  obtain⟨⟨ha,hw⟩,E,Z,J,rfl,r,A,G⟩:=O;refine JO (R:=λ _ H'=>eh H o p _ H') hb ?_;refine qp8 ?_
  by_cases q:v=x.snap
  .have lw:=Xp (M:=M) h.lg a;have go:∀(l:List Pr){H1:ar}{o1:Nat->Nat},x.ah a w=some l->(da x.rd a).getD w=w->dK H1 o1 p {x with rd:=l} g fv->oU H o H1 o1->Fr (λ z=>8<=o z) H H1 ->
    ∃H2,Op.store 1 [.ptr p 10,.int .u64 w] H1=some (.undef,H2)/\Op.ae [.ptr E 0] H1=some (.ptr p 0)/\Op.ae [.ptr J 0] H1=some (.int .u64 w)/\Op.ae [.ptr E 0] H2=some (.ptr p 0)/\za M RY [.ptr p 0,.int .u64 v] H2 λ _ d=>Op.ae [.ptr E 0] d=some (.ptr p 0)/\za M SB [.ptr p 0] d λ _ u=>eh H o p (x.on v ok (.mW a w)) u:=λ l{H1 o1}ek L s bk N=>by
    obtain⟨H2,s2,U,f2⟩:=s.put 10 (v:=.int .u64 w) (y:={x with rd:=l,value:=w}) rfl (by decide) rfl ⟨rfl,rfl,rfl,rfl⟩ hw;have d1:=r.ky bk;have d3:=G.ky bk;have Q:=d1.ky (s.on f2);refine⟨H2,s2,d1.ld,d3.ld,Q.ld,(uR (M:=M) U v).mono λ _ d⟨h3,f3⟩=>⟨(Q.ky (U.on f3)).ld,(AF (M:=M) h3).mono λ _ u⟨h4,f4⟩=>?_⟩⟩;have e:x.on v ok (.mW a w) = {({x with rd:=l,value:=w}:So).oO v with busy:=false}:=by
     show(if v≠x.snap then _ else if(da x.rd a).getD w≠w then _ else match x.ah a w with|none=>_|some l=>_)=_;rw[qo (λ e=>e q),qo (λ e=>e L),ek]
    rw[e];exact eh.after bk.own N (s.Ab ((f2.trans f3 λ z q=>.inl q).trans f4 λ z q=>.inl q) h4)
   have lv:∀{H1:ar}{o1:Nat->Nat},(da x.rd a).getD w≠w\/(da x.rd a).getD w=w/\x.ah a w=none->dK H1 o1 p x g fv->oU H o H1 o1->Fr (λ z=>8<=o z) H H1->Op.ae [.ptr E 0] H1=some (.ptr p 0)/\za M Q6 [.ptr p 0,.int .i64 2] H1 λ _ u=>eh H o p (x.on v ok (.mW a w)) u:=λ{H1 o1}L s bk N=>by
    refine⟨(r.ky bk).ld,(oh (M:=M) s 2).mono λ _ u hp=>?_⟩;have e:x.on v ok (.mW a w)=x.leave 2:=by
     show(if v≠x.snap then _ else if(da x.rd a).getD w≠w then _ else match x.ah a w with|none=>_|some l=>_)=_;rw[qo (λ e=>e q)];rcases L with L|⟨L,ek⟩
     .rw [qr L]
     .rw [qo (λ e=>e L),ek]
    rw[e];exact eh.after bk.own N hp
   have bk0:oU H o H o:=⟨⟨λ _ _ _=>rfl,λ _ _=>rfl,qg _⟩,λ _ _ _=>rfl⟩
   have rest:∀{e:AV}{H1:ar},(da x.rd a).getD w=w->Jb H o g x.rd a e (tV H o g x.rd x.wr H1) (tV H o g (if da x.rd a=none then x.rd ++ [⟨a,w⟩]else x.rd) x.wr H1)->(e=.int .i64 70/\Op.ae [.ptr E 0] H1=some (.ptr p 0)/\za M Q6 [.ptr p 0,.int .i64 2] H1 λ _ u=>eh H o p (x.on v ok (.mW a w)) u)\/e=.int .i64 0 /\ ∃H2,Op.store 1 [.ptr p 10,.int .u64 w] H1=some (.undef,H2)/\Op.ae [.ptr E 0] H1=some (.ptr p 0)/\Op.ae [.ptr J 0] H1=some (.int .u64 w)/\Op.ae [.ptr E 0] H2=some (.ptr p 0)/\za M RY [.ptr p 0,.int .u64 v] H2 λ _ d=>Op.ae [.ptr E 0] d=some (.ptr p 0)/\za M SB [.ptr p 0] d λ _ u=>eh H o p (x.on v ok (.mW a w)) u:=λ L K=>by
    rcases K with⟨l1,l2,rfl,hp⟩|⟨l1,rfl,hp⟩
    .obtain ⟨o1,s,bk,N⟩:=h.log hp h.wu;exact .inl ⟨rfl,lv (.inr ⟨L,by unfold So.ah;rw[l1];simp only;rw[qr l2]⟩) s bk N⟩
    .obtain ⟨o1,s,bk,N⟩:=h.log hp h.wu;refine .inr ⟨rfl,go _ ?_ L s bk N⟩;unfold So.ah;cases hl:da x.rd a with
     |some z=>simp only;rw[qo (by simp)]
     |none=>simp only;rw[qo λ e=>l1 ⟨hl,e⟩,qr trivial]
   cases hl:da x.rd a with
   |some z =>
    rw[hl]at lw
    by_cases qz:z=w
    .subst qz;simp only[aa,bc,MP,aA,r.ld,h.bq,xb q,A.ld,lw,G.ld,vi,y8];refine C3.q (Hv (M:=M) h.lg ha z) λ e H1 K=>?_;rcases rest (by rw[hl];rfl) K with⟨rfl,t,D⟩|⟨rfl,H2,t,D,F,r4,r5⟩
     .have t7:¬(70:Int)=0:=by decide
      simp only[aa,bc,t7,t];refine C3.q D λ _ u hp=>?_;simp only[aa,bc];exact hp
     .simp only[aa,bc,MP,aA,t,D,F,r4];refine C3.q r5 λ _ d⟨r6,r7⟩=>?_;simp only[aa,bc,r6];refine C3.q r7 λ _ u hp=>?_;simp only[aa,bc];exact hp
    .simp only[aa,bc,MP,aA,r.ld,h.bq,xb q,A.ld,lw,G.ld,vi,y8,qz];refine C3.q (lv (.inl (by rw[hl];exact qz)) h bk0 (Fr.refl _)).2 λ _ u hp=>?_;simp only[aa,bc];exact hp
   |none =>
    rw[hl]at lw;simp only[aa,bc,MP,aA,r.ld,h.bq,xb q,A.ld,lw,G.ld,Option.getD_none,Jv];refine C3.q (Hv (M:=M) h.lg ha w) λ e H1 K=>?_;rcases rest (by rw[hl];rfl) K with⟨rfl,t,D⟩|⟨rfl,H2,t,D,F,r4,r5⟩
    .have t7:¬(70:Int)=0:=by decide
     simp only[aa,bc,t7,t];refine C3.q D λ _ u hp=>?_;simp only[aa,bc];exact hp
    .simp only[aa,bc,MP,aA,t,D,F,r4];refine C3.q r5 λ _ d⟨r6,r7⟩=>?_;simp only[aa,bc,r6];refine C3.q r7 λ _ u hp=>?_;simp only[aa,bc];exact hp
  .have e:x.on v ok (.mW a w)=x.validate (.jZ a):=qr q;rw[e];simp only[aa,bc,MP,aA,r.ld,h.bq,q];refine C3.q (Xb (M:=M) h (k:=.jZ a) ⟨ha,_,_,rfl,r,A⟩) λ _ d hp=>?_;simp only[aa,bc];exact hp
 |sT =>
  obtain⟨E,rfl,r⟩:=O;refine Ys (R:=λ _ H'=>eh H o p _ H') hb ?_;refine qux ?_;unfold So.on;cases ok with
  |true =>
   obtain⟨H1,s1,s,I⟩:=h.put 12 (v:=.int .i64 (aj .i64 (x.points+1))) (y:={x with points:=aj .i64 (x.points+1)}) rfl (by decide) rfl ⟨rfl,rfl,rfl,rfl⟩ h.vu;have d1:=r.ky (h.on I);obtain⟨H2,s2,U,f2⟩:=s.put 8 (v:=.bool true) (y:={x with points:=aj .i64 (x.points+1),aC:=true}) rfl (by decide) rfl ⟨rfl,rfl,rfl,rfl⟩ h.vu;have Q:=d1.ky (s.on f2);simp only[aa,bc,D1,aA,r.ld,h.bq,s1,d1.ld,s2,Q.ld,U.bq];refine C3.q (vN (M:=M) U.lg) λ lv d⟨t,D,F⟩=>?_;have one:av lv=true:=Sl.one (Own.sl t);have Y:Mk H2 o d (aR o H2.au 30):=⟨F,λ z q=>i6 q⟩
   have h3:=U.fr F (λ _ _ _ q=>q) Y.ho;have e3:=Q.ky Y.bk;have hr:x.wr≠[]->aH lv<d.au/\aR o H2.au 30 (aH lv)=30:=λ e=>by
    have on:=vS t e;exact⟨Own.lt t _ on,mG (D _ on)⟩
   simp only[aa,bc,e3.ld];refine C3.q (IQ (M:=M) h3 (a9.sl t) h.wu hr one) λ _ u hp=>?_;simp only[aa,bc];exact eh.step h (I.trans f2 λ z q=>.inl q) (Y.pre hp)
  |false =>
   simp only[aa,bc,D1,r.ld,zx];refine C3.q (Xb (M:=M) h (k:=.take) rfl) λ _ d hp=>?_;simp only[aa,bc];exact hp
 |EB k =>
  refine qsu ?_;obtain⟨N,a,c,rfl,K⟩:=Cr (M:=M) h O;simp only[aa,bc,qsv,hb.ld];refine C3.q K λ _ d hp=>?_;simp only[aa,bc];exact hp
end
end Go.Am
namespace Go.Am
open Lang Go.Proofs
variable{M:ak}[MK M]
section
variable{H H1 H2 H':ar}{o o1 o2 o':Nat->Nat}{p g b f:Nat}{x y:So}{fv kv gv tv:AV}{v:Int}{ok:Bool}
def jY(h:dK H o p x g fv):∀K,C3 M true (.func qog) [.ptr p 0] H K=K true (.bool false) H:=by
 refine dW (qzl ?_);simp only[aa,bc,qzm,aA,h.bq]
def hC(h:dK H o p x g fv):∀K,C3 M true (.func pf) [.ptr p 0] H K=K true (.bool x.busy) H:=by
 refine dW (qy9 ?_);simp only[aa,bc,qza,aA,jY h,h.bq]
def HB(h:dK H o p x g fv):∀K,C3 M true (.func oM) [.ptr p 0] H K=K true (.bool x.aC) H:=by
 refine dW (qsm ?_);simp only[aa,bc,qsn,aA,jY h,h.bq]
def Dp(h:dK H o p x g fv):∀K,C3 M true (.func KF) [.ptr p 0] H K=K true (.int .u64 x.value) H:=by
 refine dW (qwp ?_);simp only[aa,bc,qwq,aA,jY h,h.bq]
def p5(h:dK H o p x g fv):∀K,C3 M true (.func Z9) [.ptr p 0] H K=K true (.int .i64 x.ended) H:=by
 refine dW (qwm ?_);simp only[aa,bc,qwn,aA,jY h,h.bq]
def eE(h:dK H o p x g fv):∀K,C3 M true (.func YE) [.ptr p 0] H K=K true (.int .i64 x.points) H:=by
 refine dW (qum ?_);simp only[aa,bc,qun,aA,jY h,h.bq]
def mD(h:dK H o p x g fv):∀K,C3 M true (.func Yu) [.ptr p 0] H K=K true (.int .i64 (if x.ready=true then 0 else 80)) H:=by
 refine dW (qw3 ?_);unfold So.ready;cases q:x.busy<;>cases r:x.live<;>simp only[aa,bc,qw4,aA,jY h,h.bq,q,r,zx,Bool.true_and,Bool.false_and]
def Ko(h:dK H o p x g fv)(a:Int):∀K,C3 M true (.func qkf) [.ptr p 0,.int .i64 a] H K=K true (.int .i64 (if x.ready=true then if 8<=a then 0 else 2 else 80)) H:=by
 refine dW (qsw ?_);have d:¬(80:Int)=0:=by decide
 cases q:x.ready
 .simp only[aa,bc,Va,mD h,q,zx,d]
 .by_cases r:8<=a
  .have c:¬a<8:=Ik.2 r;simp only[aa,bc,Va,mD h,q,c,xb r]
  .have c:a<8:=Int.not_le.1 r;simp only[aa,bc,Va,mD h,q,xb c,r]
def MS:[AV.int .i64 0,.int .i64 0,.int .u64 0,.int .u64 0]=iL ⟨0,0,0,0⟩:=rfl
def NM(h:dK H o p x g fv):za M Zh [.ptr p 0] H λ w H'=>(∃q,w=.tuple [.agg (iL x.want),.bool q])/\Fr Em H H':=by
 refine qze ?_;obtain⟨H1,i,j,-,-⟩:=bX H (OR (iL ⟨0,0,0,0⟩) zY);have d:At H1 H.au zY _:=i▸At.new H _ _
 have c:=h.fr j (λ _ _ _ q=>q) λ _ _=>rfl;have l4:Op.aq 4 [.ptr p 1] H1=some (.agg (iL x.want)):=c.row.fp (k:=1) (n:=4) (by simp[dy,iL]);have s1:=d.gK (k:=0) (n:=4) (v:=.agg (iL x.want)) rfl (by simp[iL]) rfl;have s:(iL ⟨0,0,0,0⟩).take 0++AV.cells (.agg (iL x.want))++(iL ⟨0,0,0,0⟩).drop (0+4)=iL x.want:=rfl;rw[s]at s1;obtain⟨H2,a⟩:∃X,X=H1.set H.au (OR (iL x.want) zY):=⟨_,rfl⟩
 rw[<-a]at s1;have m:Fr Em H H2:=a▸j.set (.inr (qg _)) _;have r:At H2 H.au zY (iL x.want):=a▸d.set _
 have t:=h.fr m (λ _ _ _ q=>q) λ _ _=>rfl;have z:Op.aq 4 [.ptr H.au 0] H2=some (.agg (iL x.want)):=r.fp (k:=0) (n:=4) (by simp[iL]);obtain⟨q,u⟩:∃q:Bool,∀H,Op.eq .func true [fv,.nilf] H=some (.bool q):=by
  have:=h.nx;cases e:x.au with
  |none=>rw[e]at this;rw[show fv=_ from this];exact⟨false,λ _=>rfl⟩
  |some n=>rw[e]at this;obtain⟨b,tv,rfl,-⟩:=this;exact⟨true,λ _=>rfl⟩
 simp only[aa,bc,qzf,aA,MS,<-i,jY c,l4,c.bq,t.bq,u,s1,z];exact⟨⟨q,rfl⟩,m⟩
def O5(h:dK H o p x g fv)(s:fM v):za M qoa [.ptr p 0,.int .u64 v,.bool ok] H λ _ H'=>eh H o p (x.eO v ok) H':=by
 refine qzb ?_;unfold So.eO;have nx:=h.nx;cases e:x.au with
 |none =>
  rw[e]at nx;have nx:fv=.nilf:=nx;subst nx;have q:∀H,Op.eq .func false [.nilf,.nilf] H=some (.bool true):=λ _=>rfl;simp only[aa,bc,Y8,aA,jY h,h.bq,q];exact h.same
 |some n =>
  rw[e]at nx;obtain⟨b,tv,rfl,hb,r⟩:=nx;have q:∀f l H,Op.eq .func false [.fn f [] l,.nilf] H=some (.bool false):=λ _ _ _=>rfl;have d:Op.build (iL ⟨0,0,0,0⟩) [] []=some (.agg (iL ⟨0,0,0,0⟩)):=rfl;have s1:=h.row.gK (k:=1) (n:=4) (v:=.agg (iL ⟨0,0,0,0⟩)) rfl (by simp[dy,iL]) rfl;have i:(dy x g (kV (ED n) [b])).take 1++AV.cells (.agg (iL ⟨0,0,0,0⟩))++(dy x g (kV (ED n) [b])).drop (1+4)=dy {x with want:=⟨0,0,0,0⟩} g (kV (ED n) [b]):=rfl;rw[i]at s1;obtain⟨H1,a⟩:∃X,X=H.set p (OR (dy {x with want:=⟨0,0,0,0⟩} g (kV (ED n) [b])) Cy):=⟨_,rfl⟩
  rw[<-a]at s1;have c:At H1 p Cy _:=a▸h.row.set _;have s2:=c.st 5 (v:=.nilf) rfl (by simp[dy,iL]);have j:(dy {x with want:=⟨0,0,0,0⟩} g (kV (ED n) [b])).set 5 .nilf=dy {x with want:=⟨0,0,0,0⟩,au:=none} g .nilf:=rfl;rw[j]at s2;have f:Fr (On p) H (H1.set p (OR (dy {x with want:=⟨0,0,0,0⟩,au:=none} g .nilf) Cy)):=(a▸cE H p _:Fr (On p) H H1).trans (cE ..) λ z q=>.inl q;have bk:=h.on f;have m:dK (H1.set p (OR (dy {x with want:=⟨0,0,0,0⟩,au:=none} g .nilf) Cy)) o p {x with want:=⟨0,0,0,0⟩,au:=none} g .nilf:=⟨c.set _,h.lg.fr f (λ z _ w(e:z=p)=>by rw[e,h.op]at w;omega) λ _ _=>rfl,rfl,h.op,rfl,h.vu,h.wu,bF⟩
  simp only[aa,bc,Y8,aA,jY h,h.bq,q,MS,d,s1,s2,kV,ji,EI];refine C3.q (son (M:=M) m rfl s (hb.ky bk) (r.ky bk)) λ _ t hp=>?_;simp only[aa,bc];exact eh.step h f hp
def Kv(h:dK H o p x g fv):za M ql9 [.ptr p 0] H λ _ H'=>eh H o p x.begin H':=by
 refine qwl ?_;unfold So.begin
 by_cases q:x.busy=true\/x.live=true
 .rw [qr q];cases b:x.busy
  .have l:x.live=true:=q.resolve_left (by rw[b];simp);simp only[aa,bc,Xt,aA,jY h,h.bq,b,l];exact h.same
  .simp only[aa,bc,Xt,aA,jY h,h.bq,b];exact h.same
 .rw [qo q];have b:x.busy=false:=by cases r:x.busy;rfl;exact(q (.inl r)).elim
  have l:x.live=false:=by cases r:x.live;rfl;exact(q (.inr r)).elim
  simp only[aa,bc,Xt,aA,jY h,h.bq,b,l];refine C3.q (Jx (M:=M) h.lg) λ _ H1 hp=>?_;obtain⟨o1,a,bk,i⟩:=h.log hp (λ y w=>by cases w);obtain⟨H2,s2,j,c⟩:=a.put 10 (v:=.int .u64 0) (y:={x with rd:=[],wr:=[],value:=0}) rfl (by decide) rfl ⟨rfl,rfl,rfl,rfl⟩ bF;obtain⟨A,t,m,d⟩:=j.put 11 (v:=.int .i64 0) (y:={x with rd:=[],wr:=[],value:=0,ended:=0}) rfl (by decide) rfl ⟨rfl,rfl,rfl,rfl⟩ bF;obtain⟨B,u,s,e⟩:=m.put 6 (v:=.bool true) (y:={x with rd:=[],wr:=[],value:=0,ended:=0,busy:=true}) rfl (by decide) rfl ⟨rfl,rfl,rfl,rfl⟩ bF;simp only[aa,bc,aA,s2,t,u];refine C3.q (u3 (M:=M) s 1 (k:=.wait) rfl) λ _ C hp=>?_;simp only[aa,bc];simp only[l]at hp;exact eh.after bk.own i (eh.step a ((c.trans d λ z q=>.inl q).trans e λ z q=>.inl q) hp)
def xg3(h:dK H o p x g fv)(a:Int):za M sS [.ptr p 0,.int .i64 a] H λ _ H'=>eh H o p (x.load a) H':=by
 refine qzc ?_;unfold So.load;have A:¬(80:Int)=0:=by decide
 have u:¬(2:Int)=0:=by decide
 by_cases q:x.ready=true/\8<=a
 .rw [qr q];have lk:=Qh (M:=M) h.lg a;cases e:da x.wr a with
  |some z =>
   rw[e]at lk;have s:fM z:=by
    rw[IK]at e;obtain⟨i,m,rfl⟩:=xl.1 e;obtain⟨c,y,j,-⟩:=oY m;rw[zy,j];exact h.wu y (x9 j)
   obtain⟨H1,s1,c,d⟩:=h.put 10 (v:=.int .u64 z) (y:={x with value:=z}) rfl (by decide) rfl ⟨rfl,rfl,rfl,rfl⟩ s;simp only[aa,bc,Sq,aA,Ko h,q.1,xb q.2,h.bq,lk,vi,y8,s1];exact h.Ab d c
  |none =>
   rw[e]at lk;obtain⟨H1,s1,c,d⟩:=h.put 6 (v:=.bool true) (y:={x with busy:=true}) rfl (by decide) rfl ⟨rfl,rfl,rfl,rfl⟩ h.vu;simp only[aa,bc,Sq,aA,Ko h,q.1,xb q.2,h.bq,lk,Option.getD_none,Jv,s1];refine C3.q (CX (M:=M) c (a:=a) (by omega)) λ _ B hp=>?_;simp only[aa,bc];exact eh.step h d hp
 .rw [qo q]
  by_cases r:x.ready=true
  .have t:¬8<=a:=λ w=>q ⟨r,w⟩;simp only[aa,bc,Sq,Ko h,r,t,u];exact h.same
  .simp only[aa,bc,Sq,Ko h,qo r,A];exact h.same
def xdk(h:dK H o p x g fv)(a:Int)(j:fM v):za M qmb [.ptr p 0,.int .i64 a,.int .u64 v] H λ _ H'=>eh H o p (x.store a v) H':=by
 refine qwo ?_;unfold So.store;have B:¬(80:Int)=0:=by decide
 have z:¬(2:Int)=0:=by decide
 have A:¬(70:Int)=0:=by decide
 by_cases q:x.ready=true/\8<=a
 .rw [qr q];simp only[aa,bc,N9,aA,Ko h,q.1,xb q.2,h.bq];refine C3.q (Kh (M:=M) h.lg (a:=a) (by omega) v) λ e H1 t=>?_;rcases t with⟨l1,l2,rfl,hp⟩|⟨l1,rfl,hp⟩
  .rw [qr ⟨l1,l2⟩];obtain⟨o1,c,bk,d⟩:=h.log hp h.wu;obtain⟨H2,s2,s,m⟩:=c.put 6 (v:=.bool true) (y:={x with busy:=true}) rfl (by decide) rfl ⟨rfl,rfl,rfl,rfl⟩ h.vu;simp only[aa,bc,aA,A,s2];refine C3.q (oh (M:=M) s 2) λ _ C hp=>?_;simp only[aa,bc,N9];exact eh.after bk.own d (eh.step c m hp)
  .rw [qo l1];have hu:∀y∈fk x.wr a v,fM y.v:=λ y w=>by
    cases e:hJ x.wr a with
    |none=>rw[SN e]at w;exact(zt.1 w).elim (h.wu y) λ w=>by rw[ja.1 w];exact j
    |some i=>rw[Rr e]at w;exact(Ey w).elim (h.wu y) λ w=>by rw[w];exact j
   obtain⟨o1,c,bk,d⟩:=h.log hp hu;simp only[aa,bc,N9];exact⟨o1,_,_,c,bk.own,d⟩
 .rw [qo q]
  by_cases r:x.ready=true
  .have u:¬8<=a:=λ w=>q ⟨r,w⟩;simp only[aa,bc,N9,Ko h,r,u,z];exact h.same
  .simp only[aa,bc,N9,Ko h,qo r,B];exact h.same
def xa7(h:dK H o p x g fv):za M Y6 [.ptr p 0] H λ _ H'=>eh H o p x.bw H':=by
 refine qul ?_;unfold So.bw;have s:¬(80:Int)=0:=by decide
 by_cases r:x.ready=true
 .rw [qr r];obtain⟨H1,s1,a,e⟩:=h.put 6 (v:=.bool true) (y:={x with busy:=true}) rfl (by decide) rfl ⟨rfl,rfl,rfl,rfl⟩ h.vu;simp only[aa,bc,WV,aA,mD h,r,s1,a.bq];refine C3.q (vN (M:=M) a.lg) λ lv H2⟨m,t,d⟩=>?_;have ln:=(a9.sl m).len;have i:=a.fr d (λ _ _ _ q=>q) λ _ _=>rfl
  by_cases q:x.wr.length=0
  .have c:((x.wr.length:Nat):Int)=0:=by omega
   rw[qr q];simp only[aa,bc,ln,xb c];refine C3.q (oh (M:=M) i 1) λ _ j hp=>?_;simp only[aa,bc];exact eh.step h e (eh.pre d (λ _ _=>rfl) hp)
  .have c:¬((x.wr.length:Nat):Int)=0:=by omega
   rw[qo q];simp only[aa,bc,WV,ln,c];refine C3.q (HN (M:=M) i) λ _ j hp=>?_;simp only[aa,bc];exact eh.step h e (eh.pre d (λ _ _=>rfl) hp)
 .rw [qo r];simp only[aa,bc,WV,mD h,qo r,s];exact h.same
def xg6(h:dK H o p x g fv):za M Yi [.ptr p 0] H λ _ H'=>eh H o p x.CK H':=by
 refine qzd ?_;unfold So.CK;have d:¬(80:Int)=0:=by decide
 by_cases r:x.ready=true
 .rw [qr r];obtain⟨H1,s1,c,a⟩:=h.put 6 (v:=.bool true) (y:={x with busy:=true}) rfl (by decide) rfl ⟨rfl,rfl,rfl,rfl⟩ h.vu;simp only[aa,bc,VD,aA,mD h,r,s1];refine C3.q (oh (M:=M) c 3) λ _ e hp=>?_;simp only[aa,bc,VD];exact eh.step h a hp
 .rw [qo r];simp only[aa,bc,VD,mD h,qo r,d];exact h.same
end
end Go.Am
namespace Go.Am
open Lang Go.Proofs
variable{M:ak}[MK M]
def cu(c:Co)(f l sp:Nat)(cv rv ov pv:AV):List AV:=[.int .i64 c.id,.int .i64 c.lines,cv,.ptr f 0,.ptr l 0,.ptr sp 0,.int .i64 c.ph,.int .i64 c.want.kind,.int .i64 c.want.au,.int .i64 c.want.nQ,.int .u64 c.want.value,.int .u64 c.want.addr,.int .u64 c.seq,rv,.int .i64 c.done,.bool c.wrote,.bool c.held,.bool c.said,.int .i64 c.blocks,.int .i64 c.nT,.bool c.halted,.bool c.lM,ov,pv]
def sC(ps:List Pr):Prop:=∀i x,ps[i]? = some x->hJ ps x.a=some i
structure It(c:Co)(k:Nat):Prop where
 id:0<=c.id
 l2:2<=c.lines
 l64:c.lines<=64
 cl:c.code.length<=1024
 ru:∀y∈c.aQ,fM y.v
 rl:c.aQ.length<=k
 d0:0<=c.done
 wu:fM c.want.addr
 Jw:sC c.aQ
structure dH(H:ar)(o:Nat->Nat)(p f l sp:Nat)(cv rv ov pv:AV)(c:Co)(os:List iq)(k:Nat):Prop where
 row:At H p Ge (cu c f l sp cv rv ov pv)
 fi:pM H o f c.fi
 la:kN H l c.la
 so:∃g fv,dK H o sp c.so g fv
 cd:dU fh 5 H cv c.code
 rd:Dx H rv c.aQ
 ou:a9 iq.enc yv 9 H ov os
 op:o p=1
 of:o f=2
 ol:o l=3
 pO:∀z,aW rv z->o z=5
 pV:∀z,aW ov z->o z=6
 mi:c.code≠[]->aH cv<H.au/\o (aH cv)=7
 EC:av pv=true
 w:It c k
section
variable{H H':ar}{o o':Nat->Nat}{p f l sp k k':Nat}{cv rv ov pv:AV}{c d:Co}{os os':List iq}
def HZ{α:Type}{enc:α->List AV}{size:Nat}{W:Nat->Prop}{lv:AV}{xs:List α}(h:dU enc size H lv xs)(a:Fr W H H')(hw:xs≠[] -> ¬W (aH lv)):dU enc size H' lv xs:=by
 cases xs with
 |nil=>exact Sl.fr h a (.inl rfl)
 |cons y l=>exact Sl.fr h a (.inr (hw (by simp)))
def dH.fr4{W:Nat->Prop}(h:dH H o p f l sp cv rv ov pv c os k)(a:Fr W H H')(hw:∀z,z<H.au->o z≠0->o z≠4 -> ¬W z)(ho:∀z,z<H.au->o' z=o z)(hk:k<=k'):dH H' o' p f l sp cv rv ov pv c os k':=by
 obtain⟨g,fv,hs⟩:=h.so;have r:=λ z(q:aW rv z)=>Own.lt h.rd z q;have u:=λ z(q:aW ov z)=>Own.lt h.ou z q;exact⟨h.row.fr a (hw p h.row.2 (by rw[h.op];decide) (by rw[h.op];decide)),h.fi.fr a h.of (λ z q e=>hw z q (by omega) (by omega)) ho,h.la.fr a (hw l h.la.at'.2 (by rw[h.ol];decide) (by rw[h.ol];decide)),⟨g,fv,hs.fr a (λ z q e=>hw z q (by omega) (by omega)) ho⟩,
  HZ h.cd a λ e=>hw _ (h.mi e).1 (by rw[(h.mi e).2];decide) (by rw[(h.mi e).2];decide),Own.fr h.rd a λ z q=>hw z (r z q) (by rw[h.pO z q];decide) (by rw[h.pO z q];decide),Own.fr h.ou a λ z q=>hw z (u z q) (by rw[h.pV z q];decide) (by rw[h.pV z q];decide),
  (ho p h.row.2).trans h.op,(ho f (by obtain⟨pv,q,-⟩:=h.fi.at';exact q.2)).trans h.of,(ho l h.la.at'.2).trans h.ol,λ z q=>(ho z (r z q)).trans (h.pO z q),λ z q=>(ho z (u z q)).trans (h.pV z q),λ e=>⟨qj (h.mi e).1 a.au,(ho _ (h.mi e).1).trans (h.mi e).2⟩,h.EC,
  {h.w with rl:=xu h.w.rl hk}⟩
def dH.fr{W:Nat->Prop}(h:dH H o p f l sp cv rv ov pv c os k)(a:Fr W H H')(hw:∀z,z<H.au->o z≠0 -> ¬W z)(ho:∀z,z<H.au->o' z=o z)(hk:k<=k'):dH H' o' p f l sp cv rv ov pv c os k':=h.fr4 a (λ z q r _=>hw z q r) ho hk
def gN(H:ar)(o:Nat->Nat)(p f l sp:Nat)(cv pv:AV)(c:Co)(os:List iq)(k:Nat)(H':ar):Prop:=∃o' rv ov,dH H' o' p f l sp cv rv ov pv c os k/\(∀z,z<H.au->o' z=o z)/\Fr (λ z=>o z≠0) H H'
def dH.bq(h:dH H o p f l sp cv rv ov pv c os k):Op.ae [.ptr p 0] H=some (.int .i64 c.id)/\Op.ae [.ptr p 1] H=some (.int .i64 c.lines)/\Op.ae [.ptr p 2] H=some cv/\Op.ae [.ptr p 3] H=some (.ptr f 0)/\Op.ae [.ptr p 4] H=some (.ptr l 0)/\Op.ae [.ptr p 5] H=some (.ptr sp 0)/\Op.ae [.ptr p 6] H=some (.int .i64 c.ph)/\Op.ae [.ptr p 7] H=some (.int .i64 c.want.kind)/\Op.ae [.ptr p 12] H=some (.int .u64 c.seq) /\
 Op.ae [.ptr p 13] H=some rv/\Op.ae [.ptr p 14] H=some (.int .i64 c.done)/\Op.ae [.ptr p 15] H=some (.bool c.wrote)/\Op.ae [.ptr p 16] H=some (.bool c.held)/\Op.ae [.ptr p 17] H=some (.bool c.said)/\Op.ae [.ptr p 18] H=some (.int .i64 c.blocks)/\Op.ae [.ptr p 19] H=some (.int .i64 c.nT)/\Op.ae [.ptr p 20] H=some (.bool c.halted)/\Op.ae [.ptr p 21] H=some (.bool c.lM)/\Op.ae [.ptr p 22] H=some ov/\Op.ae [.ptr p 23] H=some pv/\Op.aq 5 [.ptr p 7] H=some (.agg (aZ c.want)) :=
 ⟨h.row.ld 0,h.row.ld 1,h.row.ld 2,h.row.ld 3,h.row.ld 4,h.row.ld 5,h.row.ld 6,h.row.ld 7,h.row.ld 12,h.row.ld 13,h.row.ld 14,h.row.ld 15,h.row.ld 16,h.row.ld 17,h.row.ld 18,h.row.ld 19,h.row.ld 20,h.row.ld 21,h.row.ld 22,h.row.ld 23,h.row.fp (k:=7) (n:=5) (by simp[cu])⟩
def dH.np(h:dH H o p f l sp cv rv ov pv c os k):∀z,o z≠1 -> ¬On p z:=λ z e(w:z=p)=>e (by rw[w];exact h.op)
def dH.cell(h:dH H o p f l sp cv rv ov pv c os k){rv' ov' pv':AV}(hs:d.fi=c.fi/\d.la=c.la/\d.so=c.so/\d.code=c.code)(hr:Dx H rv' d.aQ /\ ∀z,aW rv' z->o z=5)(hu:a9 iq.enc yv 9 H ov' os' /\ ∀z,aW ov' z->o z=6)(hp:av pv'=true)(hw:It d k') :
 dH (H.set p (OR (cu d f l sp cv rv' ov' pv') Ge)) o p f l sp cv rv' ov' pv' d os' k'/\Fr (On p) H (H.set p (OR (cu d f l sp cv rv' ov' pv') Ge)):=by
 have a:Fr (On p) H (H.set p (OR (cu d f l sp cv rv' ov' pv') Ge)):=cE ..;obtain⟨g,fv,b⟩:=h.so;obtain⟨j,m,n,i⟩:=hs;refine⟨⟨h.row.set _,?_,?_,⟨g,fv,?_⟩,?_,Own.fr hr.1 a λ z q=>h.np z (by rw[hr.2 z q];decide),Own.fr hu.1 a λ z q=>h.np z (by rw[hu.2 z q];decide),h.op,h.of,h.ol,hr.2,hu.2,?_,hp,hw⟩,a⟩
 .rw [j];exact h.fi.fr a h.of (λ z q e=>h.np z (by omega)) λ _ _=>rfl
 .rw [m];exact h.la.fr a (h.np l (by rw[h.ol];decide))
 .rw [n];exact b.fr a (λ z q e=>h.np z (by omega)) λ _ _=>rfl
 .rw [i];exact HZ h.cd a λ e=>h.np _ (by rw[(h.mi e).2];decide)
 .rw [i];exact h.mi
def dH.put(h:dH H o p f l sp cv rv ov pv c os k)(i:Nat){v:AV}(d:Co)(a:av v=true)(b:i<24)(he:(cu c f l sp cv rv ov pv).set i v=cu d f l sp cv rv ov pv)(hs:d.fi=c.fi/\d.la=c.la/\d.so=c.so/\d.code=c.code)(hr:d.aQ=c.aQ)(hw:It d k) :
 ∃H',Op.store 1 [.ptr p i,v] H=some (.undef,H')/\dH H' o p f l sp cv rv ov pv d os k/\Fr (On p) H H':=by
 obtain⟨e,g⟩:=h.cell (d:=d) hs (rv':=rv) ⟨by rw[hr];exact h.rd,h.pO⟩ ⟨h.ou,h.pV⟩ h.EC hw;exact⟨_,by rw[h.row.st i a b,he],e,g⟩
def dH.Ab(h:dH H o p f l sp cv rv ov pv c os k){H1:ar}(a:Fr (On p) H H1){e b:AV}(g:dH H1 o p f l sp cv e b pv d os' k'):gN H o p f l sp cv pv d os' k' H1:=⟨o,e,b,g,λ _ _=>rfl,a.mono λ z _(q:z=p)=>by rw[q,h.op];decide⟩
def dH.Gy(h:dH H o p f l sp cv rv ov pv c os k){y:Fi}(hp:I1 H o f y H'):gN H o p f l sp cv pv {c with fi:=y} os k H':=by
 obtain⟨i,a⟩:=hp;have ho:∀z,z<H.au->aR o H.au 2 z=o z:=λ z q=>i6 q
 have b:∀z,o z≠2 -> ¬On f z:=λ z e(w:z=f)=>e (by rw[w];exact h.of);obtain⟨g,fv,hs⟩:=h.so;have r:=λ z(q:aW rv z)=>Own.lt h.rd z q;have u:=λ z(q:aW ov z)=>Own.lt h.ou z q;refine⟨aR o H.au 2,rv,ov,⟨h.row.fr a (b p (by rw[h.op];decide)),i,h.la.fr a (b l (by rw[h.ol];decide)),⟨g,fv,hs.fr a (λ z q e=>b z (by omega)) ho⟩,HZ h.cd a λ e=>b _ (by rw[(h.mi e).2];decide),Own.fr h.rd a λ z q=>b z (by rw[h.pO z q];decide),Own.fr h.ou a λ z q=>b z (by rw[h.pV z q];decide),
  (ho p h.row.2).trans h.op,(ho f (by obtain⟨pv,q,-⟩:=h.fi.at';exact q.2)).trans h.of,(ho l h.la.at'.2).trans h.ol,λ z q=>(ho z (r z q)).trans (h.pO z q),λ z q=>(ho z (u z q)).trans (h.pV z q),λ e=>⟨qj (h.mi e).1 a.au,(ho _ (h.mi e).1).trans (h.mi e).2⟩,h.EC,{h.w with}⟩,ho,a.mono λ z _(q:z=f)=>by rw[q,h.of];decide⟩
def dH.S6(h:dH H o p f l sp cv rv ov pv c os k){y:La}(hp:Np H l y H'):gN H o p f l sp cv pv {c with la:=y} os k H':=by
 obtain⟨b,a⟩:=hp;have nl:∀z,o z≠3 -> ¬On l z:=λ z e(w:z=l)=>e (by rw[w];exact h.ol);obtain⟨g,fv,hs⟩:=h.so;exact⟨o,rv,ov,⟨h.row.fr a (nl p (by rw[h.op];decide)),h.fi.fr a h.of (λ z q e=>nl z (by omega)) λ _ _=>rfl,b,⟨g,fv,hs.fr a (λ z q e=>nl z (by omega)) λ _ _=>rfl⟩,HZ h.cd a λ e=>nl _ (by rw[(h.mi e).2];decide),Own.fr h.rd a λ z q=>nl z (by rw[h.pO z q];decide),Own.fr h.ou a λ z q=>nl z (by rw[h.pV z q];decide),
  h.op,h.of,h.ol,h.pO,h.pV,λ e=>⟨qj (h.mi e).1 a.au,(h.mi e).2⟩,h.EC,{h.w with}⟩,λ _ _=>rfl,a.mono λ z _(q:z=l)=>by rw[q,h.ol];decide⟩
def dH.MI(h:dH H o p f l sp cv rv ov pv c os k){y:So}(hp:eh H o sp y H'):gN H o p f l sp cv pv {c with so:=y} os k H':=by
 obtain⟨o',g,fv,b,ho,a⟩:=hp;have nl:∀z,o z<8 -> ¬(8<=o z):=λ z e w=>by omega
 have r:=λ z(q:aW rv z)=>Own.lt h.rd z q;have u:=λ z(q:aW ov z)=>Own.lt h.ou z q;exact⟨o',rv,ov,⟨h.row.fr a (nl p (by rw[h.op];decide)),h.fi.fr a h.of (λ z q e=>nl z (by omega)) ho,h.la.fr a (nl l (by rw[h.ol];decide)),⟨g,fv,b⟩,HZ h.cd a λ e=>nl _ (by rw[(h.mi e).2];decide),Own.fr h.rd a λ z q=>nl z (by rw[h.pO z q];decide),Own.fr h.ou a λ z q=>nl z (by rw[h.pV z q];decide),
  (ho p h.row.2).trans h.op,(ho f (by obtain⟨pv,q,-⟩:=h.fi.at';exact q.2)).trans h.of,(ho l h.la.at'.2).trans h.ol,λ z q=>(ho z (r z q)).trans (h.pO z q),λ z q=>(ho z (u z q)).trans (h.pV z q),λ e=>⟨qj (h.mi e).1 a.au,(ho _ (h.mi e).1).trans (h.mi e).2⟩,h.EC,{h.w with}⟩,ho,a.mono λ z _(q:8<=o z)=>by omega⟩
def It.mono(h:It c k)(hk:k<=k'):It c k':={h with rl:=xu h.rl hk}
end
end Go.Am
namespace Go.Am
open Lang Go.Proofs
variable{M:ak}[MK M]
section
variable{H H1 H':ar}{o o1:Nat->Nat}{p f l sp k k':Nat}{cv rv ov pv:AV}{c d:Co}{os os':List iq}{s t:CS}
def dH.em(h:dH H o p f l sp cv rv ov pv c os k)(a:Fr Em H H'):dH H' o p f l sp cv rv ov pv c os k:=h.fr a (λ _ _ _ q=>q) (λ _ _=>rfl) (qg _)
def gN.then(a:gN H o p f l sp cv pv c os k H1)(b:∀o1 g e,dH H1 o1 p f l sp cv g e pv c os k->gN H1 o1 p f l sp cv pv d os' k' H'):gN H o p f l sp cv pv d os' k' H':=by
 obtain⟨o1,g,e,n,j,m⟩:=a;obtain⟨o2,i,h,r,u,v⟩:=b _ _ _ n;refine⟨o2,i,h,r,λ z q=>(u z (qj q m.au)).trans (j z q),m.trans v λ z q=>?_⟩;rcases xq z H.au with w|w
 .exact .inl (by rw[<-j z w];exact q)
 .exact .inr w
def gN.pre(a:Fr Em H H1)(b:gN H1 o p f l sp cv pv d os' k' H'):gN H o p f l sp cv pv d os' k' H':=by
 obtain⟨o2,g,e,h,i,j⟩:=b;exact⟨o2,g,e,h,λ z q=>i z (qj q a.au),(a.mono λ _ _ q=>q.elim).trans j λ z q=>.inl q⟩
def FW(x:iq):x.enc.length=9:=rfl
def IM:iq:=⟨0,0,0,0,0,0,0,0,0⟩
def Mn:[AV.int .i64 0,.int .i64 0,.int .i64 0,.int .i64 0,.int .i64 0,.int .i64 0,.int .i64 0,.int .u64 0,.int .i64 0]=IM.enc:=rfl
def QX(h:dH H o p f l sp cv rv ov pv c os k):∀K,C3 M true (.func qny) [.ptr p 0] H K=K true (.bool false) H:=by
 refine dW (qx7 ?_);simp only[aa,bc,qx8,aA,h.bq]
def D9(h:dH H o p f l sp cv rv ov pv s.c s.o k)(hl:s.o.length<=1000)(r a v cd:Int):za M TM [.ptr p 0,.int .i64 r,.int .i64 a,.int .u64 v,.int .i64 cd] H λ _ H'=>gN H o p f l sp cv pv (s.tell r a v cd).c (s.tell r a v cd).o k H':=by
 refine qx9 ?_;obtain⟨H1,E,f1,-,-⟩:=bX H (OR IM.enc yv);have R:At H1 H.au yv _:=E▸At.new H _ _
 obtain⟨e,he⟩:∃e:iq,e=⟨r,0,s.c.id,-1,0,0,a,v,cd⟩:=⟨_,rfl⟩
 have U:Op.build IM.enc [(0,1),(2,1),(3,1),(6,1),(7,1),(8,1)] [.int .i64 r,.int .i64 s.c.id,.int .i64 (-1),.int .i64 a,.int .u64 v,.int .i64 cd]=some (.agg e.enc):=by rw[he];rfl
 have s1:=R.gK (k:=0) (n:=9) (v:=.agg e.enc) rfl (by simp[iq.len]) rfl;have D:IM.enc.take 0++AV.cells (.agg e.enc)++IM.enc.drop (0+9)=e.enc:=by rw[zu];rfl
 rw[D]at s1;obtain⟨J,N⟩:∃X,X=H1.set H.au (OR e.enc yv):=⟨_,rfl⟩
 rw[<-N]at s1;have L:At J H.au yv e.enc:=N▸R.set _
 have O:Fr Em H J:=N▸f1.set (.inr (qg _)) _;have C:=h.em O;have n2:H.au<J.au:=L.2
 -- the list
 have app:∀{j:ar}(x:iq),Fr Em H j -> ∀{K:bH->(Nat->AV)->Bool->AV->ar->Prop}{m:Bool},(∀u y A,Op.store 1 [.ptr p 22,u] y=some (.undef,A)->gN H o p f l sp cv pv s.c (s.o ++ [x]) k A->K (.row (AV.cells (.agg x.enc)) yv (0,0) true) (Op.sliceTo 1 1) m u y) ->
  iS m (Op.buildSlice yv 1 IM.enc [(0,9)] [.agg x.enc]) λ g o mk=>iS g (Op.append yv 9 72 [ov,mk j.au] (j.alloc o)) (K o mk):=λ{j}x B{K m}hk=>by
  have b:=h.em B;refine a9.oH b.ou (x:=.agg x.enc) (a:=x) rfl rfl rfl rfl (by decide) (by omega) (by omega) λ u y o4 P hz=>?_;have one:av u=true:=Sl.one (Own.sl o4);have lu:=λ z(q:aW ov z)=>Own.lt b.ou z q
  -- new rows are of the told list
  have ho:∀z,z<j.au->aR o j.au 6 z=o z:=λ z q=>i6 q
  have Z:∀z,o z≠6 -> ¬aW ov z:=λ z q w=>q (b.pV z w);have f34:Fr (λ z=>o z≠0) j y:=P.mono λ z _ q=>by rw[b.pV z q];decide
  obtain⟨g,fv,hs⟩:=b.so;have lr:=λ z(q:aW rv z)=>Own.lt b.rd z q;have r4:At y p Ge _:=b.row.fr P (Z p (by rw[b.op];decide));have st:=r4.st 22 one (by simp[cu]);have e5:(cu s.c f l sp cv rv ov pv).set 22 u=cu s.c f l sp cv rv u pv:=rfl;rw[e5]at st;obtain⟨A,Q⟩:∃X,X=y.set p (OR (cu s.c f l sp cv rv u pv) Ge):=⟨_,rfl⟩
  rw[<-Q]at st;have W:Fr (On p) y A:=Q▸cE ..;have i:Fr (λ z=>aW ov z\/z=p) j A:=(P.mono λ z _ q=>.inl q).trans W λ z q=>.inl (.inr q);have nw:∀z,o z≠6->o z≠1 -> ¬(aW ov z\/z=p):=λ z e6 E w=>w.elim (Z z e6) λ w=>E (by rw[w];exact b.op);have no:∀z,aW u z->aR o j.au 6 z=6:=λ z q=>(hz z q).elim (λ w=>(ho z (lu z w)).trans (b.pV z w)) λ w=>mG w
  refine hk u y A st (gN.pre B ⟨aR o j.au 6,rv,u,⟨Q▸r4.set _,b.fi.fr i b.of (λ z q e=>nw z (by omega) (by omega)) ho,b.la.fr i (nw l (by rw[b.ol];decide) (by rw[b.ol];decide)),⟨g,fv,hs.fr i (λ z q e=>nw z (by omega) (by omega)) ho⟩,HZ b.cd i λ e=>nw _ (by rw[(b.mi e).2];decide) (by rw[(b.mi e).2];decide),Own.fr b.rd i λ z q=>nw z (by rw[b.pO z q];decide) (by rw[b.pO z q];decide),Own.fr o4 W λ z q(w:z=p)=>?_,
   (ho p b.row.2).trans b.op,(ho f (by obtain⟨pv,q,-⟩:=b.fi.at';exact q.2)).trans b.of,(ho l b.la.at'.2).trans b.ol,λ z q=>(ho z (lr z q)).trans (b.pO z q),no,λ e=>⟨qj (b.mi e).1 i.au,(ho _ (b.mi e).1).trans (b.mi e).2⟩,b.EC,b.w⟩,ho,i.mono λ z _ q=>q.elim (λ q=>by rw[b.pV z q];decide) λ q=>by rw[q,b.op];decide⟩)
  have:=no z q;rw[w,ho p b.row.2,b.op]at this;omega
 have ld:∀{j:ar}{x:iq},At j H.au yv x.enc->Op.aq 9 [.ptr H.au 0] j=some (.agg x.enc):=λ a=>a.fp (k:=0) (n:=9) (by simp[iq.len])
 by_cases q:s.c.la.lane=0
 .have ev:CS.vU s.c r a v cd=e:=by rw[he];unfold CS.vU;rw[qr q]
  unfold CS.tell;rw[ev];simp only[aa,bc,T7,aA,Mn,<-E,h.bq,U,s1,C.bq,ik C.la,xb q,ld L];refine app e O λ u y A st hp=>?_;simp only[aa,bc,st];exact hp
 .obtain ⟨D,F⟩:∃x:iq,x=⟨r,0,s.c.id,aj .i64 (s.c.blocks-1),0,0,a,v,cd⟩:=⟨_,rfl⟩
  obtain⟨I,G⟩:∃x:iq,x=⟨r,0,s.c.id,aj .i64 (s.c.blocks-1),s.c.la.tries,0,a,v,cd⟩:=⟨_,rfl⟩
  have ev:CS.vU s.c r a v cd=⟨r,0,s.c.id,aj .i64 (s.c.blocks-1),s.c.la.tries,s.c.la.lane,a,v,cd⟩:=by unfold CS.vU;rw[qo q]
  unfold CS.tell;rw[ev];simp only[aa,bc,T7,aA,Mn,<-E,h.bq,U,s1,C.bq,ik C.la,q];refine C3.q (W7 (M:=M) C.la) λ w j⟨hw,B⟩=>?_;subst hw;have b:=C.em B;have S:=L.em B;have t1:=S.st 3 (v:=.int .i64 (aj .i64 (s.c.blocks-1))) rfl (by simp[iq.len]);have y1:e.enc.set 3 (.int .i64 (aj .i64 (s.c.blocks-1)))=D.enc:=by rw[he,F];rfl
  rw[y1]at t1;have T:=S.set D.enc;have t2:=T.st 4 (v:=.int .i64 s.c.la.tries) rfl (by simp[iq.len]);have y2:D.enc.set 4 (.int .i64 s.c.la.tries)=I.enc:=by rw[F,G];rfl
  rw[y2]at t2;have V:=T.set I.enc;have t3:=V.st 5 (v:=.int .i64 s.c.la.lane) rfl (by simp[iq.len]);have y3:I.enc.set 5 (.int .i64 s.c.la.lane)=iq.enc ⟨r,0,s.c.id,aj .i64 (s.c.blocks-1),s.c.la.tries,s.c.la.lane,a,v,cd⟩:=by rw[G];rfl
  rw[y3]at t3;have d3:=V.set (iq.enc ⟨r,0,s.c.id,aj .i64 (s.c.blocks-1),s.c.la.tries,s.c.la.lane,a,v,cd⟩);have Y:Fr Em H _:=(((O.em B).set (.inr (qg _)) (OR D.enc yv)).set (.inr (qg _)) (OR I.enc yv)).set (.inr (qg _)) (OR (iq.enc ⟨r,0,s.c.id,aj .i64 (s.c.blocks-1),s.c.la.tries,s.c.la.lane,a,v,cd⟩) yv);have h6:=h.em Y;simp only[aa,bc,T7,aA,b.bq,ik b.la,t1,t2,t3,h6.bq,ld d3];refine app _ Y λ u y A st hp=>?_;simp only[aa,bc,st];exact hp
end
end Go.Am
namespace Go.Am
open Lang Go.Proofs
variable{M:ak}[MK M]
section
variable{H H1 H':ar}{o o1:Nat->Nat}{p f l sp k k':Nat}{cv rv ov pv:AV}{c d:Co}{os os':List iq}{s t:CS}
def gN.oP(a:∀z,z<H.au->o1 z=o z)(w:Fr (λ z=>o z≠0) H H1)(b:gN H1 o1 p f l sp cv pv d os' k' H'):gN H o p f l sp cv pv d os' k' H':=by
 obtain⟨o2,g,e,h,i,j⟩:=b;refine⟨o2,g,e,h,λ z q=>(i z (qj q w.au)).trans (a z q),w.trans j λ z q=>?_⟩;rcases xq z H.au with r|r
 .exact .inl (by rw[<-a z r];exact q)
 .exact .inr r
def dH.loc(h:dH H o p f l sp cv rv ov pv c os k)(a:Fr Em H H1)(hn:H.au<H1.au):dH H1 (aR o H.au 0) p f l sp cv rv ov pv c os k/\(∀z,z<H.au->aR o H.au 0 z=o z)/\aR o H.au 0 H.au=0 :=
 ⟨h.fr a (λ _ _ _ q=>q) (λ z q=>i6 q) (qg _),λ z q=>i6 q,mG (qg _)⟩
def dH.nH(h:dH H o p f l sp cv rv ov pv c os k){H1:ar}(a:Fr (On p) H H1):Fr (λ z=>o z≠0) H H1:=a.mono λ z _(q:z=p)=>by rw[q,h.op];decide
def dH.one(h:dH H o p f l sp cv rv ov pv c os k){H1:ar}(a:Fr (On p) H H1)(b:gN H1 o p f l sp cv pv d os' k' H'):gN H o p f l sp cv pv d os' k' H':=gN.oP (λ _ _=>rfl) (h.nH a) b
def I2(h:dH H o p f l sp cv rv ov pv s.c s.o k)(n:Int):za M Vg [.ptr p 0,.int .i64 n] H λ _ H'=>gN H o p f l sp cv pv (s.fm n).c (s.fm n).o k H':=by
 refine qx1 ?_;simp only[aa,bc,qx2,aA,h.bq];refine C3.q (II (M:=M) h.fi n) λ _ H1 hp=>?_;obtain⟨o1,m,j,a,b,e⟩:=h.Gy hp;obtain⟨r,s2,i,g⟩:=a.put 19 (v:=.int .i64 (aj .i64 (s.c.nT+1))) (s.fm n).c rfl (by decide) rfl ⟨rfl,rfl,rfl,rfl⟩ rfl {a.w with};simp only[aa,bc,aA,a.bq,s2];exact gN.oP b e (a.Ab g i)
def xh8(h:dH H o p f l sp cv rv ov pv s.c s.o k):za M Zz [.ptr p 0] H λ _ H'=>gN H o p f l sp cv pv s.leave.c s.leave.o k H':=by
 refine qvh ?_;simp only[aa,bc,qvi,aA,h.bq];refine C3.q (Kw (M:=M) h.la) λ _ H1 hp=>?_;obtain⟨o1,z,x,a,g,j⟩:=h.S6 hp;simp only[aa,bc,aA,a.bq];refine C3.q (Qn (M:=M) a.fi) λ _ D hp=>?_;obtain⟨o2,A,y,b,i,m⟩:=a.Gy hp;obtain⟨E,B,e,n⟩:=b.put 16 (v:=.bool false) {s.c with la:=s.c.la.leave,fi:=s.c.fi.drop,held:=false} rfl (by decide) rfl ⟨rfl,rfl,rfl,rfl⟩ rfl {b.w with};obtain⟨F,C,u,r⟩:=e.put 6 (v:=.int .i64 0) s.leave.c rfl (by decide) rfl ⟨rfl,rfl,rfl,rfl⟩ rfl {e.w with};simp only[aa,bc,aA,B,C];exact gN.oP g j (gN.oP i m (b.one n (e.Ab r u)))
def q11(h:dH H o p f l sp cv rv ov pv s.c s.o k)(hl:s.o.length<=1000):za M qh7 [.ptr p 0] H λ _ H'=>gN H o p f l sp cv pv s.aw.c s.aw.o k H':=by
 refine qpf ?_;have fin:∀{H1:ar}{o1:Nat->Nat}{b a:AV}{t:CS},dH H1 o1 p f l sp cv b a pv t.c t.o k -> ∃r e,Op.store 1 [.ptr p 17,.bool true] H1=some (.undef,r)/\Op.store 1 [.ptr p 16,.bool false] r=some (.undef,e)/\gN H1 o1 p f l sp cv pv {t.c with said:=true,held:=false} t.o k e:=λ{H1 o1 b a t}g=>by
  obtain⟨e,i,n,y⟩:=g.put 17 (v:=.bool true) {t.c with said:=true} rfl (by decide) rfl ⟨rfl,rfl,rfl,rfl⟩ rfl {g.w with};obtain⟨m,j,A,z⟩:=n.put 16 (v:=.bool false) {t.c with said:=true,held:=false} rfl (by decide) rfl ⟨rfl,rfl,rfl,rfl⟩ rfl {n.w with};exact⟨e,m,i,j,g.one y (n.Ab z A)⟩
 unfold CS.aw;cases q:s.c.said with
 |true =>
  obtain⟨e,m,i,j,hp⟩:=fin h;simp only[aa,bc,UL,aA,h.bq,q,i,j];exact hp
 |false =>
  simp only[aa,bc,UL,aA,h.bq,q,zx];refine C3.q (D9 (M:=M) h hl 5 0 0 0) λ _ H1⟨o1,b,a,g,u,x⟩=>?_;obtain⟨e,m,i,j,hp⟩:=fin (t:=s.tell 5 0 0 0) g;simp only[aa,bc,UL,aA,i,j];exact gN.oP u x hp
def xbz(s:CS):s.aw.o.length<=s.o.length+1:=by
 unfold CS.aw;simp only;split
 .omega
 .show (s.o ++ [_]).length<=_;rw[qv];simp
def q9l(s:CS):s.aw.leave.c.fi.pc=s.c.fi.pc:=by
 unfold CS.aw;simp only;split<;>rfl
def N5(h:dH H o p f l sp cv rv ov pv s.c s.o k)(hl:s.o.length<=1000):za M m0 [.ptr p 0] H λ _ H'=>gN H o p f l sp cv pv s.cz.c s.cz.o k H':=by
 refine qrw ?_;simp only[aa,bc,qrx];refine C3.q (q11 (M:=M) h hl) λ _ H1⟨o1,C,z,x,g,m⟩=>?_;simp only[aa,bc];refine C3.q (xh8 (M:=M) x) λ _ G⟨o2,D,A,a,i,n⟩=>?_;have e:=q9l s;simp only[aa,bc,aA,a.bq,fpc a.fi,e];refine C3.q (II (M:=M) a.fi (aj .i64 (s.c.fi.pc+1))) λ _ I hp=>?_;obtain⟨o3,E,B,b,j,r⟩:=a.Gy hp;obtain⟨J,F,y,u⟩:=b.put 19 (v:=.int .i64 (aj .i64 (s.aw.leave.c.nT+1))) s.cz.c rfl (by decide) rfl ⟨rfl,rfl,rfl,rfl⟩ rfl {b.w with};simp only[aa,bc,aA,b.bq,F];exact gN.oP g m (gN.oP i n (gN.oP j r (b.Ab u y)))
def YL(h:dH H o p f l sp cv rv ov pv s.c s.o k)(hl:s.o.length<=1000)(cd:Int):za M VS [.ptr p 0,.int .i64 cd] H λ _ H'=>gN H o p f l sp cv pv (s.abort cd).c (s.abort cd).o k H':=by
 refine qvc ?_;simp only[aa,bc,qvd];refine C3.q (D9 (M:=M) h hl 6 0 0 cd) λ _ H1⟨o1,B,y,a,g,m⟩=>?_;simp only[aa,bc,aA,a.bq];refine C3.q (nB (M:=M) a.fi) λ _ F hp=>?_;obtain⟨o2,C,z,b,i,n⟩:=a.Gy hp;simp only[aa,bc,aA,b.bq];refine C3.q (KG (M:=M) b.la cd) λ _ G hp=>?_;obtain⟨o3,D,A,e,j,r⟩:=b.S6 hp;obtain⟨I,E,x,u⟩:=e.put 6 (v:=.int .i64 1) (s.abort cd).c rfl (by decide) rfl ⟨rfl,rfl,rfl,rfl⟩ rfl {e.w with};simp only[aa,bc,aA,E];exact gN.oP g m (gN.oP i n (gN.oP j r (e.Ab u x)))
def Vy(h:dH H o p f l sp cv rv ov pv s.c s.o k)(hl:s.o.length<=1000):za M qk4 [.ptr p 0] H λ _ H'=>gN H o p f l sp cv pv s.breaks.c s.breaks.o k H':=by
 refine qtk ?_;simp only[aa,bc,qtl];refine C3.q (D9 (M:=M) h hl 6 0 0 7) λ _ H1⟨o1,D,A,a,g,m⟩=>?_;simp only[aa,bc,aA,a.bq];refine C3.q (nB (M:=M) a.fi) λ _ J hp=>?_;obtain⟨o2,E,B,y,i,n⟩:=a.Gy hp;simp only[aa,bc];refine C3.q (xh8 (M:=M) (s:=(s.tell 6 0 0 7).fi .restore) y) λ _ K⟨o3,F,C,b,j,r⟩=>?_;obtain⟨L,G,e,u⟩:=b.put 20 (v:=.bool true) {((s.tell 6 0 0 7).fi .restore).leave.c with halted:=true} rfl (by decide) rfl ⟨rfl,rfl,rfl,rfl⟩ rfl {b.w with};obtain⟨N,I,z,x⟩:=e.put 21 (v:=.bool true) s.breaks.c rfl (by decide) rfl ⟨rfl,rfl,rfl,rfl⟩ rfl {e.w with};simp only[aa,bc,aA,G,I];exact gN.oP g m (gN.oP i n (gN.oP j r (b.one u (e.Ab x z))))
def M5(h:dH H o p f l sp cv rv ov pv c os k){u:Int}(hu:fM u):∀K,C3 M true (.func Z8) [.ptr p 0,.int .u64 u] H K=K true (.tuple [.int .i64 (if CS.G5 c u=true then 8+u else 0),.bool (CS.G5 c u)]) H:=by
 refine dW (q4y ?_);have j:=h.w.l2;have m:=h.w.l64;have b:aj .i64 (c.lines-1)=c.lines-1:=js (by omega) (by omega);have e:aj .i64 ((c.lines-1)*8)=(c.lines-1)*8:=js (by omega) (by omega);have g:aj .u64 ((c.lines-1)*8)=(c.lines-1)*8:=xe6 (by omega) (by omega);unfold CS.G5
 by_cases q:(c.lines-1)*8<=u
 .have a:¬u<(c.lines-1)*8:=Ik.2 q;simp only[aa,bc,Zn,aA,h.bq,b,e,g,xb q,a,zx]
 .have a:u<(c.lines-1)*8:=Int.not_le.1 q;have w4:aj .i64 u=u:=js (by have:=hu.1;omega) (by omega);have i:aj .i64 (8+u)=8+u:=js (by have:=hu.1;omega) (by omega);simp only[aa,bc,Zn,aA,h.bq,b,e,g,q,xb a,w4,i]
def RI(h:dH H o p f l sp cv rv ov pv s.c s.o k)(hl:s.o.length<=1000)(e:mE)(hu:fM e.addr){v:Int}(T:fM v):za M US [.ptr p 0,.agg (aZ e),.int .u64 v] H λ _ H'=>gN H o p f l sp cv pv (s.d9 e v).c (s.d9 e v).o k H':=by
 refine qto ?_;obtain⟨H1,A,J,-,-⟩:=bX H (OR (aZ e) jg);have z:At H1 H.au jg _:=A▸At.new H _ _
 obtain⟨r,P,n1⟩:=h.loc J (show H.au<H1.au from z.2);have l4:Op.ae [.ptr H.au 4] H1=some (.int .u64 e.addr):=z.ld 4;have ce:AV.cells (.agg (aZ e))=aZ e:=zu _;obtain⟨m,b⟩:∃m:Int,m=if s.c.la.lane=0 then 7 else 2:=⟨_,rfl⟩
 obtain⟨a,ha⟩:∃a:Int,a=if CS.G5 s.c e.addr=true then 8+e.addr else 0:=⟨_,rfl⟩
 have n:=M5 (M:=M) r hu;rw[<-ha]at n;have main:∀{K:Bool->AV->ar->Prop},(∀w j o2 i g,dH j o2 p f l sp cv i g pv (s.tell m a v 0).c (s.tell m a v 0).o k->Op.ae [.ptr p 3] j=some (.ptr f 0)->Op.ae [.ptr H.au 2] j=some (.int .i64 e.nQ)->(za M U7 [.ptr f 0,.int .i64 e.nQ,.int .u64 v] j λ _ x=>Op.ae [.ptr H.au 1] x=some (.int .i64 e.au)/\za M Vg [.ptr p 0,.int .i64 e.au] x λ _ y=>gN H o p f l sp cv pv (s.d9 e v).c (s.d9 e v).o k y)->K true w j)->C3 M true (.func TM) [.ptr p 0,.int .i64 m,.int .i64 a,.int .u64 v,.int .i64 0] H1 K:=λ hk=>by
  refine C3.q (D9 (M:=M) r hl m a v 0) λ w j⟨o2,i,g,u,I,L⟩=>?_;have G:=z.fr L (λ q=>q n1);have n2:o2 H.au=0:=(I _ z.2).trans n1
  refine hk w j o2 i g u u.bq.2.2.2.1 (G.ld 2) ((Lc (M:=M) u.fi e.nQ T).mono λ _ x hp=>?_);obtain⟨o3,V,U,S,Q,N⟩:=u.Gy hp;have O:=G.fr N (λ q=>q n2);refine⟨O.ld 1,(I2 (M:=M) (s:=(s.tell m a v 0).fi (·.set e.nQ v)) S e.au).mono λ _ y hp=>?_⟩;have R:s.d9 e v=((s.tell m a v 0).fi (·.set e.nQ v)).fm e.au:=by rw[b,ha];rfl
  rw[R];exact gN.oP P (J.mono λ _ _ q=>q.elim) (gN.oP I L (gN.oP Q N hp))
 by_cases q:s.c.la.lane=0
 .rw [qr q]at b;subst b;simp only[aa,bc,qld,aA,ce,<-A,l4,n,r.bq,ik r.la,xb q];refine main λ w j o2 i g u B C D=>?_;simp only[aa,bc,aA,B,C];refine C3.q D λ _ x⟨E,F⟩=>?_;simp only[aa,bc,E];refine C3.q F λ _ y hp=>?_;simp only[aa,bc];exact hp
 .rw [qo q]at b;subst b;simp only[aa,bc,qld,aA,ce,<-A,l4,n,r.bq,ik r.la,q];refine main λ w j o2 i g u B C D=>?_;simp only[aa,bc,aA,B,C];refine C3.q D λ _ x⟨E,F⟩=>?_;simp only[aa,bc,E];refine C3.q F λ _ y hp=>?_;simp only[aa,bc];exact hp
def PA(h:dH H o p f l sp cv rv ov pv s.c s.o k)(hl:s.o.length<=1000)(b:Int)(e:mE)(a:Int):za M qk6 [.ptr p 0,.int .i64 b,.agg (aZ e),.int .i64 a] H λ _ H'=>gN H o p f l sp cv pv (s.stored b e a).c (s.stored b e a).o k H':=by
 refine qtq ?_;obtain⟨H1,i,j,-,-⟩:=bX H (OR (aZ e) jg);have g:At H1 H.au jg _:=i▸At.new H _ _
 obtain⟨v,r,n1⟩:=h.loc j (show H.au<H1.au from g.2);have l3:Op.ae [.ptr H.au 3] H1=some (.int .u64 e.value):=g.ld 3;have ce:AV.cells (.agg (aZ e))=aZ e:=zu _;simp only[aa,bc,qtr,ce,<-i,l3];refine C3.q (D9 (M:=M) v hl b a e.value 0) λ _ n⟨o2,y,x,w,u,m⟩=>?_;have l1:Op.ae [.ptr H.au 1] n=some (.int .i64 e.au):=(g.fr m (λ q=>q n1)).ld 1;simp only[aa,bc,l1];refine C3.q (I2 (M:=M) (s:=s.tell b a e.value 0) w e.au) λ _ z hp=>?_;simp only[aa,bc];exact gN.oP r (j.mono λ _ _ q=>q.elim) (gN.oP u m hp)
end
end Go.Am
