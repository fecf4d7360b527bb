import Derived.Test.YtgjdmncoonceaaaGreatDoorAmTZb
import Derived.Below
import GoSem.ClaimJoined
import Derived.ChangeSame
import Derived.LaidSub
import Derived.LaidLaws
import Derived.WalkKit
import Derived.ProofKit
import Derived.OpenShut
set_option linter.defProp false
set_option linter.unusedVariables false
set_option linter.unusedSimpArgs false
open Array renaming replicate→Cf
open Bool renaming not_eq_true'→CR,false→B2,true→B4
open Go renaming DataW→Ph,Frame→NM,MemPlace→BE,Oper→P7,Operand→M7,Program→Jl,TypeId→Lx,Value→K1,World→N6
open Go.DataW renaming TrodAll→Bl,trod→Nd
open Go.Frame renaming atR→CH
open Go.Oper renaming semAt_eq→C0
open Go.Region renaming before→CL,binds→BA,linearise→CK,wanted→B9
open Go.Sem renaming run_bind→NG
open Go.StepsIn renaming of_steps→C1,steps→BT
open Go.Value renaming okWide→BQ
open List renaming range→MX
open Nat renaming beq→JW,blt→OO
open Option renaming none→B5,some→B1
open Option.some renaming inj→CM
namespace Go.Am
theorem QS{a b:Nat}(h:pV a b=B4){j:Nat}(d:a.testBit j=B4):b.testBit j=true:=by
 unfold pV at h;simp only[jy]at h;have c:(a &&& b).testBit j=a.testBit j:=by
  simp_all
 grind
def Sd(a b j:Nat):(Nat.lor a b).testBit j=(a.testBit j ||b.testBit j):=Nat.testBit_or a b j
def U1(a b j:Nat):(Nat.land a b).testBit j=(a.testBit j && b.testBit j):=Nat.testBit_and a b j
def YN(i j:Nat):(2 ^ i).testBit j=decide (i=j):=Nat.testBit_two_pow
theorem Qb:∀(l:List (Bool×Nat))(d j:Nat),(bitsOf l d).testBit j=B4↔d.testBit j=B4\/(B2,j)∈l
 |[],d,j=>by simp[bitsOf]
 |(B4,r)::l,d,j=>by rw[bitsOf,Qb l];simp
 |(B2,i)::l,d,j=>by
  rw[bitsOf,Qb l,Sd,YN]
  grind
def η:∀(l:List (Bool×Nat))(d r:Nat),(nK l d).testBit r=B4->d.testBit r=B4 \/ ∃u:Nat,l[u]? = B1 (B4,r) /\ ∀v:Nat,v<=u -> ∃c,l[v]? = B1 (B4,c)
 |[],d,r,h=>.inl h
 |(B2,i)::l,d,r,h=>.inl h
 |(B4,c)::l,d,r,h=>by
  rw[nK]at h;rcases η l _ r h with h|⟨u,e,g⟩
  .rw [Sd,YN]at h;simp only[GW,decide_eq_true_eq]at h;rcases h with h|h
   .grind
   .subst h;refine .inr ⟨0,rfl,λ v f=>⟨c,?_⟩⟩
    grind
  .refine .inr ⟨u+1,by simpa using e,λ v f=>?_⟩;cases v with
   |zero=>grind
   |succ v=>grind
def Rx(p:Nat->Bool):∀(n j:Nat),(jB p n).testBit j=B4↔j<n/\p j=B4
 |0,j=>by simp[jB]
 |n+1,j=>by
  rw[jB];cases hp:p n with
  |true =>
   simp only[xt,Sd,YN,GW,decide_eq_true_eq,Rx p n]
   grind
  |false =>
   simp only[zn,Rx p n]
   grind
def SA{p:Nat->Bool}:∀{n:Nat},sF p n=B4 -> ∀i,i<n->p i=B4
 |0,_,i,hi=>by omega
 |n+1,h,i,hi=>by
  rw[sF,zm]at h
  by_cases e:i=n
  .grind
  .exact SA h.2 i (by omega)
def VU(c d:Mt):qS c d=B4↔c=d:=by cases c<;>cases d<;>simp[qS]
theorem VY(t:Nat):∀l,pk t l=B4↔t∈l
 |[]=>by simp[pk]
 |x::l=>by
  rw[pk,GW,VY t l]
  grind [jy]
def YY{I:mQ}:∀{plan:List (Bool×Nat)}{d:Nat},LS I plan d=B4 ->
 (∀pre x post,plan=pre++x::post->NJ I (bitsOf pre d) post x=B4)/\pV (2 ^ I.n-1) (bitsOf plan d)=B4
 |[],d,h=>⟨λ pre x post e=>by simp at e,h⟩
 |(B2,i)::l,d,h=>by
  rw[LS,zm]at h;obtain⟨c,f⟩:=YY h.2;refine⟨λ pre x post e=>?_,f⟩;cases pre with
  |nil =>
   simp only[jo,zz]at e;obtain⟨rfl,rfl⟩:=e;exact h.1
  |cons y pre =>
   simp only[Jo,zz]at e;obtain⟨rfl,e⟩:=e;exact c pre x post e
 |(B4,r)::l,d,h=>by
  rw[LS,zm]at h;obtain⟨c,f⟩:=YY h.2;refine⟨λ pre x post e=>?_,f⟩;cases pre with
  |nil =>
   simp only[jo,zz]at e;obtain⟨rfl,rfl⟩:=e;exact h.1
  |cons y pre =>
   simp only[Jo,zz]at e;obtain⟨rfl,e⟩:=e;exact c pre x post e
structure yX(I:mQ)(plan:List (Bool×Nat)):Prop where
 all:∀i:Nat,i<I.n -> ∃p:Nat,plan[p]? = B1 (B2,i)
 lt:∀p i:Nat,plan[p]? = B1 (B2,i)->i<I.n
 one:∀p p' i:Nat,plan[p]? = B1 (B2,i)->plan[p']? = B1 (B2,i)->p=p'
 gF:∀p i j:Nat,plan[p]? = B1 (B2,i)->(I.gF i).testBit j=B4 -> ∃p':Nat,p'<p/\plan[p']? = B1 (B2,j)
 made:∀p i p' j:Nat,plan[p]? = B1 (B2,i)->(I.cls i=.read\/I.cls i=.gT)->plan[p']? = B1 (B2,j)->p'<p->(I.cls j=.alloc\/I.cls j=.gT)->(I.gF i).testBit j=B4
 look:∀p e p' r:Nat,plan[p]? = B1 (B2,e)->I.cls e=.gT->plan[p']? = B1 (B2,r)->p'<p->I.cls r=.read->(I.gF e).testBit r=B2 ->
  ∃u:Nat,p<u/\plan[u]? = B1 (B4,r) /\ ∀v:Nat,p<v->v<=u -> ∃r',plan[v]? = B1 (B4,r')
 again:∀p r:Nat,plan[p]? = B1 (B4,r)->I.cls r=.read/\I.self r=B4/\(∃p':Nat,p'<p/\plan[p']? = B1 (B2,r)) /\
  ∀w p':Nat,plan[p']? = B1 (B2,w)->p'<p->w≠r->I.jS r w=B4->(I.gF r).testBit w=B4
 JX:∀r w:Nat,r<I.n->w<I.n->r≠w->I.jS r w=B4->(I.gF r).testBit w=B4\/(I.gF w).testBit r=B4
def ae9{α:Type}{l:List α}{p:Nat}{x:α}(h:l[p]? = B1 x):l=l.take p++x::l.drop (p+1):=by
 obtain⟨hp,c⟩:=qt.1 h;rw[<-c];simp
def af5{α:Type}{l:List α}{p:Nat}{x:α}:x∈l.take p↔ ∃p':Nat,p'<p/\l[p']? = B1 x:=by
 simp_all[List.mem_iff_getElem?,N0]
def ah2{I:mQ}{plan:List (Bool×Nat)}(g:I.made=jB (λ i=>wZ (I.cls i)) I.n)(f:I.reads=jB (λ i=>qS (I.cls i) .read) I.n)(h:LS I plan 0=B4)(G:yS I=B4):yX I plan:=by
 obtain⟨F,k⟩:=YY h;have at_:∀{p:Nat}{x:Bool×Nat},plan[p]? = B1 x->NJ I (bitsOf (plan.take p) 0) (plan.drop (p+1)) x=true:=λ L=>F _ _ _ (ae9 L);have done:∀p j:Nat,(bitsOf (plan.take p) 0).testBit j=B4↔ ∃p':Nat,p'<p/\plan[p']? = B1 (B2,j):=λ p j=>by
  rw[Qb,af5];simp
 have run:∀{p i:Nat},plan[p]? = B1 (B2,i)->i<I.n/\(bitsOf (plan.take p) 0).testBit i=B2/\pV (I.gF i) (bitsOf (plan.take p) 0)=B4 /\
  ((I.cls i=.read\/I.cls i=.gT)->pV (Nat.land (bitsOf (plan.take p) 0) I.made) (I.gF i)=B4) /\
  (I.cls i=.gT->pV (Nat.land (bitsOf (plan.take p) 0) I.reads) (Nat.lor (I.gF i) (nK (plan.drop (p+1)) 0))=B4):=λ{p i}hp=>by
  have:=at_ hp;simp only[NJ,zm,A6,CR]at this
  grind
 have one:∀p p' i:Nat,plan[p]? = B1 (B2,i)->plan[p']? = B1 (B2,i)->p=p':=by
  grind
 refine⟨λ i N=>?_,λ p i hp=>(run hp).1,one,λ p i j hp O=>(done p j).1 (by grind [QS]),λ p i p' j hp t c d s=>?_,λ p e p' r hp q c d y z=>?_,λ p r hp=>?_,λ r w hr hw A hm=>?_⟩
 .have:(2 ^ I.n-1).testBit i=true:=by grind
  have:=QS k this
  grind [Qb,List.mem_iff_getElem?]
 .refine QS ((run hp).2.2.2.1 t) ?_;rw[U1,(done p j).2 ⟨p',d,c⟩,g,(Rx _ _ _).2 ⟨(run c).1,?_⟩]
  .rfl
  .simp only[wZ,GW,VU];exact s
 .have:=QS ((run hp).2.2.2.2 q) (j:=r) (by
   rw[U1,(done p r).2 ⟨p',d,c⟩,f,(Rx _ _ _).2 ⟨(run c).1,by rw[VU];exact y⟩];rfl)
  rw[Sd,z,Bool.false_or]at this;rcases η _ _ _ this with h|⟨u,m,o⟩
  .grind
  .rw [wh]at m;refine⟨p+1+u,by omega,m,λ v J K=>?_⟩;obtain⟨Q,B⟩:=o (v-(p+1)) (by omega);rw[wh,show p+1+(v-(p+1))=v from by omega]at B
   grind
 .have:=at_ hp;simp only[NJ,zm,VU]at this;obtain⟨m,C,o,E⟩:=this;refine⟨m,C,(done p r).1 o,λ w p' c d A hm=>QS E ?_⟩;rw[U1,(done p w).2 ⟨p',d,c⟩,(Rx _ _ _).2 ⟨(run c).1,?_⟩]
  .rfl
  .simp only[zm,CR,hm,uj]
   grind [jy]
 .have:=SA (SA G r hr) w hw;simp only[GW,jy,hm,Bool.not_true,or_false]at this
  grind
def δ(acc:Array Nat)(j:Nat):∀(l:List Edge)(s:Nat),(l.foldl (λ s e=>if BA .any e then s |||2 ^ e.on |||acc.getD e.on 0 else s) s).testBit j=B4 ->
 s.testBit j=B4 \/ ∃e∈l,BA .any e=B4/\(e.on=j\/(acc.getD e.on 0).testBit j=B4)
 |[],s,h=>.inl h
 |e::l,s,h=>by
  rw[List.foldl_cons]at h;rcases δ acc j l _ h with h|⟨e',c,d⟩
  .grind
  grind
def sq(acc:Array Nat):∀(l:List Edge)(s:Nat),(∀j,s.testBit j=B4->(l.foldl (λ s e=>if BA .any e then s |||2 ^ e.on |||acc.getD e.on 0 else s) s).testBit j=B4) /\
 ∀e∈l,BA .any e=B4->(l.foldl (λ s e=>if BA .any e then s |||2 ^ e.on |||acc.getD e.on 0 else s) s).testBit e.on=B4
 |[],s=>(by grind)
 |e::l,s=>by
  obtain⟨c,d⟩:=sq acc l (if BA .any e then s |||2 ^ e.on |||acc.getD e.on 0 else s)
  grind
def q3s(ops:Array P7):∀(i:Nat)(o:P7),ops[i]? = B1 o ->
 (∀e∈o.after.toList,BA .any e=B4->((CL ops).getD i 0).testBit e.on=B4) /\
 (∀j,((CL ops).getD i 0).testBit j=B4 -> ∃e∈o.after.toList,BA .any e=B4/\(e.on=j\/(e.on<i/\((CL ops).getD e.on 0).testBit j=B4))):=by
 have key:∀(l:List P7)(acc:Array Nat),let R:=l.foldl (λ acc o=>acc.push (o.after.foldl (λ s e=>if BA .any e then s |||2 ^ e.on |||acc.getD e.on 0 else s) 0)) acc
  (∀i,i<acc.size->R.getD i 0=acc.getD i 0)/\acc.size<=R.size /\ ∀(i:Nat)(o:P7),l[i]? = B1 o ->
   (∀e∈o.after.toList,BA .any e=B4->(R.getD (acc.size+i) 0).testBit e.on=B4) /\
   (∀j,(R.getD (acc.size+i) 0).testBit j=B4 -> ∃e∈o.after.toList,BA .any e=B4/\(e.on=j\/(e.on<acc.size+i/\(R.getD e.on 0).testBit j=B4))):=by
  intro l
  induction l with
  |nil=>grind
  |cons o l ih =>
   intro acc;simp only[List.foldl_cons];generalize p:o.after.foldl (λ s e=>if BA .any e then s |||2 ^ e.on |||acc.getD e.on 0 else s) 0=v;rw[<-Array.foldl_toList]at p;obtain⟨n,r,g⟩:=ih (acc.push v);generalize(l.foldl (λ acc o=>acc.push (o.after.foldl (λ s e=>if BA .any e then s |||2 ^ e.on |||acc.getD e.on 0 else s) 0)) (acc.push v))=R at n r g;have m:(acc.push v).size=acc.size+1:=by simp
   have c:∀i,i<acc.size->R.getD i 0=acc.getD i 0:=λ i x=>by
    rw[n i (by omega)];simp_all[Array.getElem?_push,MF]
   have k:R.getD acc.size 0=v:=by
    simp_all
   refine⟨c,by omega,λ i o' d=>?_⟩;cases i with
   |zero =>
    simp only[zj,qk]at d;subst d;rw[Ah,k,<-p];obtain⟨u,q⟩:=sq acc o.after.toList 0;refine⟨q,λ j t=>?_⟩;rcases δ acc j _ _ t with h|⟨e,he,hb,h⟩
    .grind
    .refine ⟨e,he,hb,?_⟩;rcases h with h|h
     .omega
     .by_cases f:e.on<acc.size
      .exact .inr ⟨f,by rw[c _ f];exact h⟩
      .rw [Ul,Array.getElem?_eq_none (by omega)]at h;simp at h
   |succ i =>
    have:=g i o' (by simpa using d);rw[m,Ad,Nat.add_comm 1 i]at this;exact this
 intro i o ho;obtain⟨_,_,g⟩:=key ops.toList #[];have:=g i o (by rw[vh];exact ho);unfold CL;rw[<-Array.foldl_toList]
 simpa using this
structure Order(I:mQ)(L:List Nat):Prop where
 all:∀i,i<I.n->i∈L
 lt:∀i∈L,i<I.n
 gF:∀L1 i L2,L=L1++i::L2->i∉L1 /\ ∀j,(I.gF i).testBit j=B4->j∈L1
def q47{ops:Array P7}{I:mQ}(hn:I.n=ops.size)(c:∀i,I.gF i=(CL ops).getD i 0){plan:List (Bool×Nat)}(hp:yX I plan)(t:Nat):Order I (CK .any ops t):=by
 -- an operation that is ready
 let ready (listed:Array Bool) (i:Nat):Bool:=!listed.getD i B4 && ((ops[i]?).map (·.after.all λ e=>!Region.binds .any e ||listed.getD e.on B2)).getD B2
 have S:∀(fuel t:Nat)(listed:Array Bool)(acc:List Nat),listed.size=ops.size->(∀i,listed[i]? = B1 B4↔i∈acc/\i<ops.size)->(∀i∈acc,i<ops.size)->acc.Nodup->acc.length+fuel=ops.size ->
  (∀A i B,acc.reverse=A++i::B->i∉A /\ ∀j,(I.gF i).testBit j=B4->j∈A) ->
  Order I (CK.go .any ops fuel t listed acc):=by
  intro fuel
  induction fuel with
  |zero =>
   intro t listed acc G hl F K hlen z;unfold CK.go;refine⟨λ i Q=>?_,λ i Q=>by grind,z⟩;rw[List.mem_reverse];refine Tj λ N=>?_;have:(i::acc).length<=ops.size:=by
    have L:(i::acc).Nodup:=List.nodup_cons.2 ⟨N,K⟩;have d:(i::acc)⊆MX ops.size:=λ x r=>by
     grind
    have:=L.length_le_of_subset d
    simpa using this
   grind
  |succ fuel ih =>
   intro t listed acc G hl F K hlen z;unfold CK.go;simp only
   -- something is ready
   have q:∃i,i<ops.size/\ready listed i=true:=by
    -- the first one of the plan that is not listed
    obtain⟨x,hx1,hx2⟩:∃x,x<ops.size/\x∉acc:=by
     refine Tj λ N=>?_;have d:MX ops.size⊆acc:=λ x r=>(by grind)
     have:=List.nodup_range.length_le_of_subset d
     grind
    have:∀m p x:Nat,p<m->plan[p]? = B1 (B2,x)->x∉acc -> ∃p0 g:Nat,plan[p0]? = B1 (B2,g)/\g∉acc /\ ∀p' x':Nat,p'<p0->plan[p']? = B1 (B2,x')->x'∈acc:=by
     intro m
     induction m with
     |zero=>omega
     |succ m ihm =>
      grind
    obtain⟨p,Y⟩:=hp.all x (by omega);obtain⟨p0,g,f,v,h3⟩:=this (p+1) p x (zr _) Y hx2;have hx0:g<ops.size:=by rw[<-hn];exact hp.lt _ _ f
    refine⟨g,hx0,?_⟩;obtain⟨o,ho⟩:∃o,ops[g]? = B1 o:=(by simp_all)
    have V:listed.getD g B4=false:=by
     have h4:=hl g;simp_all
    show(!listed.getD g B4 && _)=B4;rw[V,ho];simp only[Bool.not_false,GA,vk,Bool.true_and,Array.all_eq_true',GW,CR];intro e he;cases hb:BA .any e with
    |false=>grind
    |true =>
     right;have:=(q3s ops g o ho).1 e (by simpa using he) hb;rw[<-c]at this;obtain⟨p',X,O⟩:=hp.gF _ _ _ f this;have h5:=h3 p' e.on X O;have:=(hl e.on).2 ⟨h5,F _ h5⟩;rw[Ul,this];rfl
   obtain⟨i0,hi0,hi0r⟩:=q;have hne:0<((MX ops.size).filter λ i=>ready listed i).length:=by
    rw[List.length_pos_iff_exists_mem];exact⟨i0,by grind⟩
   have Z:∃i,((MX ops.size).filter λ i=>ready listed i)[t % ((MX ops.size).filter λ i=>ready listed i).length]? = B1 i:=(by simp_all[Nat.mod_lt])
   obtain⟨i,Q⟩:=Z;have u:=zd Q;rw[List.mem_filter,N9]at u;obtain⟨J,U⟩:=u;rw[show((MX ops.size).filter λ i=>!listed.getD i B4 && ((ops[i]?).map (·.after.all λ e=>!Region.binds .any e ||listed.getD e.on B2)).getD B2)=((MX ops.size).filter λ i=>ready listed i)from rfl,Q];simp only;have s:(!listed.getD i B4 && ((ops[i]?).map (·.after.all λ e=>!Region.binds .any e ||listed.getD e.on B2)).getD B2)=true:=U;rw[zm]at s;obtain⟨hi3,E⟩:=s;obtain⟨o,ho⟩:∃o,ops[i]? = B1 o:=(by grind)
   have hia:i∉acc:=λ h=>by
    grind [Ul]
   rw[ho]at E;simp only[GA,vk,Array.all_eq_true',GW,CR]at E
   -- ancestors are listed
   have R:∀j,(I.gF i).testBit j=B4->j∈acc:=by
    intro j hj;rw[c]at hj;obtain⟨e,he,hb,h⟩:=(q3s ops i o ho).2 j hj;have W:e.on∈acc:=by
     rcases E e (by simpa using he)with h'|h'
     .grind
     .rw [Ul]at h'
      grind
    rcases h with h|⟨_,h⟩
    .grind
    .rw [<-c]at h;obtain⟨A,B,k⟩:=List.append_of_mem (List.mem_reverse.2 W);have:=(z A e.on B k).2 j h;simp_all
   refine ih _ _ _ (by simp[G]) (λ x=>?_) (λ x r=>?_) (by grind) (by grind) (λ A x B k=>?_)
   .rw [Array.getElem?_setIfInBounds]
    by_cases r:i=x
    .subst r;simp[G,J]
    .rw [qy r,hl x];simp only[kw];constructor
     .rintro ⟨f,v⟩;exact⟨.inr f,v⟩
     .rintro ⟨f|f,v⟩
      .exact absurd f.symm r
      .exact ⟨f,v⟩
   .rcases kw.1 r with rfl|r
    .exact J
    .exact F x r
   .rw [List.reverse_cons]at k;rcases List.append_eq_append_iff.1 k.symm with⟨C,f,v⟩|⟨C,f,v⟩
    .cases C with
     |nil =>
      grind
     |cons y C =>
      grind
    .cases C with
     |nil =>
      grind
     |cons y C =>
      simp at v
 have:=S ops.size t (Cf ops.size B2) [] (by simp) (by grind) (by grind) (by simp) (by simp) (by simp_all);exact this
end Go.Am
namespace Go.Am
mutual
def XM:∀(a b:AV),Am.cF a b=B4->a=b
 | .bool a,b,h=>by cases b<;>simp_all[Am.cF]
 | .int k a,b,h=>by cases b<;>simp_all[Am.cF,DC,Sv]
 | .str a,b,h=>by cases b<;>simp_all[Am.cF,K5]
 | .nilp,b,h=>by grind [Am.cF]
 | .ptr a o,b,h=>by cases b<;>simp_all[Am.cF]
 | .nils,b,h=>by grind [Am.cF]
 | .slice a o n c,b,h=>by cases b<;>simp_all[Am.cF]
 | .gslice a i m s al n,b,h=>by cases b<;>simp_all[Am.cF]
 | .eslice a,b,h=>by cases b<;>simp_all[Am.cF]
 | .nM,b,h=>by grind [Am.cF]
 | .map a,b,h=>by cases b<;>simp_all[Am.cF]
 | .nilf,b,h=>by grind [Am.cF]
 | .nili,b,h=>by grind [Am.cF]
 | .fn (.func f) x y,b,h=>by
  cases b with
  |fn g x' y' =>
   cases g with
   |func g =>
    simp only[Am.cF,zm,jy]at h;have⟨⟨d,e⟩,j⟩:=h;rw[d,L4 x x' e,L4 y y' j]
   |yield g=>grind [Am.cF]
  |_=>grind [Am.cF]
 | .fn (.yield f) x y,b,h=>by
  cases b with
  |fn g x' y' =>
   cases g with
   |yield g =>
    simp only[Am.cF,zm,jy]at h;have⟨⟨d,e⟩,j⟩:=h;rw[d,L4 x x' e,L4 y y' j]
   |func g=>grind [Am.cF]
  |_=>grind [Am.cF]
 | .iface t v,b,h=>by
  cases b with
  |iface u w =>
   simp only[Am.cF,zm,jy]at h;rw[h.1,XM v w h.2]
  |_=>grind [Am.cF]
 | .agg x,b,h=>by
  cases b with
  |agg y=>simp only[Am.cF]at h;rw[L4 x y h]
  |_=>grind [Am.cF]
 | .tuple x,b,h=>by
  cases b with
  |tuple y=>simp only[Am.cF]at h;rw[L4 x y h]
  |_=>grind [Am.cF]
def L4:∀(a b:List AV),Am.fp a b=B4->a=b
 |[],b,h=>by grind [Am.fp]
 |x::xs,b,h=>by
  cases b with
  |nil=>grind [Am.fp]
  |cons y ys =>
   simp only[Am.fp,zm]at h;rw[XM x y h.1,L4 xs ys h.2]
end
inductive kD(rt:RT)(s:aP)(st dp:St):Prop
 |skip (hc:s.iB=B2) (hw:dA s st.tm=B1 B2) (h:dp=⟨eM s.dst .undef st.tm,st.aZ,st.up,st.H⟩)
 |run (hc:s.iB=B2) (hw:dA s st.tm=B1 B4) (vs:List AV) (v:AV) (d:List aN) (u:Option aI) (H':ar) (he:mF st.tm s.args=B1 vs) (ho:iD rt st vs s.op=B1 (.val v d u H')) (h:dp=⟨eM s.dst v st.tm,d,u,H'⟩)
 |look (hc:s.iB=B4) (d:Nat) (hd:s.dst=B1 d) (h:dp=st) (hl:dA s st.tm=B1 B2\/(dA s st.tm=B1 B4 /\ ∃vs,mF st.tm s.args=B1 vs/\rk (λ t=>t.get d) st vs s.op=B4))
def wE(rt:RT)(steps:List aP)(sts:Nat->St)(M:Nat)(r:aX×St):Prop :=
 (M=steps.length/\r=(.normal,sts M)) \/
 ∃s vs c H' ds,steps[M]? = B1 s/\s.iB=B2/\dA s (sts M).tm=B1 B4/\mF (sts M).tm s.args=B1 vs/\iD rt (sts M) vs s.op=B1 (.panic c H')/\s.cP=B1 ds /\
  r=(.panic c,⟨forget ds (sts M).tm,(sts M).aZ,(sts M).up,H'⟩)
def q8s{rt:RT}:∀{steps:List aP}{st:St}{r:aX×St},(ic steps).run rt st=B1 r ->
 ∃(sts:Nat->St)(M:Nat),sts 0=st/\M<=steps.length/\(∀p,p<M -> ∃s,steps[p]? = B1 s/\kD rt s (sts p) (sts (p+1)))/\wE rt steps sts M r
 |[],st,r,h=>by
  cases h;exact⟨λ _=>st,0,rfl,qm _,λ p hp=>by omega,.inl ⟨rfl,rfl⟩⟩
 |s::l,st,r,h=>by
  have h:(gZ s).run rt ((ic l).run rt) st=B1 r:=h;have e:∀dp,kD rt s st dp->(ic l).run rt dp=B1 r -> ∃(sts:Nat->St)(M:Nat),sts 0=st/\M<=(s::l).length/\(∀p,p<M -> ∃i,(s::l)[p]? = B1 i/\kD rt i (sts p) (sts (p+1)))/\wE rt (s::l) sts M r:=by
   intro dp hr hl;have⟨sts,M,x,y,z,t⟩:=q8s hl;refine⟨λ p=>match p with|0=>st|p+1=>sts p,M+1,rfl,by grind,λ p hp=>?_,?_⟩
   .grind
   .rcases t with⟨m,n⟩|⟨i,vs,c,H',ds,m,n⟩
    .exact .inl ⟨by simp[m],n⟩
    .exact .inr ⟨i,vs,c,H',ds,by simpa using m,n⟩
  cases f:s.iB with
  |false =>
   rw[ZH s f,qj]at h;have⟨w,hw,h⟩:=h;cases w with
   |false =>
    simp only[zn]at h;exact e _ (.skip f hw rfl) h
   |true =>
    simp only[xt,qj]at h;have⟨vs,g,q,o,h⟩:=h;cases q with
    |val v d u H'=>exact e _ (.run f hw vs v d u H' g o rfl) h
    |panic c H' =>
     simp only[u6,qj,qk]at h;obtain⟨ds,k,rfl⟩:=h;exact⟨λ _=>st,0,rfl,xw _,λ p hp=>by omega,.inr ⟨s,vs,c,H',ds,rfl,f,hw,g,o,k,rfl⟩⟩
  |true =>
   cases j:s.dst with
   |none=>grind [qto]
   |some d =>
    rw[U_ s f j,qj]at h;have⟨w,hw,h⟩:=h;cases w with
    |false =>
     simp only[zn]at h;exact e st (.look f d j rfl (.inl hw)) h
    |true =>
     simp only[xt,qj]at h;have⟨vs,g,h⟩:=h;rcases yi h with⟨hk,h⟩|⟨_,h⟩
     .exact e st (.look f d j rfl (by grind)) h
     grind
theorem S_:∀{ys:List bM}{tm c:T AV},(∀t∈tmpsOf ys,tm.get t=c.get t)->mF tm ys=mF c ys
 |[],_,_,_=>rfl
 |y::ys,tm,c,h=>by
  have e:rR tm y=rR c y:=by
   cases y with
   |tmp t=>exact h t (by simp[tmpsOf])
   |const v=>rfl
   |eO g=>rfl
   |func f=>rfl
  have i:mF tm ys=mF c ys:=S_ (λ t d=>h t (by cases y<;>simp[tmpsOf,d]))
  grind [mF]
section
variable{P:Jl}{base:Nat}{D:Nat->Prop}{θ:Th}{H:ar}{w:N6}{a:Act}{tm:T AV}
def LI(m:HR P base D θ H w){x:M7}{y:bM}(n:∀t∈tmpsOf [y],∀v,tm.get t=B1 v -> ∃c,a.tmps[t]? = B1 c/\VR D θ v c)(d:rz P.globals.size x=B1 y){v:AV}(e:rR tm y=B1 v):VR D θ v (a.eval x):=by
 cases x with
 |tmp t =>
  cases d;have⟨c,h,i⟩:=n t (by simp[tmpsOf]) v e
  simpa[Act.eval,h]using i
 |const k =>
  simp only[rz,qj,qk]at d;obtain⟨u,hu,rfl⟩:=d;cases e;exact Sh hu
 |global g =>
  simp only[rz]at d;split at d
  .rename_i hg;cases d;cases e;have⟨h,i,j⟩:=m.eO g (by simp_all);have:=VR.ptr (θ:=θ) (o:=0) h;rw[i,j]at this;exact this
  grind
 |func f =>
  cases d;cases e;exact λ _ _=>rfl
def DD(f:HR P base D θ H w):∀{xs:List M7}{ys:List bM},(∀t∈tmpsOf ys,∀v,tm.get t=B1 v -> ∃c,a.tmps[t]? = B1 c/\VR D θ v c)->og P.globals.size xs=B1 ys -> ∀{vs:List AV},mF tm ys=B1 vs->bN D θ vs (xs.map a.eval)
 |[],ys,ht,hc,vs,hv=>by
  cases hc;cases hv;exact .nil
 |x::xs,ys,ht,hc,vs,hv=>by
  simp only[og,qj,qk]at hc;obtain⟨y,i,k,e,rfl⟩:=hc;simp only[mF,qj,qk]at hv;obtain⟨v,g,j,h,rfl⟩:=hv;refine .cons (LI f (λ t d=>ht t ?_) i g) (DD f (λ t d=>ht t ?_) e h)
  .cases y<;>simp[tmpsOf]at d⊢;omega
  .cases y<;>simp[tmpsOf,d]
def xnk{ops:Array P7}{o:P7}{s:aP}(hg:guardOf ops o.guard=B1 s.guard){tm:T AV}{a:Array K1}(f:∀g,s.guard=B1 g -> ∀v,tm.get g.1=B1 v -> ∃c,a[g.1]? = B1 c/\VR D θ v c){q:Bool}(h:dA s tm=B1 q) :
 B9 o (yielded ops a)=q:=by
 cases d:s.guard with
 |none =>
  exact VG (D:=D) (θ:=θ) (tm:=T.nil) (a:=a) (q:=q) hg (λ t v e=>by rw[T.get_nil]at e;cases e) (by unfold dA at h⊢;rw[d]at h⊢;exact h)
 |some g =>
  -- a table that holds the guard's slot alone
  refine VG (D:=D) (θ:=θ) (tm:=(T.nil:T AV).put g.1 (tm.get g.1)) (a:=a) (q:=q) hg (λ t v e=>?_) ?_
  .grind [T.kO,T.get_nil]
  simp_all[dA,T.kO]
end
end Go.Am
namespace Go.Am
structure RG(P:Jl)(rt:RT)(nt:Nat)(ops:Array P7)(l:List (List bM×fP))(plan:List (Bool×Nat))(sts:Nat->St)(M:Nat):Prop where
 comp:dB (ops.toList.map (gE P))=B1 l
 OH:ops.toList.all (py nt)=B4
 du:yX (aW ops l) plan
 len:M<=plan.length
 rel:∀p,p<M -> ∃q s o ca g,plan[p]? = B1 q/\ops[q.2]? = B1 o/\gE P o=B1 ca/\l[q.2]? = B1 ca/\guardOf ops o.guard=B1 g/\s.iB=q.1/\s.dst=o.dst/\s.guard=g/\s.args=ca.1/\s.op=ca.2/\kD rt s (sts p) (sts (p+1))
 mono:∀p,p<M->Ext (sts p).H (sts (p+1)).H
section
variable{P:Jl}{rt:RT}{nt:Nat}{ops:Array P7}{l:List (List bM×fP)}{plan:List (Bool×Nat)}{sts:Nat->St}{M:Nat}
def RG.ext(R:RG P rt nt ops l plan sts M):∀{p p':Nat},p<=p'->p'<=M->Ext (sts p).H (sts p').H:=by
 intro p p' h c
 induction p' with
 |zero=>grind [Ext.refl]
 |succ k ih =>
  by_cases e:p=k+1
  .grind [Ext.refl]
  .exact (ih (by omega) (by omega)).trans (R.mono k (by omega))
def RG.kept(R:RG P rt nt ops l plan sts M){t:Nat}:∀{p p':Nat},p<=p'->p'<=M->(∀u j:Nat,p<=u->u<p'->plan[u]? = B1 (B2,j)->ir ops j≠B1 t)->(sts p').tm.get t=(sts p).tm.get t:=by
 intro p p' h z hw
 induction p' with
 |zero=>grind
 |succ k ih =>
  by_cases e:p=k+1
  .grind
  .rw [<-ih (by omega) (by omega) (λ u j m r=>hw u j m (by omega))];have⟨⟨c,i⟩,s,o,ca,g,m,r,A,B,C,E,x,F,G,q,hr⟩:=R.rel k (by omega);have n:∀v,c=B2->(eM s.dst v (sts k).tm).get t=(sts k).tm.get t:=λ v f=>by
    subst f;have:=hw k i (by omega) (by omega) m;rw[x];cases y:o.dst with
    |none=>rfl
    |some d =>
     simp_all[ir,eM,T.aK]
   cases hr with
   |skip f hw' h=>grind
   |run f hw' vs v d u H' he ho h=>grind
   |look f d y h hl=>rw[h]
def RG.tO(R:RG P rt nt ops l plan sts M):∀{p p':Nat},p<=p'->p'<=M->(∀u j:Nat,p<=u->u<p'->plan[u]? = B1 (B2,j)->(aW ops l).cls j≠ .gT) ->
 (sts p').aZ=(sts p).aZ/\(sts p').up=(sts p).up /\ ∀b o,(sts p').H.get b=B1 o->(sts p).H.get b=B1 o \/
  ∃j u:Nat,p<=u/\u<p'/\plan[u]? = B1 (B2,j)/\(aW ops l).cls j=.alloc/\(sts u).H.au<(sts (u+1)).H.au/\b=(sts u).H.au/\(sts (u+1)).H.get b=B1 o:=by
 intro p p' h L hw
 induction p' with
 |zero=>grind
 |succ k ih =>
  by_cases e:p=k+1
  .grind
  .have ⟨F,G,I⟩:=ih (by omega) (by omega) (λ u j t z=>hw u j t (by omega));have⟨⟨c,i⟩,s,o,ca,g,t,z,N,A,O,B,Q,S,U,x,hr⟩:=R.rel k (by omega);have E:∀b o,(sts k).H.get b=B1 o->(sts p).H.get b=B1 o \/ ∃j u:Nat,p<=u/\u<k+1/\plan[u]? = B1 (B2,j)/\(aW ops l).cls j=.alloc/\(sts u).H.au<(sts (u+1)).H.au/\b=(sts u).H.au/\(sts (u+1)).H.get b=B1 o:=λ b o hb=>by
    rcases I b o hb with hb|⟨j,u,J,V,K⟩
    .grind
    .exact .inr ⟨j,u,J,by omega,K⟩
   cases hr with
   |skip hc hw' h=>grind
   |look hc d hd h hl=>grind
   |run hc hw' vs v d u H' he ho h =>
    have y:c=false:=B.symm.trans hc;subst y;have n:=hw k i (by omega) (by omega) t;have r:(aW ops l).cls i=qO ca.2:=by simp[aW,om,A]
    rw[r]at n;rw[x]at ho;rw[h];cases q:ca.2 with
    |pure f =>
     grind [iD,qj]
    |read f =>
     grind [iD,qj]
    |alloc f =>
     rw[q]at ho;simp only[iD,qj,qk,iR.val.injEq]at ho;obtain⟨⟨W,mk⟩,_,_,rfl,rfl,rfl⟩:=ho;refine⟨F,G,λ b o hb=>?_⟩;have C:=hb;simp only[ar.bO]at hb;split at hb
     .rename_i e2;refine .inr ⟨i,k,by omega,by omega,t,by rw[r,q];rfl,by rw[h];exact zr _,e2.symm,by grind⟩
     simp_all
    |gT f=>rw[q]at n;exact absurd rfl n
    |ij f=>rw[q]at n;exact absurd rfl n
    |iq=>rw[q]at n;exact absurd rfl n
    |invoke m=>rw[q]at n;exact absurd rfl n
    |recover=>rw[q]at n;exact absurd rfl n
    |defer=>rw[q]at n;exact absurd rfl n
    |panic=>rw[q]at n;exact absurd rfl n
def RG.at(R:RG P rt nt ops l plan sts M){p i:Nat}(hp:plan[p]? = B1 (B2,i))(d:p<M):∃s o ca,ops[i]? = B1 o/\gE P o=B1 ca/\l[i]? = B1 ca/\guardOf ops o.guard=B1 s.guard/\s.iB=B2/\s.dst=o.dst/\s.args=ca.1/\s.op=ca.2/\kD rt s (sts p) (sts (p+1)):=by
 have⟨q,s,o,ca,g,e,f,h,j,k,m,n,r,t,c,hr⟩:=R.rel p d
 grind
def RG.look(R:RG P rt nt ops l plan sts M){p i:Nat}(hp:plan[p]? = B1 (B4,i))(d:p<M):∃s o ca,ops[i]? = B1 o/\gE P o=B1 ca/\l[i]? = B1 ca/\guardOf ops o.guard=B1 s.guard/\s.iB=B4/\s.dst=o.dst/\s.args=ca.1/\s.op=ca.2/\kD rt s (sts p) (sts (p+1)):=by
 have⟨q,s,o,ca,g,e,f,h,j,k,m,n,r,t,c,hr⟩:=R.rel p d
 grind
def RG.still(R:RG P rt nt ops l plan sts M){p i:Nat}(hp:plan[p]? = B1 (B4,i))(c:p<M):sts (p+1)=sts p:=by
 have⟨s,o,ca,_,_,_,_,e,_,_,_,hr⟩:=R.look hp c;cases hr with
 |skip hc'=>grind
 |run hc'=>grind
 |look hc' d hd h hl=>exact h
def RG.K9(R:RG P rt nt ops l plan sts M){q:Nat}:∀{u:Nat},q<=u->u<=M->(∀v:Nat,q<=v->v<u -> ∃r,plan[v]? = B1 (B4,r))->sts u=sts q:=by
 intro u h d c
 induction u with
 |zero=>grind
 |succ k ih =>
  by_cases e:q=k+1
  .grind
  .have ⟨r,hr⟩:=c k (by omega) (by omega);rw[R.still hr (by omega)]
   grind
end
def DS(D0:Nat->Prop)(plan:List (Bool×Nat))(sts:Nat->St)(M:Nat)(S:List Nat):Nat->Prop:=λ b =>
 D0 b \/ ∃i p:Nat,i∈S/\plan[p]? = B1 (B2,i)/\p<M/\(sts p).H.au<=b/\b<(sts (p+1)).H.au
def G5(ops:Array P7)(plan:List (Bool×Nat))(sts:Nat->St)(M:Nat)(S:List Nat)(D:Nat->Prop)(θ:Th)(a:Array K1):Prop :=
 ∀t:Nat,∃p0:Nat,p0<=M/\(∀v,(sts p0).tm.get t=B1 v -> ∃c,a[t]? = B1 c/\VR D θ v c) /\
  (∀j p:Nat,j∈S->plan[p]? = B1 (B2,j)->ir ops j=B1 t->p<p0) /\
  (p0=0 \/ ∃i0 p1:Nat,i0∈S/\plan[p1]? = B1 (B2,i0)/\p0=p1+1/\ir ops i0=B1 t)
structure Inv(P:Jl)(base:Nat)(D0:Nat->Prop)(θ0:Th)(w0:N6)(kX:List NM)(b:NM)(nt:Nat)(rd:Option Nat)(ops:Array P7)(l:List (List bM×fP))(plan:List (Bool×Nat))(sts:Nat->St)(M:Nat)
 (S:List Nat) (q:Nat) (X:ar) (θ:Th) (a:Act) (w:N6) (cs:List NM):Prop where
 heap:HR P base (DS D0 plan sts M S) θ X w
 grow:bG D0 (sts 0).H θ0 w0 X θ w
 R7:∀b o,(sts q).H.get b=B1 o->X.get b=B1 o
 AB:∀j p:Nat,j∈S->plan[p]? = B1 (B2,j)->(aW ops l).cls j=.alloc->q<=p->p<M->(sts p).H.au<(sts (p+1)).H.au -> ∀o,(sts (p+1)).H.get (sts p).H.au=B1 o->X.get (sts p).H.au=B1 o
 Yj:q<=M
 zT:∀i p:Nat,plan[p]? = B1 (B2,i)->(aW ops l).cls i=.gT->(p<q↔i∈S)
 last:q=0 \/ ∃e p:Nat,q=p+1/\plan[p]? = B1 (B2,e)/\(aW ops l).cls e=.gT
 aZ:ib (DS D0 plan sts M S) θ (sts q).aZ a.defers
 up:rH (DS D0 plan sts M S) θ b.kind (sts q).up cs
 Nq:(sts q).up.isSome=(sts 0).up.isSome
 BR:fG (sts 0).up kX cs
 vA:G5 ops plan sts M S (DS D0 plan sts M S) θ a.tmps
 size:nt<=a.tmps.size
 round:AE (DS D0 plan sts M S) θ b.roundOf rd
 TN:∀i∈S,∃p:Nat,plan[p]? = B1 (B2,i)/\p<M
 closed:∀i∈S,∀j,((aW ops l).gF i).testBit j=B4->j∈S
section
variable{P:Jl}{rt:RT}{nt:Nat}{ops:Array P7}{l:List (List bM×fP)}{plan:List (Bool×Nat)}{sts:Nat->St}{M:Nat}
 {base:Nat} {D0:Nat->Prop} {θ0:Th} {w0:N6} {kX:List NM} {b:NM} {rd:Option Nat}
def Vk{i j t:Nat}(c:t∈gQ ops l i)(d:ir ops j=B1 t):(aW ops l).jS i j=true:=by
 show BI ops l i j=B4
 grind [BI,VY]
def DS.app{S:List Nat}{i:Nat}{x:Nat}(h:DS D0 plan sts M S x):DS D0 plan sts M (S ++ [i]) x:=by
 rcases h with h|⟨j,p,d,c⟩
 .exact .inl h
 .exact .inr ⟨j,p,by grind,c⟩
theorem Jp(R:RG P rt nt ops l plan sts M){S:List Nat}{q:Nat}{X:ar}{θ:Th}{a:Act}{w:N6}{cs:List NM}(hI:Inv P base D0 θ0 w0 kX b nt rd ops l plan sts M S q X θ a w cs){i p:Nat}(hp:plan[p]? = B1 (B2,i))(s:p<=M)(g:i∉S)
 (y:∀j,((aW ops l).gF i).testBit j=B4->j∈S) {t:Nat} (C:t∈gQ ops l i):∀v,(sts p).tm.get t=B1 v -> ∃c,a.tmps[t]? = B1 c/\VR (DS D0 plan sts M S) θ v c:=by
 have⟨J,L,N,O,B⟩:=hI.vA t;have o:=R.du.lt p i hp
 -- a writer is an ancestor,or comes later
 have f:∀j p':Nat,plan[p']? = B1 (B2,j)->ir ops j=B1 t->j≠i->((aW ops l).gF i).testBit j=B4\/((aW ops l).gF j).testBit i=true:=λ j p' k n d =>
  R.du.JX i j o (R.du.lt p' j k) (by omega) (Vk C n)
 have hle:J<=p:=by
  rcases B with rfl|⟨m,K,z,A,rfl,G⟩
  .omega
  .have d:m≠i:=λ e=>g (e▸z);rcases f m K A G d with h|h
   .have ⟨p',I,x⟩:=R.du.gF p i m hp h;have:=R.du.one _ _ _ A x;omega
   .exact absurd (hI.closed m z i h) g
 have r:=R.kept (t:=t) hle s (λ u j E F k n=>by
  have d:j≠i:=λ e=>by
   subst e;have:=R.du.one _ _ _ hp k;omega
  rcases f j u k n d with h|h
  .grind
  .have ⟨p',I,x⟩:=R.du.gF u j i k h;have:=R.du.one _ _ _ hp x;omega)
 grind
theorem G5.put(R:RG P rt nt ops l plan sts M){S:List Nat}{D D':Nat->Prop}{θ θ':Th}{a:Array K1}(h:G5 ops plan sts M S D θ a)(n:Ag D θ θ')(E:∀x,D x->D' x){i p:Nat}(hp:plan[p]? = B1 (B2,i))(s:p<M)
 (y:∀j,((aW ops l).gF i).testBit j=B4->j∈S) (q:i∉S) (k:∀i∈S,∀j,((aW ops l).gF i).testBit j=B4->j∈S) {o:P7} (ho:ops[i]? = B1 o) (G:∃ca,l[i]? = B1 ca) {c:K1} (hs:nt<=a.size)
 (U:∀d v,o.dst=B1 d->(sts (p+1)).tm.get d=B1 v->VR D' θ' v c) :
 G5 ops plan sts M (S ++ [i]) D' θ' (match o.dst with|some d=>a.setIfInBounds d c|none=>a):=by
 have F:ir ops i=o.dst:=by simp[ir,ho]
 intro t
 by_cases z:o.dst=B1 t
 .refine ⟨p+1,s,λ v hv'=>?_,λ j p' g f m=>?_,(by grind)⟩
  .rw [z];have I:t<a.size:=by
    have:=R.OH;rw[Gn]at this;have:=this o (by have:=Array.mem_of_getElem? ho;simpa using this);unfold py at this;rw[z]at this;simp only[A6]at this;omega
   grind
  .rcases jm.1 g with g|g
   .have J:j≠i:=λ e=>q (e▸g);have r:=R.du.lt p i hp;have u:t∈gQ ops l i:=by
     grind [gQ]
    rcases R.du.JX i j r (R.du.lt p' j f) (by omega) (Vk u m)with h|h
    .have ⟨X,W,L⟩:=R.du.gF p i j hp h;have:=R.du.one _ _ _ f L;omega
    grind
   .simp at g;subst g;have:=R.du.one _ _ _ hp f;omega
 .have ⟨N,B,C,O,Q⟩:=h t;refine⟨N,B,λ v hv'=>?_,λ j p' g f m=>?_,?_⟩
  .have ⟨A,V,K⟩:=C v hv';refine⟨A,?_,K.up n E⟩
   grind
  .grind
  grind
end
end Go.Am
namespace Go.Am
def lQ(X:ar):List Nat->ar->ar
 |[],H=>H
 |x::l,H=>match X.get x with
  |some o=>lQ X l (H.set x o)
  |none=>lQ X l H
theorem VQ(X:ar):∀(l:List Nat)(H:ar),(lQ X l H).au=H.au
 |[],H=>rfl
 |x::l,H=>by
  unfold lQ;split
  .rw [VQ X l];rfl
  .exact VQ X l H
theorem OX(X:ar):∀(l:List Nat)(H:ar)(y:Nat),(lQ X l H).get y=if y∈l/\(X.get y).isSome=B4 then X.get y else H.get y
 |[],H,y=>by simp[lQ]
 |x::l,H,y=>by
  unfold lQ;split
  .rename_i o ho;rw[OX X l,ar.aK]
   grind
  .rename_i ho;rw[OX X l]
   grind
def HR.frame{P:Jl}{base:Nat}{D D0:Nat->Prop}{θ θ0:Th}{H0 H X:ar}{w w0:N6}{D':Nat->Prop}{θ':Th}{H':ar}{w':N6}(m:HR P base D θ X w)(j:bG D0 H0 θ0 w0 X θ w)(L:∀x,D0 x->D x)
 (h:∀b o,H.get b=B1 o->X.get b=B1 o) (G:HR P base D' θ' H' w') (g:bG D H θ w H' θ' w') (J:Ext H H') (V:∀x,D x->D' x) (hn:H0.au<=H'.au) (E:List Nat)
 (hE:∀x∈E,H.get x=B5 /\ ∀o,X.get x=B1 o->own o=B4):HR P base D' θ' (lQ X E H') w'/\bG D0 H0 θ0 w0 (lQ X E H') θ' w':=by
 have f:∀y o,(lQ X E H').get y=B1 o->(y∈E/\X.get y=B1 o)\/(H'.get y=B1 o):=by
  grind [OX]
 have d:∀x o,X.get x=B1 o -> θ'.cq x = θ.cq x:=λ x o s=>(g.ag x (m.obj x o s).1).1;refine⟨⟨λ x o s=>?_,λ x y u n s S r A=>?_,λ x o s ho=>?_,G.eO,G.low⟩,⟨by grind [VQ],j.ag.trans g.ag L,xx j.size g.size,g.os.trans j.os,g.tape.trans j.tape,g.output.trans j.output,λ k hk O=>?_,λ x o s ho z=>?_⟩⟩
 .rcases f x o s with⟨v,c⟩|c
  .have ⟨I,co,U,N⟩:=m.obj x o c;refine⟨V x I,co,?_,N.up I g.ag V⟩;rw[d x o c,g.ah _ (m.lt c)]
   .exact U
   .intro y n S R e;have t:=h y n S;refine m.inj y x n o t c R (λ q=>?_) e
    grind
  .exact G.obj x o c
 .rcases f x u s with⟨v,c⟩|c<;>rcases f y n S with⟨Y,i⟩|i
  .rw [d x u c,d y n i];exact m.inj x y u n c i r A
  .rw [d x u c];intro e;rcases J.2 y n i with⟨B,I,_⟩|⟨I,U,N⟩
   .have t:=h y B I;rw[d y B t]at e;exact m.inj x y u B c t r A e
   .have ⟨p,o',C,F,K⟩:=g.news y n i N (by rw[<-e];exact m.lt c);refine m.inj p x o' u (h p o' C) c F (λ q=>?_) (K.trans e.symm)
    grind
  .rw [d y n i];intro e;have⟨p,o',C,F,K⟩:=g.news x u c r (by rw[e];exact m.lt i);refine m.inj p y o' n (h p o' C) i F (λ q=>?_) (K.trans e)
   grind
  .exact G.inj x y u n c i r A
 .rcases f x o s with⟨v,c⟩|c
  .rw [d x o c];exact m.lR x o c ho
  .exact G.lR x o c ho
 .rw [g.ah k (qn hk j.size)]
  .exact j.ah k hk O
  .intro b W hb Q e;have⟨p,o',C,F,K⟩:=j.news b W (h b W hb) Q (by omega)
   grind
 .rcases f x o s with⟨v,c⟩|c
  .rw [d x o c]at z⊢;exact j.news x o c ho z
  .have ⟨p,o',C,F,K⟩:=g.news x o c ho (qn z j.size);have⟨Z,o2,k4,k5,k6⟩:=j.news p o' (h p o' C) F (by omega)
   grind
section
variable{P:Jl}{rt:RT}{nt:Nat}{ops:Array P7}{l:List (List bM×fP)}{plan:List (Bool×Nat)}{sts:Nat->St}{M:Nat}
 {base:Nat} {D0:Nat->Prop} {θ0:Th} {w0:N6} {kX:List NM} {b:NM}
def DS.snoc(R:RG P rt nt ops l plan sts M){S:List Nat}{i p:Nat}(hp:plan[p]? = B1 (B2,i))(d:p<M):DS D0 plan sts M (S ++ [i])=Up (DS D0 plan sts M S) (sts p).H.au (sts (p+1)).H.au:=by
 funext x;simp only[eq_iff_iff];constructor
 .rintro (h|⟨j,p',c,e,g,f⟩)
  .exact .inl (.inl h)
  .rcases jm.1 c with c|c
   .exact .inl (.inr ⟨j,p',c,e,g,f⟩)
   .simp at c;subst c;have:=R.du.one _ _ _ hp e;subst this;exact .inr f
 .rintro (h|h)
  .exact h.app
  .exact .inr ⟨i,p,by simp,hp,d,h⟩
def DS.fresh(R:RG P rt nt ops l plan sts M){S:List Nat}{i p:Nat}(hp:plan[p]? = B1 (B2,i))(c:p<=M)(g:i∉S){n:Nat}(f:eG D0 (sts 0).H.au n){m:Nat}(hm:m<=n)
 (k:p<M->m<=(sts (p+1)).H.au):eG (DS D0 plan sts M S) (sts p).H.au m:=by
 intro x e o d;rcases d with d|⟨j,p',q,r,s,t,u⟩
 .exact f x (xx (R.ext (xw p) c).1 e) (by omega) d
 .rcases Nat.lt_trichotomy p p' with h|h|h
  .have e1:=(R.ext (p:=p+1) (p':=p') h (by omega)).1;omega
  .grind
  .have e1:=(R.ext (p:=p'+1) (p':=p) h c).1;omega
theorem SU(R:RG P rt nt ops l plan sts M){rd:Option Nat}{S:List Nat}{q:Nat}{X:ar}{θ:Th}{a:Act}{w:N6}{cs:List NM}(hI:Inv P base D0 θ0 w0 kX b nt rd ops l plan sts M S q X θ a w cs){i p:Nat}(hp:plan[p]? = B1 (B2,i))(e:p<=M)(y:i∉S)
 (c:∀j,((aW ops l).gF i).testBit j=B4->j∈S) (f:q<=p) (d:(aW ops l).cls i=.read\/(aW ops l).cls i=.gT) :
 (sts p).aZ=(sts q).aZ/\(sts p).up=(sts q).up /\ ∀x o,(sts p).H.get x=B1 o->X.get x=B1 o:=by
 have⟨s,t,v⟩:=R.tO f e (λ u j z g m k=>by
  have:=c j (R.du.made p i u j hp d m g (.inr k));have:=(hI.zT j u m k).2 this;omega)
 refine⟨s,t,λ x o h=>?_⟩;rcases v x o h with h|⟨j,u,A,B,n,r,C,rfl,E⟩
 .exact hI.R7 x o h
 .exact hI.AB j u (c j (R.du.made p i u j hp d n B (.inl r))) n r A (by omega) C o E
def Ox(R:RG P rt nt ops l plan sts M){rd:Option Nat}{S:List Nat}{q:Nat}{X:ar}{θ:Th}{a:Act}{w:N6}{cs:List NM}(hI:Inv P base D0 θ0 w0 kX b nt rd ops l plan sts M S q X θ a w cs){i p:Nat}(hp:plan[p]? = B1 (B2,i))(f:i∉S)
 (c:(aW ops l).cls i=.gT):q<=p:=by
 rcases hI.last with h|⟨e,g,rfl,j,k⟩
 .omega
 .refine Tj λ m=>?_;have d:=(hI.zT e g j k).1 (zr _);have n:p≠g:=λ q=>by
   grind
  have:=R.du.made g e p i j (.inr k) hp (by omega) (.inr c);exact f (hI.closed e d i this)
def Dr(R:RG P rt nt ops l plan sts M){rd:Option Nat}{S:List Nat}{q:Nat}{X:ar}{θ:Th}{a:Act}{w:N6}{cs:List NM}(hI:Inv P base D0 θ0 w0 kX b nt rd ops l plan sts M S q X θ a w cs){i p:Nat}(hp:plan[p]? = B1 (B2,i))(hpM:p<M)(J:i∉S)
 (hanc:∀j,((aW ops l).gF i).testBit j=B4->j∈S) (m:M=plan.length \/ ∃j,plan[M]? = B1 (B2,j)) {o:P7} {ca:List bM×fP} {s:aP} (ho:ops[i]? = B1 o) (L:l[i]? = B1 ca) (hsd:s.dst=o.dst) (hsa:s.args=ca.1) (hso:s.op=ca.2) (hsg:guardOf ops o.guard=B1 s.guard)
 {f:List AV->ar->Option AV} (hf:ca.2=.read f) {vs:List AV} {v:AV} (hw:dA s (sts p).tm=B1 B4) (he:mF (sts p).tm s.args=B1 vs) (hv:f vs (sts p).H=B1 v) (hst:sts (p+1)=⟨eM s.dst v (sts p).tm,(sts p).aZ,(sts p).up,(sts p).H⟩) :
 ∃H,(∀x o,H.get x=B1 o->X.get x=B1 o)/\f vs H=B1 v:=by
 have E:(aW ops l).cls i=.read:=by
  show om l i=.read
  grind [om,qO]
 by_cases hqp:q<=p
 .grind [SU]
 .rcases hI.last with h|⟨e,A,rfl,h2,h3⟩
  .omega
  .have I:=(hI.zT e A h2 h3).1 (zr _);have hne:p≠A:=λ q=>by
    grind
   have N:((aW ops l).gF e).testBit i=false:=by
    cases hb:((aW ops l).gF e).testBit i with
    |false=>rfl
    |true=>exact absurd (hI.closed e I i hb) J
   have⟨u,k1,V,k3⟩:=R.du.look A e p i h2 h3 hp (by omega) E N;have O:u<M:=by
    rcases m with m|⟨j,n⟩
    .grind
    .refine Tj λ hlt=>?_;have⟨r',hr'⟩:=k3 M (by have:=hI.Yj;omega) (by omega)
     grind
   have hsu:sts u=sts (A+1):=R.K9 (q:=A+1) (by omega) (by omega) (by grind);have⟨W,o',ca',Y,g2,Z,g4,g5,g6,g7,g8,hr⟩:=R.look V O;rw[ho]at Y;cases Y;rw[L]at Z;cases Z;have hgd:W.guard=s.guard:=by grind
   have hin:=R.du.lt p i hp
   -- nothing that it names is written tO
   have k:=(R.du.again u i V).2.1;have k:DO ops l i=true:=k;have hda:ir ops i=o.dst:=by simp[ir,ho]
   have hwr:∀t∈gQ ops l i,∀x j:Nat,p+1<=x->x<u->plan[x]? = B1 (B2,j)->ir ops j≠B1 t:=by
    intro t ht x j U z n B;have K:j≠i:=λ e=>by
     subst e;have:=R.du.one _ _ _ hp n;omega
    have:=(R.du.again u i V).2.2.2 j x n z K (Vk ht B);have⟨x',hx',y⟩:=R.du.gF p i j hp this;have:=R.du.one _ _ _ n y;omega
   have C:∀t∈iX ops l i,(sts u).tm.get t=(sts p).tm.get t:=by
    intro t ht;have hnd:o.dst≠B1 t:=λ B=>by
     grind [DO,VY]
    refine R.kept (by omega) (by omega) (λ x j U z n B=>?_)
    grind [gQ]
   have hro:iX ops l i=(match guardOf ops o.guard with|some (B1 g)=>[g.1]|_=>[])++tmpsOf ca.1:=by grind [iX]
   have hw':dA W (sts u).tm=B1 true:=by
    grind [dA]
   have G:mF (sts u).tm W.args=B1 vs:=by
    grind [S_]
   cases hr with
   |skip hc'=>grind
   |run hc'=>grind
   |look hc' d B h hl =>
    rcases hl with hl|⟨_,vs',c,hk⟩
    .grind
    .rw [G]at c;injection c with c;subst c
     rw[g8,hf]at hk;unfold rk at hk;simp only at hk;split at hk
     .rename_i v1 v2 Q r;have F:(sts u).tm.get d=B1 v:=by
       have hod:o.dst=B1 d:=by grind
       rw[R.kept (p:=p+1) (t:=d) (by omega) (by omega) (by grind [gQ])];simp_all[eM,T.aK]
      rw[F]at r;cases r;have:=XM _ _ hk;subst this;exact⟨(sts u).H,λ x o hx=>hI.R7 x o (by grind),Q⟩
     grind
def SL(a:Act)(d:Option Nat)(c:K1):(a.put d c).tmps=(match d with|some d=>a.tmps.setIfInBounds d c|none=>a.tmps):=by
 cases d<;>rfl
theorem q8q(a:Act)(d:Option Nat)(c:K1):(a.put d c).defers=a.defers:=by
 cases d<;>rfl
def Inv.step(R:RG P rt nt ops l plan sts M){rd:Option Nat}{S:List Nat}{q:Nat}{X:ar}{θ:Th}{a:Act}{w:N6}{cs:List NM}(hI:Inv P base D0 θ0 w0 kX b nt rd ops l plan sts M S q X θ a w cs){i p:Nat}(hp:plan[p]? = B1 (B2,i))(L:p<M)(A:i∉S)
 (r:∀j,((aW ops l).gF i).testBit j=B4->j∈S) {o:P7} (ho:ops[i]? = B1 o) (I:∃ca,l[i]? = B1 ca) (N:(aW ops l).cls i≠ .gT) {θ':Th} {X':ar} {w':N6} {c:K1}
 (n:HR P base (DS D0 plan sts M (S ++ [i])) θ' X' w') (m:bG D0 (sts 0).H θ0 w0 X' θ' w') (t:∀x o,(∃d,DS D0 plan sts M S x/\X.get x=B1 d)->X.get x=B1 o->X'.get x=B1 o) (g:Ag (DS D0 plan sts M S) θ θ')
 (U:(aW ops l).cls i=.alloc->(sts p).H.au<(sts (p+1)).H.au -> ∀o,(sts (p+1)).H.get (sts p).H.au=B1 o->X'.get (sts p).H.au=B1 o)
 (u:∀d v,o.dst=B1 d->(sts (p+1)).tm.get d=B1 v->VR (DS D0 plan sts M (S ++ [i])) θ' v c) :
 Inv P base D0 θ0 w0 kX b nt rd ops l plan sts M (S ++ [i]) q X' θ' (a.put o.dst c) w' cs:=by
 have k:∀x,DS D0 plan sts M S x->DS D0 plan sts M (S ++ [i]) x:=λ x h=>h.app;have f:∀x o,X.get x=B1 o->X'.get x=B1 o:=λ x o y=>t x o ⟨o,(hI.heap.obj x o y).1,y⟩ y;refine⟨n,m,λ x o y=>f x o (hI.R7 x o y),λ j p' e s C E F G o' J=>?_,hI.Yj,λ O p' K z=>?_,hI.last,?_,rH.up g k hI.up,hI.Nq,hI.BR,?_,?_,AE.up g k hI.round,λ j e=>?_,λ j e Q B=>?_⟩
 .rcases jm.1 e with e|e
  .exact f _ _ (hI.AB j p' e s C E F G o' J)
  .simp at e;subst e;have:=R.du.one _ _ _ hp s
   grind
 .rw [hI.zT O p' K z]
  grind
 .rw [q8q];exact ib.up g k hI.aZ
 .rw [SL];exact hI.vA.put R g k hp L r A hI.closed ho I hI.size u
 .rw [SL];have:=hI.size;grind
 .rcases jm.1 e with e|e
  .exact hI.TN j e
  grind
 .rcases jm.1 e with e|e
  .simp [hI.closed j e Q B]
  grind
def Inv.I9(R:RG P rt nt ops l plan sts M){rd:Option Nat}{S:List Nat}{q:Nat}{X:ar}{θ:Th}{a:Act}{w:N6}{cs:List NM}(hI:Inv P base D0 θ0 w0 kX b nt rd ops l plan sts M S q X θ a w cs){i p:Nat}(hp:plan[p]? = B1 (B2,i))(A:p<M)(z:i∉S)
 (g:∀j,((aW ops l).gF i).testBit j=B4->j∈S) {o:P7} (ho:ops[i]? = B1 o) (I:∃ca,l[i]? = B1 ca) (y:(aW ops l).cls i=.gT) {θ':Th} {X':ar} {w':N6} {cs':List NM} {c:K1} {ds:List Deferred}
 (m:HR P base (DS D0 plan sts M (S ++ [i])) θ' X' w') (k:bG D0 (sts 0).H θ0 w0 X' θ' w') (s:∀x o,(sts (p+1)).H.get x=B1 o->X'.get x=B1 o)
 (F:∀j p':Nat,j∈S->plan[p']? = B1 (B2,j)->(aW ops l).cls j=.alloc->p+1<=p'->p'<M->(sts p').H.au<(sts (p'+1)).H.au -> ∀o,(sts (p'+1)).H.get (sts p').H.au=B1 o->X'.get (sts p').H.au=B1 o)
 (t:Ag (DS D0 plan sts M S) θ θ') (L:ib (DS D0 plan sts M (S ++ [i])) θ' (sts (p+1)).aZ ds) (K:rH (DS D0 plan sts M (S ++ [i])) θ' b.kind (sts (p+1)).up cs') (E:(sts (p+1)).up.isSome=(sts 0).up.isSome) (r:fG (sts 0).up kX cs')
 (C:∀d v,o.dst=B1 d->(sts (p+1)).tm.get d=B1 v->VR (DS D0 plan sts M (S ++ [i])) θ' v c) :
 Inv P base D0 θ0 w0 kX b nt rd ops l plan sts M (S ++ [i]) (p+1) X' θ' (({a with defers:=ds}:Act).put o.dst c) w' cs':=by
 have B:∀x,DS D0 plan sts M S x->DS D0 plan sts M (S ++ [i]) x:=λ x h=>h.app;have Y:=Ox R hI hp z y;refine⟨m,k,s,λ j p' f N O Q U V o' W=>?_,A,λ J p' n u=>?_,(by grind),?_,K,E,r,?_,?_,AE.up t B hI.round,λ j f=>?_,λ j f Z G=>?_⟩
 .grind
 .constructor
  .intro h
   by_cases e:p'=p
   .grind
   .have:=g J (R.du.made p i p' J hp (.inr y) n (by omega) (.inr u))
    grind
  .intro h;rcases jm.1 h with h|h
   .have:=(hI.zT J p' n u).2 h;omega
   .simp at h;subst h;have:=R.du.one _ _ _ hp n;omega
 .grind [q8q]
 .rw [SL];exact hI.vA.put R t B hp A g z hI.closed ho I hI.size C
 .rw [SL];have:=hI.size;grind
 .rcases jm.1 f with f|f
  .exact hI.TN j f
  grind
 .rcases jm.1 f with f|f
  .simp [hI.closed j f Z G]
  grind
def xmi(R:RG P rt nt ops l plan sts M){rd:Option Nat}{S:List Nat}{q:Nat}{X:ar}{θ:Th}{a:Act}{w:N6}{cs:List NM}(hI:Inv P base D0 θ0 w0 kX b nt rd ops l plan sts M S q X θ a w cs){i p:Nat}(hp:plan[p]? = B1 (B2,i))(f:p<=M)(e:i∉S)
 (c:∀j,((aW ops l).gF i).testBit j=B4->j∈S) {o:P7} {ca:List bM×fP} {s:aP} (ho:ops[i]? = B1 o) (r:l[i]? = B1 ca) (h:s.args=ca.1) (k:guardOf ops o.guard=B1 s.guard) :
 (∀{wd:Bool},dA s (sts p).tm=B1 wd->B9 o (yielded ops a.tmps)=wd) /\
 ∀{xs:List M7},og P.globals.size xs=B1 ca.1 -> ∀{vs:List AV},mF (sts p).tm s.args=B1 vs->bN (DS D0 plan sts M S) θ vs (xs.map a.eval):=by
 have u:iX ops l i=(match guardOf ops o.guard with|some (B1 g)=>[g.1]|_=>[])++tmpsOf ca.1:=by grind [iX]
 have n:∀t∈iX ops l i,t∈gQ ops l i:=λ t y=>by grind [gQ]
 refine⟨λ{wd}hw=>xnk (D:=DS D0 plan sts M S) (θ:=θ) k (λ g hg v x=>?_) hw,λ{xs}m{vs}d=>?_⟩
 .exact Jp R hI hp f e c (by grind) v x
 .rw [h]at d;exact DD hI.heap (by grind [Jp]) m d
end
end Go.Am
namespace Go.Am
section
variable{P:Jl}{rt:RT}{nt:Nat}{ops:Array P7}{l:List (List bM×fP)}{plan:List (Bool×Nat)}{sts:Nat->St}{M:Nat}
 {base:Nat} {D0:Nat->Prop} {θ0:Th} {w0:N6} {kX:List NM} {b:NM}
def RG.made(R:RG P rt nt ops l plan sts M){p j:Nat}(hp:plan[p]? = B1 (B2,j))(k:p<M)(c:(aW ops l).cls j=.alloc)(r:(sts p).H.au<(sts (p+1)).H.au):∃n,(sts (p+1)).H.get (sts p).H.au=B1 n:=by
 have⟨s,o,ca,ho,q,i,z,x,y,t,m,h⟩:=R.at hp k;have g:(aW ops l).cls j=qO ca.2:=by simp[aW,om,i]
 rw[g]at c;cases h with
 |look hc=>grind
 |skip hc hw hst=>grind
 |run hc hw vs v d u H' he hop hst =>
  rw[m]at hop;cases e:ca.2 with
  |alloc f =>
   rw[e]at hop;simp only[iD,qj,qk,iR.val.injEq]at hop;obtain⟨⟨n,mk⟩,_,_,rfl,rfl,rfl⟩:=hop;simp_all[ar.bO]
  |_=>rw[e]at c;cases c
set_option maxHeartbeats 1000000 in
def xle(R:RG P rt nt ops l plan sts M)(hP:d9 P)(hcall:rX P base rt.call)(hround:xQ P base rt.round)(hAP:rt.AP=bq P){S:List Nat}{q:Nat}{X:ar}{θ:Th}{a:Act}{w:N6}{cs:List NM}
 (hI:Inv P base D0 θ0 w0 kX b nt rt.ctx.round ops l plan sts M S q X θ a w cs) {i p:Nat} (hp:plan[p]? = B1 (B2,i)) (A:p<M) (y:i∉S) (t:∀j,((aW ops l).gF i).testBit j=B4->j∈S) {n:Nat} (hfr:eG D0 (sts 0).H.au n)
 (hMn:(sts M).H.au<=n) (hend:M=plan.length \/ ∃j,plan[M]? = B1 (B2,j)) (h0:∀x o,(sts 0).H.get x=B1 o->D0 x) {k:List Item} {rest:List Nat} :
 ∃q' X' θ' a' w' cs',Steps P (lone (b.atR a (.inRegion ops (i::rest)::k)) cs w) (lone (b.atR a' (.inRegion ops rest::k)) cs' w')/\Inv P base D0 θ0 w0 kX b nt rt.ctx.round ops l plan sts M (S ++ [i]) q' X' θ' a' w' cs':=by
 have⟨s,o,ca,ho,hco,K,hsg,hsc,hsd,hsa,hso,hrel⟩:=R.at hp A;have⟨xs,hxs,V,hdef⟩:=Nz hP hco;have⟨hwant,hopd⟩:=xmi R hI hp (by omega) y t ho K hsa hsg;have hcls:(aW ops l).cls i=qO ca.2:=by simp[aW,om,K]
 have hsn:=DS.snoc (D0:=D0) R (S:=S) hp A;have hnle:(sts (p+1)).H.au<=n:=xx (R.ext (p:=p+1) (p':=M) A (qm _)).1 hMn;have J:=DS.fresh R (S:=S) hp (by omega) y hfr (m:=(sts (p+1)).H.au) hnle (λ _=>qm _)
 -- no block bears a number that is to come
 have U:∀p1 p2:Nat,p1<=p2->p2<M->(sts p2).H.au<(sts (p2+1)).H.au->(sts p1).H.get (sts p2).H.au=none:=by
  intro p1 p2 G h2 h3;cases hg:(sts p1).H.get (sts p2).H.au with
  |none=>rfl
  |some o' =>
   exfalso;have e0:=(R.ext (p:=0) (p':=p2) (by omega) (by omega)).1;have e1:=(R.ext (p:=p1) (p':=p2) G (by omega)).1;have e2:=(R.ext (p:=p2+1) (p':=M) h2 (qm _)).1;rcases(R.ext (p:=0) (p':=p1) (by omega) (by omega)).2 _ _ hg with⟨o'',W,_⟩|⟨_,h8,_⟩
   .exact hfr _ e0 (by omega) (h0 _ _ W)
   .omega
 cases hrel with
 |look hc=>rw[hsc]at hc;cases hc
 |skip hc hw hst =>
  have hwf:=hwant hw;have hsk:=stepR_op_skip (P:=P) (b:=b) (a:=a) (k:=k) (cs:=cs) (w:=w) (ops:=ops) (i:=i) (rest:=rest) (by simp[ho,hwf]);rw[ho]at hsk;have g:DS D0 plan sts M (S ++ [i])=DS D0 plan sts M S:=by rw[hsn,hst];exact Up.none
  by_cases e:(aW ops l).cls i=.gT
  .have ⟨k1,k2,k3⟩:=SU R hI hp (by omega) y t (Ox R hI hp y e) (.inr e);have B:=hI.I9 R (cs':=cs) (ds:=a.defers) hp A y t ho ⟨ca,K⟩ e (θ':=θ) (X':=X) (w':=w) (c:=undef) (by rw[g];exact hI.heap) hI.grow (λ x o' z=>by rw[hst]at z;exact k3 x o' z)
    (λ j p' hj hj2 hj3 hj4 hj5 hj6 o' L=>hI.AB j p' hj hj2 hj3 (by have:=Ox R hI hp y e;omega) hj5 hj6 o' L) (Ag.refl _ _) (by rw[g,hst];simp only;rw[k1];exact hI.aZ) (by rw[g,hst];simp only;rw[k2];exact hI.up)
    (by rw[hst];simp only;rw[k2];exact hI.Nq) hI.BR (λ d v Z hv=>by
     rw[hst,hsd,Z]at hv;simp only[eM,T.aK,vG,qk]at hv;subst hv;exact .undef)
   exact⟨_,_,_,_,_,_,.one hsk,B⟩
  .have B:=hI.step R hp A y t ho ⟨ca,K⟩ e (θ':=θ) (X':=X) (w':=w) (c:=undef) (by rw[g];exact hI.heap) hI.grow (λ x o' _ z=>z) (Ag.refl _ _) (λ _ N=>by rw[hst]at N;exact absurd N (Gp _))
    (λ d v Z hv=>by
     rw[hst,hsd,Z]at hv;simp only[eM,T.aK,vG,qk]at hv;subst hv;exact .undef)
   exact⟨_,_,_,_,_,_,.one hsk,B⟩
 |run hc hw vs v d u H' he hop hst =>
  have hwt:=hwant hw;have hv:=hopd hxs he;rw[hso]at hop;have Y:∀(x:AV),(∀dd v',o.dst=B1 dd->(sts (p+1)).tm.get dd=B1 v'->v'=v):=by
   intro _ dd v' Z hv';rw[hst,hsd,Z]at hv';simp only[eM,T.aK,vG,qk]at hv';exact hv'.symm
  have hnd:ca.2≠ .defer->ca.2≠ .pure Op.fail->o.semAt b.roundOf a.eval=execOp a.eval o:=λ q1 q2=>C0 _ _ _ (by
   rcases hdef with h|h|h
   .exact h
   .exact absurd h q1
   .exact absurd h q2)
  by_cases e:qO ca.2=.gT
  .-- an effect
   have hce':(aW ops l).cls i=.gT:=by rw[hcls];exact e
   have hqp:=Ox R hI hp y hce';have⟨k1,k2,k3⟩:=SU R hI hp (by omega) y t hqp (.inr hce');have I:(sts (p+1)).H=H':=by rw[hst]
   have hout:=Zr hP hcall hround hAP V hdef (rest:=rest) (k:=k) (st:=sts p) (cs:=cs) (r:=.val v d u H') ho hwt (hI.heap.sub k3) (by rw[k1];exact hI.aZ) (by rw[k2];exact hI.up) hI.round hv hop (by rw[I]at J;exact J);have⟨θ',w',c,cs',ds,O,g2,g3,g4,g5,g6,g7,g8⟩:=hout;have hext:Ext (sts p).H H':=by rw[<-I];exact R.mono p A
   have g:DS D0 plan sts M (S ++ [i])=Up (DS D0 plan sts M S) (sts p).H.au H'.au:=by rw[hsn,I]
   -- what was made ahead of its time
   let Q:Nat->Prop:=λ p'=>p+1<=p' /\ ∃j,j∈S/\plan[p']? = B1 (B2,j)/\(aW ops l).cls j=.alloc/\(sts p').H.au<(sts (p'+1)).H.au
   let E:List Nat:=((MX M).filter (λ p'=>@decide (Q p') (Classical.propDecidable _))).map (λ p'=>(sts p').H.au)
   have hEm:∀x,x∈E↔ ∃p',p'<M/\Q p'/\x=(sts p').H.au:=by
    intro x;simp only[E,Fx,List.mem_filter,N9,decide_eq_true_eq];constructor
    .rintro ⟨p',⟨G,h2⟩,rfl⟩;exact⟨p',G,h2,rfl⟩
    .rintro ⟨p',G,h2,rfl⟩;exact⟨p',⟨G,h2⟩,rfl⟩
   have hE:∀x∈E,(sts p).H.get x=B5 /\ ∀o,X.get x=B1 o->own o=true:=by
    intro x z;obtain⟨p',G,⟨h2,j,h3,h4,h5,h6⟩,rfl⟩:=(hEm x).1 z;refine⟨U p p' (by omega) G h6,λ o' L=>?_⟩;have⟨ob,hob⟩:=R.made h4 G h5 h6;have:=hI.AB j p' h3 h4 h5 (by omega) G h6 ob hob;rw[L]at this;cases this;rcases(R.mono p' G).2 _ _ hob with⟨o'',W,_⟩|⟨_,_,h9⟩
    .rw [U p' p' (qm _) G h6]at W;cases W
    .exact h9
   have hn0:(sts 0).H.au<=H'.au:=by rw[<-I];exact(R.ext (p:=0) (p':=p+1) (by omega) A).1
   have⟨f1,f2⟩:=hI.heap.frame hI.grow (λ x z=>.inl z) k3 g2 g3 hext Up.of hn0 E hE;rw[<-g]at f1;have hnotE:∀x o',H'.get x=B1 o'->x∉E:=by
    intro x o' z hxE;obtain⟨p',G,⟨h2,j,h3,h4,h5,h6⟩,rfl⟩:=(hEm x).1 hxE;have:=U (p+1) p' h2 G h6;rw[I,z]at this;cases this
   have B:=hI.I9 R (cs':=cs') (ds:=ds) hp A y t ho ⟨ca,K⟩ hce' (θ':=θ') (X':=lQ X E H') (w':=w') (c:=c) f1 f2
    (λ x o' z=>by
     rw[I]at z;rw[OX,qy (λ q=>hnotE x o' z q.1)];exact z)
    (λ j p' hj hj2 hj3 hj4 hj5 hj6 o' L=>by
     have hX:=hI.AB j p' hj hj2 hj3 (by omega) hj5 hj6 o' L;rw[OX,xg ⟨(hEm _).2 ⟨p',hj5,⟨hj4,j,hj,hj2,hj3,hj6⟩,rfl⟩,by rw[hX];rfl⟩];exact hX)
    g3.ag (by rw[g,hst];exact g5) (by rw[g,hst];exact g7) (by rw[hst];exact(g6.trans (by rw[k2])).trans hI.Nq) (fG.trans hI.Nq hI.BR (by rw[<-k2];exact g8))
    (λ dd v' Z hv'=>by rw[g,Y v dd v' Z hv'];exact g4)
   exact⟨_,_,_,_,_,_,O,B⟩
  .have hnce:(aW ops l).cls i≠ .gT:=by rw[hcls];exact e
   cases C:ca.2 with
   |pure f =>
    rw[C]at hop V hnd;simp only[iD,qj,qk,iR.val.injEq]at hop;obtain⟨v',G,rfl,rfl,rfl,rfl⟩:=hop;have g:DS D0 plan sts M (S ++ [i])=DS D0 plan sts M S:=by rw[hsn,hst];exact Up.none
    have⟨c,O,g2⟩:=V (DS D0 plan sts M S) θ a.eval w vs v' (SZ a) hv G;have F:=hnd (by intro q;cases q) (by intro q;cases q;cases G);have B:=hI.step R hp A y t ho ⟨ca,K⟩ hnce (θ':=θ) (X':=X) (w':=w) (c:=c) (by rw[g];exact hI.heap) hI.grow (λ x o' _ z=>z) (Ag.refl _ _) (λ _ N=>by rw[hst]at N;exact absurd N (Gp _))
     (λ dd v'' Z hv'=>by rw[g,Y v' dd v'' Z hv'];exact g2)
    refine⟨_,_,_,_,_,_,.one ?_,B⟩;rcases O with O|⟨O,rfl⟩
    .exact Ka ho hwt (by rw[F];exact O)
    .exact PB ho hwt (by rw[F];exact O)
   |read f =>
    have hop0:=hop;rw[C]at hop V hnd;simp only[iD,qj,qk,iR.val.injEq]at hop;obtain⟨v',G,rfl,rfl,rfl,rfl⟩:=hop;have g:DS D0 plan sts M (S ++ [i])=DS D0 plan sts M S:=by rw[hsn,hst];exact Up.none
    have⟨Hr,r1,r2⟩:=Dr R hI hp A y t hend ho K hsd hsa hso hsg C hw he G hst;have⟨c,O,g2⟩:=V base (DS D0 plan sts M S) θ Hr a.eval w vs v' (hI.heap.sub r1) hv r2;have F:=hnd (by intro q;cases q) (by intro q;cases q);have B:=hI.step R hp A y t ho ⟨ca,K⟩ hnce (θ':=θ) (X':=X) (w':=w) (c:=c) (by rw[g];exact hI.heap) hI.grow (λ x o' _ z=>z) (Ag.refl _ _) (λ _ N=>by rw[hst]at N;exact absurd N (Gp _))
     (λ dd v'' Z hv'=>by rw[g,Y v' dd v'' Z hv'];exact g2)
    refine⟨_,_,_,_,_,_,.one ?_,B⟩;rcases O with O|⟨O,rfl⟩
    .exact Ka ho hwt (by rw[F];exact O)
    .exact PB ho hwt (by rw[F];exact O)
   |alloc f =>
    rw[C]at hop V hnd;simp only[iD,qj,qk,iR.val.injEq]at hop;obtain⟨⟨ob,mk⟩,G,rfl,rfl,rfl,rfl⟩:=hop;have⟨hown,w1,co,ext,c,O,g2,g3⟩:=V.1 (DS D0 plan sts M S) θ a.eval w vs ob mk (SZ a) hv G;have F:=hnd (by intro q;cases q) (by intro q;cases q);have g:DS D0 plan sts M (S ++ [i])=Up (DS D0 plan sts M S) (sts p).H.au ((sts p).H.au+1):=by rw[hsn,hst];rfl
    have hn:¬DS D0 plan sts M S (sts p).H.au:=J _ (qm _) (by rw[hst];exact zr _);have hag:=Th.ia θ (sts p).H.au w1.heap.size 0 ext hn;have⟨e1,e2,e3⟩:=Th.eV θ (sts p).H.au w1.heap.size 0 ext;have⟨k1,k2⟩:=g3 (Up (DS D0 plan sts M S) (sts p).H.au ((sts p).H.au+1)) (θ.add (sts p).H.au w1.heap.size 0 ext) (sts p).H.au hag Up.of (.inr ⟨qm _,zr _⟩) (by rw[e1,g2.heap]) e2 e3;have hX1:HR P base (DS D0 plan sts M S) θ {X with au:=(sts p).H.au} w1:=(HR.draw (w':=w1) hI.heap g2.heap).sub (λ x o z=>z);have hG1:bG D0 (sts 0).H θ0 w0 {X with au:=(sts p).H.au} θ w :=
     ⟨(R.ext (p:=0) (p':=p) (by omega) (by omega)).1,hI.grow.ag,hI.grow.size,hI.grow.os,hI.grow.tape,hI.grow.output,hI.grow.ah,hI.grow.news⟩
    have hA1:=hX1.alloc (w':=w1.alloc co) (co:=co) (k:=w1.heap.size) (off:=0) (ext:=ext) (o:=ob) hn (by rw[EY];simp) (λ j hj=>by rw[EY,qy (MF hj)]) (qm _) (by simp) k1;have hG2:=(hG1.trans (bG.draw (D:=DS D0 plan sts M S) (w:=w) (w':=w1) g2.heap g2.os g2.tape g2.output) (λ x z=>.inl z)).trans (bG.alloc (w:=w1) hX1 hn ob co 0 ext) (λ x z=>.inl z);have B:=hI.step R hp A y t ho ⟨ca,K⟩ hnce (θ':=θ.add (sts p).H.au w1.heap.size 0 ext) (X':=({X with au:=(sts p).H.au}:ar).alloc ob) (w':=w1.alloc co) (c:=c) (by rw[g];exact hA1) hG2
     (λ x o' hx1 z=>by
      have⟨_,hx1,_⟩:=hx1;rw[ar.bO,qy (λ q=>hn (by rw[show(sts p).H.au=x from q];exact hx1))];exact z)
     hag
     (λ _ _ o' L=>by
      rw[hst]at L;simp only[ar.bO,vG]at L⊢;exact L)
     (λ dd v'' Z hv'=>by rw[g,Y (mk (sts p).H.au) dd v'' Z hv'];exact k2)
    exact⟨_,_,_,_,_,_,.one (Ka ho hwt (by rw[F];exact O)),B⟩
   |gT f=>rw[C]at e;exact absurd rfl e
   |ij f=>rw[C]at e;exact absurd rfl e
   |iq=>rw[C]at e;exact absurd rfl e
   |invoke m=>rw[C]at e;exact absurd rfl e
   |recover=>rw[C]at e;exact absurd rfl e
   |defer=>rw[C]at e;exact absurd rfl e
   |panic=>rw[C]at e;exact absurd rfl e
theorem DS.nil:DS D0 plan sts M []=D0:=by
 funext x;simp_all[DS]
def xdz{i:Nat}:∀{l:List (Bool×Nat)}{x:Bool×Nat},x∈uX i l -> ∃p':Nat,l[p']? = B1 x /\ ∀u:Nat,u<=p'->l[u]?≠B1 (B2,i)
 |[],x,h=>by grind [uX]
 |(c,j)::l,x,h=>by
  unfold uX at h;cases hb:(!c && JW j i)with
  |true=>grind
  |false =>
   rw[hb]at h;simp only[zn,kw]at h;have f:(c,j)≠(B2,i):=by
    intro e;simp_all
   rcases h with rfl|h
   .exact ⟨0,rfl,λ u hu=>by
     grind⟩
   .have ⟨p',d,g⟩:=xdz h;refine⟨p'+1,by simpa using d,λ u hu=>?_⟩
    grind
def DS.below(R:RG P rt nt ops l plan sts M){S:List Nat}{n:Nat}(hn:(sts M).H.au<=n):∀x,DS D0 plan sts M S x->Up D0 (sts 0).H.au n x:=by
 rintro x (h|⟨i,p,e,f,c,d,g⟩)
 .exact .inl h
 .refine .inr ⟨xx (R.ext (p:=0) (p':=p) (by omega) (by omega)).1 d,?_⟩;have:=(R.ext (p:=p+1) (p':=M) c (qm _)).1;omega
def bG.sub{D:Nat->Prop}{H:ar}{θ:Th}{w:N6}{X:ar}{θ':Th}{w':N6}(g:bG D H θ w X θ' w'){H':ar}(hn:H.au<=H'.au)(hs:∀b o,H'.get b=B1 o->X.get b=B1 o):bG D H θ w H' θ' w' :=
 ⟨hn,g.ag,g.size,g.os,g.tape,g.output,g.ah,λ b o hb=>g.news b o (hs b o hb)⟩
def R'(R:RG P rt nt ops l plan sts M){rd:Option Nat}{S:List Nat}{q:Nat}{X:ar}{θ:Th}{a:Act}{w:N6}{cs:List NM}(hI:Inv P base D0 θ0 w0 kX b nt rd ops l plan sts M S q X θ a w cs){t:Nat}
 (d:∀j u:Nat,u<M->plan[u]? = B1 (B2,j)->ir ops j=B1 t->j∈S):∀v,(sts M).tm.get t=B1 v -> ∃c,a.tmps[t]? = B1 c/\VR (DS D0 plan sts M S) θ v c:=by
 have⟨k,e,f,h,i⟩:=hI.vA t;intro v g;refine f v ?_;rw[<-g];exact(R.kept e (qm _) (by grind)).symm
end
section
variable{P:Jl}{rt:RT}{nt:Nat}{ops:Array P7}{l:List (List bM×fP)}{plan:List (Bool×Nat)}{sts:Nat->St}{M:Nat}
 {base:Nat} {D0:Nat->Prop} {θ0:Th} {w0:N6} {kX:List NM} {b:NM}
def ag6(R:RG P rt nt ops l plan sts M){S:List Nat}{q:Nat}{X:ar}{θ:Th}{a:Act}{w:N6}{cs:List NM}(hI:Inv P base D0 θ0 w0 kX b nt rt.ctx.round ops l plan sts M S q X θ a w cs)(d:∀i,i<ops.size->i∈S){k:List Item}{m:Machine}
 (hs:Steps P m (lone (b.atR a k) cs w)):Out P base D0 θ0 b nt rt.ctx.round k (sts 0) kX w0 m .normal (sts M):=by
 have f:=DS.below R (D0:=D0) (S:=S) (qm (sts M).H.au);have⟨z,s,A⟩:=R.tO hI.Yj (qm M) (λ u j C E g B=>by
  have:=(hI.zT j u g B).2 (d j (R.du.lt u j g));omega)
 have e:∀x o,(sts M).H.get x=B1 o->X.get x=B1 o:=by
  intro x o h;rcases A x o h with h|⟨j,u,n,r,y,G,I,rfl,J⟩
  .exact hI.R7 x o h
  .exact hI.AB j u (d j (R.du.lt u j y)) y G n r I o J
 refine⟨θ,a,w,cs,.normal,C1 hs,⟨(hI.heap.sub e).up f,λ t v F=>?_,hI.size,?_,?_,AE.up (Ag.refl _ _) f hI.round⟩,hI.grow.sub (R.ext (p:=0) (p':=M) (by omega) (qm _)).1 e,trivial,by rw[s];exact hI.Nq,hI.BR⟩
 .have ⟨c,n,r⟩:=R' R hI (t:=t) (λ j u _ g _=>d j (R.du.lt u j g)) v F;exact⟨c,n,r.up (Ag.refl _ _) f⟩
 .rw [z];exact ib.up (Ag.refl _ _) f hI.aZ
 .rw [s];exact rH.up (Ag.refl _ _) f hI.up
set_option maxHeartbeats 1000000 in
def xld(R:RG P rt nt ops l plan sts M)(hP:d9 P)(C:rX P base rt.call)(A:xQ P base rt.round)(hAP:rt.AP=bq P)(hcm:p9 rt.call)(hrm:Aq rt.round){steps:List aP}(e:dB (plan.map (jD ops l (NH ops (aW ops l) plan)))=B1 steps)
 {r:aX×St} (y:wE rt steps sts M r) (hfr:eG D0 (sts 0).H.au r.2.H.au) (hMn:(sts M).H.au<=r.2.H.au) (h0:∀x o,(sts 0).H.get x=B1 o->D0 x) {L:List Nat} (hL:Order (aW ops l) L) {k:List Item} :
 ∀(rest S:List Nat),L=S++rest -> ∀{q:Nat}{X:ar}{θ:Th}{a:Act}{w:N6}{cs:List NM}{m:Machine},Inv P base D0 θ0 w0 kX b nt rt.ctx.round ops l plan sts M S q X θ a w cs->Steps P m (lone (b.atR a (.inRegion ops rest::k)) cs w) ->
  Out P base D0 θ0 b nt rt.ctx.round k (sts 0) kX w0 m r.1 r.2:=by
 have hsl:steps.length=plan.length:=by have:=(zZ e).1;simpa using this
 -- where the run ended
 have Q:M=plan.length \/ ∃j,plan[M]? = B1 (B2,j):=by
  rcases y with⟨G,_⟩|⟨s,vs,c,H',ds,G,I,_⟩
  .left;omega
  .right;have:=(zZ e).2 _ s G;rw[xq,xr]at this;have⟨⟨ch,j⟩,h3,h4⟩:=this;obtain⟨o,ca,g,_,_,_,rfl⟩:=Nv h4;have I:ch=false:=I;subst I;exact⟨j,h3⟩
 intro rest
 induction rest with
 |nil =>
  intro S B q X θ a w cs m hI hs;rw[zp]at B;have O:∀i,i<ops.size->i∈S:=λ i hi=>B▸hL.all i hi;rcases y with⟨_,rfl⟩|⟨s,vs,c,H',ds,G,I,_⟩
  .exact ag6 R hI O (hs.trans (.one stepR_region_end))
  .exfalso;rcases Q with h|⟨j,hj⟩
   .rw [jp (by omega)]at G;cases G
   .have ⟨p,Z,hp2⟩:=hI.TN j (O j (R.du.lt M j hj));have:=R.du.one _ _ _ hj Z;omega
 |cons i rest ih =>
  intro S B q X θ a w cs m hI hs;have⟨F,z⟩:=hL.gF S i rest B;have hin:i<(aW ops l).n:=hL.lt i (by rw[B];simp);have⟨p,hp⟩:=R.du.all i hin
  by_cases hpM:p<M
  .have ⟨q',X',θ',a',w',cs',g1,g2⟩:=xle R hP C A hAP hI hp hpM F z hfr hMn Q h0 (k:=k) (rest:=rest);exact ih (S ++ [i]) (by rw[B];simp) g2 (hs.trans g1)
  .-- the one that panics
   rcases y with⟨G,_⟩|⟨s,vs,c,H',ds,G,I,hw,he,hop,hps,rfl⟩
   .have:=(qt.1 hp).1;omega
   .have hsM:=(zZ e).2 _ s G;rw[xq,xr]at hsM;have⟨⟨ch,i0⟩,h3,h4⟩:=hsM;obtain⟨o,ca,g,ho,Y,hsg,rfl⟩:=Nv h4;have I:ch=false:=I;subst I;have hi0S:i0∉S:=λ h=>by
     have⟨p',Z,hp2⟩:=hI.TN i0 h;have:=R.du.one _ _ _ h3 Z;omega
    have U:NH ops (aW ops l) plan i0=B1 ds:=hps;unfold NH at U;rcases yi U with⟨hsafe,E⟩|⟨_,E⟩
    .have hii:i=i0:=by
      have:=SA hsafe i hin;simp only[GW,jy]at this;rcases this with h|h|h
      .exact h
      .exfalso;rw[Qb]at h;rcases h with h|h
       .simp at h
       .have ⟨p',k1,k2⟩:=xdz h;have:=R.du.one _ _ _ hp k1;subst this;exact k2 M (by omega) h3
      .exact absurd (z i0 h) hi0S
     subst hii;have hpe:=R.du.one _ _ _ hp h3;subst hpe;have hco:gE P o=B1 ca:=by
      have:=(zZ R.comp).2 _ ca Y;rw[xq,vh,ho]at this
      simpa using this
     have⟨xs,hxs,hok,hdef⟩:=Nz hP hco;have⟨hwant,hopd⟩:=xmi R (s:={iB:=B2,dst:=o.dst,guard:=g,args:=ca.1,op:=ca.2,cP:=NH ops (aW ops l) plan i}) hI hp (qm _) F z ho Y rfl hsg;have hce:(aW ops l).cls i=.gT:=by
      have:(aW ops l).cls i=qO ca.2:=by
       have hla':l[i]? = B1 ca:=Y;simp[aW,om,hla']
      rw[this];have d:iD rt (sts p) vs ca.2=B1 (.panic c H'):=hop;cases W:ca.2 with
      |pure f=>rw[W]at d;simp only[iD,qj,qk,reduceCtorEq,and_false,exists_false]at d
      |read f=>rw[W]at d;simp only[iD,qj,qk,reduceCtorEq,and_false,exists_false]at d
      |alloc f=>rw[W]at d;simp only[iD,qj,qk,reduceCtorEq,and_false,exists_false]at d
      |_=>rfl
     have hqp:=Ox R hI hp F hce;have⟨k1,k2,k3⟩:=SU R hI hp (qm _) F z hqp (.inr hce);have N:(sts p).H.au<=H'.au:=hMn;have K:=DS.fresh R (S:=S) hp (qm _) F hfr (m:=H'.au) (qm _) (λ h=>absurd h (Gp _));have hout:=Zr hP C A hAP hok hdef (rest:=rest) (k:=k) (st:=sts p) (cs:=cs) (r:=.panic c H') ho (hwant hw) (hI.heap.sub k3) (by rw[k1];exact hI.aZ) (by rw[k2];exact hI.up) hI.round (hopd hxs he) hop K;have⟨θ',w',ps,todo,g1,g2,g3,g4,g5⟩:=hout;have V:∀x,Up (DS D0 plan sts p S) (sts p).H.au H'.au x->Up D0 (sts 0).H.au H'.au x:=by
      rintro x (h|⟨G,I⟩)
      .exact DS.below R N x h
      .exact .inr ⟨xx (R.ext (p:=0) (p':=p) (by omega) (qm _)).1 G,I⟩
     have J:∀x,DS D0 plan sts p S x->Up D0 (sts 0).H.au H'.au x:=λ x hx=>V x (.inl hx);have hG:=(hI.grow.sub (R.ext (p:=0) (p':=p) (by omega) (qm _)).1 k3).trans g3 (λ x hx=>.inl hx);refine⟨θ',a,w',cs,.panic ps,⟨todo,C1 (hs.trans g1)⟩,⟨g2.up V,λ t v hv=>?_,hI.size,?_,?_,AE.up g3.ag J hI.round⟩,hG,⟨g4,fU.up (Ag.refl _ _) V g5⟩,?_,hI.BR⟩
     .have hv:(forget ds (sts p).tm).get t=B1 v:=hv;rw[T.rM]at hv;split at hv
      .cases hv
      .rename_i hnt;have⟨c',k4,k5⟩:=R' R hI (t:=t) (λ j u hu hj hd=>by
        exfalso;apply hnt;injection E with E
        rw[<-E];unfold ir at hd;rw[qj]at hd;have⟨oj,hoj,hd⟩:=hd;rw[List.mem_filterMap];exact⟨oj,by have:=Array.mem_of_getElem? hoj;simpa using this,hd⟩) v hv
       exact⟨c',k4,k5.up g3.ag J⟩
     .show ib _ θ' (sts p).aZ a.defers;rw[k1];exact ib.up g3.ag J hI.aZ
     .show rH _ θ' b.kind (sts p).up cs;rw[k2];exact rH.up g3.ag J hI.up
     .show (sts p).up.isSome=(sts 0).up.isSome;rw[k2];exact hI.Nq
    .cases E
end
set_option maxHeartbeats 1000000 in
theorem xid{P:Jl}{base:Nat}(U:d9 P){rt:RT}(X:rt.AP=bq P)(F:rX P base rt.call)(B:xQ P base rt.round)(G:p9 rt.call)(L:Aq rt.round):NO P base rt:=by
 intro nt id ops c m D0 θ0 b k st a cs w r E hr hf;unfold iS at m;split at m
 .rename_i O;simp only[qj,vG]at m;have⟨l,hl,m⟩:=m;rcases yi m with⟨f,m⟩|⟨_,m⟩
  .simp only[qj,qk]at m;obtain⟨steps,e,rfl⟩:=m;generalize nq (aW ops l).cls (aW ops l).gF ops.size (2*ops.size) 0 []=plan at f e;rw[zm]at f;have hF:yX (aW ops l) plan:=ah2 rfl rfl f.1 f.2;have hr:(ic steps).run rt st=B1 r:=hr;have⟨sts,M,hs0,hM,Q,y⟩:=q8s hr;have hsl:steps.length=plan.length:=by have:=(zZ e).1;simpa using this
   have z:∀p,p<M -> ∃q s o ca g,plan[p]? = B1 q/\ops[q.2]? = B1 o/\gE P o=B1 ca/\l[q.2]? = B1 ca/\guardOf ops o.guard=B1 g/\s.iB=q.1/\s.dst=o.dst/\s.guard=g/\s.args=ca.1/\s.op=ca.2/\kD rt s (sts p) (sts (p+1)):=by
    intro p hp;have⟨s,V,h2⟩:=Q p hp;have:=(zZ e).2 _ s V;rw[xq,xr]at this;have⟨q,h3,W⟩:=this;obtain⟨o,ca,g,ho,A,S,rfl⟩:=Nv W;have n:gE P o=B1 ca:=by
     have:=(zZ hl).2 _ ca A;rw[xq,vh,ho]at this
     simpa using this
    exact⟨q,_,o,ca,g,h3,ho,n,A,S,rfl,rfl,rfl,rfl,rfl,h2⟩
   have J:∀p,p<M->Ext (sts p).H (sts (p+1)).H:=by
    intro p hp;have⟨q,s,o,ca,g,_,_,n,_,_,_,_,_,_,hso,h⟩:=z p hp;have⟨xs,_,K,_⟩:=Nz U n;cases h with
    |skip m hw h=>rw[h];exact Ext.refl _
    |look m d hd h hl=>rw[h];exact Ext.refl _
    |run m hw vs v d u H' he ho h =>
     rw[hso]at ho;have:=Xg G L K.mono ho;rw[h];exact this
   have R:RG P rt nt ops l plan sts M:=⟨hl,O,hF,by omega,z,J⟩
   have Y:(sts M).H.au<=r.2.H.au:=by
    rcases y with⟨_,rfl⟩|⟨s,vs,c,H',ds,V,_,_,_,hop,_,rfl⟩
    .exact qm _
    .have:=(zZ e).2 _ s V;rw[xq,xr]at this;have⟨q,h3,W⟩:=this;obtain⟨o,ca,g,ho,A,S,rfl⟩:=Nv W;have n:gE P o=B1 ca:=by
      have:=(zZ hl).2 _ ca A;rw[xq,vh,ho]at this
      simpa using this
     have⟨xs,_,K,_⟩:=Nz U n;exact xhb G L K.mono hop
   have hL:=q47 (ops:=ops) (I:=aW ops l) rfl (λ i=>rfl) hF (w.tape w.drawn (.order b.fn id));have C:Region.schedule (P.follows .mixedOrders) ops (w.tape w.drawn (.order b.fn id))=CK .any ops (w.tape w.drawn (.order b.fn id)):=by
    rw[U.mixed];rfl
   subst hs0;have hI:Inv P base D0 θ0 w cs b nt rt.ctx.round ops l plan sts M [] 0 (sts 0).H θ0 a {w with drawn:=w.drawn+1} cs:=by
    have N:DS D0 plan sts M []=D0:=DS.nil;refine⟨by rw[N];exact E.heap.draw rfl,bG.draw rfl rfl rfl rfl,λ x o hx=>hx,λ j p hj=>by simp at hj,xw _,λ i p _ _=>by simp,.inl rfl,by rw[N];exact E.aZ,by rw[N];exact E.up,rfl,fG.refl E.up,
     λ t=>⟨0,xw _,λ v hv=>by rw[N];exact E.vA t v hv,λ j p hj=>by simp at hj,.inl rfl⟩,E.size,by rw[N];exact E.round,λ i Z=>by simp at Z,λ i Z=>by simp at Z⟩
   refine xld R U F B X G L e y hf Y (λ x o hx=>(E.heap.obj x o hx).1) hL _ [] rfl hI (.one ?_);rw[stepR_region_draw,C];rfl
  .cases m;cases hr
 .cases m
end Go.Am
namespace Go.Am
section
variable{P:Jl}{base:Nat}
def xbm:∀(vs:List AV)(i:Nat)(t:T AV)(j:Nat),(jY i vs t).get j=if i<=j/\j<i+vs.length then vs[j-i]? else t.get j
 |[],i,t,j=>by grind [jY]
 |v::vs,i,t,j=>by
  rw[jY,xbm vs (i+1),T.aK]
  grind
def Ke{D:Nat->Prop}{θ:Th}{vs:List AV}{args:Array K1}(h:bN D θ vs args.toList)(n:Nat):pR D θ (jY 0 vs .nil) (args++Cf n undef):=by
 intro t v d;rw[xbm,T.get_nil]at d;split at d
 .rename_i g;rw[Nat.sub_zero]at d;have⟨c,e,f⟩:=h.qK d
  grind
 grind
def Ee{D:Nat->Prop}{θ:Th}:∀{e:List Nat}{vs:List AV}{cs:List K1}{tm d:T AV}{a:Array K1},Li tm e vs=B1 d->bN D θ vs cs->(∀p∈e,p<a.size)->pR D θ tm a ->
 cs.length=e.length/\pR D θ d ((e.zip cs).foldl (λ tmps(t,x)=>tmps.setIfInBounds t x) a)/\((e.zip cs).foldl (λ tmps(t,x)=>tmps.setIfInBounds t x) a).size=a.size
 |[],[],cs,tm,d,a,h,hv,hp,ht=>by
  cases h;rw[hv.mC];simp_all
 |p::e,v::vs,cs,tm,d,a,h,hv,hp,ht=>by
  obtain⟨c,cs',rfl,f,g⟩:=hv.eI;have⟨i,j,k⟩:=Ee (tm:=tm.set p v) (a:=a.setIfInBounds p c) h g (by grind) (ht.put (hp p (by simp)) f);simp_all
 |[],_::_,_,_,_,_,h,_,_,_=>by cases h
 |_::_,[],_,_,_,_,h,_,_,_=>by cases h
def zR(a:Array K1):ResultVar->Sem K1
 | .tmp t=>pure (a.getD t undef)
 | .cell x t=>do loadVar t (<-asAddr (a.getD x undef))
def xjl(fn:Func)(a:Array K1):results fn a=(do let vs <-fn.results.mapM (zR a);pure (if h:vs.size=1 then vs[0]else .tuple vs)):=rfl
def xdh{D:Nat->Prop}{θ:Th}{H:ar}{w:N6}(q:HR P base D θ H w){tm:T AV}{a:Array K1}(j:pR D θ tm a){r:ResultVar}{rs:List ResultVar}{k:eE}{e:List eE}
 (g:rN P (r::rs)=B1 (k::e)) {v:AV} (d:Nk H tm k=B1 v):rN P rs=B1 e /\ ∃c,(zR a r).run P w=.ok c w/\VR D θ v c:=by
 cases r with
 |tmp t =>
  simp only[rN,qj,qk,zz]at g;obtain⟨l,hl,rfl,rfl⟩:=g;have⟨c,p,f⟩:=j t v d;simp_all[zR]
 |cell x t =>
  simp only[rN,qj,qk,zz]at g;obtain⟨n,hn,l,hl,rfl,rfl⟩:=g;refine⟨hl,?_⟩;have⟨z,A⟩:=Ur (w:=w) hn;cases n with
  |none =>
   simp only[Nk,qj]at d;have⟨u,hu,d⟩:=d;split at d
   .rename_i b o;have⟨c,p,f⟩:=j x _ hu;have⟨m,y,s⟩:=q.ae d;have h:a.getD x undef=.pointer (B1 ⟨θ.cq b,θ.off b+o,B5⟩):=by
     have:=f.now;simp_all[aB]
    simp_all[zR,asAddr,loadVar]
   grind
  |some n =>
   simp only[Nk,qj]at d;have⟨u,hu,d⟩:=d;split at d
   .rename_i b o;have⟨c,p,f⟩:=j x _ hu;simp only[qj,qk]at d;obtain⟨B,i,rfl⟩:=d;have⟨m,y,s,_⟩:=q.aq i;have h:a.getD x undef=.pointer (B1 ⟨θ.cq b,θ.off b+o,B5⟩):=by
     have:=f.now;simp_all[aB]
    exact⟨.agg m.toArray,by simp_all[zR,asAddr,loadVar],.agg s⟩
   grind
def t_{D:Nat->Prop}{θ:Th}{H:ar}{w:N6}(f:HR P base D θ H w){tm:T AV}{a:Array K1}(g:pR D θ tm a):∀{rs:List ResultVar}{d:List eE},rN P rs=B1 d -> ∀{vs:List AV},eD H tm d=B1 vs ->
 ∃cs:List K1,(rs.mapM (zR a)).run P w=.ok cs w/\bN D θ vs cs
 |[],d,hc,vs,hv=>by
  cases hc;cases hv;exact⟨[],by simp,.nil⟩
 |r::rs,d,hc,vs,hv=>by
  obtain⟨n,e,rfl⟩:∃x l,d=x::l:=by
   cases r<;>(grind [rN,qj])<;>grind
  simp only[eD,qj,qk]at hv;obtain⟨v,h,m,i,rfl⟩:=hv;have⟨hl,c,o,j⟩:=xdh f g hc h;have⟨cs,p,k⟩:=t_ f g hl i;refine⟨c::cs,?_,.cons j k⟩;simp_all
def xfx{D:Nat->Prop}{θ:Th}{H:ar}{w:N6}(g:HR P base D θ H w){tm:T AV}{a:Array K1}(i:pR D θ tm a){fn:Func}{d:List eE}(f:rN P fn.results.toList=B1 d){vs:List AV}(j:eD H tm d=B1 vs) :
 ∃c,(results fn a).run P w=.ok c w/\VR D θ (jK vs) c:=by
 have⟨cs,n,e⟩:=t_ g i f j;have hl:=e.length;rw[xjl,Array.mapM_eq_mapM_toList];simp only[map_eq_pure_bind,bind_assoc,NG];refine⟨if h:cs.toArray.size=1 then cs.toArray[0]else .tuple cs.toArray,?_,?_⟩
 .simp_all
 .cases vs with
  |nil=>rw[e.mC];exact .tuple .nil
  |cons v vs =>
   cases vs with
   |nil =>
    obtain⟨c,cs',rfl,k,m⟩:=e.eI;rw[m.mC];exact k
   |cons v' vs =>
    have:¬cs.toArray.size=1:=by grind
    rw[dif_neg this];exact .tuple e
def mR(D:Nat->Prop)(θ:Th):Option aI->FrameMode->Prop
 |none,.returning=>True
 |some c,.panicking ps=>c≠[]/\fU D θ c ps
 |_,_=>False
def q7x{fr:NM}{cs:List NM}{w:N6}{r:Nat}{ds:List Deferred}(hm:fr.mode≠ .run)(d:fr.defers = {target:=.collected r,args:=#[]}::ds)(h:w.heap[r]? = B1 (.deferred (B1 []))) :
 step P (lone fr cs w)=.next (lone {fr with defers:=ds} cs (fI w r (.deferred B5))):=by
 refine step_lone_go ?_;have e:=run_takeDeferred (P:=P) h;cases c:fr.mode with
 |run=>grind
 |returning=>simp[stepG,unwind,c,d,Sem.runT_eq,e];rfl
 |panicking ch=>simp[stepG,unwind,c,d,Sem.runT_eq,e];rfl
def ad9{D:Nat->Prop}{θ:Th}{m:Option aI}{up:aI}{j:Option aI}(h:nH m up=B1 j){u:FrameMode}(hu:rj D θ up u):mR D θ j (settle u):=by
 have f:∀{c:aI}{d:List PanicEntry},fU D θ c d->d.dropWhile (!·.goexit)=[]:=by
  intro c
  induction c with
  |nil=>intro d h;cases d with
   |nil=>rfl
   |cons _ _=>exact h.elim
  |cons e es ih =>
   intro d h;cases d with
   |nil=>rfl
   |cons p d =>
    have⟨⟨_,_,g⟩,i⟩:=h;simp_all
 unfold nH at h;split at h
 .cases h;cases u with
  |run=>exact hu.elim
  |returning=>trivial
  |panicking d=>exact absurd rfl hu.1
 .cases h;cases u with
  |run=>exact hu.elim
  |returning=>cases hu
  |panicking d =>
   have⟨_,hu⟩:=hu;cases d with
   |nil=>exact hu.elim
   |cons p d =>
    have⟨⟨k,n,g⟩,i⟩:=hu;have⟨pv,s,r⟩:=p
    grind [settle,mR]
 .cases h;cases u with
  |run=>exact hu.elim
  |returning=>cases hu
  |panicking d =>
   have⟨o,hu⟩:=hu;cases d with
   |nil=>exact hu.elim
   |cons p d =>
    have q:=hu;have⟨⟨k,n,g⟩,i⟩:=hu;have⟨pv,s,r⟩:=p
    grind [settle,mR]
 grind
def XR(R:d9 P){call:b9}(i:rX P base call)(s:p9 call){fn:Func}{rs:List eE}(z:rN P fn.results.toList=B1 rs){tm:T AV} :
 ∀(ds:List aN){m:Option aI}{D:Nat->Prop}{θ:Th}{H:ar}{w:N6}{r:bP×ar}{fr:NM}{cs:List NM},cz call rs tm ds m H=B1 r->HR P base D θ H w->ib D θ ds fr.defers->mR D θ m fr.mode->pR D θ tm fr.tmps ->
  P.funcs[fr.fn]? = B1 fn->eG D H.au r.2.au ->
  ∃θ' w' FP e',Steps P (lone fr cs w) (lone FP cs w')/\FP.fn=fr.fn/\FP.kind=fr.kind/\FP.going P w' e'/\RR (Up D H.au r.2.au) θ' r.1 e'/\HR P base (Up D H.au r.2.au) θ' r.2 w'/\bG D H θ w r.2 θ' w'
 |[],m,D,θ,H,w,r,fr,cs,h,hh,d,hm,ht,hf,hfr=>by
  have C:fr.defers=[]:=by
   cases g:fr.defers with
   |nil=>rfl
   |cons _ _=>rw[g]at d;exact d.elim
  cases m with
  |none =>
   simp only[cz,qj,qk]at h;obtain⟨l,hl,rfl⟩:=h;obtain⟨c,h1,h2⟩:=xfx hh ht z hl;have j:fr.mode=.returning:=by
    cases g:fr.mode<;>rw[g]at hm<;>first|rfl|exact hm.elim
   exact⟨θ,w,fr,.returned c,.refl _ _,rfl,rfl,⟨j,C,fn,hf,h1⟩,by rw[Up.none];exact h2,by rw[Up.none];exact hh,.refl _ _ _ _⟩
  |some c =>
   injection h with h;subst h
   cases g:fr.mode with
   |run=>rw[g]at hm;exact hm.elim
   |returning=>rw[g]at hm;exact hm.elim
   |panicking ps =>
    rw[g]at hm;exact⟨θ,w,fr,.panicked ps,.refl _ _,rfl,rfl,⟨g,C,fn,hf⟩,by rw[Up.none];exact hm,by rw[Up.none];exact hh,.refl _ _ _ _⟩
 | .jC b::ds,m,D,θ,H,w,r,fr,cs,h,hh,d,hm,ht,hf,hfr=>by
  simp only[cz]at h;split at h
  .rename_i k;obtain⟨hDb,co,J,G,rfl,E⟩:=hh.obj _ _ k;cases G with
   |none=>grind
   |some l' =>
    obtain⟨_,y⟩:=E;have y:l'=[]:=y;subst y;cases g:fr.defers with
    |nil=>rw[g]at d;exact d.elim
    |cons e es =>
     rw[g]at d;obtain⟨⟨_,he⟩,d⟩:=d;subst he;have p:fr.mode≠ .run:=by intro q;rw[q]at hm;cases m<;>exact hm.elim
     have A:=q7x (P:=P) (cs:=cs) p g J;have F:=hh.set (o':=.deferred B5) (co':=.deferred B5) k rfl rfl ⟨B5,rfl,trivial⟩;have B:bG D H θ w (H.set b (.deferred B5)) θ (fI w (θ.cq b) (.deferred B5)):=bG.set k rfl (hh.lt k);obtain⟨θ',w',FP,e',U,V,k3,k4,k5,k6,k7⟩:=XR R i s z ds (fr:={fr with defers:=es}) (cs:=cs) h F d hm ht hf hfr;exact⟨θ',w',FP,e',.head A U,V,k3,k4,k5,k6,B.trans k7 (λ _ h=>h)⟩
  grind
 | .fn (.func f) args::ds,m,D,θ,H,w,r,fr,cs,h,hh,d,hm,ht,hf,hfr=>by
  simp only[cz,qj]at h;obtain⟨⟨e,u,H1⟩,S,h⟩:=h;simp only at h;cases e with
  |panic _=>cases h
  |ret v =>
   cases u with
   |none=>cases h
   |some up' =>
    simp only[qj]at h;obtain⟨m',K,h⟩:=h;have o:=qzq s h;have n:=(s _ _ _ _ _ _ _ S).1;cases g:fr.defers with
    |nil=>rw[g]at d;exact d.elim
    |cons dd es =>
     rw[g]at d;obtain⟨⟨c,cap,he,h4,h5⟩,d⟩:=d;subst he;have p:fr.mode≠ .run:=by intro q;rw[q]at hm;cases m<;>exact hm.elim
     have j:rj D θ (m.getD []) fr.mode:=by
      cases m with
      |none =>
       cases t:fr.mode with
       |run=>grind
       |returning=>rfl
       |panicking ps=>rw[t]at hm;exact hm.elim
      |some ch =>
       cases t:fr.mode with
       |run=>grind
       |returning=>rw[t]at hm;exact hm.elim
       |panicking ps=>rw[t]at hm;exact hm
     obtain⟨⟨fn2,c2,U,V⟩,θ',w',cs',fr2,e',s1,s2,s3,s4,Y,s6,O,s8,s9,N⟩:=i D θ H w f args (c++cap) (B1 (m.getD [])) H1 (.ret v) (B1 up') .deferred ({fr with defers:=es}::cs) hh h5 ⟨rfl,j⟩ S (hfr.left o);obtain⟨Q,rfl⟩:=s9;have A:=step_defer (P:=P) (cs:=cs) p g (f:=f) (args:=c++cap) rfl (by
      show(callFunc f (c++cap)).run P w=_
      grind [QT])
     cases e' with
     |panicked _=>exact Y.elim
     |outgrown=>exact Y.elim
     |returned cv =>
      have x:=step_going_returned (P:=P) (c:={{fr with defers:=es}with mode:=Q}) (cs:=cs) s2 s4;have L:=ad9 K N.2;obtain⟨θ2,w2,I,Z,r1,r2,r3,r4,W,X,r7⟩:=XR R i s z ds (fr:={{{fr with defers:=es}with mode:=Q}with mode:=settle Q}) (cs:=cs) h s6 (ib.up O.ag Up.of d) L (ht.up O.ag Up.of) hf (hfr.right n);rw[Up.up n o]at W X;exact⟨θ2,w2,I,Z,.head A (s1.trans (.head x r1)),r2,r3,r4,W,X,O.trans r7 Up.of⟩
 | .fn (.yield _) _::_,m,D,θ,H,w,r,fr,cs,h,_,_,_,_,_,_=>by grind [cz]
def xh9(N:d9 P){call:b9}{n:Nat}(j:rX P base call)(o:p9 call)(r:xQ P base (rounds (bq P) call n n))(F:Aq (rounds (bq P) call n n))
 (O:∀rt:RT,rt.AP=bq P->rX P base rt.call->xQ P base rt.round->p9 rt.call->Aq rt.round->NO P base rt):rX P base (Gh (bq P) call n):=by
 intro D θ H w f vs args up H' e R kind cs hh hv hu h S;simp only[Gh,qj]at h;have⟨af,i,⟨x,dp⟩,U,h⟩:=h;simp only[bq,qj]at i;have⟨fn,E,i⟩:=i;have s:=i;simp only[uH,qj,qk]at s;obtain⟨body,y,⟨ac,L⟩,A,rs,Q,rfl⟩:=s;refine⟨(by grind),?_⟩;have C:∃m,(match x with| .normal=>m=B5| .ret=>m=B5| .panic c=>m=B1 c|_=>False) /\ ∃q,cz call rs dp.tm dp.aZ m dp.H=B1 q/\e=q.1/\R=dp.up/\H'=q.2:=by
  grind [qC,qj]
 obtain⟨m,hm,⟨e1,H1⟩,G,rfl,rfl,rfl⟩:=C;have g:=qzq o G;have B:=(vL N body A).1;have d:H.au<=dp.H.au:=M6 (rt:=⟨bq P,call,rounds (bq P) call n n,n,⟨B5,f⟩⟩) o F B U
 let b:Frame:={(default:NM)with fn:=f,kind:=kind}
 have p:Frame.enter P f args kind=b.atR {tmps:=args++Cf (fn.ntmps-args.size) undef,defers:=[]} [.code body]:=by
  simp[Frame.enter,CH,E,y,b];rfl
 have hS:SR P base D θ b fn.ntmps B5 {tm:=jY 0 vs .nil,aZ:=[],up:=up,H:=H} {tmps:=args++Cf (fn.ntmps-args.size) undef,defers:=[]} cs w :=
  ⟨hh,Ke hv _,by grind,trivial,hu,rfl⟩
 have t:=AW (rt:=⟨bq P,call,rounds (bq P) call n n,n,⟨B5,f⟩⟩) N j r rfl o F (by grind) E i body A (by grind) (b:=b) (k:=[]) hS rfl U (S.left g);rw[<-p]at t;have⟨θ1,z,w1,u,v,K,I,Y,J,Z,h6⟩:=t
 -- the frame that unwinds
 obtain⟨fr,k1,k2,k3,k4,k5,k6⟩:∃fr:NM,Steps P (lone (Frame.enter P f args kind) cs w) (lone fr u w1)/\fr.fn=f/\fr.kind=kind/\fr.defers=z.defers/\fr.tmps=z.tmps/\mR (Up D H.au dp.H.au) θ1 m fr.mode:=by
  cases x with
  |normal =>
   have hm:m=none:=hm;subst hm;cases v<;>try exact J.elim
   exact⟨{b.atR z []with mode:=.returning},(BT K).trans (.one (stepR_end rfl)),rfl,rfl,rfl,rfl,trivial⟩
  |ret =>
   have hm:m=none:=hm;subst hm;cases v<;>try exact J.elim
   have⟨todo,hs⟩:=K.1 rfl;exact⟨{b.atR z todo with mode:=.returning},BT hs,rfl,rfl,rfl,rfl,trivial⟩
  |panic c =>
   have hm:m=B1 c:=hm;subst hm;cases v<;>try exact J.elim
   rename_i ps;have⟨todo,hs⟩:=K;exact⟨{b.atR z todo with mode:=.panicking ps},BT hs,rfl,rfl,rfl,rfl,J⟩
  |exit _=>grind
  |goto _=>grind
 have⟨θ',w',FP,e',r1,r2,r3,r4,V,W,X⟩:=XR N j o Q dp.aZ (fr:=fr) (cs:=u) G I.heap (by rw[k4];exact I.aZ) k6 (by rw[k5];exact I.vA) (by grind) (S.right d);rw[Up.up d g]at V W;refine⟨θ',w',u,FP,e',k1.trans r1,r3.trans k3,r2.trans k2,r4,V,W,Y.trans X Up.of,Z,h6,?_⟩;have:=rH.up (D':=Up (Up D H.au dp.H.au) dp.H.au H'.au) X.ag Up.of I.up
 grind [Up.up]
def xjm(hP:d9 P){call:b9}{m n:Nat}(y:rX P base call)(E:p9 call)(s:xQ P base (rounds (bq P) call m n))(F:Aq (rounds (bq P) call m n))
 (S:∀rt:RT,rt.AP=bq P->rX P base rt.call->xQ P base rt.round->p9 rt.call->Aq rt.round->NO P base rt):xQ P base (rounds (bq P) call m (n+1)):=by
 intro D θ H w l vs args H' e c cs hh hv h hf;simp only[rounds,roundOf]at h;split at h
 .rename_i ls pd f k tm d hget;simp only[qj]at h;have⟨af,B,lp,hlp,tm1,K,⟨x,dp⟩,hq,h⟩:=h;simp only[bq,qj]at B;have⟨fn,hfn,B⟩:=B;obtain⟨R,co,hco,r,rfl,r1,r2,r3,r4,⟨z,af',lp',ka,kb,L1,L2,q1,q2,q3,q4,q5,q6,q7,q8,q9,q10⟩,r6,r7⟩:=hh.obj _ _ hget;have:z=fn:=by grind
  subst this;have:af'=af:=by grind
  subst this;have:lp'=lp:=by grind
  subst this;rw[q4]at K;have⟨z1,z2,z3⟩:=Ee K hv (λ p hp=>qn (q5 p hp) q6) r4;have hsz:args.size=r.params.size:=by simpa using z1
  have hzip:(r.params.zip args).foldl (λ tmps(t,x)=>tmps.setIfInBounds t x) r.tmps=(r.params.toList.zip args.toList).foldl (λ tmps(t,x)=>tmps.setIfInBounds t x) r.tmps:=by
   grind [Array.toList_zip]
  have hy:=run_yield (P:=P) (args:=args) hco hsz;refine⟨r.fn,_,r.assign,r.body,hy,?_⟩;rw[hzip];generalize(r.params.toList.zip args.toList).foldl (λ tmps(t,x)=>tmps.setIfInBounds t x) r.tmps=tmps at z2 z3;cases x with
  |exit _=>cases h
  |goto _=>cases h
  |ret=>cases h
  |panic _=>cases h
  |normal =>
  simp only[qj]at h;have⟨H2,hb,⟨x2,i⟩,hq2,h⟩:=h;rcases yi h with⟨hnd,h⟩|⟨_,h⟩
  .have hma:=(vL hP r.assign q7).1;have hmb:=(vL hP r.body q9).1;have hm1:H.au<=dp.H.au:=M6 (rt:=⟨bq P,call,rounds (bq P) call m n,m,⟨B1 l,f⟩⟩) E F hma hq;have hm2:H2.au<=i.H.au:=M6 (rt:=⟨bq P,call,rounds (bq P) call m n,m,⟨B1 l,f⟩⟩) E F hmb hq2;have hbn:H2.au=dp.H.au:=q3t hb;have hend:H'.au=i.H.au:=by
    grind [GN,qj,xdr]
   let b:Frame:={(default:NM)with fn:=r.fn,kind:=.normal,roundOf:=B1 (θ.cq l)}
   have hb0:Frame.round (θ.cq l) r.fn tmps r.assign r.body .normal=b.atR {tmps:=tmps,defers:=[]} [.code r.assign,.beginRound,.code r.body]:=by
    simp[Frame.round,CH,b]
   have hS:SR P base D θ b z.ntmps (B1 l) {tm:=tm1,aZ:=[],up:=B5,H:=H} {tmps:=tmps,defers:=[]} (c::cs) w :=
    ⟨hh,z2,by grind,trivial,rfl,R,rfl⟩
   have hdr:=S ⟨bq P,call,rounds (bq P) call m n,m,⟨B1 l,f⟩⟩ rfl y s E F;have⟨θ1,a1,w1,cs1,s1,s2,s3,s4,s5⟩:=(AW (rt:=⟨bq P,call,rounds (bq P) call m n,m,⟨B1 l,f⟩⟩) hP y s rfl E F hdr hfn B r.assign q7 q8 (b:=b) (k:=[.beginRound,.code r.body]) hS r3 hq (hf.left (by grind))).normal;rw[<-hb0]at s1;have hcs1:cs1=c::cs:=s5;subst hcs1
   -- the round lV
   have C:θ1.cq l = θ.cq l:=(s3.ag l R).1;unfold beginRound at hb;split at hb
   .rename_i I f1 U J d1 o;cases hb;obtain⟨hDl1,co1,Y,rl,rfl,y1,y2,y3,y4,y5,y6,y7⟩:=s2.heap.obj _ _ o;have hset:=s2.heap.set (o':=.loop .busy I f1 U J d1) (co':=.loop {rl with state:=.busy}) o rfl rfl ⟨_,rfl,rfl,y2,y3,y4,y5,y6,y7⟩;have W:bG (Up D H.au dp.H.au) dp.H θ1 w1 (dp.H.set l (.loop .busy I f1 U J d1)) θ1 (fI w1 (θ1.cq l) (.loop {rl with state:=.busy})):=bG.set o rfl (s2.heap.lt o);have X:=run_beginRound (P:=P) Y y1;rw[C]at X;have hst2:=stepR_beginRound (P:=P) (b:=b) (a:=a1) (k:=[.code r.body]) (cs:=c::cs) (w:=w1) rfl X;have hS2:SR P base (Up D H.au dp.H.au) θ1 b z.ntmps (B1 l) {dp with H:=dp.H.set l (.loop .busy I f1 U J d1)} a1 (c::cs) (fI w1 (θ1.cq l) (.loop {rl with state:=.busy})) :=
     ⟨hset,s2.vA,s2.size,s2.aZ,s2.up,s2.round⟩
    have hf2:eG (Up D H.au dp.H.au) dp.H.au i.H.au:=(hend▸hf).right hm1;have⟨θ2,a2,w2,cs2,e2,v1,v2,v3,v4,v5,v6⟩:=AW (rt:=⟨bq P,call,rounds (bq P) call m n,m,⟨B1 l,f⟩⟩) hP y s rfl E F hdr hfn B r.body q9 q10 (b:=b) (k:=[]) hS2 r3 hq2 hf2;have hcs2:cs2=c::cs:=by
     simp_all[fG]
    subst hcs2;have hnx:({dp with H:=dp.H.set l (.loop .busy I f1 U J d1)}:St).H.au=dp.H.au:=rfl;rw[hnx]at v2 v4;have hupp:Up (Up D H.au dp.H.au) dp.H.au i.H.au=Up D H.au H'.au:=by grind [Up.up]
    rw[hupp]at v2 v4;have A:bG D H θ w i.H θ2 w2:=(s3.trans W Up.of).trans v3 Up.of;have u:Steps P (lone (Frame.round (θ.cq l) r.fn tmps r.assign r.body .normal) (c::cs) w) (lone (b.atR a1 [.code r.body]) (c::cs) (fI w1 (θ1.cq l) (.loop {rl with state:=.busy}))):=by
     refine s1.trans (.one ?_);rw[hst2,C];rfl
    have hdfs:a2.defers=[]:=by
     have:=v2.aZ;cases hq3:i.aZ with
     |nil =>
      rw[hq3]at this;cases hq4:a2.defers with
      |nil=>rfl
      |cons _ _=>rw[hq4]at this;exact this.elim
     |cons _ _=>simp only[hq3]at hnd;cases hnd
    have g:∀(ls:ng)(p:Option ik),da i.H l ls p=B1 H'->(u4 ls=if(p.map mK).isNone then LoopState.ready else LoopState.done) ->
     ∃G,(Instr.endRound (θ.cq l) (p.map mK)).run P w2=.ok (.bool (p.map mK).isNone) G/\HR P base (Up D H.au H'.au) θ2 H' G/\bG D H θ w H' θ2 G:=by
     intro ls p hs hls;unfold da at hs;split at hs
     .rename_i ls2 pd2 f2 k2 V d2 q;cases hs;obtain⟨hDl2,co2,Z,rl2,rfl,y1',y2',y3',y4',y5',y6',y7'⟩:=v2.heap.obj _ _ q;have v:θ2.cq l = θ.cq l:=(A.ag l R).1;have her:=run_endRound (P:=P) (p.map mK) Z;rw[v]at her;refine⟨_,her,?_,?_⟩
      .have:=v2.heap.set (o':=.loop ls p f2 k2 V d2) (co':=.loop {rl2 with state:=if(p.map mK).isNone then .ready else .done,pending:=p.map mK}) q rfl rfl ⟨_,rfl,hls.symm,rfl,y3',y4',y5',y6',y7'⟩;rw[v]at this;exact this
      .have:bG (Up D H.au (i.H.set l (.loop ls p f2 k2 V d2)).au) i.H θ2 w2 (i.H.set l (.loop ls p f2 k2 V d2)) θ2 (fI w2 (θ2.cq l) (.loop {rl2 with state:=if(p.map mK).isNone then .ready else .done,pending:=p.map mK})):=bG.set q rfl (v2.heap.lt q);rw[v]at this;exact A.trans this Up.of
     grind
    unfold GN at h;cases x2 with
    |panic ch =>
     cases h;cases e2<;>try exact v4.elim
     rename_i ps;have⟨todo,hs⟩:=v1;refine⟨θ2,w2,c.raise ps,u.trans ((BT hs).trans (.one ?_)),⟨ps,v4.1,v4.2,rfl⟩,v2.heap,A⟩;exact step_leave_panicked (fr:={b.atR a2 todo with mode:=.panicking ps}) ⟨rfl,hdfs,z,by show P.funcs[r.fn]? = B1 z;grind⟩
    |normal =>
     simp only[qj,qk,zh]at h;obtain⟨H3,Q,rfl,rfl⟩:=h;have⟨G,L,N,O⟩:=g _ _ Q rfl;cases e2<;>try exact v4.elim
     exact⟨θ2,G,_,u.trans ((BT v1).trans (.one (stepR_round_end rfl rfl L))),⟨_,.bool _,rfl⟩,N,O⟩
    |ret =>
     simp only[qj,qk,zh]at h;obtain⟨H3,Q,rfl,rfl⟩:=h;have⟨G,L,N,O⟩:=g _ _ Q rfl;cases e2<;>try exact v4.elim
     have⟨U,hs⟩:=v1.2 rfl;exact⟨θ2,G,_,u.trans ((BT hs).trans (.one (stepR_round_ret rfl rfl L))),⟨_,.bool _,rfl⟩,N,O⟩
    |exit id =>
     simp only[qj,qk,zh]at h;obtain⟨H3,Q,rfl,rfl⟩:=h;have⟨G,L,N,O⟩:=g _ _ Q rfl;cases e2<;>try exact v4.elim
     rename_i j;have v4:j=id:=v4;subst v4;have⟨U,hx,hs⟩:=v1.2 rfl rfl;exact⟨θ2,G,_,u.trans ((BT hs).trans (.one (stepR_round_exit rfl rfl hx L))),⟨_,.bool _,rfl⟩,N,O⟩
    |goto t =>
     simp only[qj,qk,zh]at h;obtain⟨H3,Q,rfl,rfl⟩:=h;have⟨G,L,N,O⟩:=g _ _ Q rfl;cases e2<;>try exact v4.elim
     rename_i j;have v4:j=t:=v4;subst v4;have⟨U,hx,hs⟩:=v1.2 rfl rfl;exact⟨θ2,G,_,u.trans ((BT hs).trans (.one (stepR_round_goto rfl rfl hx L))),⟨_,.bool _,rfl⟩,N,O⟩
   grind
  grind
 grind
def qzp(i:d9 P){call:b9}{m:Nat}(d:rX P base call)(g:p9 call)
 (f:∀rt:RT,rt.AP=bq P->rX P base rt.call->xQ P base rt.round->p9 rt.call->Aq rt.round->NO P base rt):∀n,xQ P base (rounds (bq P) call m n)
 |0=>by intro D θ H w l vs args H' e c cs _ _ h;cases h
 |n+1=>xjm i d g (qzp i d g f n) (Tq (YX i) g m n) f
def qze(d:d9 P)(c:∀rt:RT,rt.AP=bq P->rX P base rt.call->xQ P base rt.round->p9 rt.call->Aq rt.round->NO P base rt){told:b9}(i:rX P base told)(g:p9 told):∀n,rX P base (nA (bq P) told n)
 |0=>i
 |n+1=>by
  have o:=qze d c i g n;have hm:=T' (YX d) g n;have hs:=xh9 d o hm (qzp d o hm c n) (Tq (YX d) hm n n) c;intro D θ H w f vs args up H' e p kind cs k m hu h j;simp only[nA]at h;split at h
  .rename_i r hr;cases h;exact i D θ H w f vs args up _ _ _ kind cs k m hu hr j
  .exact hs D θ H w f vs args up _ _ _ kind cs k m hu h j
end
end Go.Am
namespace Go.Am
open Go.RowKit
def IV(H:ar):Prop:=∀b o,H.get b=B1 o->own o=B2
def bG.below{D:Nat->Prop}{H H':ar}{θ θ':Th}{w w':N6}(g:bG D H θ w H' θ' w')(hg:IV H):Below w.heap.size w w' :=
 ⟨g.os,g.tape,g.output,g.size,λ k hk=>g.ah k hk λ b o hb ho=>by rw[hg b o hb]at ho;cases ho⟩
variable{P:Jl}
end Go.Am
namespace Go.Am
section
variable{H:Type}
def Mi(P:Jl)(rec:Lx->Ph H->Option (List AV)):Nat->List (Lx×Nat)->List (Ph H)->Option (List AV)
 |_,[],[]=>B1 []
 |k,(t,off)::ts,d::ds=>if off=k then(rec t d).bind λ l=>if l.length=P.cellsOf t then(Mi P rec (k+P.cellsOf t) ts ds).bind λ r=>B1 (l++r)else B5 else B5
 |_,_,_=>B5
def px(P:Jl):Nat->Lx->Ph H->Option (List AV)
 |0,_,_=>B5
 |n+1,t,d=>match P.underlying t,d with
  |some .bool,.lit (.bool b)=>B1 [.bool b]
  |some (.int _),.lit (.int k i)=>B1 [.int k i]
  |some .string,.lit (.string s)=>B1 [.str s]
  |some (.pointer _),.nil=>B1 [.nilp]
  |some (.slice _),.nil=>B1 [.nils]
  |some (.map _ _),.nil=>B1 [.nM]
  |some (.struct fs),.agg ds=>(Mi P (px P n) 0 (fs.toList.map λ f=>(f.type,f.offset)) ds).bind λ l=>if l.length=P.cellsOf t then B1 l else B5
  |some (.array m e),.agg ds=>(Mi P (px P n) 0 ((MX m).map λ i=>(e,i*P.cellsOf e)) ds).bind λ l=>if l.length=P.cellsOf t then B1 l else B5
  |_,_=>B5
variable{P:Jl}{enc:Lx×K1->H}{w:N6}{base:Nat}{sp:Nat->Bool}{held:Bool}
def Wb(θ:Th){rec:Lx->Ph H->Option (List AV)}{g:Lx->List K1->Option (Ph H×List BE)}(c:∀t d l cs p,rec t d=B1 l->g t cs=B1 (d,p)->cw θ l=cs){cs:List K1} :
 ∀{k:Nat}{ts:List (Lx×Nat)}{ds:List (Ph H)}{l:List AV}{xs:List (Ph H×List BE)},Mi P rec k ts ds=B1 l->ts.mapM (λ x=>g x.1 ((cs.drop x.2).take (P.cellsOf x.1)))=B1 xs->xs.map (·.1)=ds ->
  cw θ l=(cs.drop k).take l.length
 |k,[],ds,l,xs,h,hm,e=>by
  grind [Mi,cw]
 |k,(t,off)::ts,ds,l,xs,h,hm,e=>by
  cases ds with
  |nil=>grind [Mi]
  |cons d ds =>
   simp only[Mi]at h;split at h
   .rename_i ho;subst ho;simp only[qj]at h;have⟨l0,i,h⟩:=h;split at h
    .rename_i hlen;simp only[qj,qk]at h;obtain⟨l1,j,rfl⟩:=h;simp only[List.mapM_cons,Option.bind_eq_bind,qj,Option.pure_def,qk]at hm;obtain⟨y,m,ys,f,rfl⟩:=hm;simp only[kh,zz]at e;obtain⟨rfl,e⟩:=e;have n:=c t y.1 l0 _ y.2 i m;have e1:=Wb θ c j f e
     grind [vV,FU]
    grind
   grind
def q8x{α:Type}{f:α->Lx×Nat}{fuel:Nat}{l:List α}{cs:List K1}{xs:List (Ph H×List BE)}
 (h:l.mapM (λ a=>Nd enc P w base sp held fuel (f a).1 ((cs.drop (f a).2).take (P.cellsOf (f a).1)))=B1 xs) :
 (l.map f).mapM (λ x=>Nd enc P w base sp held fuel x.1 ((cs.drop x.2).take (P.cellsOf x.1)))=B1 xs:=by
 rw[List.mapM_map];exact h
theorem Z3(θ:Th):∀(n:Nat){t:Lx}{d:Ph H}{l:List AV},px P n t d=B1 l -> ∀{fuel:Nat}{cs:List K1}{p:List BE},Nd enc P w base sp held fuel t cs=B1 (d,p)->cw θ l=cs
 |0,_,_,_,h,_,_,_,_=>by cases h
 |n+1,t,d,l,h,0,cs,p,ht=>by cases ht
 |n+1,t,d,l,h,fuel+1,cs,p,ht=>by
  have j:∀t d l cs p,px P n t d=B1 l->Nd enc P w base sp held fuel t cs=B1 (d,p)->cw θ l=cs:=λ t d l cs p c o=>Z3 θ n c o;simp only[px]at h;split at h
  .rename_i b hu;cases h;simp only[Nd,hu]at ht
   grind [cw,aB]
  .rename_i k' k i hu;cases h;simp only[Nd,hu]at ht
   grind [cw,aB]
  .rename_i s hu;cases h;simp only[Nd,hu]at ht;split at ht<;>first|grind|skip
   all_goals first|(simp_all[cw,aB];done)|skip
   split at ht
   .simp only[qk,zh,Ph.lit.injEq,Lit.string.injEq]at ht;obtain⟨rfl,_⟩:=ht;rfl
   grind
  .rename_i hu;cases h;simp only[Nd,hu]at ht
   grind [cw,aB,xr]
  .rename_i hu;cases h;simp only[Nd,hu]at ht
   grind [cw,aB,qj,xr]
  .rename_i hu;cases h;simp only[Nd,hu]at ht
   grind [cw,aB,qj]
  .rename_i fs ds hu;simp only[qj]at h;have⟨r,c,h⟩:=h;split at h
   .rename_i hlen;cases h;simp only[Nd,hu]at ht;split at ht
    .rename_i g;have⟨xs,hm,q⟩:=xr.1 ht;have e:=Wb θ j c (q8x (f:=λ f:Field=>(f.type,f.offset)) hm) (by grind)
     grind
    grind
   grind
  .rename_i m e ds hu;simp only[qj]at h;have⟨r,c,h⟩:=h;split at h
   .rename_i hlen;cases h;simp only[Nd,hu]at ht;split at ht
    .rename_i g;have⟨xs,hm,q⟩:=xr.1 ht;have e:=Wb θ j c (q8x (f:=λ i:Nat=>(e,i*P.cellsOf e)) hm) (by grind)
     grind
    grind
   grind
  grind
end
theorem q8i{P:Jl}{w:N6}:∀{laid:List (String×Ph Unit)}{c:List BE},Ph.LaidVars P w laid c -> ∀{n:String}{d:Ph Unit},(n,d)∈laid ->
 ∃g t cs fuel p,P.globalNamed n=B1 g/\(P.globals[g]?).map (·.type)=B1 t/\w.var? P n=B1 cs/\Nd (λ _=>()) P w 0 (λ _=>B4) B2 fuel t cs.toList=B1 (d,p)
 |[],_,_,_,_,h=>by cases h
 |(n',d')::r,c,⟨g,t,cs,fuel,p,q,h1,h2,h3,h4,h5,h6⟩,n,d,h=>by
  rcases kw.1 h with e|h
  .grind
  .exact q8i h5 h
def Fo:List (Nat×List AV)->T bE->T bE
 |[],t=>t
 |(g,l)::r,t=>(Fo r t).set g (.row l 0 (0,0) B2)
def sC(gl:List (Nat×List AV))(n:Nat):ar:=⟨Fo gl .nil,n⟩
def Tz:∀{c:List (Nat×List AV)}{b:Nat}{o:bE},(Fo c .nil).get b=B1 o -> ∃l,(b,l)∈c/\o=.row l 0 (0,0) B2
 |[],b,o,h=>by grind [Fo,T.get_nil]
 |(g,l)::r,b,o,h=>by
  rw[Fo,T.aK]at h;split at h
  .grind
  .have ⟨f,d,e⟩:=Tz h
   grind
def Ps(c:List (Nat×List AV))(n:Nat):IV (sC c n):=λ b o h=>by
 obtain⟨l,_,rfl⟩:=Tz h;rfl
def θ0:Th:=⟨id,λ _=>0,λ _=>0⟩
def HR.given{P:Jl}{w:N6}{d:List (Nat×List AV)}{base:Nat}(hb:base<=w.heap.size)(h:∀g l,(g,l)∈d->g<P.globals.size /\ ∃cs e fz,w.heap[g]? = B1 (.cells cs e fz) /\ ∀θ,cw θ l=cs.toList) :
 HR P base (Lt P.globals.size) θ0 (sC d P.globals.size) w:=by
 refine⟨λ b o hg=>?_,λ b k o o' c _ i _=>?_,λ b o c f=>?_,λ g hg=>⟨hg,rfl,rfl⟩,hb⟩
 .obtain ⟨l,c,rfl⟩:=Tz hg;have⟨j,cs,e,fz,f,i⟩:=h b l c;exact⟨j,_,f,[],cs.toList,[],fz,e,by simp,rfl,λ θ' _=>i θ',λ h=>by cases h⟩
 .rw [Ps d _ b o c]at i;cases i
 .rw [Ps d _ b o c]at f;cases f
def Dk{P:Jl}{w:N6}{laid:List (String×Ph Unit)}(h:laidMet P laid w){n:String}{d:Ph Unit}(hm:(n,d)∈laid){g:Nat}{t:Lx}{c:Nat}{l:List AV}(hg:P.globalNamed n=B1 g)
 (f:(P.globals[g]?).map (·.type)=B1 t) (hl:px P c t d=B1 l):g<P.globals.size /\ ∃cs e fz,w.heap[g]? = B1 (.cells cs e fz) /\ ∀θ,cw θ l=cs.toList:=by
 have⟨j,i,_⟩:=h
 grind [q8i,N6.var?,Z3]
end Go.Am
namespace Go.Am
open Go.RowKit Go.ChangeShapes
def HR.Bq{P:Jl}{w:N6}{d:List (Nat×List AV)}{base n:Nat}{θ:Th}(hb:base<=w.heap.size)(hn:P.globals.size<=n)(m:∀g,g<P.globals.size -> θ.cq g=g /\ θ.off g=0)
 (h:∀b l,(b,l)∈d->b<n /\ ∃pre cs post e fz,w.heap[θ.cq b]? = B1 (.cells (pre++cs++post).toArray e fz)/\pre.length = θ.off b/\bN (Lt n) θ l cs) :
 HR P base (Lt n) θ (sC d n) w:=by
 refine⟨λ b o hg=>?_,λ b p o o' c _ i _=>?_,λ b o c f=>?_,λ g hg=>⟨qn hg hn,m g hg⟩,hb⟩
 .obtain ⟨l,c,rfl⟩:=Tz hg;have⟨j,pre,cs,post,e,fz,f,i,k⟩:=h b l c;exact⟨j,_,f,pre,cs,post,fz,e,rfl,i,k,λ h=>by cases h⟩
 .rw [Ps d _ b o c]at i;cases i
 .rw [Ps d _ b o c]at f;cases f
def Ew(P:Jl)(tp:Lx):Bool :=
 match P.underlying tp with
 |some (.pointer te)=>match P.underlying te with
  |some (.struct ⟨[f]⟩)=>JW f.offset 0 && (match P.underlying f.type with|some .string=>B4|_=>B2) && JW (P.cellsOf te) 1 && JW (P.cellsOf f.type) 1
  |_=>B2
 |_=>B2
structure Qx(P:Jl)(tp:Lx):Prop where
 row:∀u,P.typeName? 3 u=B1 "*errors.errorString" -> u=tp
 ok:Ew P tp=B4
def Og:Ph Unit->Option (List UInt8)
 | .iface nm (.ptr (.agg [.lit (.string text)]))=>if nm = "*errors.errorString" then B1 text else B5
 |_=>B5
def xf0{d:Ph Unit}{s:List UInt8}(h:Og d=B1 s):d=.iface "*errors.errorString" (.ptr (.agg [.lit (.string s)])):=by
 unfold Og at h
 grind
def SQ:Option TypeDesc->Bool
 |some (.interface _)=>B4
 |_=>B2
def zS(P:Jl)(x:String×Ph Unit):Option (Nat×Lx):=(P.globalNamed x.1).bind λ g=>((P.globals[g]?).map (·.type)).map λ t=>(g,t)
def tP(P:Jl)(tp:Lx)(i:Nat)(x:String×Ph Unit):List (Nat×List AV) :=
 match zS P x with
 |none=>[]
 |some (g,t)=>match px P 30 t x.2 with
  |some l=>[(g,l)]
  |none=>match SQ (P.underlying t),Og x.2 with
   |true,B1 s=>[(g,[.iface tp (.ptr i 0)]),(i,[.str s])]
   |_,_=>[]
def rowsOf(P:Jl)(tp:Lx):Nat->List (String×Ph Unit)->List (Nat×List AV)
 |_,[]=>[]
 |i,x::r=>tP P tp i x++rowsOf P tp (i+1) r
def VF(P:Jl)(tp:Lx)(laid:List (String×Ph Unit)):ar:=sC (rowsOf P tp P.globals.size laid) (P.globals.size+laid.length)
def q8r{P:Jl}{tp:Lx}:∀{laid:List (String×Ph Unit)}{i b:Nat}{l:List AV},(b,l)∈rowsOf P tp i laid -> ∃j x,laid[j]? = B1 x/\(b,l)∈tP P tp (i+j) x
 |[],i,b,l,h=>by cases h
 |x::r,i,b,l,h=>by
  rcases jm.1 h with h|h
  .exact ⟨0,x,rfl,h⟩
  .have ⟨j,y,c,d⟩:=q8r h;exact⟨j+1,y,by simpa using c,by grind⟩
def mn{P:Jl}{x:String×Ph Unit}{g:Nat}{t:Lx}(h:zS P x=B1 (g,t)):P.globalNamed x.1=B1 g/\(P.globals[g]?).map (·.type)=B1 t:=by
 grind [zS,qj]
def tJ(P:Jl)(tp:Lx)(w:N6)(x:String×Ph Unit)(a:Addr):Prop :=
 ∀g t s,zS P x=B1 (g,t)->SQ (P.underlying t)=B4->Og x.2=B1 s ->
  a.spot=B5/\(∃e fz,w.heap[g]? = B1 (.cells #[.iface tp (.pointer (B1 a))] e fz)) /\ ∃cs e fz,w.heap[a.block]? = B1 (.cells cs e fz)/\cs[a.off]? = B1 (.string ⟨s.toArray⟩)
def GF{P:Jl}{tp:Lx}(K:Qx P tp){w:N6}{laid:List (String×Ph Unit)}(h:laidMet P laid w){x:String×Ph Unit}(X:x∈laid):∃a,tJ P tp w x a:=by
 by_cases V:∃g t s,zS P x=B1 (g,t)/\SQ (P.underlying t)=B4/\Og x.2=B1 s
 .obtain ⟨g,t,s,I,J,o⟩:=V;obtain⟨Y,Z⟩:=mn I;have Q:=xf0 o;obtain⟨k,C,U,i⟩:=h;have key:∀{laid:List (String×Ph Unit)}{k:List BE},Ph.LaidVars P w laid k->x∈laid ->
   ∃g t cs fuel p,P.globalNamed x.1=B1 g/\(P.globals[g]?).map (·.type)=B1 t/\w.var? P x.1=B1 cs/\Nd (λ _=>()) P w 0 (λ _=>B4) B2 fuel t cs.toList=B1 (x.2,p) /\ ∀q∈BE.row ⟨g,0,B5⟩ cs.size,q∈k:=by
   intro laid
   induction laid with
   |nil=>grind
   |cons y r ih =>
    intro k C hm;obtain⟨g,t,cs,fuel,p,q,e1,e2,F,n,G,e6⟩:=C
    grind
  obtain⟨g',t',cs,fuel,p,e1,e2,F,n,G⟩:=key C X;obtain rfl:=CM (Y.symm.trans e1);obtain rfl:=CM (Z.symm.trans e2);rw[Q]at n;obtain⟨ms,S⟩:∃ms,P.underlying t=B1 (.interface ms):=by
   unfold SQ at J
   grind
  obtain⟨j,f,hp,he,ho,hs,z,A⟩:∃j f,P.underlying tp=B1 (.pointer j)/\P.underlying j=B1 (.struct #[f])/\f.offset=0/\P.underlying f.type=B1 .string/\P.cellsOf j=1/\P.cellsOf f.type=1:=by
   have:=K.ok;unfold Ew at this;split at this
   .rename_i j W;split at this
    .rename_i f hf;simp only[zm,jy]at this
     grind
    grind
   grind
  have d:=F;unfold N6.var? at d;rw[e1]at d;simp only[qr]at d;split at d
  .rename_i c e fz hc;injection d with d;subst d
   have ok:∀u v,c.toList=[.iface u v]->BQ P w .any 0 u v:=λ u v q=>by
    have B:c.size=1:=by simpa using congrArg List.length q
    refine(i g 0 (G _ (by rw[B];simp[BE.row]))).2 u v ?_;have O:c[0]? = B1 (.iface u v):=by rw[<-vh,q];rfl
    grind [World.cell?]
   obtain⟨a,sb,q1,m,q3,q4,_⟩:=errorString_of_trod S K.row hp he rfl ho hs z A n ok;refine⟨a,λ N t2 s2 r1 r2 r3=>?_⟩;obtain⟨rfl,rfl⟩:g=N/\t=t2:=by grind
   obtain rfl:=CM (o.symm.trans r3);refine⟨N6.cell?_spot m,(by grind [Array.eq_one_of_toList]),?_⟩;unfold World.cell? at m;split at m
   .rename_i cs' e' L R;refine⟨_,_,_,R,?_⟩;rw[<-q3];have E:a.spot=B5/\cs'[a.off]? = B1 (.string sb):=by simpa using m
    rw[E.2]
   grind
  grind
 .exact ⟨default,λ g t s I J o=>(by grind)⟩
def u5{P:Jl}{tp:Lx}{w:N6}{laid:List (String×Ph Unit)}(h:laidMet P laid w)(r:∀x∈laid,∃a,tJ P tp w x a) :
 ∃θ:Th,(∀g,g<P.globals.size -> θ.cq g=g /\ θ.off g=0) /\ ∀b l,(b,l)∈rowsOf P tp P.globals.size laid->b<P.globals.size+laid.length /\ ∃pre cs post e fz,w.heap[θ.cq b]? = B1 (.cells (pre++cs++post).toArray e fz)/\pre.length = θ.off b/\bN (Lt (P.globals.size+laid.length)) θ l cs:=by
 have c:∀j:Nat,∃a:Addr,∀x,laid[j]? = B1 x->tJ P tp w x a:=λ j=>by
  cases f:laid[j]? with
  |none=>simp_all
  |some x =>
   have⟨a,ha⟩:=r x (zd f);exact⟨a,λ y J=>by grind⟩
 have⟨F,p⟩:=Classical.axiomOfChoice c
 let N:=P.globals.size
 refine⟨⟨λ b=>if b<N then b else(F (b-N)).block,λ b=>if b<N then 0 else(F (b-N)).off,λ _=>0⟩,λ g hg=>(by grind),λ b l hm=>?_⟩;have⟨j,x,f,hm⟩:=q8r hm;have v:=(qt.1 f).1;unfold tP at hm;split at hm
 .cases hm
 .rename_i g t k;have⟨A,B⟩:=mn k;have hg:g<N:=by
   grind
  split at hm
  .rename_i K hl;simp only[ve,zh]at hm;obtain⟨rfl,rfl⟩:=hm;have⟨_,cs,e,fz,I,m⟩:=Dk (d:=x.2) (n:=x.1) h (zd f) A B hl;refine⟨(by omega),[],cs.toList,[],e,fz,?_,by simp[hg],λ θ' _=>m θ'⟩;simp_all
  .split at hm
   .rename_i s u hs;have⟨C,⟨e,fz,L⟩,cs,e',i,E,G⟩:=p j x f g t s k u hs;rcases kw.1 hm with hm|hm
    .cases hm;refine⟨(by omega),[],[.iface tp (.pointer (B1 (F j)))],[],e,fz,?_,by grind,?_⟩
     .grind
     .refine .one (.iface ?_);have:=VR.ptr (D:=Lt (N+laid.length)) (θ:=⟨λ b=>if b<N then b else(F (b-N)).block,λ b=>if b<N then 0 else(F (b-N)).off,λ _=>0⟩) (b:=N+j) (o:=0) (by show N+j<_;omega);have hn:¬N+j<N:=by omega
      simp only[hn,wn,Oc,Ah]at this;have q:(F j)=⟨(F j).block,(F j).off,B5⟩:=by rw[<-C]
      grind
    .simp only[ve,zh]at hm;obtain⟨rfl,rfl⟩:=hm;have hn:¬N+j<N:=by omega
     have z:=(Tu.1 G).1;refine⟨by omega,cs.toList.take (F j).off,[.string ⟨s.toArray⟩],cs.toList.drop ((F j).off+1),e',i,?_,?_,.one (.str s)⟩
     .show w.heap[if N+j<N then _ else(F (N+j-N)).block]? = _;rw[qy hn,Oc,E];congr 2
      grind
     grind
   grind
def HR.u5{P:Jl}{tp:Lx}{w:N6}{laid:List (String×Ph Unit)}(h:laidMet P laid w)(e:∀x∈laid,∃a,tJ P tp w x a){base:Nat}(hb:base<=w.heap.size) :
 ∃θ,HR P base (Lt (P.globals.size+laid.length)) θ (VF P tp laid) w:=by
 have⟨θ,c,d⟩:=Go.Am.u5 h e;exact⟨θ,HR.Bq hb (by omega) c d⟩
def HR.laid{P:Jl}{tp:Lx}(c:Qx P tp){w:N6}{laid:List (String×Ph Unit)}(h:laidMet P laid w){base:Nat}(hb:base<=w.heap.size) :
 ∃θ,HR P base (Lt (P.globals.size+laid.length)) θ (VF P tp laid) w:=HR.u5 h (λ x d=>GF c h d) hb
def xE(laid:List (String×Ph Unit)):Bool:=laid.all λ x=>(Og x.2).isNone
def HR.JB{P:Jl}{tp:Lx}{w:N6}{laid:List (String×Ph Unit)}(hn:xE laid=B4)(h:laidMet P laid w){base:Nat}(hb:base<=w.heap.size) :
 ∃θ,HR P base (Lt (P.globals.size+laid.length)) θ (VF P tp laid) w:=HR.u5 h (λ x c=>⟨default,λ g t s d e f=>by
  have:=Gn.1 hn x c
  grind⟩) hb
end Go.Am
namespace Go.Am
open Go.ChangeShapes Go.WideShapes Go.ChangeAt Go.RowKit
section
variable{H:Type}{enc:Lx×K1->H}{P:Jl}
def xaq{f:Func}{s:ChangeSpec}{apart fresh handsOn again:Bool}{W W':N6}{args:Array K1}{v:K1}{ds gs:List (Ph H)}{before pa pv:List BE}
 (h:Ph.Whole enc P f.params.toList s.vars apart W args.toList ds gs before)
 (e:∀(b:Nat)(sp:Nat->Bool)(m:Bool),Bl enc P W' b sp m f.resultTypes.toList (v.resultList f.resultTypes.size) (s.fn H (ds++gs)).results [])
 (c:∀sp:Nat->Bool,(∀p∈before,sp p.block=B4)->Bl enc P W' 0 sp B4 f.params.toList args.toList (s.fn H (ds++gs)).args pa)
 (d:∀sp:Nat->Bool,(∀p∈before,sp p.block=B4)->Ph.TrodVars enc P W' sp s.vars (s.fn H (ds++gs)).vars pv)
 (n:before=pa++pv) (hb:Below W.heap.size W W')
 (k:∀(j:Nat)(t:Lx)(r:K1),f.resultTypes[j]? = B1 t->(v.resultList f.resultTypes.size)[j]? = B1 r->BQ P W' .any 0 t r) :
 s.post enc P f apart fresh handsOn again W args v W':=by
 have i:∀p∈before,p.block<W.heap.size:=h.lt;have hold:∀p∈before,(λ b=>decide (b<W.heap.size)) p.block=true:=λ p hp=>by grind
 refine⟨ds,gs,before,[],pa,pv,h,e _ _ _,c _ hold,d _ hold,hb.frame _,λ _=>?_⟩;obtain⟨_,_,_,_,_,o,hn⟩:=h;refine⟨k,_,_,([]++pa)++pv,⟨[]++pa,pv,trodAll_append (c _ (λ _ _=>rfl)) (e _ _ _),d _ (λ _ _=>rfl),rfl,?_,?_⟩,?_⟩
 .intro b off hp;have g:BE.cell b off∈before:=by grind
  rw[hb.frozen (p:=⟨b,off,B5⟩) (i _ g)];exact o b off g
 .grind
 grind
end
def Px{P:Jl}(h:(P.funcs.all λ fn=>fn.name != "runtime.NumGoroutine")=B4) (c:P.follows .mixedOrders=B4):d9 P:=by
 refine⟨λ f fn d e=>?_,c⟩
 grind
noncomputable def ZU(P:Jl)(w:N6)(xs:List (String×Ph Unit)):World :=
 {w with heap:=xs.foldl (λ h x=>match zS P x with
  |some (g,t)=>match px P 30 t x.2 with
   |some l=>h.modify g fun
    | .cells _ t fz=>.cells (cw θ0 l).toArray t fz
    |o=>o
   |none=>h
  |none=>h) w.heap}
end Go.Am
namespace Go.Am
open Go.RowKit
mutual
def qx(n:Nat):AV->Bool
 | .ptr b _=>OO b n
 | .slice b _ _ _=>OO b n
 | .gslice b _ _ _ _ _=>OO b n
 | .eslice b=>OO b n
 | .map b=>OO b n
 | .fn _ _ _=>B2
 | .iface _ v=>qx n v
 | .agg l=>YV n l
 | .tuple l=>YV n l
 |_=>B4
def YV(n:Nat):List AV->Bool
 |[]=>B4
 |v::l=>qx n v && YV n l
end
theorem Ag.none{θ θ':Th}:Ag (Lt 0) θ θ':=λ b hb=>by cases hb
mutual
def Rc:AV->AV->Bool
 | .bool a,.bool b=>a == b
 | .int k a,.int k' b=>decide (k=k') && decide (a=b)
 | .str s,.str t=>decide (s=t)
 | .nilp,.nilp=>B4
 | .ptr b o,.ptr b' o'=>JW b b' && JW o o'
 | .nils,.nils=>B4
 | .nM,.nM=>B4
 | .nilf,.nilf=>B4
 | .nili,.nili=>B4
 | .iface t v,.iface t' v'=>JW t t' && Rc v v'
 | .agg l,.agg l'=>vD l l'
 | .tuple l,.tuple l'=>vD l l'
 |_,_=>B2
def vD:List AV->List AV->Bool
 |[],[]=>B4
 |v::l,v'::l'=>Rc v v' && vD l l'
 |_,_=>B2
end
structure rD where
 f:Nat
 args:List AV
 res:AV
def zP(H:ar):List (Nat×List AV)->Bool
 |[]=>B4
 |(b,l)::r=>(match H.get b with|some (.row l' _ _ _)=>vD l l'|_=>B2) && zP H r
def yV(gl:List (Nat×List AV))(H:ar)(f:Nat)(vs:List AV):List rD->Option (bP×Option aI×ar)
 |[]=>B5
 |e::r=>cond (JW f e.f && (vD vs e.args && zP H gl)) (B1 (.ret e.res,B5,H)) (yV gl H f vs r)
def Kv(gl:List (Nat×List AV))(L:List rD):b9:=λ f vs up H =>
 match up with
 |none=>yV gl H f vs L
 |some _=>B5
def HR.below{P:Jl}{base:Nat}{D:Nat->Prop}{θ:Th}{H:ar}{w w':N6}(h:HR P base D θ H w)(hb:Below w.heap.size w w'):HR P base D θ H w':=by
 refine⟨λ b o hg=>?_,h.inj,h.lR,h.eO,xx h.low hb.size⟩;have⟨d,co,c,e⟩:=h.obj b o hg;exact⟨d,co,by rw[hb.block _ (Tu.1 c).1];exact c,e⟩
end Go.Am
