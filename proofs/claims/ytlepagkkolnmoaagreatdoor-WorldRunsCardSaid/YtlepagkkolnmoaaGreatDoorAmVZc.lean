import Derived.Test.YtlepagkkolnmoaaGreatDoorAmVZb
import Derived.Below
import GoSem.ClaimJoined
import Derived.ChangeSame
import Derived.LaidSub
import Derived.LaidLaws
import Derived.WalkKit
import Derived.ProofKit
import Derived.OpenShut
set_option linter.defProp false
set_option linter.unusedVariables false
set_option linter.unusedSimpArgs false
open Array renaming replicate→CA
open Bool renaming false→B2,true→B4
open Go renaming DataW→Ry,Frame→NY,MemPlace→B7,Oper→Pv,Operand→N0,Program→Jy,TypeId→LP,Value→K8,World→NJ
open Go.DataW renaming TrodAll→Be,trod→Om
open Go.Frame renaming atR→Bm
open Go.Oper renaming semAt_eq→Bg
open Go.Region renaming before→C1,binds→Ao,linearise→C0,wanted→Af
open Go.Result renaming andThen_ok→NM
open Go.Sem renaming run_bind→NQ,run_pure→Qh
open Go.StepsIn renaming of_steps→Bh,steps→BP
open Go.Value renaming okWide→BO
open List renaming range→N7
open Nat renaming beq→J8,blt→Pk,testBit_or→CQ
open Option renaming none→B5,some→B1
namespace Go.Am
def RJ{a b:Nat}(h:pX a b=B4){j:Nat}(d:a.testBit j=B4):b.testBit j=true:=by
 unfold pX at h;simp only[kc]at h;have c:(a &&& b).testBit j=a.testBit j:=by
  rw[show a &&& b=Nat.land a b from rfl,h]
 rw[Nat.testBit_and,d]at c
 simpa using c
def SP(a b j:Nat):(Nat.lor a b).testBit j=(a.testBit j ||b.testBit j):=CQ a b j
def Z6(a b j:Nat):(Nat.land a b).testBit j=(a.testBit j && b.testBit j):=Nat.testBit_and a b j
def Wy(i j:Nat):(2 ^ i).testBit j=decide (i=j):=Nat.testBit_two_pow
def PE:∀(l:List (Bool×Nat))(d j:Nat),(bitsOf l d).testBit j=B4↔d.testBit j=B4\/(B2,j)∈l
 |[],d,j=>by simp[bitsOf]
 |(B4,r)::l,d,j=>by rw[bitsOf,PE l];simp
 |(B2,i)::l,d,j=>by
  rw[bitsOf,PE l,SP,Wy];simp only[AK,OD,jj,ze,Eo];constructor
  .rintro ((h|h)|h)
   .exact .inl h
   .exact .inr (.inl h.symm)
   .exact .inr (.inr h)
  .rintro (h|h|h)
   .exact .inl (.inl h)
   .exact .inl (.inr h.symm)
   .exact .inr h
def q5c:∀(l:List (Bool×Nat))(d r:Nat),(nM l d).testBit r=B4->d.testBit r=B4 \/ ∃u:Nat,l[u]? = B1 (B4,r) /\ ∀v:Nat,v<=u -> ∃c,l[v]? = B1 (B4,c)
 |[],d,r,h=>.inl h
 |(B2,i)::l,d,r,h=>.inl h
 |(B4,c)::l,d,r,h=>by
  rw[nM]at h;rcases q5c l _ r h with h|⟨u,e,f⟩
  .rw [SP,Wy]at h;simp only[AK,OD]at h;rcases h with h|h
   .exact .inl h
   .subst h;refine .inr ⟨0,rfl,λ v g=>⟨c,?_⟩⟩;obtain rfl:v=0:=by omega
    rfl
  .refine .inr ⟨u+1,by simpa using e,λ v g=>?_⟩;cases v with
   |zero=>exact⟨c,rfl⟩
   |succ v=>simpa using f v (by omega)
def O9(p:Nat->Bool):∀(n j:Nat),(jB p n).testBit j=B4↔j<n/\p j=B4
 |0,j=>by simp[jB]
 |n+1,j=>by
  rw[jB];cases hp:p n with
  |true =>
   simp only[xv,SP,Wy,AK,OD,O9 p n];constructor
   .rintro (⟨d,c⟩|h)
    .exact ⟨by omega,c⟩
    .subst h;exact⟨by omega,hp⟩
   .rintro ⟨d,c⟩
    by_cases e:n=j
    .exact .inr e
    .exact .inl ⟨by omega,c⟩
  |false =>
   simp only[zo,O9 p n];constructor
   .rintro ⟨d,c⟩;exact⟨by omega,c⟩
   .rintro ⟨d,c⟩;refine⟨?_,c⟩
    by_cases e:n=j
    .subst e;rw[hp]at c;cases c
    .omega
def Sr{p:Nat->Bool}:∀{n:Nat},sN p n=B4 -> ∀i,i<n->p i=B4
 |0,_,i,hi=>by omega
 |n+1,h,i,hi=>by
  rw[sN,zf]at h
  by_cases e:i=n
  .subst e;exact h.1
  .exact Sr h.2 i (by omega)
def Zo(c d:M3):rG c d=B4↔c=d:=by cases c<;>cases d<;>simp[rG]
def VW(t:Nat):∀l,oT t l=B4↔t∈l
 |[]=>by simp[oT]
 |x::l=>by
  rw[oT,AK,VW t l];simp only[kc,jj];constructor
  .rintro (h|h)
   .exact .inl h.symm
   .exact .inr h
  .rintro (h|h)
   .exact .inl h.symm
   .exact .inr h
def Ww{I:mS}:∀{plan:List (Bool×Nat)}{d:Nat},KO I plan d=B4 ->
 (∀pre x post,plan=pre++x::post->N6 I (bitsOf pre d) post x=B4)/\pX (2 ^ I.n-1) (bitsOf plan d)=B4
 |[],d,h=>⟨λ pre x post e=>by simp at e,h⟩
 |(B2,i)::l,d,h=>by
  rw[KO,zf]at h;obtain⟨c,f⟩:=Ww h.2;refine⟨λ pre x post e=>?_,f⟩;cases pre with
  |nil =>
   simp only[z7,zz]at e;obtain⟨rfl,rfl⟩:=e;exact h.1
  |cons y pre =>
   simp only[vx,zz]at e;obtain⟨rfl,e⟩:=e;exact c pre x post e
 |(B4,r)::l,d,h=>by
  rw[KO,zf]at h;obtain⟨c,f⟩:=Ww h.2;refine⟨λ pre x post e=>?_,f⟩;cases pre with
  |nil =>
   simp only[z7,zz]at e;obtain⟨rfl,rfl⟩:=e;exact h.1
  |cons y pre =>
   simp only[vx,zz]at e;obtain⟨rfl,e⟩:=e;exact c pre x post e
structure zG(I:mS)(plan:List (Bool×Nat)):Prop where
 all:∀i:Nat,i<I.n -> ∃p:Nat,plan[p]? = B1 (B2,i)
 lt:∀p i:Nat,plan[p]? = B1 (B2,i)->i<I.n
 one:∀p p' i:Nat,plan[p]? = B1 (B2,i)->plan[p']? = B1 (B2,i)->p=p'
 gn:∀p i j:Nat,plan[p]? = B1 (B2,i)->(I.gn i).testBit j=B4 -> ∃p':Nat,p'<p/\plan[p']? = B1 (B2,j)
 made:∀p i p' j:Nat,plan[p]? = B1 (B2,i)->(I.cls i=.read\/I.cls i=.gY)->plan[p']? = B1 (B2,j)->p'<p->(I.cls j=.alloc\/I.cls j=.gY)->(I.gn i).testBit j=B4
 look:∀p e p' r:Nat,plan[p]? = B1 (B2,e)->I.cls e=.gY->plan[p']? = B1 (B2,r)->p'<p->I.cls r=.read->(I.gn e).testBit r=B2 ->
  ∃u:Nat,p<u/\plan[u]? = B1 (B4,r) /\ ∀v:Nat,p<v->v<=u -> ∃r',plan[v]? = B1 (B4,r')
 again:∀p r:Nat,plan[p]? = B1 (B4,r)->I.cls r=.read/\I.self r=B4/\(∃p':Nat,p'<p/\plan[p']? = B1 (B2,r)) /\
  ∀w p':Nat,plan[p']? = B1 (B2,w)->p'<p->w≠r->I.jW r w=B4->(I.gn r).testBit w=B4
 Jk:∀r w:Nat,r<I.n->w<I.n->r≠w->I.jW r w=B4->(I.gn r).testBit w=B4\/(I.gn w).testBit r=B4
def EE{α:Type}{l:List α}{p:Nat}{x:α}(h:l[p]? = B1 x):l=l.take p++x::l.drop (p+1):=by
 obtain⟨hp,c⟩:=qo.1 h;rw[<-c];simp
def DH{α:Type}{l:List α}{p:Nat}{x:α}:x∈l.take p↔ ∃p':Nat,p'<p/\l[p']? = B1 x:=by
 rw[Qt];constructor
 .rintro ⟨i,c⟩;rw[yv]at c;split at c
  .exact ⟨i,by assumption,c⟩
  .cases c
 .rintro ⟨i,c,h⟩;exact⟨i,by rw[yv,xb c];exact h⟩
def Cj{I:mS}{plan:List (Bool×Nat)}(m:I.made=jB (λ i=>xM (I.cls i)) I.n)(f:I.reads=jB (λ i=>rG (I.cls i) .read) I.n)(h:KO I plan 0=B4)(N:zA I=B4):zG I plan:=by
 obtain⟨J,t⟩:=Ww h;have at_:∀{p:Nat}{x:Bool×Nat},plan[p]? = B1 x->N6 I (bitsOf (plan.take p) 0) (plan.drop (p+1)) x=true:=λ R=>J _ _ _ (EE R);have done:∀p j:Nat,(bitsOf (plan.take p) 0).testBit j=B4↔ ∃p':Nat,p'<p/\plan[p']? = B1 (B2,j):=λ p j=>by
  rw[PE,DH];simp
 have run:∀{p i:Nat},plan[p]? = B1 (B2,i)->i<I.n/\(bitsOf (plan.take p) 0).testBit i=B2/\pX (I.gn i) (bitsOf (plan.take p) 0)=B4 /\
  ((I.cls i=.read\/I.cls i=.gY)->pX (Nat.land (bitsOf (plan.take p) 0) I.made) (I.gn i)=B4) /\
  (I.cls i=.gY->pX (Nat.land (bitsOf (plan.take p) 0) I.reads) (Nat.lor (I.gn i) (nM (plan.drop (p+1)) 0))=B4):=λ{p i}hp=>by
  have:=at_ hp;simp only[N6,zf,vX,Sc]at this;obtain⟨q,s,z,g⟩:=this;refine⟨q,s,z,λ k=>?_,λ k=>?_⟩
  .rcases k with k|k
   .rw [k]at g;exact g
   .rw [k]at g;simp only[zf]at g;exact g.1
  .rw [k]at g;simp only[zf]at g;exact g.2
 have one:∀p p' i:Nat,plan[p]? = B1 (B2,i)->plan[p']? = B1 (B2,i)->p=p':=by
  intro p p' i hp c;rcases Nat.lt_trichotomy p p' with d|rfl|d
  .have:=(run c).2.1;rw[(done p' i).2 ⟨p,d,hp⟩]at this;cases this
  .rfl
  .have:=(run hp).2.1;rw[(done p i).2 ⟨p',d,c⟩]at this;cases this
 refine⟨λ i K=>?_,λ p i hp=>(run hp).1,one,λ p i j hp L=>(done p j).1 (RJ (run hp).2.2.1 L),λ p i p' j hp C c d B=>?_,λ p e p' r hp A c d E F=>?_,λ p r hp=>?_,λ r w hr hw o hm=>?_⟩
 .have:(2 ^ I.n-1).testBit i=true:=by rw[Nat.testBit_two_pow_sub_one];simpa using K
  have:=RJ t this;rw[PE]at this;rcases this with h|h
  .simp at h
  .exact Qt.1 h
 .refine RJ ((run hp).2.2.2.1 C) ?_;rw[Z6,(done p j).2 ⟨p',d,c⟩,m,(O9 _ _ _).2 ⟨(run c).1,?_⟩]
  .rfl
  .simp only[xM,AK,Zo];exact B
 .have:=RJ ((run hp).2.2.2.2 A) (j:=r) (by
   rw[Z6,(done p r).2 ⟨p',d,c⟩,f,(O9 _ _ _).2 ⟨(run c).1,by rw[Zo];exact E⟩];rfl)
  rw[SP,F,Bool.false_or]at this;rcases q5c _ _ _ this with h|⟨u,q,s⟩
  .simp at h
  .rw [yu]at q;refine⟨p+1+u,by omega,q,λ v O Q=>?_⟩;obtain⟨S,y⟩:=s (v-(p+1)) (by omega);rw[yu,show p+1+(v-(p+1))=v from by omega]at y;exact⟨S,y⟩
 .have:=at_ hp;simp only[N6,zf,Zo]at this;obtain⟨q,G,s,z⟩:=this;refine⟨q,G,(done p r).1 s,λ w p' c d o hm=>RJ z ?_⟩;rw[Z6,(done p w).2 ⟨p',d,c⟩,(O9 _ _ _).2 ⟨(run c).1,?_⟩]
  .rfl
  .simp only[zf,Sc,hm,tG];cases hb:J8 w r with
   |false=>rfl
   |true=>simp only[kc]at hb;exact absurd hb o
 .have:=Sr (Sr N r hr) w hw;simp only[AK,kc,hm,Bool.not_true,or_false]at this;rcases this with h|h|h|h
  .exact absurd h o
  .exact .inl h
  .exact .inr h
  .cases h
def xb8(acc:Array Nat)(j:Nat):∀(l:List Edge)(s:Nat),(l.foldl (λ s e=>if Ao .any e then s |||2 ^ e.on |||acc.getD e.on 0 else s) s).testBit j=B4 ->
 s.testBit j=B4 \/ ∃e∈l,Ao .any e=B4/\(e.on=j\/(acc.getD e.on 0).testBit j=B4)
 |[],s,h=>.inl h
 |e::l,s,h=>by
  rw[NH]at h;rcases xb8 acc j l _ h with h|⟨e',c,d⟩
  .split at h
   .rename_i hb;simp only[CQ,Nat.testBit_two_pow,AK,OD]at h;rcases h with(h|h)|h
    .exact .inl h
    .exact .inr ⟨e,by simp,hb,.inl h⟩
    .exact .inr ⟨e,by simp,hb,.inr h⟩
   .exact .inl h
  .exact .inr ⟨e',by simp[c],d⟩
def _z(acc:Array Nat):∀(l:List Edge)(s:Nat),(∀j,s.testBit j=B4->(l.foldl (λ s e=>if Ao .any e then s |||2 ^ e.on |||acc.getD e.on 0 else s) s).testBit j=B4) /\
 ∀e∈l,Ao .any e=B4->(l.foldl (λ s e=>if Ao .any e then s |||2 ^ e.on |||acc.getD e.on 0 else s) s).testBit e.on=B4
 |[],s=>⟨λ j h=>h,λ e he=>by simp at he⟩
 |e::l,s=>by
  obtain⟨d,g⟩:=_z acc l (if Ao .any e then s |||2 ^ e.on |||acc.getD e.on 0 else s);refine⟨λ j f=>?_,λ e' c hb=>?_⟩
  .rw [NH];refine d j ?_;split
   .simp [CQ,f]
   .exact f
  .rw [NH];rcases jj.1 c with rfl|c
   .refine d _ ?_;rw[xb hb];simp[CQ,Nat.testBit_two_pow]
   .exact g e' c hb
def q3p(ops:Array Pv):∀(i:Nat)(o:Pv),ops[i]? = B1 o ->
 (∀e∈o.after.toList,Ao .any e=B4->((C1 ops).getD i 0).testBit e.on=B4) /\
 (∀j,((C1 ops).getD i 0).testBit j=B4 -> ∃e∈o.after.toList,Ao .any e=B4/\(e.on=j\/(e.on<i/\((C1 ops).getD e.on 0).testBit j=B4))):=by
 have key:∀(l:List Pv)(acc:Array Nat),let R:=l.foldl (λ acc o=>acc.push (o.after.foldl (λ s e=>if Ao .any e then s |||2 ^ e.on |||acc.getD e.on 0 else s) 0)) acc
  (∀i,i<acc.size->R.getD i 0=acc.getD i 0)/\acc.size<=R.size /\ ∀(i:Nat)(o:Pv),l[i]? = B1 o ->
   (∀e∈o.after.toList,Ao .any e=B4->(R.getD (acc.size+i) 0).testBit e.on=B4) /\
   (∀j,(R.getD (acc.size+i) 0).testBit j=B4 -> ∃e∈o.after.toList,Ao .any e=B4/\(e.on=j\/(e.on<acc.size+i/\(R.getD e.on 0).testBit j=B4))):=by
  intro l
  induction l with
  |nil=>intro acc;exact⟨λ i p=>rfl,qm _,λ i o h=>by simp at h⟩
  |cons o l ih =>
   intro acc;simp only[NH];generalize q:o.after.foldl (λ s e=>if Ao .any e then s |||2 ^ e.on |||acc.getD e.on 0 else s) 0=v;rw[<-Array.foldl_toList]at q;obtain⟨k,t,g⟩:=ih (acc.push v);generalize(l.foldl (λ acc o=>acc.push (o.after.foldl (λ s e=>if Ao .any e then s |||2 ^ e.on |||acc.getD e.on 0 else s) 0)) (acc.push v))=R at k t g;have n:(acc.push v).size=acc.size+1:=by simp
   have c:∀i,i<acc.size->R.getD i 0=acc.getD i 0:=λ i p=>by
    rw[k i (by omega)];simp[yd,Array.getElem?_push,Ma p]
   have m:R.getD acc.size 0=v:=by
    rw[k acc.size (by omega)];simp[yd,Array.getElem?_push]
   refine⟨c,by omega,λ i o' d=>?_⟩;cases i with
   |zero =>
    simp only[ja,qk]at d;subst d;rw[vc,m,<-q];obtain⟨x,r⟩:=_z acc o.after.toList 0;refine⟨r,λ j u=>?_⟩;rcases xb8 acc j _ _ u with h|⟨e,he,hb,h⟩
    .simp at h
    .refine ⟨e,he,hb,?_⟩;rcases h with h|h
     .exact .inl h
     .by_cases f:e.on<acc.size
      .exact .inr ⟨f,by rw[c _ f];exact h⟩
      .rw [yd,Array.getElem?_eq_none (by omega)]at h;simp at h
   |succ i =>
    have:=g i o' (by simpa using d);rw[n,wq,Nat.add_comm 1 i]at this;exact this
 intro i o ho;obtain⟨_,_,g⟩:=key ops.toList #[];have:=g i o (by rw[kh];exact ho);unfold C1;rw[<-Array.foldl_toList]
 simpa using this
structure Order(I:mS)(L:List Nat):Prop where
 all:∀i,i<I.n->i∈L
 lt:∀i∈L,i<I.n
 gn:∀L1 i L2,L=L1++i::L2->i∉L1 /\ ∀j,(I.gn i).testBit j=B4->j∈L1
def q45{ops:Array Pv}{I:mS}(hn:I.n=ops.size)(q:∀i,I.gn i=(C1 ops).getD i 0){plan:List (Bool×Nat)}(hp:zG I plan)(t:Nat):Order I (C0 .any ops t):=by
 -- an operation that is ready
 let ready (listed:Array Bool) (i:Nat):Bool:=!listed.getD i B4 && ((ops[i]?).map (·.after.all λ e=>!Region.binds .any e ||listed.getD e.on B2)).getD B2
 have hgo:∀(fuel t:Nat)(listed:Array Bool)(acc:List Nat),listed.size=ops.size->(∀i,listed[i]? = B1 B4↔i∈acc/\i<ops.size)->(∀i∈acc,i<ops.size)->acc.Nodup->acc.length+fuel=ops.size ->
  (∀A i B,acc.reverse=A++i::B->i∉A /\ ∀j,(I.gn i).testBit j=B4->j∈A) ->
  Order I (C0.go .any ops fuel t listed acc):=by
  intro fuel
  induction fuel with
  |zero =>
   intro t listed acc U hl s R hlen E;unfold C0.go;refine⟨λ i K=>?_,λ i K=>by rw[hn];exact s i (by simpa using K),E⟩;rw[List.mem_reverse];refine Ob λ S=>?_;have:(i::acc).length<=ops.size:=by
    have hnd':(i::acc).Nodup:=List.nodup_cons.2 ⟨S,R⟩;have u:(i::acc)⊆N7 ops.size:=λ x f=>by
     rw[List.mem_range];rcases jj.1 f with rfl|f
     .rw [<-hn];exact K
     .exact s x f
    have:=hnd'.length_le_of_subset u
    simpa using this
   simp at this;omega
  |succ fuel ih =>
   intro t listed acc U hl s R hlen E;unfold C0.go;simp only
   -- something is ready
   have G:∃i,i<ops.size/\ready listed i=true:=by
    -- the first one of the plan that is not listed
    obtain⟨x,hx1,hx2⟩:∃x,x<ops.size/\x∉acc:=by
     refine Ob λ S=>?_;have u:N7 ops.size⊆acc:=λ x f=>Ob λ h=>S ⟨x,by simpa using f,h⟩;have:=List.nodup_range.length_le_of_subset u;simp at this;omega
    have:∀m p x:Nat,p<m->plan[p]? = B1 (B2,x)->x∉acc -> ∃p0 g:Nat,plan[p0]? = B1 (B2,g)/\g∉acc /\ ∀p' J:Nat,p'<p0->plan[p']? = B1 (B2,J)->J∈acc:=by
     intro m
     induction m with
     |zero=>intro p x hp;omega
     |succ m ihm =>
      intro p x hpm hpx hxa
      by_cases h:∃p' J:Nat,p'<p/\plan[p']? = B1 (B2,J)/\J∉acc
      .obtain ⟨p',J,c,d,X⟩:=h;exact ihm p' J (by omega) d X
      .exact ⟨p,x,hpx,hxa,λ p' J c d=>Ob λ X=>h ⟨p',J,c,d,X⟩⟩
    obtain⟨p,hp1⟩:=hp.all x (by rw[hn];exact hx1);obtain⟨p0,g,c,d,X⟩:=this (p+1) p x (zy _) hp1 hx2;have hx0:g<ops.size:=by rw[<-hn];exact hp.lt _ _ c
    refine⟨g,hx0,?_⟩;obtain⟨o,ho⟩:∃o,ops[g]? = B1 o:=⟨ops[g],by simp[hx0]⟩
    have hnl:listed.getD g B4=false:=by
     have h4:=hl g;rw[yd];cases W:listed[g]? with
     |none=>rw[Array.getElem?_eq_none_iff]at W;omega
     |some v =>
      cases v with
      |false=>rfl
      |true=>rw[W]at h4;exact absurd (h4.1 rfl).1 d
    show(!listed.getD g B4 && _)=B4;rw[hnl,ho];simp only[Bool.not_false,Im,vz,Bool.true_and,Array.all_eq_true',AK,Sc];intro e he;cases hb:Ao .any e with
    |false=>exact .inl rfl
    |true =>
     right;have:=(q3p ops g o ho).1 e (by simpa using he) hb;rw[<-q]at this;obtain⟨p',hp',hp'2⟩:=hp.gn _ _ _ c this;have h5:=X p' e.on hp' hp'2;have:=(hl e.on).2 ⟨h5,s _ h5⟩;rw[yd,this];rfl
   obtain⟨i0,hi0,Y⟩:=G;have hne:0<((N7 ops.size).filter λ i=>ready listed i).length:=by
    rw[List.length_pos_iff_exists_mem];exact⟨i0,by simp[hi0,Y]⟩
   have hrs:∃i,((N7 ops.size).filter λ i=>ready listed i)[t % ((N7 ops.size).filter λ i=>ready listed i).length]? = B1 i:=⟨_,qy (Nat.mod_lt _ hne)⟩
   obtain⟨i,K⟩:=hrs;have N:=zh K;rw[List.mem_filter,List.mem_range]at N;obtain⟨F,hi2⟩:=N;rw[show((N7 ops.size).filter λ i=>!listed.getD i B4 && ((ops[i]?).map (·.after.all λ e=>!Region.binds .any e ||listed.getD e.on B2)).getD B2)=((N7 ops.size).filter λ i=>ready listed i)from rfl,K];simp only;have L:(!listed.getD i B4 && ((ops[i]?).map (·.after.all λ e=>!Region.binds .any e ||listed.getD e.on B2)).getD B2)=true:=hi2;rw[zf]at L;obtain⟨Z,O⟩:=L;obtain⟨o,ho⟩:∃o,ops[i]? = B1 o:=⟨ops[i],by simp[F]⟩
   have Q:i∉acc:=λ h=>by
    have:=(hl i).2 ⟨h,F⟩;rw[yd,this]at Z;simp at Z
   rw[ho]at O;simp only[Im,vz,Array.all_eq_true',AK,Sc]at O
   -- ancestors are listed
   have r:∀j,(I.gn i).testBit j=B4->j∈acc:=by
    intro j V;rw[q]at V;obtain⟨e,he,hb,h⟩:=(q3p ops i o ho).2 j V;have hon:e.on∈acc:=by
     rcases O e (by simpa using he)with z|z
     .rw [hb]at z;cases z
     .rw [yd]at z;cases W:listed[e.on]? with
      |none=>rw[W]at z;simp at z
      |some v=>rw[W]at z;simp at z;subst z;exact((hl e.on).1 W).1
    rcases h with h|⟨_,h⟩
    .rw [<-h];exact hon
    .rw [<-q]at h;obtain⟨A,B,k⟩:=List.append_of_mem (List.mem_reverse.2 hon);have:=(E A e.on B k).2 j h;rw[<-List.mem_reverse,k];simp[this]
   refine ih _ _ _ (by simp[U]) (λ x=>?_) (λ x f=>?_) (List.nodup_cons.2 ⟨Q,R⟩) (by simp;omega) (λ A x B k=>?_)
   .rw [Array.getElem?_setIfInBounds]
    by_cases f:i=x
    .subst f;simp[U,F]
    .rw [qv f,hl x];simp only[jj];constructor
     .rintro ⟨c,d⟩;exact⟨.inr c,d⟩
     .rintro ⟨c|c,d⟩
      .exact absurd c.symm f
      .exact ⟨c,d⟩
   .rcases jj.1 f with rfl|f
    .exact F
    .exact s x f
   .rw [List.reverse_cons]at k;rcases List.append_eq_append_iff.1 k.symm with⟨C,c,d⟩|⟨C,c,d⟩
    .cases C with
     |nil =>
      simp only[z7,zn,zz]at c d;obtain⟨rfl,_⟩:=d;subst c;exact⟨by simpa using Q,λ j V=>by simpa using r j V⟩
     |cons y C =>
      simp only[vx,zz]at d;obtain⟨rfl,rfl⟩:=d;exact E A _ C c
    .cases C with
     |nil =>
      simp only[z7,zn,zz]at c d;obtain⟨rfl,_⟩:=d;subst c;exact⟨by simpa using Q,λ j V=>by simpa using r j V⟩
     |cons y C =>
      simp at d
 have:=hgo ops.size t (CA ops.size B2) [] (by simp) (λ i=>by simp[Array.getElem?_replicate]) (λ i K=>by simp at K) (by simp) (by simp) (λ A i B h=>by simp at h);exact this
end Go.Am
namespace Go.Am
mutual
def Xy:∀(a b:AV),Am.cu a b=B4->a=b
 | .bool a,b,h=>by cases b<;>simp_all[Am.cu]
 | .int k a,b,h=>by cases b<;>simp_all[Am.cu,DG,Sw]
 | .str a,b,h=>by cases b<;>simp_all[Am.cu,Mi]
 | .nilp,b,h=>by cases b<;>simp_all[Am.cu]
 | .ptr a o,b,h=>by cases b<;>simp_all[Am.cu]
 | .nils,b,h=>by cases b<;>simp_all[Am.cu]
 | .slice a o n c,b,h=>by cases b<;>simp_all[Am.cu]
 | .gslice a i m s al n,b,h=>by cases b<;>simp_all[Am.cu]
 | .eslice a,b,h=>by cases b<;>simp_all[Am.cu]
 | .mE,b,h=>by cases b<;>simp_all[Am.cu]
 | .map a,b,h=>by cases b<;>simp_all[Am.cu]
 | .nilf,b,h=>by cases b<;>simp_all[Am.cu]
 | .nili,b,h=>by cases b<;>simp_all[Am.cu]
 | .fn (.func f) x y,b,h=>by
  cases b with
  |fn g x' y' =>
   cases g with
   |func g =>
    simp only[Am.cu,zf,kc]at h;have⟨⟨d,e⟩,j⟩:=h;rw[d,LQ x x' e,LQ y y' j]
   |yield g=>simp[Am.cu]at h
  |_=>simp[Am.cu]at h
 | .fn (.yield f) x y,b,h=>by
  cases b with
  |fn g x' y' =>
   cases g with
   |yield g =>
    simp only[Am.cu,zf,kc]at h;have⟨⟨d,e⟩,j⟩:=h;rw[d,LQ x x' e,LQ y y' j]
   |func g=>simp[Am.cu]at h
  |_=>simp[Am.cu]at h
 | .iface t v,b,h=>by
  cases b with
  |iface u w =>
   simp only[Am.cu,zf,kc]at h;rw[h.1,Xy v w h.2]
  |_=>simp[Am.cu]at h
 | .agg x,b,h=>by
  cases b with
  |agg y=>simp only[Am.cu]at h;rw[LQ x y h]
  |_=>simp[Am.cu]at h
 | .tuple x,b,h=>by
  cases b with
  |tuple y=>simp only[Am.cu]at h;rw[LQ x y h]
  |_=>simp[Am.cu]at h
def LQ:∀(a b:List AV),Am.fq a b=B4->a=b
 |[],b,h=>by cases b<;>simp_all[Am.fq]
 |x::xs,b,h=>by
  cases b with
  |nil=>simp[Am.fq]at h
  |cons y ys =>
   simp only[Am.fq,zf]at h;rw[Xy x y h.1,LQ xs ys h.2]
end
inductive iQ(rt:RT)(s:aR)(st cZ:St):Prop
 |skip (hc:s.iq=B2) (hw:dt s st.tm=B1 B2) (h:cZ=⟨eK s.dst .undef st.tm,st.bj,st.up,st.H⟩)
 |run (hc:s.iq=B2) (hw:dt s st.tm=B1 B4) (vs:List AV) (v:AV) (d:List aQ) (u:Option aH) (H':ar) (he:mF st.tm s.args=B1 vs) (ho:iE rt st vs s.op=B1 (.val v d u H')) (h:cZ=⟨eK s.dst v st.tm,d,u,H'⟩)
 |look (hc:s.iq=B4) (d:Nat) (hd:s.dst=B1 d) (h:cZ=st) (hl:dt s st.tm=B1 B2\/(dt s st.tm=B1 B4 /\ ∃vs,mF st.tm s.args=B1 vs/\rh (λ t=>t.get d) st vs s.op=B4))
def wK(rt:RT)(steps:List aR)(sts:Nat->St)(M:Nat)(r:aZ×St):Prop :=
 (M=steps.length/\r=(.normal,sts M)) \/
 ∃s vs c H' ds,steps[M]? = B1 s/\s.iq=B2/\dt s (sts M).tm=B1 B4/\mF (sts M).tm s.args=B1 vs/\iE rt (sts M) vs s.op=B1 (.panic c H')/\s.cF=B1 ds /\
  r=(.panic c,⟨forget ds (sts M).tm,(sts M).bj,(sts M).up,H'⟩)
def Q_{rt:RT}:∀{steps:List aR}{st:St}{r:aZ×St},(hC steps).run rt st=B1 r ->
 ∃(sts:Nat->St)(M:Nat),sts 0=st/\M<=steps.length/\(∀p,p<M -> ∃s,steps[p]? = B1 s/\iQ rt s (sts p) (sts (p+1)))/\wK rt steps sts M r
 |[],st,r,h=>by
  cases h;exact⟨λ _=>st,0,rfl,qm _,λ p hp=>by omega,.inl ⟨rfl,rfl⟩⟩
 |s::l,st,r,h=>by
  have h:(gR s).run rt ((hC l).run rt) st=B1 r:=h;have e:∀cZ,iQ rt s st cZ->(hC l).run rt cZ=B1 r -> ∃(sts:Nat->St)(M:Nat),sts 0=st/\M<=(s::l).length/\(∀p,p<M -> ∃i,(s::l)[p]? = B1 i/\iQ rt i (sts p) (sts (p+1)))/\wK rt (s::l) sts M r:=by
   intro cZ hr hl;have⟨sts,M,t,z,x,y⟩:=Q_ hl;refine⟨λ p=>match p with|0=>st|p+1=>sts p,M+1,rfl,by simp;omega,λ p hp=>?_,?_⟩
   .cases p with
    |zero=>exact⟨s,rfl,by show iQ rt s st (sts 0);rw[t];exact hr⟩
    |succ p =>
     have⟨i,j,k⟩:=x p (by omega);exact⟨i,by simpa using j,k⟩
   .rcases y with⟨j,k⟩|⟨i,vs,c,H',ds,j,k⟩
    .exact .inl ⟨by simp[j],k⟩
    .exact .inr ⟨i,vs,c,H',ds,by simpa using j,k⟩
  cases f:s.iq with
  |false =>
   rw[Y5 s f,qj]at h;have⟨w,hw,h⟩:=h;cases w with
   |false =>
    simp only[zo]at h;exact e _ (.skip f hw rfl) h
   |true =>
    simp only[xv,qj]at h;have⟨vs,g,q,o,h⟩:=h;cases q with
    |val v d u H'=>exact e _ (.run f hw vs v d u H' g o rfl) h
    |panic c H' =>
     simp only[vG,qj,qk]at h;obtain⟨ds,n,rfl⟩:=h;exact⟨λ _=>st,0,rfl,x9 _,λ p hp=>by omega,.inr ⟨s,vs,c,H',ds,rfl,f,hw,g,o,n,rfl⟩⟩
  |true =>
   cases m:s.dst with
   |none=>rw[qtp s f m]at h;cases h
   |some d =>
    rw[_9 s f m,qj]at h;have⟨w,hw,h⟩:=h;cases w with
    |false =>
     simp only[zo]at h;exact e st (.look f d m rfl (.inl hw)) h
    |true =>
     simp only[xv,qj]at h;have⟨vs,g,h⟩:=h;rcases yk h with⟨hk,h⟩|⟨_,h⟩
     .exact e st (.look f d m rfl (.inr ⟨hw,vs,g,hk⟩)) h
     .cases h
def ξ:∀{ys:List bL}{tm c:T AV},(∀t∈tmpsOf ys,tm.get t=c.get t)->mF tm ys=mF c ys
 |[],_,_,_=>rfl
 |y::ys,tm,c,h=>by
  have d:rO tm y=rO c y:=by
   cases y with
   |tmp t=>exact h t (by simp[tmpsOf])
   |const v=>rfl
   |eJ g=>rfl
   |func f=>rfl
  have e:mF tm ys=mF c ys:=ξ (λ t i=>h t (by cases y<;>simp[tmpsOf,i]));simp only[mF,d,e]
section
variable{P:Jy}{base:Nat}{D:Nat->Prop}{θ:Th}{H:ar}{w:NJ}{a:Act}{tm:T AV}
def Kq(m:HR P base D θ H w){x:N0}{y:bL}(n:∀t∈tmpsOf [y],∀v,tm.get t=B1 v -> ∃c,a.tmps[t]? = B1 c/\VR D θ v c)(d:qZ P.globals.size x=B1 y){v:AV}(e:rO tm y=B1 v):VR D θ v (a.eval x):=by
 cases x with
 |tmp t =>
  cases d;have⟨c,h,i⟩:=n t (by simp[tmpsOf]) v e
  simpa[Act.eval,h]using i
 |const k =>
  simp only[qZ,qj,qk]at d;obtain⟨u,hu,rfl⟩:=d;cases e;exact Uj hu
 |global g =>
  simp only[qZ]at d;split at d
  .rename_i hg;cases d;cases e;have⟨h,i,j⟩:=m.eJ g (by simpa[vX]using hg);have:=VR.ptr (θ:=θ) (o:=0) h;rw[i,j]at this;exact this
  .cases d
 |func f =>
  cases d;cases e;exact λ _ _=>rfl
def DP(f:HR P base D θ H w):∀{xs:List N0}{ys:List bL},(∀t∈tmpsOf ys,∀v,tm.get t=B1 v -> ∃c,a.tmps[t]? = B1 c/\VR D θ v c)->nK P.globals.size xs=B1 ys -> ∀{vs:List AV},mF tm ys=B1 vs->bN D θ vs (xs.map a.eval)
 |[],ys,ht,hc,vs,hv=>by
  cases hc;cases hv;exact .nil
 |x::xs,ys,ht,hc,vs,hv=>by
  simp only[nK,qj,qk]at hc;obtain⟨y,i,k,e,rfl⟩:=hc;simp only[mF,qj,qk]at hv;obtain⟨v,g,j,h,rfl⟩:=hv;refine .cons (Kq f (λ t d=>ht t ?_) i g) (DP f (λ t d=>ht t ?_) e h)
  .cases y<;>simp[tmpsOf]at d⊢;exact .inl d
  .cases y<;>simp[tmpsOf,d]
def xnk{ops:Array Pv}{o:Pv}{s:aR}(hg:guardOf ops o.guard=B1 s.guard){tm:T AV}{a:Array K8}(i:∀g,s.guard=B1 g -> ∀v,tm.get g.1=B1 v -> ∃c,a[g.1]? = B1 c/\VR D θ v c){q:Bool}(h:dt s tm=B1 q) :
 Af o (yielded ops a)=q:=by
 cases f:s.guard with
 |none =>
  exact U6 (D:=D) (θ:=θ) (tm:=T.nil) (a:=a) (q:=q) hg (λ t v d=>by rw[T.get_nil]at d;cases d) (by unfold dt at h⊢;rw[f]at h⊢;exact h)
 |some g =>
  -- a table that holds the guard's slot alone
  refine U6 (D:=D) (θ:=θ) (tm:=(T.nil:T AV).put g.1 (tm.get g.1)) (a:=a) (q:=q) hg (λ t v d=>?_) ?_
  .rw [T.kK]at d;split at d
   .rename_i e;subst e;exact i g f v d
   .rw [T.get_nil]at d;cases d
  .unfold dt at h⊢;rw[f]at h⊢;simp only[T.kK,rN];exact h
end
end Go.Am
namespace Go.Am
structure RG(P:Jy)(rt:RT)(nt:Nat)(ops:Array Pv)(l:List (List bL×fL))(plan:List (Bool×Nat))(sts:Nat->St)(M:Nat):Prop where
 comp:dy (ops.toList.map (gB P))=B1 l
 RD:ops.toList.all (pI nt)=B4
 de:zG (aW ops l) plan
 len:M<=plan.length
 rel:∀p,p<M -> ∃q s o ca g,plan[p]? = B1 q/\ops[q.2]? = B1 o/\gB P o=B1 ca/\l[q.2]? = B1 ca/\guardOf ops o.guard=B1 g/\s.iq=q.1/\s.dst=o.dst/\s.guard=g/\s.args=ca.1/\s.op=ca.2/\iQ rt s (sts p) (sts (p+1))
 mono:∀p,p<M->Ext (sts p).H (sts (p+1)).H
section
variable{P:Jy}{rt:RT}{nt:Nat}{ops:Array Pv}{l:List (List bL×fL)}{plan:List (Bool×Nat)}{sts:Nat->St}{M:Nat}
def RG.ext(R:RG P rt nt ops l plan sts M):∀{p p':Nat},p<=p'->p'<=M->Ext (sts p).H (sts p').H:=by
 intro p p' h c
 induction p' with
 |zero=>obtain rfl:p=0:=by omega
        exact Ext.refl _
 |succ k ih =>
  by_cases e:p=k+1
  .subst e;exact Ext.refl _
  .exact (ih (by omega) (by omega)).trans (R.mono k (by omega))
def RG.kept(R:RG P rt nt ops l plan sts M){t:Nat}:∀{p p':Nat},p<=p'->p'<=M->(∀u j:Nat,p<=u->u<p'->plan[u]? = B1 (B2,j)->ik ops j≠B1 t)->(sts p').tm.get t=(sts p).tm.get t:=by
 intro p p' h B hw
 induction p' with
 |zero=>obtain rfl:p=0:=by omega
        rfl
 |succ k ih =>
  by_cases e:p=k+1
  .subst e;rfl
  .rw [<-ih (by omega) (by omega) (λ u j n r=>hw u j n (by omega))];have⟨⟨c,i⟩,s,o,ca,g,n,r,C,E,F,x,A,G,I,z,hr⟩:=R.rel k (by omega);have f:∀v,c=B2->(eK s.dst v (sts k).tm).get t=(sts k).tm.get t:=λ v m=>by
    subst m;have:=hw k i (by omega) (by omega) n;rw[A];cases y:o.dst with
    |none=>rfl
    |some d =>
     have q:d≠t:=λ e=>by subst e;exact this (by simp[ik,r,y])
     simp only[eK,T.aK,qv q]
   cases hr with
   |skip m hw' h=>rw[h];exact f _ (x.symm.trans m)
   |run m hw' vs v d u H' he ho h=>rw[h];exact f _ (x.symm.trans m)
   |look m d y h hl=>rw[h]
def RG.tI(R:RG P rt nt ops l plan sts M):∀{p p':Nat},p<=p'->p'<=M->(∀u j:Nat,p<=u->u<p'->plan[u]? = B1 (B2,j)->(aW ops l).cls j≠ .gY) ->
 (sts p').bj=(sts p).bj/\(sts p').up=(sts p).up /\ ∀b o,(sts p').H.get b=B1 o->(sts p).H.get b=B1 o \/
  ∃j u:Nat,p<=u/\u<p'/\plan[u]? = B1 (B2,j)/\(aW ops l).cls j=.alloc/\(sts u).H.au<(sts (u+1)).H.au/\b=(sts u).H.au/\(sts (u+1)).H.get b=B1 o:=by
 intro p p' h L hw
 induction p' with
 |zero=>obtain rfl:p=0:=by omega
        exact⟨rfl,rfl,λ b o hb=>.inl hb⟩
 |succ k ih =>
  by_cases e:p=k+1
  .subst e;exact⟨rfl,rfl,λ b o hb=>.inl hb⟩
  .have ⟨x,y,I⟩:=ih (by omega) (by omega) (λ u j z E=>hw u j z (by omega));have⟨⟨c,i⟩,s,o,ca,g,z,E,N,F,O,G,Q,S,U,A,hr⟩:=R.rel k (by omega);have r:∀b o,(sts k).H.get b=B1 o->(sts p).H.get b=B1 o \/ ∃j u:Nat,p<=u/\u<k+1/\plan[u]? = B1 (B2,j)/\(aW ops l).cls j=.alloc/\(sts u).H.au<(sts (u+1)).H.au/\b=(sts u).H.au/\(sts (u+1)).H.get b=B1 o:=λ b o hb=>by
    rcases I b o hb with hb|⟨j,u,J,V,K⟩
    .exact .inl hb
    .exact .inr ⟨j,u,J,by omega,K⟩
   cases hr with
   |skip hc hw' h=>rw[h];exact⟨x,y,r⟩
   |look hc d hd h hl=>rw[h];exact⟨x,y,r⟩
   |run hc hw' vs v d u H' he ho h =>
    have C:c=false:=G.symm.trans hc;subst C;have n:=hw k i (by omega) (by omega) z;have t:(aW ops l).cls i=qT ca.2:=by simp[aW,om,F]
    rw[t]at n;rw[A]at ho;rw[h];cases q:ca.2 with
    |pure f =>
     rw[q]at ho;simp only[iE,qj,qk,iz.val.injEq]at ho;obtain⟨_,_,_,rfl,rfl,rfl⟩:=ho;exact⟨x,y,r⟩
    |read f =>
     rw[q]at ho;simp only[iE,qj,qk,iz.val.injEq]at ho;obtain⟨_,_,_,rfl,rfl,rfl⟩:=ho;exact⟨x,y,r⟩
    |alloc f =>
     rw[q]at ho;simp only[iE,qj,qk,iz.val.injEq]at ho;obtain⟨⟨W,mk⟩,_,_,rfl,rfl,rfl⟩:=ho;refine⟨x,y,λ b o hb=>?_⟩;have B:=hb;simp only[ar.bO]at hb;split at hb
     .rename_i e2;refine .inr ⟨i,k,by omega,by omega,z,by rw[t,q];rfl,by rw[h];exact zy _,e2.symm,by rw[h];exact B⟩
     .exact r b o hb
    |gY f=>rw[q]at n;exact absurd rfl n
    |ir f=>rw[q]at n;exact absurd rfl n
    |im=>rw[q]at n;exact absurd rfl n
    |invoke m=>rw[q]at n;exact absurd rfl n
    |recover=>rw[q]at n;exact absurd rfl n
    |defer=>rw[q]at n;exact absurd rfl n
    |panic=>rw[q]at n;exact absurd rfl n
def RG.at(R:RG P rt nt ops l plan sts M){p i:Nat}(hp:plan[p]? = B1 (B2,i))(t:p<M):∃s o ca,ops[i]? = B1 o/\gB P o=B1 ca/\l[i]? = B1 ca/\guardOf ops o.guard=B1 s.guard/\s.iq=B2/\s.dst=o.dst/\s.args=ca.1/\s.op=ca.2/\iQ rt s (sts p) (sts (p+1)):=by
 have⟨q,s,o,ca,g,d,e,f,h,j,k,m,n,r,c,hr⟩:=R.rel p t;rw[hp]at d;cases d;exact⟨s,o,ca,e,f,h,by rw[n];exact j,k,m,r,c,hr⟩
def RG.look(R:RG P rt nt ops l plan sts M){p i:Nat}(hp:plan[p]? = B1 (B4,i))(t:p<M):∃s o ca,ops[i]? = B1 o/\gB P o=B1 ca/\l[i]? = B1 ca/\guardOf ops o.guard=B1 s.guard/\s.iq=B4/\s.dst=o.dst/\s.args=ca.1/\s.op=ca.2/\iQ rt s (sts p) (sts (p+1)):=by
 have⟨q,s,o,ca,g,d,e,f,h,j,k,m,n,r,c,hr⟩:=R.rel p t;rw[hp]at d;cases d;exact⟨s,o,ca,e,f,h,by rw[n];exact j,k,m,r,c,hr⟩
def RG.still(R:RG P rt nt ops l plan sts M){p i:Nat}(hp:plan[p]? = B1 (B4,i))(e:p<M):sts (p+1)=sts p:=by
 have⟨s,o,ca,_,_,_,_,c,_,_,_,hr⟩:=R.look hp e;cases hr with
 |skip hc'=>rw[c]at hc';cases hc'
 |run hc'=>rw[c]at hc';cases hc'
 |look hc' d hd h hl=>exact h
def RG.KB(R:RG P rt nt ops l plan sts M){q:Nat}:∀{u:Nat},q<=u->u<=M->(∀v:Nat,q<=v->v<u -> ∃r,plan[v]? = B1 (B4,r))->sts u=sts q:=by
 intro u h g c
 induction u with
 |zero=>obtain rfl:q=0:=by omega
        rfl
 |succ k ih =>
  by_cases e:q=k+1
  .subst e;rfl
  .have ⟨r,hr⟩:=c k (by omega) (by omega);rw[R.still hr (by omega)];exact ih (by omega) (by omega) (λ v d f=>c v d (by omega))
end
def DS(D0:Nat->Prop)(plan:List (Bool×Nat))(sts:Nat->St)(M:Nat)(S:List Nat):Nat->Prop:=λ b =>
 D0 b \/ ∃i p:Nat,i∈S/\plan[p]? = B1 (B2,i)/\p<M/\(sts p).H.au<=b/\b<(sts (p+1)).H.au
def HJ(ops:Array Pv)(plan:List (Bool×Nat))(sts:Nat->St)(M:Nat)(S:List Nat)(D:Nat->Prop)(θ:Th)(a:Array K8):Prop :=
 ∀t:Nat,∃p0:Nat,p0<=M/\(∀v,(sts p0).tm.get t=B1 v -> ∃c,a[t]? = B1 c/\VR D θ v c) /\
  (∀j p:Nat,j∈S->plan[p]? = B1 (B2,j)->ik ops j=B1 t->p<p0) /\
  (p0=0 \/ ∃i0 p1:Nat,i0∈S/\plan[p1]? = B1 (B2,i0)/\p0=p1+1/\ik ops i0=B1 t)
structure Inv(P:Jy)(base:Nat)(D0:Nat->Prop)(θ0:Th)(w0:NJ)(kR:List NY)(b:NY)(nt:Nat)(rd:Option Nat)(ops:Array Pv)(l:List (List bL×fL))(plan:List (Bool×Nat))(sts:Nat->St)(M:Nat)
 (S:List Nat) (q:Nat) (X:ar) (θ:Th) (a:Act) (w:NJ) (cs:List NY):Prop where
 heap:HR P base (DS D0 plan sts M S) θ X w
 grow:bE D0 (sts 0).H θ0 w0 X θ w
 T6:∀b o,(sts q).H.get b=B1 o->X.get b=B1 o
 Av:∀j p:Nat,j∈S->plan[p]? = B1 (B2,j)->(aW ops l).cls j=.alloc->q<=p->p<M->(sts p).H.au<(sts (p+1)).H.au -> ∀o,(sts (p+1)).H.get (sts p).H.au=B1 o->X.get (sts p).H.au=B1 o
 XH:q<=M
 AB:∀i p:Nat,plan[p]? = B1 (B2,i)->(aW ops l).cls i=.gY->(p<q↔i∈S)
 last:q=0 \/ ∃e p:Nat,q=p+1/\plan[p]? = B1 (B2,e)/\(aW ops l).cls e=.gY
 bj:ic (DS D0 plan sts M S) θ (sts q).bj a.defers
 up:rD (DS D0 plan sts M S) θ b.kind (sts q).up cs
 Nt:(sts q).up.isSome=(sts 0).up.isSome
 EK:fE (sts 0).up kR cs
 uA:HJ ops plan sts M S (DS D0 plan sts M S) θ a.tmps
 size:nt<=a.tmps.size
 round:Ad (DS D0 plan sts M S) θ b.roundOf rd
 TP:∀i∈S,∃p:Nat,plan[p]? = B1 (B2,i)/\p<M
 closed:∀i∈S,∀j,((aW ops l).gn i).testBit j=B4->j∈S
section
variable{P:Jy}{rt:RT}{nt:Nat}{ops:Array Pv}{l:List (List bL×fL)}{plan:List (Bool×Nat)}{sts:Nat->St}{M:Nat}
 {base:Nat} {D0:Nat->Prop} {θ0:Th} {w0:NJ} {kR:List NY} {b:NY} {rd:Option Nat}
def ZP{i j t:Nat}(c:t∈gQ ops l i)(d:ik ops j=B1 t):(aW ops l).jW i j=true:=by
 show Cp ops l i j=B4;unfold Cp;rw[d];exact(VW _ _).2 c
def DS.app{S:List Nat}{i:Nat}{x:Nat}(h:DS D0 plan sts M S x):DS D0 plan sts M (S ++ [i]) x:=by
 rcases h with h|⟨j,p,c,d⟩
 .exact .inl h
 .exact .inr ⟨j,p,by simp[c],d⟩
def I5(R:RG P rt nt ops l plan sts M){S:List Nat}{q:Nat}{X:ar}{θ:Th}{a:Act}{w:NJ}{cs:List NY}(hI:Inv P base D0 θ0 w0 kR b nt rd ops l plan sts M S q X θ a w cs){i p:Nat}(hp:plan[p]? = B1 (B2,i))(x:p<=M)(n:i∉S)
 (m:∀j,((aW ops l).gn i).testBit j=B4->j∈S) {t:Nat} (G:t∈gQ ops l i):∀v,(sts p).tm.get t=B1 v -> ∃c,a.tmps[t]? = B1 c/\VR (DS D0 plan sts M S) θ v c:=by
 have⟨N,Q,C,E,F⟩:=hI.uA t;have s:=R.de.lt p i hp
 -- a writer is an ancestor,or comes later
 have f:∀j p':Nat,plan[p']? = B1 (B2,j)->ik ops j=B1 t->j≠i->((aW ops l).gn i).testBit j=B4\/((aW ops l).gn j).testBit i=true:=λ j p' k o d =>
  R.de.Jk i j s (R.de.lt p' j k) (λ e=>d e.symm) (ZP G o)
 have hle:N<=p:=by
  rcases F with rfl|⟨r,O,A,B,rfl,K⟩
  .exact x9 _
  .have d:r≠i:=λ e=>n (e▸A);rcases f r O B K d with h|h
   .have ⟨p',L,y⟩:=R.de.gn p i r hp h;have:=R.de.one _ _ _ B y;omega
   .exact absurd (hI.closed r A i h) n
 have g:=R.kept (t:=t) hle x (λ u j I J k o=>by
  have d:j≠i:=λ e=>by
   subst e;have:=R.de.one _ _ _ hp k;omega
  rcases f j u k o d with h|h
  .have:=E j u (m j h) k o;omega
  .have ⟨p',L,y⟩:=R.de.gn u j i k h;have:=R.de.one _ _ _ hp y;omega)
 intro v z;rw[g]at z;exact C v z
def HJ.put(R:RG P rt nt ops l plan sts M){S:List Nat}{D D':Nat->Prop}{θ θ':Th}{a:Array K8}(h:HJ ops plan sts M S D θ a)(z:Ag D θ θ')(U:∀x,D x->D' x){i p:Nat}(hp:plan[p]? = B1 (B2,i))(F:p<M)
 (J:∀j,((aW ops l).gn i).testBit j=B4->j∈S) (s:i∉S) (g:∀i∈S,∀j,((aW ops l).gn i).testBit j=B4->j∈S) {o:Pv} (ho:ops[i]? = B1 o) (C:∃ca,l[i]? = B1 ca) {c:K8} (hs:nt<=a.size)
 (V:∀d v,o.dst=B1 d->(sts (p+1)).tm.get d=B1 v->VR D' θ' v c) :
 HJ ops plan sts M (S ++ [i]) D' θ' (match o.dst with|some d=>a.setIfInBounds d c|none=>a):=by
 have n:ik ops i=o.dst:=by simp[ik,ho]
 intro t
 by_cases r:o.dst=B1 t
 .refine ⟨p+1,F,λ v hv'=>?_,λ j p' f k m=>?_,.inr ⟨i,p,by simp,hp,rfl,by rw[n];exact r⟩⟩
  .rw [r];have E:t<a.size:=by
    have:=R.RD;rw[B6]at this;have:=this o (by have:=Array.mem_of_getElem? ho;simpa using this);unfold pI at this;rw[r]at this;simp only[vX]at this;omega
   exact⟨c,by simp[E],V t v r hv'⟩
  .rcases zt.1 f with f|f
   .have q:j≠i:=λ e=>s (e▸f);have B:=R.de.lt p i hp;have G:t∈gQ ops l i:=by
     have⟨ca,Q⟩:=C;unfold gQ;rw[n,r];simp
    rcases R.de.Jk i j B (R.de.lt p' j k) (λ e=>q e.symm) (ZP G m)with h|h
    .have ⟨p2,k5,X⟩:=R.de.gn p i j hp h;have:=R.de.one _ _ _ k X;omega
    .exact absurd (g j f i h) s
   .simp at f;subst f;have:=R.de.one _ _ _ hp k;omega
 .have ⟨Y,L,N,O,y⟩:=h t;refine⟨Y,L,λ v hv'=>?_,λ j p' f k m=>?_,?_⟩
  .have ⟨K,u,I⟩:=N v hv';refine⟨K,?_,I.up z U⟩;cases A:o.dst with
   |none=>exact u
   |some d =>
    have q:d≠t:=λ e=>r (by rw[A,e]);simp only[Array.getElem?_setIfInBounds,qv q];exact u
  .rcases zt.1 f with f|f
   .exact O j p' f k m
   .simp at f;subst f;rw[n]at m;exact absurd m r
  .rcases y with y|⟨W,Z,u,I⟩
   .exact .inl y
   .exact .inr ⟨W,Z,by simp[u],I⟩
end
end Go.Am
namespace Go.Am
def mg(X:ar):List Nat->ar->ar
 |[],H=>H
 |x::l,H=>match X.get x with
  |some o=>mg X l (H.set x o)
  |none=>mg X l H
def Zc(X:ar):∀(l:List Nat)(H:ar),(mg X l H).au=H.au
 |[],H=>rfl
 |x::l,H=>by
  unfold mg;split
  .rw [Zc X l];rfl
  .exact Zc X l H
def Pn(X:ar):∀(l:List Nat)(H:ar)(y:Nat),(mg X l H).get y=if y∈l/\(X.get y).isSome=B4 then X.get y else H.get y
 |[],H,y=>by simp[mg]
 |x::l,H,y=>by
  unfold mg;split
  .rename_i o ho;rw[Pn X l,ar.aK]
   by_cases c:y∈l/\(X.get y).isSome=B4
   .rw [xb c,xb ⟨by simp[c.1],c.2⟩]
   .rw [qv c]
    by_cases f:x=y
    .subst f;rw[xb rfl,xb ⟨by simp,by rw[ho];rfl⟩,ho]
    .rw [qv f,qv];rintro⟨d,e⟩;rcases jj.1 d with d|d
     .exact f d.symm
     .exact c ⟨d,e⟩
  .rename_i ho;rw[Pn X l]
   by_cases c:y∈l/\(X.get y).isSome=B4
   .rw [xb c,xb ⟨by simp[c.1],c.2⟩]
   .rw [qv c,qv];rintro⟨d,e⟩;rcases jj.1 d with d|d
    .subst d;rw[ho]at e;cases e
    .exact c ⟨d,e⟩
def HR.frame{P:Jy}{base:Nat}{D D0:Nat->Prop}{θ θ0:Th}{H0 H X:ar}{w w0:NJ}{D':Nat->Prop}{θ':Th}{H':ar}{w':NJ}(r:HR P base D θ X w)(n:bE D0 H0 θ0 w0 X θ w)(Q:∀x,D0 x->D x)
 (i:∀b o,H.get b=B1 o->X.get b=B1 o) (K:HR P base D' θ' H' w') (g:bE D H θ w H' θ' w') (N:Ext H H') (Z:∀x,D x->D' x) (hn:H0.au<=H'.au) (E:List Nat)
 (S:∀x∈E,H.get x=B5 /\ ∀o,X.get x=B1 o->own o=B4):HR P base D' θ' (mg X E H') w'/\bE D0 H0 θ0 w0 (mg X E H') θ' w':=by
 have f:∀y o,(mg X E H').get y=B1 o->(y∈E/\X.get y=B1 o)\/(H'.get y=B1 o):=by
  intro y o u;rw[Pn]at u;split at u
  .rename_i h;exact .inl ⟨h.1,u⟩
  .exact .inr u
 have d:∀x o,X.get x=B1 o -> θ'.cq x = θ.cq x:=λ x o A=>(g.ag x (r.obj x o A).1).1;refine⟨⟨λ x o A=>?_,λ x y F t A u z G=>?_,λ x o A ho=>?_,K.eJ,K.low⟩,⟨by rw[Zc];exact hn,n.ag.trans g.ag Q,zd n.size g.size,g.os.trans n.os,g.tape.trans n.tape,g.output.trans n.output,λ k hk O=>?_,λ x o A ho v=>?_⟩⟩
 .rcases f x o A with⟨p,c⟩|c
  .have ⟨L,co,Y,R⟩:=r.obj x o c;refine⟨Z x L,co,?_,R.up L g.ag Z⟩;rw[d x o c,g.ai _ (r.lt c)]
   .exact Y
   .intro y t u W e;have B:=i y t u;refine r.inj y x t o B c W (λ q=>?_) e;subst q;rw[(S y p).1]at u;cases u
  .exact K.obj x o c
 .rcases f x F A with⟨p,c⟩|c<;>rcases f y t u with⟨U,j⟩|j
  .rw [d x F c,d y t j];exact r.inj x y F t c j z G
  .rw [d x F c];intro e;rcases N.2 y t j with⟨J,L,_⟩|⟨L,Y,R⟩
   .have B:=i y J L;rw[d y J B]at e;exact r.inj x y F J c B z G e
   .have ⟨m,o',s,I,C⟩:=g.news y t j R (by rw[<-e];exact r.lt c);refine r.inj m x o' F (i m o' s) c I (λ q=>?_) (C.trans e.symm);subst q;rw[(S m p).1]at s;cases s
  .rw [d y t j];intro e;have⟨m,o',s,I,C⟩:=g.news x F c z (by rw[e];exact r.lt j);refine r.inj m y o' t (i m o' s) j I (λ q=>?_) (C.trans e);subst q;rw[(S m U).1]at s;cases s
  .exact K.inj x y F t c j z G
 .rcases f x o A with⟨p,c⟩|c
  .rw [d x o c];exact r.lR x o c ho
  .exact K.lR x o c ho
 .rw [g.ai k (qn hk n.size)]
  .exact n.ai k hk O
  .intro b ob hb V e;have⟨m,o',s,I,C⟩:=n.news b ob (i b ob hb) V (by rw[e];exact hk);exact O m o' s I (C.trans e)
 .rcases f x o A with⟨p,c⟩|c
  .rw [d x o c]at v⊢;exact n.news x o c ho v
  .have ⟨m,o',s,I,C⟩:=g.news x o c ho (qn v n.size);have⟨b2,o2,k4,k5,k6⟩:=n.news m o' (i m o' s) I (by rw[C];exact v);exact⟨b2,o2,k4,k5,k6.trans C⟩
section
variable{P:Jy}{rt:RT}{nt:Nat}{ops:Array Pv}{l:List (List bL×fL)}{plan:List (Bool×Nat)}{sts:Nat->St}{M:Nat}
 {base:Nat} {D0:Nat->Prop} {θ0:Th} {w0:NJ} {kR:List NY} {b:NY}
def DS.snoc(R:RG P rt nt ops l plan sts M){S:List Nat}{i p:Nat}(hp:plan[p]? = B1 (B2,i))(d:p<M):DS D0 plan sts M (S ++ [i])=Up (DS D0 plan sts M S) (sts p).H.au (sts (p+1)).H.au:=by
 funext x;simp only[eq_iff_iff];constructor
 .rintro (h|⟨j,p',c,e,g,f⟩)
  .exact .inl (.inl h)
  .rcases zt.1 c with c|c
   .exact .inl (.inr ⟨j,p',c,e,g,f⟩)
   .simp at c;subst c;have:=R.de.one _ _ _ hp e;subst this;exact .inr f
 .rintro (h|h)
  .exact h.app
  .exact .inr ⟨i,p,by simp,hp,d,h⟩
def DS.fresh(R:RG P rt nt ops l plan sts M){S:List Nat}{i p:Nat}(hp:plan[p]? = B1 (B2,i))(d:p<=M)(f:i∉S){n:Nat}(o:eC D0 (sts 0).H.au n){m:Nat}(hm:m<=n)
 (g:p<M->m<=(sts (p+1)).H.au):eC (DS D0 plan sts M S) (sts p).H.au m:=by
 intro x k r e;rcases e with e|⟨j,p',q,c,s,t,u⟩
 .exact o x (zd (R.ext (x9 p) d).1 k) (by omega) e
 .rcases Nat.lt_trichotomy p p' with h|h|h
  .have e1:=(R.ext (p:=p+1) (p':=p') h (by omega)).1;have:=g (by omega);omega
  .subst h;rw[hp]at c;injection c with c;injection c with _ c
   exact f (c▸q)
  .have e1:=(R.ext (p:=p'+1) (p':=p) h d).1;omega
def Un(R:RG P rt nt ops l plan sts M){rd:Option Nat}{S:List Nat}{q:Nat}{X:ar}{θ:Th}{a:Act}{w:NJ}{cs:List NY}(hI:Inv P base D0 θ0 w0 kR b nt rd ops l plan sts M S q X θ a w cs){i p:Nat}(hp:plan[p]? = B1 (B2,i))(e:p<=M)(y:i∉S)
 (c:∀j,((aW ops l).gn i).testBit j=B4->j∈S) (f:q<=p) (d:(aW ops l).cls i=.read\/(aW ops l).cls i=.gY) :
 (sts p).bj=(sts q).bj/\(sts p).up=(sts q).up /\ ∀x o,(sts p).H.get x=B1 o->X.get x=B1 o:=by
 have⟨s,t,v⟩:=R.tI f e (λ u j z g m k=>by
  have:=c j (R.de.made p i u j hp d m g (.inr k));have:=(hI.AB j u m k).2 this;omega)
 refine⟨s,t,λ x o h=>?_⟩;rcases v x o h with h|⟨j,u,A,B,n,r,C,rfl,E⟩
 .exact hI.T6 x o h
 .exact hI.Av j u (c j (R.de.made p i u j hp d n B (.inl r))) n r A (by omega) C o E
def QA(R:RG P rt nt ops l plan sts M){rd:Option Nat}{S:List Nat}{q:Nat}{X:ar}{θ:Th}{a:Act}{w:NJ}{cs:List NY}(hI:Inv P base D0 θ0 w0 kR b nt rd ops l plan sts M S q X θ a w cs){i p:Nat}(hp:plan[p]? = B1 (B2,i))(f:i∉S)
 (g:(aW ops l).cls i=.gY):q<=p:=by
 rcases hI.last with h|⟨e,j,rfl,c,k⟩
 .omega
 .refine Ob λ m=>?_;have d:=(hI.AB e j c k).1 (zy _);have n:p≠j:=λ q=>by
   subst q;rw[hp]at c;injection c with c;injection c with _ c
   exact f (c▸d)
  have:=R.de.made j e p i c (.inr k) hp (by omega) (.inr g);exact f (hI.closed e d i this)
def D7(R:RG P rt nt ops l plan sts M){rd:Option Nat}{S:List Nat}{q:Nat}{X:ar}{θ:Th}{a:Act}{w:NJ}{cs:List NY}(hI:Inv P base D0 θ0 w0 kR b nt rd ops l plan sts M S q X θ a w cs){i p:Nat}(hp:plan[p]? = B1 (B2,i))(hpM:p<M)(C:i∉S)
 (J:∀j,((aW ops l).gn i).testBit j=B4->j∈S) (A:M=plan.length \/ ∃j,plan[M]? = B1 (B2,j)) {o:Pv} {ca:List bL×fL} {s:aR} (ho:ops[i]? = B1 o) (E:l[i]? = B1 ca) (hsd:s.dst=o.dst) (hsa:s.args=ca.1) (hso:s.op=ca.2) (Q:guardOf ops o.guard=B1 s.guard)
 {f:List AV->ar->Option AV} (hf:ca.2=.read f) {vs:List AV} {v:AV} (hw:dt s (sts p).tm=B1 B4) (he:mF (sts p).tm s.args=B1 vs) (hv:f vs (sts p).H=B1 v) (hst:sts (p+1)=⟨eK s.dst v (sts p).tm,(sts p).bj,(sts p).up,(sts p).H⟩) :
 ∃H,(∀x o,H.get x=B1 o->X.get x=B1 o)/\f vs H=B1 v:=by
 have K:(aW ops l).cls i=.read:=by
  show om l i=.read;simp[om,E,hf,qT]
 by_cases hqp:q<=p
 .exact ⟨(sts p).H,(Un R hI hp (by omega) C J hqp (.inl K)).2.2,hv⟩
 .rcases hI.last with h|⟨e,Y,rfl,z,h3⟩
  .omega
  .have L:=(hI.AB e Y z h3).1 (zy _);have hne:p≠Y:=λ q=>by
    subst q;rw[hp]at z;injection z with z;injection z with _ z
    exact C (z▸L)
   have hna:((aW ops l).gn e).testBit i=false:=by
    cases hb:((aW ops l).gn e).testBit i with
    |false=>rfl
    |true=>exact absurd (hI.closed e L i hb) C
   have⟨u,k1,k2,k3⟩:=R.de.look Y e p i z h3 hp (by omega) K hna;have huM:u<M:=by
    rcases A with A|⟨j,n⟩
    .have:=(qo.1 k2).1;omega
    .refine Ob λ hlt=>?_;have⟨r',r⟩:=k3 M (by have:=hI.XH;omega) (by omega);rw[n]at r;injection r with r;injection r with r _;cases r
   have hsu:sts u=sts (Y+1):=R.KB (q:=Y+1) (by omega) (by omega) (λ v U F=>k3 v (by omega) (by omega));have⟨s',o',ca',g1,g2,g3,Z,g5,g6,g7,g8,hr⟩:=R.look k2 huM;rw[ho]at g1;cases g1;rw[E]at g3;cases g3;have hgd:s'.guard=s.guard:=by rw[Q]at Z;injection Z with Z;exact Z.symm
   have hin:=R.de.lt p i hp
   -- nothing that it names is written tI
   have c:=(R.de.again u i k2).2.1;have c:DZ ops l i=true:=c;have B:ik ops i=o.dst:=by simp[ik,ho]
   have V:∀t∈gQ ops l i,∀x j:Nat,p+1<=x->x<u->plan[x]? = B1 (B2,j)->ik ops j≠B1 t:=by
    intro t I x j hx1 G n y;have hji:j≠i:=λ e=>by
     subst e;have:=R.de.one _ _ _ hp n;omega
    have:=(R.de.again u i k2).2.2.2 j x n G hji (ZP I y);have⟨x',hx',W⟩:=R.de.gn p i j hp this;have:=R.de.one _ _ _ n W;omega
   have k:∀t∈iR ops l i,(sts u).tm.get t=(sts p).tm.get t:=by
    intro t I;have hnd:o.dst≠B1 t:=λ y=>by
     unfold DZ at c;rw[B,y]at c;simp only[Sc]at c;rw[(VW _ _).2 I]at c;cases c
    refine R.kept (by omega) (by omega) (λ x j hx1 G n y=>?_)
    by_cases hxp:x=p
    .subst hxp;rw[hp]at n;injection n with n;injection n with _ n
     subst n;rw[B]at y;exact hnd y
    .exact V t (by unfold gQ;simp[I]) x j (by omega) G n y
   have O:iR ops l i=(match guardOf ops o.guard with|some (B1 g)=>[g.1]|_=>[])++tmpsOf ca.1:=by unfold iR;rw[ho,E];rfl
   have hw':dt s' (sts u).tm=B1 true:=by
    rw[<-hw];unfold dt;rw[hgd];cases hg:s.guard with
    |none=>rfl
    |some g =>
     simp only;rw[k g.1 (by rw[O,Q,hg];simp)]
   have he':mF (sts u).tm s'.args=B1 vs:=by
    rw[<-he,hsa,g7];exact ξ (λ t I=>k t (by rw[O];simp[I]))
   cases hr with
   |skip hc'=>rw[g5]at hc';cases hc'
   |run hc'=>rw[g5]at hc';cases hc'
   |look hc' d y h hl =>
    rcases hl with hl|⟨_,vs',m,hk⟩
    .rw [hw']at hl;cases hl
    .rw [he']at m;injection m with m;subst m
     rw[g8,hf]at hk;unfold rh at hk;simp only at hk;split at hk
     .rename_i v1 v2 U F;have hdd:(sts u).tm.get d=B1 v:=by
       have N:o.dst=B1 d:=by rw[<-g6];exact y
       rw[R.kept (p:=p+1) (t:=d) (by omega) (by omega) (V d (by unfold gQ;rw[B,N];simp))];rw[hst,hsd,N];simp only[eK,T.aK,rN]
      rw[hdd]at F;cases F;have:=Xy _ _ hk;subst this;exact⟨(sts u).H,λ x o hx=>hI.T6 x o (by rw[hsu]at hx;exact hx),U⟩
     .cases hk
def Tu(a:Act)(d:Option Nat)(c:K8):(a.put d c).tmps=(match d with|some d=>a.tmps.setIfInBounds d c|none=>a.tmps):=by
 cases d<;>rfl
def q8n(a:Act)(d:Option Nat)(c:K8):(a.put d c).defers=a.defers:=by
 cases d<;>rfl
def Inv.step(R:RG P rt nt ops l plan sts M){rd:Option Nat}{S:List Nat}{q:Nat}{X:ar}{θ:Th}{a:Act}{w:NJ}{cs:List NY}(hI:Inv P base D0 θ0 w0 kR b nt rd ops l plan sts M S q X θ a w cs){i p:Nat}(hp:plan[p]? = B1 (B2,i))(B:p<M)(I:i∉S)
 (m:∀j,((aW ops l).gn i).testBit j=B4->j∈S) {o:Pv} (ho:ops[i]? = B1 o) (L:∃ca,l[i]? = B1 ca) (G:(aW ops l).cls i≠ .gY) {θ':Th} {X':ar} {w':NJ} {c:K8}
 (r:HR P base (DS D0 plan sts M (S ++ [i])) θ' X' w') (n:bE D0 (sts 0).H θ0 w0 X' θ' w') (C:∀x o,(∃d,DS D0 plan sts M S x/\X.get x=B1 d)->X.get x=B1 o->X'.get x=B1 o) (g:Ag (DS D0 plan sts M S) θ θ')
 (Q:(aW ops l).cls i=.alloc->(sts p).H.au<(sts (p+1)).H.au -> ∀o,(sts (p+1)).H.get (sts p).H.au=B1 o->X'.get (sts p).H.au=B1 o)
 (E:∀d v,o.dst=B1 d->(sts (p+1)).tm.get d=B1 v->VR (DS D0 plan sts M (S ++ [i])) θ' v c) :
 Inv P base D0 θ0 w0 kR b nt rd ops l plan sts M (S ++ [i]) q X' θ' (a.put o.dst c) w' cs:=by
 have k:∀x,DS D0 plan sts M S x->DS D0 plan sts M (S ++ [i]) x:=λ x h=>h.app;have f:∀x o,X.get x=B1 o->X'.get x=B1 o:=λ x o F=>C x o ⟨o,(hI.heap.obj x o F).1,F⟩ F;refine⟨r,n,λ x o F=>f x o (hI.T6 x o F),λ j p' e u y J K z o' A=>?_,hI.XH,λ U p' N s=>?_,hI.last,?_,rD.up g k hI.up,hI.Nt,hI.EK,?_,?_,Ad.up g k hI.round,λ j e=>?_,λ j e O t=>?_⟩
 .rcases zt.1 e with e|e
  .exact f _ _ (hI.Av j p' e u y J K z o' A)
  .simp at e;subst e;have:=R.de.one _ _ _ hp u;subst this;exact Q y z o' A
 .rw [hI.AB U p' N s];constructor
  .intro h;simp[h]
  .intro h;rcases zt.1 h with h|h
   .exact h
   .simp at h;subst h;exact absurd s G
 .rw [q8n];exact ic.up g k hI.bj
 .rw [Tu];exact hI.uA.put R g k hp B m I hI.closed ho L hI.size E
 .rw [Tu];have:=hI.size;split<;>simpa using this
 .rcases zt.1 e with e|e
  .exact hI.TP j e
  .simp at e;subst e;exact⟨p,hp,B⟩
 .rcases zt.1 e with e|e
  .simp [hI.closed j e O t]
  .simp at e;subst e;simp[m O t]
def Inv.J3(R:RG P rt nt ops l plan sts M){rd:Option Nat}{S:List Nat}{q:Nat}{X:ar}{θ:Th}{a:Act}{w:NJ}{cs:List NY}(hI:Inv P base D0 θ0 w0 kR b nt rd ops l plan sts M S q X θ a w cs){i p:Nat}(hp:plan[p]? = B1 (B2,i))(t:p<M)(C:i∉S)
 (k:∀j,((aW ops l).gn i).testBit j=B4->j∈S) {o:Pv} (ho:ops[i]? = B1 o) (Q:∃ca,l[i]? = B1 ca) (r:(aW ops l).cls i=.gY) {θ':Th} {X':ar} {w':NJ} {cs':List NY} {c:K8} {ds:List Deferred}
 (s:HR P base (DS D0 plan sts M (S ++ [i])) θ' X' w') (n:bE D0 (sts 0).H θ0 w0 X' θ' w') (y:∀x o,(sts (p+1)).H.get x=B1 o->X'.get x=B1 o)
 (m:∀j p':Nat,j∈S->plan[p']? = B1 (B2,j)->(aW ops l).cls j=.alloc->p+1<=p'->p'<M->(sts p').H.au<(sts (p'+1)).H.au -> ∀o,(sts (p'+1)).H.get (sts p').H.au=B1 o->X'.get (sts p').H.au=B1 o)
 (A:Ag (DS D0 plan sts M S) θ θ') (z:ic (DS D0 plan sts M (S ++ [i])) θ' (sts (p+1)).bj ds) (W:rD (DS D0 plan sts M (S ++ [i])) θ' b.kind (sts (p+1)).up cs') (J:(sts (p+1)).up.isSome=(sts 0).up.isSome) (u:fE (sts 0).up kR cs')
 (I:∀d v,o.dst=B1 d->(sts (p+1)).tm.get d=B1 v->VR (DS D0 plan sts M (S ++ [i])) θ' v c) :
 Inv P base D0 θ0 w0 kR b nt rd ops l plan sts M (S ++ [i]) (p+1) X' θ' (({a with defers:=ds}:Act).put o.dst c) w' cs':=by
 have G:∀x,DS D0 plan sts M S x->DS D0 plan sts M (S ++ [i]) x:=λ x h=>h.app;have Z:=QA R hI hp C r;refine⟨s,n,y,λ j p' f F K L N O o' U=>?_,t,λ V p' g B=>?_,.inr ⟨i,p,rfl,hp,r⟩,?_,W,J,u,?_,?_,Ad.up A G hI.round,λ j f=>?_,λ j f Y E=>?_⟩
 .rcases zt.1 f with f|f
  .exact m j p' f F K L N O o' U
  .simp at f;subst f;have:=R.de.one _ _ _ hp F;omega
 .constructor
  .intro h
   by_cases e:p'=p
   .subst e;rw[hp]at g;injection g with g;injection g with _ g
    simp[g]
   .have:=k V (R.de.made p i p' V hp (.inr r) g (by omega) (.inr B));simp[this]
  .intro h;rcases zt.1 h with h|h
   .have:=(hI.AB V p' g B).2 h;omega
   .simp at h;subst h;have:=R.de.one _ _ _ hp g;omega
 .rw [q8n];exact z
 .rw [Tu];exact hI.uA.put R A G hp t k C hI.closed ho Q hI.size I
 .rw [Tu];have:=hI.size;split<;>simpa using this
 .rcases zt.1 f with f|f
  .exact hI.TP j f
  .simp at f;subst f;exact⟨p,hp,t⟩
 .rcases zt.1 f with f|f
  .simp [hI.closed j f Y E]
  .simp at f;subst f;simp[k Y E]
def G_(R:RG P rt nt ops l plan sts M){rd:Option Nat}{S:List Nat}{q:Nat}{X:ar}{θ:Th}{a:Act}{w:NJ}{cs:List NY}(hI:Inv P base D0 θ0 w0 kR b nt rd ops l plan sts M S q X θ a w cs){i p:Nat}(hp:plan[p]? = B1 (B2,i))(f:p<=M)(d:i∉S)
 (c:∀j,((aW ops l).gn i).testBit j=B4->j∈S) {o:Pv} {ca:List bL×fL} {s:aR} (ho:ops[i]? = B1 o) (n:l[i]? = B1 ca) (r:s.args=ca.1) (k:guardOf ops o.guard=B1 s.guard) :
 (∀{wd:Bool},dt s (sts p).tm=B1 wd->Af o (yielded ops a.tmps)=wd) /\
 ∀{xs:List N0},nK P.globals.size xs=B1 ca.1 -> ∀{vs:List AV},mF (sts p).tm s.args=B1 vs->bN (DS D0 plan sts M S) θ vs (xs.map a.eval):=by
 have h:iR ops l i=(match guardOf ops o.guard with|some (B1 g)=>[g.1]|_=>[])++tmpsOf ca.1:=by unfold iR;rw[ho,n];rfl
 have e:∀t∈iR ops l i,t∈gQ ops l i:=λ t u=>by unfold gQ;simp[u]
 refine⟨λ{wd}hw=>xnk (D:=DS D0 plan sts M S) (θ:=θ) k (λ g hg v x=>?_) hw,λ{xs}y{vs}m=>?_⟩
 .exact I5 R hI hp f d c (e g.1 (by rw[h,k,hg];simp)) v x
 .rw [r]at m;exact DP hI.heap (λ t u v x=>I5 R hI hp f d c (e t (by rw[h];simp[u])) v x) y m
end
end Go.Am
namespace Go.Am
section
variable{P:Jy}{rt:RT}{nt:Nat}{ops:Array Pv}{l:List (List bL×fL)}{plan:List (Bool×Nat)}{sts:Nat->St}{M:Nat}
 {base:Nat} {D0:Nat->Prop} {θ0:Th} {w0:NJ} {kR:List NY} {b:NY}
def RG.made(R:RG P rt nt ops l plan sts M){p j:Nat}(hp:plan[p]? = B1 (B2,j))(m:p<M)(c:(aW ops l).cls j=.alloc)(h:(sts p).H.au<(sts (p+1)).H.au):∃r,(sts (p+1)).H.get (sts p).H.au=B1 r:=by
 have⟨s,o,ca,ho,t,k,z,n,y,x,q,i⟩:=R.at hp m;have g:(aW ops l).cls j=qT ca.2:=by simp[aW,om,k]
 rw[g]at c;cases i with
 |look hc=>rw[n]at hc;cases hc
 |skip hc hw hst=>rw[hst]at h;exact absurd h (FE _)
 |run hc hw vs v d u H' he hop hst =>
  rw[q]at hop;cases e:ca.2 with
  |alloc f =>
   rw[e]at hop;simp only[iE,qj,qk,iz.val.injEq]at hop;obtain⟨⟨r,mk⟩,_,_,rfl,rfl,rfl⟩:=hop;exact⟨r,by rw[hst];simp only[ar.bO,rN]⟩
  |_=>rw[e]at c;cases c
set_option maxHeartbeats 1000000 in
def xlg(R:RG P rt nt ops l plan sts M)(hP:dY P)(hcall:rR P base rt.call)(hround:xD P base rt.round)(hAP:rt.AP=aY P){S:List Nat}{q:Nat}{X:ar}{θ:Th}{a:Act}{w:NJ}{cs:List NY}
 (hI:Inv P base D0 θ0 w0 kR b nt rt.ctx.round ops l plan sts M S q X θ a w cs) {i p:Nat} (hp:plan[p]? = B1 (B2,i)) (A:p<M) (y:i∉S) (t:∀j,((aW ops l).gn i).testBit j=B4->j∈S) {n:Nat} (hfr:eC D0 (sts 0).H.au n)
 (hMn:(sts M).H.au<=n) (hend:M=plan.length \/ ∃j,plan[M]? = B1 (B2,j)) (h0:∀x o,(sts 0).H.get x=B1 o->D0 x) {k:List Item} {rest:List Nat} :
 ∃q' X' θ' a' w' cs',Steps P (lone (b.atR a (.inRegion ops (i::rest)::k)) cs w) (lone (b.atR a' (.inRegion ops rest::k)) cs' w')/\Inv P base D0 θ0 w0 kR b nt rt.ctx.round ops l plan sts M (S ++ [i]) q' X' θ' a' w' cs':=by
 have⟨s,o,ca,ho,hco,K,hsg,hsc,hsd,hsa,hso,hrel⟩:=R.at hp A;have⟨xs,hxs,V,hdef⟩:=NP hP hco;have⟨hwant,hopd⟩:=G_ R hI hp (by omega) y t ho K hsa hsg;have hcls:(aW ops l).cls i=qT ca.2:=by simp[aW,om,K]
 have hsn:=DS.snoc (D0:=D0) R (S:=S) hp A;have hnle:(sts (p+1)).H.au<=n:=zd (R.ext (p:=p+1) (p':=M) A (qm _)).1 hMn;have J:=DS.fresh R (S:=S) hp (by omega) y hfr (m:=(sts (p+1)).H.au) hnle (λ _=>qm _)
 -- no block bears a number that is to come
 have U:∀p1 p2:Nat,p1<=p2->p2<M->(sts p2).H.au<(sts (p2+1)).H.au->(sts p1).H.get (sts p2).H.au=none:=by
  intro p1 p2 G h2 h3;cases hg:(sts p1).H.get (sts p2).H.au with
  |none=>rfl
  |some o' =>
   exfalso;have e0:=(R.ext (p:=0) (p':=p2) (by omega) (by omega)).1;have e1:=(R.ext (p:=p1) (p':=p2) G (by omega)).1;have e2:=(R.ext (p:=p2+1) (p':=M) h2 (qm _)).1;rcases(R.ext (p:=0) (p':=p1) (by omega) (by omega)).2 _ _ hg with⟨o'',W,_⟩|⟨_,h8,_⟩
   .exact hfr _ e0 (by omega) (h0 _ _ W)
   .omega
 cases hrel with
 |look hc=>rw[hsc]at hc;cases hc
 |skip hc hw hst =>
  have hwf:=hwant hw;have hsk:=stepR_op_skip (P:=P) (b:=b) (a:=a) (k:=k) (cs:=cs) (w:=w) (ops:=ops) (i:=i) (rest:=rest) (by simp[ho,hwf]);rw[ho]at hsk;have g:DS D0 plan sts M (S ++ [i])=DS D0 plan sts M S:=by rw[hsn,hst];exact Up.none
  by_cases e:(aW ops l).cls i=.gY
  .have ⟨k1,k2,k3⟩:=Un R hI hp (by omega) y t (QA R hI hp y e) (.inr e);have B:=hI.J3 R (cs':=cs) (ds:=a.defers) hp A y t ho ⟨ca,K⟩ e (θ':=θ) (X':=X) (w':=w) (c:=undef) (by rw[g];exact hI.heap) hI.grow (λ x o' z=>by rw[hst]at z;exact k3 x o' z)
    (λ j p' hj hj2 hj3 hj4 hj5 hj6 o' L=>hI.Av j p' hj hj2 hj3 (by have:=QA R hI hp y e;omega) hj5 hj6 o' L) (Ag.refl _ _) (by rw[g,hst];simp only;rw[k1];exact hI.bj) (by rw[g,hst];simp only;rw[k2];exact hI.up)
    (by rw[hst];simp only;rw[k2];exact hI.Nt) hI.EK (λ d v Z hv=>by
     rw[hst,hsd,Z]at hv;simp only[eK,T.aK,rN,qk]at hv;subst hv;exact .undef)
   exact⟨_,_,_,_,_,_,.one hsk,B⟩
  .have B:=hI.step R hp A y t ho ⟨ca,K⟩ e (θ':=θ) (X':=X) (w':=w) (c:=undef) (by rw[g];exact hI.heap) hI.grow (λ x o' _ z=>z) (Ag.refl _ _) (λ _ N=>by rw[hst]at N;exact absurd N (FE _))
    (λ d v Z hv=>by
     rw[hst,hsd,Z]at hv;simp only[eK,T.aK,rN,qk]at hv;subst hv;exact .undef)
   exact⟨_,_,_,_,_,_,.one hsk,B⟩
 |run hc hw vs v d u H' he hop hst =>
  have hwt:=hwant hw;have hv:=hopd hxs he;rw[hso]at hop;have Y:∀(x:AV),(∀dd v',o.dst=B1 dd->(sts (p+1)).tm.get dd=B1 v'->v'=v):=by
   intro _ dd v' Z hv';rw[hst,hsd,Z]at hv';simp only[eK,T.aK,rN,qk]at hv';exact hv'.symm
  have hnd:ca.2≠ .defer->ca.2≠ .pure Op.fail->o.semAt b.roundOf a.eval=execOp a.eval o:=λ q1 q2=>Bg _ _ _ (by
   rcases hdef with h|h|h
   .exact h
   .exact absurd h q1
   .exact absurd h q2)
  by_cases e:qT ca.2=.gY
  .-- an effect
   have hce':(aW ops l).cls i=.gY:=by rw[hcls];exact e
   have hqp:=QA R hI hp y hce';have⟨k1,k2,k3⟩:=Un R hI hp (by omega) y t hqp (.inr hce');have I:(sts (p+1)).H=H':=by rw[hst]
   have hout:=Wa hP hcall hround hAP V hdef (rest:=rest) (k:=k) (st:=sts p) (cs:=cs) (r:=.val v d u H') ho hwt (hI.heap.sub k3) (by rw[k1];exact hI.bj) (by rw[k2];exact hI.up) hI.round hv hop (by rw[I]at J;exact J);have⟨θ',w',c,cs',ds,O,g2,g3,g4,g5,g6,g7,g8⟩:=hout;have hext:Ext (sts p).H H':=by rw[<-I];exact R.mono p A
   have g:DS D0 plan sts M (S ++ [i])=Up (DS D0 plan sts M S) (sts p).H.au H'.au:=by rw[hsn,I]
   -- what was made ahead of its time
   let Q:Nat->Prop:=λ p'=>p+1<=p' /\ ∃j,j∈S/\plan[p']? = B1 (B2,j)/\(aW ops l).cls j=.alloc/\(sts p').H.au<(sts (p'+1)).H.au
   let E:List Nat:=((N7 M).filter (λ p'=>@decide (Q p') (Classical.propDecidable _))).map (λ p'=>(sts p').H.au)
   have hEm:∀x,x∈E↔ ∃p',p'<M/\Q p'/\x=(sts p').H.au:=by
    intro x;simp only[E,CN,List.mem_filter,List.mem_range,OD];constructor
    .rintro ⟨p',⟨G,h2⟩,rfl⟩;exact⟨p',G,h2,rfl⟩
    .rintro ⟨p',G,h2,rfl⟩;exact⟨p',⟨G,h2⟩,rfl⟩
   have hE:∀x∈E,(sts p).H.get x=B5 /\ ∀o,X.get x=B1 o->own o=true:=by
    intro x z;obtain⟨p',G,⟨h2,j,h3,h4,h5,h6⟩,rfl⟩:=(hEm x).1 z;refine⟨U p p' (by omega) G h6,λ o' L=>?_⟩;have⟨ob,hob⟩:=R.made h4 G h5 h6;have:=hI.Av j p' h3 h4 h5 (by omega) G h6 ob hob;rw[L]at this;cases this;rcases(R.mono p' G).2 _ _ hob with⟨o'',W,_⟩|⟨_,_,h9⟩
    .rw [U p' p' (qm _) G h6]at W;cases W
    .exact h9
   have hn0:(sts 0).H.au<=H'.au:=by rw[<-I];exact(R.ext (p:=0) (p':=p+1) (by omega) A).1
   have⟨f1,f2⟩:=hI.heap.frame hI.grow (λ x z=>.inl z) k3 g2 g3 hext Up.of hn0 E hE;rw[<-g]at f1;have hnotE:∀x o',H'.get x=B1 o'->x∉E:=by
    intro x o' z hxE;obtain⟨p',G,⟨h2,j,h3,h4,h5,h6⟩,rfl⟩:=(hEm x).1 hxE;have:=U (p+1) p' h2 G h6;rw[I,z]at this;cases this
   have B:=hI.J3 R (cs':=cs') (ds:=ds) hp A y t ho ⟨ca,K⟩ hce' (θ':=θ') (X':=mg X E H') (w':=w') (c:=c) f1 f2
    (λ x o' z=>by
     rw[I]at z;rw[Pn,qv (λ q=>hnotE x o' z q.1)];exact z)
    (λ j p' hj hj2 hj3 hj4 hj5 hj6 o' L=>by
     have hX:=hI.Av j p' hj hj2 hj3 (by omega) hj5 hj6 o' L;rw[Pn,xb ⟨(hEm _).2 ⟨p',hj5,⟨hj4,j,hj,hj2,hj3,hj6⟩,rfl⟩,by rw[hX];rfl⟩];exact hX)
    g3.ag (by rw[g,hst];exact g5) (by rw[g,hst];exact g7) (by rw[hst];exact(g6.trans (by rw[k2])).trans hI.Nt) (fE.trans hI.Nt hI.EK (by rw[<-k2];exact g8))
    (λ dd v' Z hv'=>by rw[g,Y v dd v' Z hv'];exact g4)
   exact⟨_,_,_,_,_,_,O,B⟩
  .have hnce:(aW ops l).cls i≠ .gY:=by rw[hcls];exact e
   cases C:ca.2 with
   |pure f =>
    rw[C]at hop V hnd;simp only[iE,qj,qk,iz.val.injEq]at hop;obtain⟨v',G,rfl,rfl,rfl,rfl⟩:=hop;have g:DS D0 plan sts M (S ++ [i])=DS D0 plan sts M S:=by rw[hsn,hst];exact Up.none
    have⟨c,O,g2⟩:=V (DS D0 plan sts M S) θ a.eval w vs v' (SZ a) hv G;have F:=hnd (by intro q;cases q) (by intro q;cases q;cases G);have B:=hI.step R hp A y t ho ⟨ca,K⟩ hnce (θ':=θ) (X':=X) (w':=w) (c:=c) (by rw[g];exact hI.heap) hI.grow (λ x o' _ z=>z) (Ag.refl _ _) (λ _ N=>by rw[hst]at N;exact absurd N (FE _))
     (λ dd v'' Z hv'=>by rw[g,Y v' dd v'' Z hv'];exact g2)
    refine⟨_,_,_,_,_,_,.one ?_,B⟩;rcases O with O|⟨O,rfl⟩
    .exact K9 ho hwt (by rw[F];exact O)
    .exact Qq ho hwt (by rw[F];exact O)
   |read f =>
    have hop0:=hop;rw[C]at hop V hnd;simp only[iE,qj,qk,iz.val.injEq]at hop;obtain⟨v',G,rfl,rfl,rfl,rfl⟩:=hop;have g:DS D0 plan sts M (S ++ [i])=DS D0 plan sts M S:=by rw[hsn,hst];exact Up.none
    have⟨Hr,r1,r2⟩:=D7 R hI hp A y t hend ho K hsd hsa hso hsg C hw he G hst;have⟨c,O,g2⟩:=V base (DS D0 plan sts M S) θ Hr a.eval w vs v' (hI.heap.sub r1) hv r2;have F:=hnd (by intro q;cases q) (by intro q;cases q);have B:=hI.step R hp A y t ho ⟨ca,K⟩ hnce (θ':=θ) (X':=X) (w':=w) (c:=c) (by rw[g];exact hI.heap) hI.grow (λ x o' _ z=>z) (Ag.refl _ _) (λ _ N=>by rw[hst]at N;exact absurd N (FE _))
     (λ dd v'' Z hv'=>by rw[g,Y v' dd v'' Z hv'];exact g2)
    refine⟨_,_,_,_,_,_,.one ?_,B⟩;rcases O with O|⟨O,rfl⟩
    .exact K9 ho hwt (by rw[F];exact O)
    .exact Qq ho hwt (by rw[F];exact O)
   |alloc f =>
    rw[C]at hop V hnd;simp only[iE,qj,qk,iz.val.injEq]at hop;obtain⟨⟨ob,mk⟩,G,rfl,rfl,rfl,rfl⟩:=hop;have⟨hown,w1,co,ext,c,O,g2,g3⟩:=V.1 (DS D0 plan sts M S) θ a.eval w vs ob mk (SZ a) hv G;have F:=hnd (by intro q;cases q) (by intro q;cases q);have g:DS D0 plan sts M (S ++ [i])=Up (DS D0 plan sts M S) (sts p).H.au ((sts p).H.au+1):=by rw[hsn,hst];rfl
    have hn:¬DS D0 plan sts M S (sts p).H.au:=J _ (qm _) (by rw[hst];exact zy _);have hag:=Th.hJ θ (sts p).H.au w1.heap.size 0 ext hn;have⟨e1,e2,e3⟩:=Th.eO θ (sts p).H.au w1.heap.size 0 ext;have⟨k1,k2⟩:=g3 (Up (DS D0 plan sts M S) (sts p).H.au ((sts p).H.au+1)) (θ.add (sts p).H.au w1.heap.size 0 ext) (sts p).H.au hag Up.of (.inr ⟨qm _,zy _⟩) (by rw[e1,g2.heap]) e2 e3;have hX1:HR P base (DS D0 plan sts M S) θ {X with au:=(sts p).H.au} w1:=(HR.draw (w':=w1) hI.heap g2.heap).sub (λ x o z=>z);have hG1:bE D0 (sts 0).H θ0 w0 {X with au:=(sts p).H.au} θ w :=
     ⟨(R.ext (p:=0) (p':=p) (by omega) (by omega)).1,hI.grow.ag,hI.grow.size,hI.grow.os,hI.grow.tape,hI.grow.output,hI.grow.ai,hI.grow.news⟩
    have hA1:=hX1.alloc (w':=w1.alloc co) (co:=co) (k:=w1.heap.size) (off:=0) (ext:=ext) (o:=ob) hn (by rw[Cs];simp) (λ j hj=>by rw[Cs,qv (Ma hj)]) (qm _) (by simp) k1;have hG2:=(hG1.trans (bE.draw (D:=DS D0 plan sts M S) (w:=w) (w':=w1) g2.heap g2.os g2.tape g2.output) (λ x z=>.inl z)).trans (bE.alloc (w:=w1) hX1 hn ob co 0 ext) (λ x z=>.inl z);have B:=hI.step R hp A y t ho ⟨ca,K⟩ hnce (θ':=θ.add (sts p).H.au w1.heap.size 0 ext) (X':=({X with au:=(sts p).H.au}:ar).alloc ob) (w':=w1.alloc co) (c:=c) (by rw[g];exact hA1) hG2
     (λ x o' hx1 z=>by
      have⟨_,hx1,_⟩:=hx1;rw[ar.bO,qv (λ q=>hn (by rw[show(sts p).H.au=x from q];exact hx1))];exact z)
     hag
     (λ _ _ o' L=>by
      rw[hst]at L;simp only[ar.bO,rN]at L⊢;exact L)
     (λ dd v'' Z hv'=>by rw[g,Y (mk (sts p).H.au) dd v'' Z hv'];exact k2)
    exact⟨_,_,_,_,_,_,.one (K9 ho hwt (by rw[F];exact O)),B⟩
   |gY f=>rw[C]at e;exact absurd rfl e
   |ir f=>rw[C]at e;exact absurd rfl e
   |im=>rw[C]at e;exact absurd rfl e
   |invoke m=>rw[C]at e;exact absurd rfl e
   |recover=>rw[C]at e;exact absurd rfl e
   |defer=>rw[C]at e;exact absurd rfl e
   |panic=>rw[C]at e;exact absurd rfl e
def DS.nil:DS D0 plan sts M []=D0:=by
 funext x;simp only[DS,eq_iff_iff];constructor
 .rintro (h|⟨i,p,h,_⟩)
  .exact h
  .simp at h
 .exact .inl
def FH{i:Nat}:∀{l:List (Bool×Nat)}{x:Bool×Nat},x∈uX i l -> ∃p':Nat,l[p']? = B1 x /\ ∀u:Nat,u<=p'->l[u]?≠B1 (B2,i)
 |[],x,h=>by simp[uX]at h
 |(c,j)::l,x,h=>by
  unfold uX at h;cases hb:(!c && J8 j i)with
  |true=>rw[hb]at h;simp at h
  |false =>
   rw[hb]at h;simp only[zo,jj]at h;have d:(c,j)≠(B2,i):=by
    intro e;injection e with e1 e2
    subst e1;subst e2;simp at hb
   rcases h with rfl|h
   .exact ⟨0,rfl,λ u hu=>by
     obtain rfl:u=0:=by omega
     simpa using d⟩
   .have ⟨p',f,g⟩:=FH h;refine⟨p'+1,by simpa using f,λ u hu=>?_⟩;cases u with
    |zero=>simpa using d
    |succ u=>simpa using g u (by omega)
def DS.below(R:RG P rt nt ops l plan sts M){S:List Nat}{n:Nat}(hn:(sts M).H.au<=n):∀x,DS D0 plan sts M S x->Up D0 (sts 0).H.au n x:=by
 rintro x (h|⟨i,p,e,f,c,d,g⟩)
 .exact .inl h
 .refine .inr ⟨zd (R.ext (p:=0) (p':=p) (by omega) (by omega)).1 d,?_⟩;have:=(R.ext (p:=p+1) (p':=M) c (qm _)).1;omega
def bE.sub{D:Nat->Prop}{H:ar}{θ:Th}{w:NJ}{X:ar}{θ':Th}{w':NJ}(g:bE D H θ w X θ' w'){H':ar}(hn:H.au<=H'.au)(hs:∀b o,H'.get b=B1 o->X.get b=B1 o):bE D H θ w H' θ' w' :=
 ⟨hn,g.ag,g.size,g.os,g.tape,g.output,g.ai,λ b o hb=>g.news b o (hs b o hb)⟩
def _t(R:RG P rt nt ops l plan sts M){rd:Option Nat}{S:List Nat}{q:Nat}{X:ar}{θ:Th}{a:Act}{w:NJ}{cs:List NY}(hI:Inv P base D0 θ0 w0 kR b nt rd ops l plan sts M S q X θ a w cs){t:Nat}
 (d:∀j u:Nat,u<M->plan[u]? = B1 (B2,j)->ik ops j=B1 t->j∈S):∀v,(sts M).tm.get t=B1 v -> ∃c,a.tmps[t]? = B1 c/\VR (DS D0 plan sts M S) θ v c:=by
 have⟨p,h,i,k,o⟩:=hI.uA t;intro v n;refine i v ?_;rw[<-n];exact(R.kept h (qm _) (λ u j m e g f=>by
  have:=k j u (d j u e g f) g f;omega)).symm
end
section
variable{P:Jy}{rt:RT}{nt:Nat}{ops:Array Pv}{l:List (List bL×fL)}{plan:List (Bool×Nat)}{sts:Nat->St}{M:Nat}
 {base:Nat} {D0:Nat->Prop} {θ0:Th} {w0:NJ} {kR:List NY} {b:NY}
def Fp(R:RG P rt nt ops l plan sts M){S:List Nat}{q:Nat}{X:ar}{θ:Th}{a:Act}{w:NJ}{cs:List NY}(hI:Inv P base D0 θ0 w0 kR b nt rt.ctx.round ops l plan sts M S q X θ a w cs)(d:∀i,i<ops.size->i∈S){k:List Item}{m:Machine}
 (hs:Steps P m (lone (b.atR a k) cs w)):Out P base D0 θ0 b nt rt.ctx.round k (sts 0) kR w0 m .normal (sts M):=by
 have f:=DS.below R (D0:=D0) (S:=S) (qm (sts M).H.au);have⟨z,s,A⟩:=R.tI hI.XH (qm M) (λ u j C E g B=>by
  have:=(hI.AB j u g B).2 (d j (R.de.lt u j g));omega)
 have e:∀x o,(sts M).H.get x=B1 o->X.get x=B1 o:=by
  intro x o h;rcases A x o h with h|⟨j,u,n,r,y,G,I,rfl,J⟩
  .exact hI.T6 x o h
  .exact hI.Av j u (d j (R.de.lt u j y)) y G n r I o J
 refine⟨θ,a,w,cs,.normal,Bh hs,⟨(hI.heap.sub e).up f,λ t v F=>?_,hI.size,?_,?_,Ad.up (Ag.refl _ _) f hI.round⟩,hI.grow.sub (R.ext (p:=0) (p':=M) (by omega) (qm _)).1 e,trivial,by rw[s];exact hI.Nt,hI.EK⟩
 .have ⟨c,n,r⟩:=_t R hI (t:=t) (λ j u _ g _=>d j (R.de.lt u j g)) v F;exact⟨c,n,r.up (Ag.refl _ _) f⟩
 .rw [z];exact ic.up (Ag.refl _ _) f hI.bj
 .rw [s];exact rD.up (Ag.refl _ _) f hI.up
set_option maxHeartbeats 1000000 in
def xlf(R:RG P rt nt ops l plan sts M)(hP:dY P)(C:rR P base rt.call)(A:xD P base rt.round)(hAP:rt.AP=aY P)(hcm:pW rt.call)(hrm:Ae rt.round){steps:List aR}(e:dy (plan.map (jG ops l (Nz ops (aW ops l) plan)))=B1 steps)
 {r:aZ×St} (y:wK rt steps sts M r) (hfr:eC D0 (sts 0).H.au r.2.H.au) (hMn:(sts M).H.au<=r.2.H.au) (h0:∀x o,(sts 0).H.get x=B1 o->D0 x) {L:List Nat} (hL:Order (aW ops l) L) {k:List Item} :
 ∀(rest S:List Nat),L=S++rest -> ∀{q:Nat}{X:ar}{θ:Th}{a:Act}{w:NJ}{cs:List NY}{m:Machine},Inv P base D0 θ0 w0 kR b nt rt.ctx.round ops l plan sts M S q X θ a w cs->Steps P m (lone (b.atR a (.inRegion ops rest::k)) cs w) ->
  Out P base D0 θ0 b nt rt.ctx.round k (sts 0) kR w0 m r.1 r.2:=by
 have hsl:steps.length=plan.length:=by have:=(An e).1;simpa using this
 -- where the run ended
 have Q:M=plan.length \/ ∃j,plan[M]? = B1 (B2,j):=by
  rcases y with⟨G,_⟩|⟨s,vs,c,H',ds,G,I,_⟩
  .left;omega
  .right;have:=(An e).2 _ s G;rw[xj,xk]at this;have⟨⟨ch,j⟩,h3,h4⟩:=this;obtain⟨o,ca,g,_,_,_,rfl⟩:=NC h4;have I:ch=false:=I;subst I;exact⟨j,h3⟩
 intro rest
 induction rest with
 |nil =>
  intro S B q X θ a w cs m hI hs;rw[zn]at B;have O:∀i,i<ops.size->i∈S:=λ i hi=>B▸hL.all i hi;rcases y with⟨_,rfl⟩|⟨s,vs,c,H',ds,G,I,_⟩
  .exact Fp R hI O (hs.trans (.one stepR_region_end))
  .exfalso;rcases Q with h|⟨j,hj⟩
   .rw [z4 (by omega)]at G;cases G
   .have ⟨p,Z,hp2⟩:=hI.TP j (O j (R.de.lt M j hj));have:=R.de.one _ _ _ hj Z;omega
 |cons i rest ih =>
  intro S B q X θ a w cs m hI hs;have⟨F,z⟩:=hL.gn S i rest B;have hin:i<(aW ops l).n:=hL.lt i (by rw[B];simp);have⟨p,hp⟩:=R.de.all i hin
  by_cases hpM:p<M
  .have ⟨q',X',θ',a',w',cs',g1,g2⟩:=xlg R hP C A hAP hI hp hpM F z hfr hMn Q h0 (k:=k) (rest:=rest);exact ih (S ++ [i]) (by rw[B];simp) g2 (hs.trans g1)
  .-- the one that panics
   rcases y with⟨G,_⟩|⟨s,vs,c,H',ds,G,I,hw,he,hop,hps,rfl⟩
   .have:=(qo.1 hp).1;omega
   .have hsM:=(An e).2 _ s G;rw[xj,xk]at hsM;have⟨⟨ch,i0⟩,h3,h4⟩:=hsM;obtain⟨o,ca,g,ho,Y,hsg,rfl⟩:=NC h4;have I:ch=false:=I;subst I;have hi0S:i0∉S:=λ h=>by
     have⟨p',Z,hp2⟩:=hI.TP i0 h;have:=R.de.one _ _ _ h3 Z;omega
    have U:Nz ops (aW ops l) plan i0=B1 ds:=hps;unfold Nz at U;rcases yk U with⟨hsafe,E⟩|⟨_,E⟩
    .have hii:i=i0:=by
      have:=Sr hsafe i hin;simp only[AK,kc]at this;rcases this with h|h|h
      .exact h
      .exfalso;rw[PE]at h;rcases h with h|h
       .simp at h
       .have ⟨p',k1,k2⟩:=FH h;have:=R.de.one _ _ _ hp k1;subst this;exact k2 M (by omega) h3
      .exact absurd (z i0 h) hi0S
     subst hii;have hpe:=R.de.one _ _ _ hp h3;subst hpe;have hco:gB P o=B1 ca:=by
      have:=(An R.comp).2 _ ca Y;rw[xj,kh,ho]at this
      simpa using this
     have⟨xs,hxs,hok,hdef⟩:=NP hP hco;have⟨hwant,hopd⟩:=G_ R (s:={iq:=B2,dst:=o.dst,guard:=g,args:=ca.1,op:=ca.2,cF:=Nz ops (aW ops l) plan i}) hI hp (qm _) F z ho Y rfl hsg;have hce:(aW ops l).cls i=.gY:=by
      have:(aW ops l).cls i=qT ca.2:=by
       have hla':l[i]? = B1 ca:=Y;simp[aW,om,hla']
      rw[this];have d:iE rt (sts p) vs ca.2=B1 (.panic c H'):=hop;cases W:ca.2 with
      |pure f=>rw[W]at d;simp only[iE,qj,qk,reduceCtorEq,and_false,exists_false]at d
      |read f=>rw[W]at d;simp only[iE,qj,qk,reduceCtorEq,and_false,exists_false]at d
      |alloc f=>rw[W]at d;simp only[iE,qj,qk,reduceCtorEq,and_false,exists_false]at d
      |_=>rfl
     have hqp:=QA R hI hp F hce;have⟨k1,k2,k3⟩:=Un R hI hp (qm _) F z hqp (.inr hce);have N:(sts p).H.au<=H'.au:=hMn;have K:=DS.fresh R (S:=S) hp (qm _) F hfr (m:=H'.au) (qm _) (λ h=>absurd h (FE _));have hout:=Wa hP C A hAP hok hdef (rest:=rest) (k:=k) (st:=sts p) (cs:=cs) (r:=.panic c H') ho (hwant hw) (hI.heap.sub k3) (by rw[k1];exact hI.bj) (by rw[k2];exact hI.up) hI.round (hopd hxs he) hop K;have⟨θ',w',ps,todo,g1,g2,g3,g4,g5⟩:=hout;have V:∀x,Up (DS D0 plan sts p S) (sts p).H.au H'.au x->Up D0 (sts 0).H.au H'.au x:=by
      rintro x (h|⟨G,I⟩)
      .exact DS.below R N x h
      .exact .inr ⟨zd (R.ext (p:=0) (p':=p) (by omega) (qm _)).1 G,I⟩
     have J:∀x,DS D0 plan sts p S x->Up D0 (sts 0).H.au H'.au x:=λ x hx=>V x (.inl hx);have hG:=(hI.grow.sub (R.ext (p:=0) (p':=p) (by omega) (qm _)).1 k3).trans g3 (λ x hx=>.inl hx);refine⟨θ',a,w',cs,.panic ps,⟨todo,Bh (hs.trans g1)⟩,⟨g2.up V,λ t v hv=>?_,hI.size,?_,?_,Ad.up g3.ag J hI.round⟩,hG,⟨g4,fT.up (Ag.refl _ _) V g5⟩,?_,hI.EK⟩
     .have hv:(forget ds (sts p).tm).get t=B1 v:=hv;rw[T.rj]at hv;split at hv
      .cases hv
      .rename_i hnt;have⟨c',k4,k5⟩:=_t R hI (t:=t) (λ j u hu hj hd=>by
        exfalso;apply hnt;injection E with E
        rw[<-E];unfold ik at hd;rw[qj]at hd;have⟨oj,hoj,hd⟩:=hd;rw[List.mem_filterMap];exact⟨oj,by have:=Array.mem_of_getElem? hoj;simpa using this,hd⟩) v hv
       exact⟨c',k4,k5.up g3.ag J⟩
     .show ic _ θ' (sts p).bj a.defers;rw[k1];exact ic.up g3.ag J hI.bj
     .show rD _ θ' b.kind (sts p).up cs;rw[k2];exact rD.up g3.ag J hI.up
     .show (sts p).up.isSome=(sts 0).up.isSome;rw[k2];exact hI.Nt
    .cases E
end
set_option maxHeartbeats 1000000 in
def q74{P:Jy}{base:Nat}(U:dY P){rt:RT}(X:rt.AP=aY P)(F:rR P base rt.call)(B:xD P base rt.round)(G:pW rt.call)(L:Ae rt.round):Nu P base rt:=by
 intro nt id ops c m D0 θ0 b k st a cs w r E hr hf;unfold iV at m;split at m
 .rename_i O;simp only[qj,rN]at m;have⟨l,hl,m⟩:=m;rcases yk m with⟨f,m⟩|⟨_,m⟩
  .simp only[qj,qk]at m;obtain⟨steps,e,rfl⟩:=m;generalize mY (aW ops l).cls (aW ops l).gn ops.size (2*ops.size) 0 []=plan at f e;rw[zf]at f;have hF:zG (aW ops l) plan:=Cj rfl rfl f.1 f.2;have hr:(hC steps).run rt st=B1 r:=hr;have⟨sts,M,hs0,hM,Q,y⟩:=Q_ hr;have hsl:steps.length=plan.length:=by have:=(An e).1;simpa using this
   have z:∀p,p<M -> ∃q s o ca g,plan[p]? = B1 q/\ops[q.2]? = B1 o/\gB P o=B1 ca/\l[q.2]? = B1 ca/\guardOf ops o.guard=B1 g/\s.iq=q.1/\s.dst=o.dst/\s.guard=g/\s.args=ca.1/\s.op=ca.2/\iQ rt s (sts p) (sts (p+1)):=by
    intro p hp;have⟨s,V,h2⟩:=Q p hp;have:=(An e).2 _ s V;rw[xj,xk]at this;have⟨q,h3,W⟩:=this;obtain⟨o,ca,g,ho,A,S,rfl⟩:=NC W;have n:gB P o=B1 ca:=by
     have:=(An hl).2 _ ca A;rw[xj,kh,ho]at this
     simpa using this
    exact⟨q,_,o,ca,g,h3,ho,n,A,S,rfl,rfl,rfl,rfl,rfl,h2⟩
   have J:∀p,p<M->Ext (sts p).H (sts (p+1)).H:=by
    intro p hp;have⟨q,s,o,ca,g,_,_,n,_,_,_,_,_,_,hso,h⟩:=z p hp;have⟨xs,_,K,_⟩:=NP U n;cases h with
    |skip m hw h=>rw[h];exact Ext.refl _
    |look m d hd h hl=>rw[h];exact Ext.refl _
    |run m hw vs v d u H' he ho h =>
     rw[hso]at ho;have:=Vy G L K.mono ho;rw[h];exact this
   have R:RG P rt nt ops l plan sts M:=⟨hl,O,hF,by omega,z,J⟩
   have Y:(sts M).H.au<=r.2.H.au:=by
    rcases y with⟨_,rfl⟩|⟨s,vs,c,H',ds,V,_,_,_,hop,_,rfl⟩
    .exact qm _
    .have:=(An e).2 _ s V;rw[xj,xk]at this;have⟨q,h3,W⟩:=this;obtain⟨o,ca,g,ho,A,S,rfl⟩:=NC W;have n:gB P o=B1 ca:=by
      have:=(An hl).2 _ ca A;rw[xj,kh,ho]at this
      simpa using this
     have⟨xs,_,K,_⟩:=NP U n;exact _N G L K.mono hop
   have hL:=q45 (ops:=ops) (I:=aW ops l) rfl (λ i=>rfl) hF (w.tape w.drawn (.order b.fn id));have C:Region.schedule (P.follows .mixedOrders) ops (w.tape w.drawn (.order b.fn id))=C0 .any ops (w.tape w.drawn (.order b.fn id)):=by
    rw[U.mixed];rfl
   subst hs0;have hI:Inv P base D0 θ0 w cs b nt rt.ctx.round ops l plan sts M [] 0 (sts 0).H θ0 a {w with drawn:=w.drawn+1} cs:=by
    have N:DS D0 plan sts M []=D0:=DS.nil;refine⟨by rw[N];exact E.heap.draw rfl,bE.draw rfl rfl rfl rfl,λ x o hx=>hx,λ j p hj=>by simp at hj,x9 _,λ i p _ _=>by simp,.inl rfl,by rw[N];exact E.bj,by rw[N];exact E.up,rfl,fE.refl E.up,
     λ t=>⟨0,x9 _,λ v hv=>by rw[N];exact E.uA t v hv,λ j p hj=>by simp at hj,.inl rfl⟩,E.size,by rw[N];exact E.round,λ i Z=>by simp at Z,λ i Z=>by simp at Z⟩
   refine xlf R U F B X G L e y hf Y (λ x o hx=>(E.heap.obj x o hx).1) hL _ [] rfl hI (.one ?_);rw[stepR_region_draw,C];rfl
  .cases m;cases hr
 .cases m
end Go.Am
namespace Go.Am
section
variable{P:Jy}{base:Nat}
def x_:∀(vs:List AV)(i:Nat)(t:T AV)(j:Nat),(jZ i vs t).get j=if i<=j/\j<i+vs.length then vs[j-i]? else t.get j
 |[],i,t,j=>by simp[jZ];omega
 |v::vs,i,t,j=>by
  rw[jZ,x_ vs (i+1),T.aK]
  by_cases c:i=j
  .subst c;rw[qv (by omega),xb rfl,xb (by simp)];simp
  .simp only[c,nT,zr]
   by_cases d:i+1<=j/\j<i+1+vs.length
   .rw [xb d,xb (by omega)];obtain⟨k,rfl⟩:∃k,j=i+1+k:=⟨j-(i+1),by omega⟩
    rw[show i+1+k-(i+1)=k from by omega,show i+1+k-i=k+1 from by omega];simp
   .rw [qv d,qv (by omega)]
def Lv{D:Nat->Prop}{θ:Th}{vs:List AV}{args:Array K8}(h:bN D θ vs args.toList)(n:Nat):qA D θ (jZ 0 vs .nil) (args++CA n undef):=by
 intro t v d;rw[x_,T.get_nil]at d;split at d
 .rename_i g;rw[Kv]at d;have⟨c,e,f⟩:=h.rB d;refine⟨c,?_,f⟩;rw[kh]at e;rw[Array.getElem?_append_left]
  .exact e
  .exact (Np.1 e).1
 .cases d
def D8{D:Nat->Prop}{θ:Th}:∀{e:List Nat}{vs:List AV}{cs:List K8}{tm d:T AV}{a:Array K8},L7 tm e vs=B1 d->bN D θ vs cs->(∀p∈e,p<a.size)->qA D θ tm a ->
 cs.length=e.length/\qA D θ d ((e.zip cs).foldl (λ tmps(t,x)=>tmps.setIfInBounds t x) a)/\((e.zip cs).foldl (λ tmps(t,x)=>tmps.setIfInBounds t x) a).size=a.size
 |[],[],cs,tm,d,a,h,hv,hp,ht=>by
  cases h;rw[hv.mr];exact⟨rfl,ht,rfl⟩
 |p::e,v::vs,cs,tm,d,a,h,hv,hp,ht=>by
  obtain⟨c,cs',rfl,f,g⟩:=hv.d9;have⟨j,k,m⟩:=D8 (tm:=tm.set p v) (a:=a.setIfInBounds p c) h g (λ q i=>by simpa using hp q (by simp[i])) (ht.put (hp p (by simp)) f);refine⟨by simp[j],by simpa using k,?_⟩;simp only[List.zip_cons_cons,NH];rw[m];simp
 |[],_::_,_,_,_,_,h,_,_,_=>by cases h
 |_::_,[],_,_,_,_,h,_,_,_=>by cases h
def Aa(a:Array K8):ResultVar->Sem K8
 | .tmp t=>pure (a.getD t undef)
 | .cell x t=>do loadVar t (<-asAddr (a.getD x undef))
def xjo(fn:Func)(a:Array K8):results fn a=(do let vs <-fn.results.mapM (Aa a);pure (if h:vs.size=1 then vs[0]else .tuple vs)):=rfl
def xdm{D:Nat->Prop}{θ:Th}{H:ar}{w:NJ}(z:HR P base D θ H w){tm:T AV}{a:Array K8}(m:qA D θ tm a){r:ResultVar}{rs:List ResultVar}{s:eE}{f:List eE}
 (i:qU P (r::rs)=B1 (s::f)) {v:AV} (d:NB H tm s=B1 v):qU P rs=B1 f /\ ∃c,(Aa a r).run P w=.ok c w/\VR D θ v c:=by
 cases r with
 |tmp t =>
  simp only[qU,qj,qk,zz]at i;obtain⟨l,hl,rfl,rfl⟩:=i;have⟨c,g,h⟩:=m t v d;exact⟨hl,c,by simp[Aa,g],h⟩
 |cell x t =>
  simp only[qU,qj,qk,zz]at i;obtain⟨n,hn,l,hl,rfl,rfl⟩:=i;refine⟨hl,?_⟩;have⟨y,A⟩:=SM (w:=w) hn;cases n with
  |none =>
   simp only[NB,qj]at d;have⟨u,hu,d⟩:=d;split at d
   .rename_i b o;have⟨c,g,h⟩:=m x _ hu;have⟨j,p,q⟩:=z.ah d;have e:a.getD x undef=.pointer (B1 ⟨θ.cq b,θ.off b+o,B5⟩):=by
     have:=h.now;simp only[az]at this;simp[yd,g,<-this]
    exact⟨j,by simp only[Aa,e,asAddr,NQ,Qh,NM,loadVar,y,Lb,zu,nT,p],q⟩
   .cases d
  |some n =>
   simp only[NB,qj]at d;have⟨u,hu,d⟩:=d;split at d
   .rename_i b o;have⟨c,g,h⟩:=m x _ hu;simp only[qj,qk]at d;obtain⟨B,k,rfl⟩:=d;have⟨j,p,q,_⟩:=z.aw k;have e:a.getD x undef=.pointer (B1 ⟨θ.cq b,θ.off b+o,B5⟩):=by
     have:=h.now;simp only[az]at this;simp[yd,g,<-this]
    exact⟨.agg j.toArray,by simp only[Aa,e,asAddr,NQ,Qh,NM,loadVar,y,vn,rN,A n rfl,p],.agg q⟩
   .cases d
def q51{D:Nat->Prop}{θ:Th}{H:ar}{w:NJ}(f:HR P base D θ H w){tm:T AV}{a:Array K8}(g:qA D θ tm a):∀{rs:List ResultVar}{d:List eE},qU P rs=B1 d -> ∀{vs:List AV},ep H tm d=B1 vs ->
 ∃cs:List K8,(rs.mapM (Aa a)).run P w=.ok cs w/\bN D θ vs cs
 |[],d,hc,vs,hv=>by
  cases hc;cases hv;exact⟨[],by simp,.nil⟩
 |r::rs,d,hc,vs,hv=>by
  obtain⟨p,e,rfl⟩:∃x l,d=x::l:=by
   cases r<;>(simp only[qU,qj,qk]at hc)<;>grind
  simp only[ep,qj,qk]at hv;obtain⟨v,h,o,i,rfl⟩:=hv;have⟨hl,c,j,k⟩:=xdm f g hc h;have⟨cs,m,n⟩:=q51 f g hl i;refine⟨c::cs,?_,.cons k n⟩;rw[List.mapM_cons];simp only[NQ,j,NM,m,Qh]
def xfv{D:Nat->Prop}{θ:Th}{H:ar}{w:NJ}(i:HR P base D θ H w){tm:T AV}{a:Array K8}(j:qA D θ tm a){fn:Func}{d:List eE}(g:qU P fn.results.toList=B1 d){vs:List AV}(k:ep H tm d=B1 vs) :
 ∃c,(results fn a).run P w=.ok c w/\VR D θ (jE vs) c:=by
 have⟨cs,f,e⟩:=q51 i j g k;have hl:=e.length;rw[xjo,Array.mapM_eq_mapM_toList];simp only[map_eq_pure_bind,bind_assoc,NQ];refine⟨if h:cs.toArray.size=1 then cs.toArray[0]else .tuple cs.toArray,?_,?_⟩
 .rw [f];simp
 .cases vs with
  |nil=>rw[e.mr];exact .tuple .nil
  |cons v vs =>
   cases vs with
   |nil =>
    obtain⟨c,cs',rfl,m,n⟩:=e.d9;rw[n.mr];exact m
   |cons v' vs =>
    have:¬cs.toArray.size=1:=by simp at hl⊢;omega
    rw[dif_neg this];exact .tuple e
def mR(D:Nat->Prop)(θ:Th):Option aH->FrameMode->Prop
 |none,.returning=>True
 |some c,.panicking ps=>c≠[]/\fT D θ c ps
 |_,_=>False
def q7o{fr:NY}{cs:List NY}{w:NJ}{r:Nat}{ds:List Deferred}(hm:fr.mode≠ .run)(d:fr.defers = {target:=.collected r,args:=#[]}::ds)(h:w.heap[r]? = B1 (.deferred (B1 []))) :
 step P (lone fr cs w)=.next (lone {fr with defers:=ds} cs (fH w r (.deferred B5))):=by
 refine step_lone_go ?_;have e:=run_takeDeferred (P:=P) h;cases c:fr.mode with
 |run=>exact absurd c hm
 |returning=>simp[stepG,unwind,c,d,Sem.runT_eq,e];rfl
 |panicking ch=>simp[stepG,unwind,c,d,Sem.runT_eq,e];rfl
def af7{D:Nat->Prop}{θ:Th}{m:Option aH}{up:aH}{o:Option aH}(h:nU m up=B1 o){u:FrameMode}(hu:qS D θ up u):mR D θ o (settle u):=by
 have g:∀{c:aH}{d:List PanicEntry},fT D θ c d->d.dropWhile (!·.goexit)=[]:=by
  intro c
  induction c with
  |nil=>intro d h;cases d with
   |nil=>rfl
   |cons _ _=>exact h.elim
  |cons e es ih =>
   intro d h;cases d with
   |nil=>rfl
   |cons p d =>
    have⟨⟨_,_,f⟩,j⟩:=h;simp[List.dropWhile_cons,f,ih j]
 unfold nU at h;split at h
 .cases h;cases u with
  |run=>exact hu.elim
  |returning=>trivial
  |panicking d=>exact absurd rfl hu.1
 .cases h;cases u with
  |run=>exact hu.elim
  |returning=>cases hu
  |panicking d =>
   have⟨_,hu⟩:=hu;cases d with
   |nil=>exact hu.elim
   |cons p d =>
    have⟨⟨q,i,f⟩,j⟩:=hu;have⟨pv,s,r⟩:=p;simp only at i f;subst i;subst f;simp only[settle,g j,mR]
 .cases h;cases u with
  |run=>exact hu.elim
  |returning=>cases hu
  |panicking d =>
   have⟨k,hu⟩:=hu;cases d with
   |nil=>exact hu.elim
   |cons p d =>
    have n:=hu;have⟨⟨q,i,f⟩,j⟩:=hu;have⟨pv,s,r⟩:=p;simp only at i f;subst i;subst f;simp only[settle,mR];exact⟨k,n⟩
 .cases h
def Vi(J:dY P){call:b9}(j:rR P base call)(t:pW call){fn:Func}{rs:List eE}(A:qU P fn.results.toList=B1 rs){tm:T AV} :
 ∀(ds:List aQ){m:Option aH}{D:Nat->Prop}{θ:Th}{H:ar}{w:NJ}{r:bJ×ar}{fr:NY}{cs:List NY},ct call rs tm ds m H=B1 r->HR P base D θ H w->ic D θ ds fr.defers->mR D θ m fr.mode->qA D θ tm fr.tmps ->
  P.funcs[fr.fn]? = B1 fn->eC D H.au r.2.au ->
  ∃θ' w' Gf e',Steps P (lone fr cs w) (lone Gf cs w')/\Gf.fn=fr.fn/\Gf.kind=fr.kind/\Gf.going P w' e'/\QN (Up D H.au r.2.au) θ' r.1 e'/\HR P base (Up D H.au r.2.au) θ' r.2 w'/\bE D H θ w r.2 θ' w'
 |[],m,D,θ,H,w,r,fr,cs,h,hh,g,hm,ht,hf,hfr=>by
  have E:fr.defers=[]:=by
   cases i:fr.defers with
   |nil=>rfl
   |cons _ _=>rw[i]at g;exact g.elim
  cases m with
  |none =>
   simp only[ct,qj,qk]at h;obtain⟨l,hl,rfl⟩:=h;obtain⟨c,h1,h2⟩:=xfv hh ht A hl;have k:fr.mode=.returning:=by
    cases i:fr.mode<;>rw[i]at hm<;>first|rfl|exact hm.elim
   exact⟨θ,w,fr,.returned c,.refl _ _,rfl,rfl,⟨k,E,fn,hf,h1⟩,by rw[Up.none];exact h2,by rw[Up.none];exact hh,.refl _ _ _ _⟩
  |some c =>
   injection h with h;subst h
   cases i:fr.mode with
   |run=>rw[i]at hm;exact hm.elim
   |returning=>rw[i]at hm;exact hm.elim
   |panicking ps =>
    rw[i]at hm;exact⟨θ,w,fr,.panicked ps,.refl _ _,rfl,rfl,⟨i,E,fn,hf⟩,by rw[Up.none];exact hm,by rw[Up.none];exact hh,.refl _ _ _ _⟩
 | .jJ b::ds,m,D,θ,H,w,r,fr,cs,h,hh,g,hm,ht,hf,hfr=>by
  simp only[ct]at h;split at h
  .rename_i n;obtain⟨hDb,co,K,G,rfl,x⟩:=hh.obj _ _ n;cases G with
   |none=>exact x.elim
   |some l' =>
    obtain⟨_,z⟩:=x;have z:l'=[]:=z;subst z;cases i:fr.defers with
    |nil=>rw[i]at g;exact g.elim
    |cons e es =>
     rw[i]at g;obtain⟨⟨_,he⟩,g⟩:=g;subst he;have d:fr.mode≠ .run:=by intro q;rw[q]at hm;cases m<;>exact hm.elim
     have B:=q7o (P:=P) (cs:=cs) d i K;have F:=hh.set (o':=.deferred B5) (co':=.deferred B5) n rfl rfl ⟨B5,rfl,trivial⟩;have C:bE D H θ w (H.set b (.deferred B5)) θ (fH w (θ.cq b) (.deferred B5)):=bE.set n rfl (hh.lt n);obtain⟨θ',w',Gf,e',O,Q,k3,k4,k5,k6,k7⟩:=Vi J j t A ds (fr:={fr with defers:=es}) (cs:=cs) h F g hm ht hf hfr;exact⟨θ',w',Gf,e',.head B O,Q,k3,k4,k5,k6,C.trans k7 (λ _ h=>h)⟩
  .cases h
 | .fn (.func f) args::ds,m,D,θ,H,w,r,fr,cs,h,hh,g,hm,ht,hf,hfr=>by
  simp only[ct,qj]at h;obtain⟨⟨e,u,H1⟩,V,h⟩:=h;simp only at h;cases e with
  |panic _=>cases h
  |ret v =>
   cases u with
   |none=>cases h
   |some up' =>
    simp only[qj]at h;obtain⟨m',L,h⟩:=h;have s:=qw t h;have o:=(t _ _ _ _ _ _ _ V).1;cases i:fr.defers with
    |nil=>rw[i]at g;exact g.elim
    |cons dd es =>
     rw[i]at g;obtain⟨⟨c,cap,he,h4,h5⟩,g⟩:=g;subst he;have d:fr.mode≠ .run:=by intro q;rw[q]at hm;cases m<;>exact hm.elim
     have k:qS D θ (m.getD []) fr.mode:=by
      cases m with
      |none =>
       cases p:fr.mode with
       |run=>exact absurd p d
       |returning=>rfl
       |panicking ps=>rw[p]at hm;exact hm.elim
      |some ch =>
       cases p:fr.mode with
       |run=>exact absurd p d
       |returning=>rw[p]at hm;exact hm.elim
       |panicking ps=>rw[p]at hm;exact hm
     obtain⟨⟨fn2,c2,O,Q⟩,θ',w',cs',fr2,e',s1,s2,s3,s4,Y,s6,S,s8,s9,R⟩:=j D θ H w f args (c++cap) (B1 (m.getD [])) H1 (.ret v) (B1 up') .deferred ({fr with defers:=es}::cs) hh h5 ⟨rfl,k⟩ V (hfr.left s);obtain⟨U,rfl⟩:=s9;have B:=step_defer (P:=P) (cs:=cs) d i (f:=f) (args:=c++cap) rfl (by
      show(callFunc f (c++cap)).run P w=_;exact Pa J O Q)
     cases e' with
     |panicked _=>exact Y.elim
     |outgrown=>exact Y.elim
     |returned cv =>
      have y:=step_going_returned (P:=P) (c:={{fr with defers:=es}with mode:=U}) (cs:=cs) s2 s4;have N:=af7 L R.2;obtain⟨θ2,w2,I,Z,r1,r2,r3,r4,W,X,r7⟩:=Vi J j t A ds (fr:={{{fr with defers:=es}with mode:=U}with mode:=settle U}) (cs:=cs) h s6 (ic.up S.ag Up.of g) N (ht.up S.ag Up.of) hf (hfr.right o);rw[Up.up o s]at W X;exact⟨θ2,w2,I,Z,.head B (s1.trans (.head y r1)),r2,r3,r4,W,X,S.trans r7 Up.of⟩
 | .fn (.yield _) _::_,m,D,θ,H,w,r,fr,cs,h,_,_,_,_,_,_=>by simp[ct]at h
def xid(R:dY P){call:b9}{n:Nat}(j:rR P base call)(s:pW call)(o:xD P base (rounds (aY P) call n n))(I:Ae (rounds (aY P) call n n))
 (G:∀rt:RT,rt.AP=aY P->rR P base rt.call->xD P base rt.round->pW rt.call->Ae rt.round->Nu P base rt):rR P base (GI (aY P) call n):=by
 intro D θ H w f vs args up H' e U kind cs hh hv hu h V;simp only[GI,qj]at h;have⟨af,p,⟨x,cZ⟩,W,h⟩:=h;simp only[aY,qj]at p;have⟨fn,z,p⟩:=p;have A:=p;simp only[ux,qj,qk]at A;obtain⟨body,r,⟨ac,L⟩,K,rs,S,rfl⟩:=A;refine⟨⟨fn,body,z,r⟩,?_⟩;have O:∃m,(match x with| .normal=>m=B5| .ret=>m=B5| .panic c=>m=B1 c|_=>False) /\ ∃q,ct call rs cZ.tm cZ.bj m cZ.H=B1 q/\e=q.1/\U=cZ.up/\H'=q.2:=by
  unfold qG at h;cases x with
  |normal =>
   simp only[qj,qk,ze]at h;have⟨q,v,t,F,u⟩:=h;exact⟨B5,rfl,q,v,t.symm,F.symm,u.symm⟩
  |ret =>
   simp only[qj,qk,ze]at h;have⟨q,v,t,F,u⟩:=h;exact⟨B5,rfl,q,v,t.symm,F.symm,u.symm⟩
  |panic c =>
   simp only[qj,qk,ze]at h;have⟨q,v,t,F,u⟩:=h;exact⟨B1 c,rfl,q,v,t.symm,F.symm,u.symm⟩
  |exit _=>cases h
  |goto _=>cases h
 obtain⟨m,hm,⟨e1,H1⟩,Q,rfl,rfl,rfl⟩:=O;have g:=qw s Q;have N:=(vS R body K).1;have d:H.au<=cZ.H.au:=Ow (rt:=⟨aY P,call,rounds (aY P) call n n,n,⟨B5,f⟩⟩) s I N W
 let b:Frame:={(default:NY)with fn:=f,kind:=kind}
 have y:Frame.enter P f args kind=b.atR {tmps:=args++CA (fn.ntmps-args.size) undef,defers:=[]} [.code body]:=by
  simp[Frame.enter,Bm,z,r,b];rfl
 have hS:SR P base D θ b fn.ntmps B5 {tm:=jZ 0 vs .nil,bj:=[],up:=up,H:=H} {tmps:=args++CA (fn.ntmps-args.size) undef,defers:=[]} cs w :=
  ⟨hh,Lv hv _,by simp;omega,trivial,hu,rfl⟩
 have B:=A4 (rt:=⟨aY P,call,rounds (aY P) call n n,n,⟨B5,f⟩⟩) R j o rfl s I (G _ rfl j o s I) z p body K (λ i l hl=>by rw[yf];exact hl) (b:=b) (k:=[]) hS rfl W (V.left g);rw[<-y]at B;have⟨θ1,J,w1,C,E,v,t,F,u,h5,h6⟩:=B
 -- the frame that unwinds
 obtain⟨fr,k1,X,k3,k4,k5,k6⟩:∃fr:NY,Steps P (lone (Frame.enter P f args kind) cs w) (lone fr C w1)/\fr.fn=f/\fr.kind=kind/\fr.defers=J.defers/\fr.tmps=J.tmps/\mR (Up D H.au cZ.H.au) θ1 m fr.mode:=by
  cases x with
  |normal =>
   have hm:m=none:=hm;subst hm;cases E<;>try exact u.elim
   exact⟨{b.atR J []with mode:=.returning},(BP v).trans (.one (stepR_end rfl)),rfl,rfl,rfl,rfl,trivial⟩
  |ret =>
   have hm:m=none:=hm;subst hm;cases E<;>try exact u.elim
   have⟨todo,hs⟩:=v.1 rfl;exact⟨{b.atR J todo with mode:=.returning},BP hs,rfl,rfl,rfl,rfl,trivial⟩
  |panic c =>
   have hm:m=B1 c:=hm;subst hm;cases E<;>try exact u.elim
   rename_i ps;have⟨todo,hs⟩:=v;exact⟨{b.atR J todo with mode:=.panicking ps},BP hs,rfl,rfl,rfl,rfl,u⟩
  |exit _=>exact hm.elim
  |goto _=>exact hm.elim
 have⟨θ',w',Gf,e',r1,r2,r3,r4,Y,Z,r7⟩:=Vi R j s S cZ.bj (fr:=fr) (cs:=C) Q t.heap (by rw[k4];exact t.bj) k6 (by rw[k5];exact t.uA) (by rw[X];exact z) (V.right d);rw[Up.up d g]at Y Z;refine⟨θ',w',C,Gf,e',k1.trans r1,r3.trans k3,r2.trans X,r4,Y,Z,F.trans r7 Up.of,h5,h6,?_⟩;have:=rD.up (D':=Up (Up D H.au cZ.H.au) cZ.H.au H'.au) r7.ag Up.of t.up;rw[Up.up d g]at this;exact this
def xjp(hP:dY P){call:b9}{m n:Nat}(y:rR P base call)(E:pW call)(s:xD P base (rounds (aY P) call m n))(F:Ae (rounds (aY P) call m n))
 (W:∀rt:RT,rt.AP=aY P->rR P base rt.call->xD P base rt.round->pW rt.call->Ae rt.round->Nu P base rt):xD P base (rounds (aY P) call m (n+1)):=by
 intro D θ H w l vs args H' e c cs hh hv h hf;simp only[rounds,roundOf]at h;split at h
 .rename_i ls pd f k tm d hget;simp only[qj]at h;have⟨af,A,lp,hlp,tm1,Q,⟨x,cZ⟩,hq,h⟩:=h;simp only[aY,qj]at A;have⟨fn,J,A⟩:=A;obtain⟨V,co,hco,r,rfl,r1,r2,r3,r4,⟨z,af',lp',ka,kb,L1,L2,q1,q2,q3,q4,q5,q6,q7,q8,q9,q10⟩,r6,r7⟩:=hh.obj _ _ hget;have:z=fn:=by rw[J]at q1;injection q1 with q1;exact q1.symm
  subst this;have:af'=af:=by rw[A]at q2;injection q2 with q2;exact q2.symm
  subst this;have:lp'=lp:=by rw[hlp]at q3;injection q3 with q3;exact q3.symm
  subst this;rw[q4]at Q;have⟨z1,z2,z3⟩:=D8 Q hv (λ p hp=>qn (q5 p hp) q6) r4;have hsz:args.size=r.params.size:=by simpa using z1
  have hzip:(r.params.zip args).foldl (λ tmps(t,x)=>tmps.setIfInBounds t x) r.tmps=(r.params.toList.zip args.toList).foldl (λ tmps(t,x)=>tmps.setIfInBounds t x) r.tmps:=by
   rw[<-Array.foldl_toList,Array.toList_zip]
  have hy:=run_yield (P:=P) (args:=args) hco hsz;refine⟨r.fn,_,r.assign,r.body,hy,?_⟩;rw[hzip];generalize(r.params.toList.zip args.toList).foldl (λ tmps(t,x)=>tmps.setIfInBounds t x) r.tmps=tmps at z2 z3;cases x with
  |exit _=>cases h
  |goto _=>cases h
  |ret=>cases h
  |panic _=>cases h
  |normal =>
  simp only[qj]at h;have⟨H2,hb,⟨x2,i⟩,hq2,h⟩:=h;rcases yk h with⟨hnd,h⟩|⟨_,h⟩
  .have hma:=(vS hP r.assign q7).1;have hmb:=(vS hP r.body q9).1;have hm1:H.au<=cZ.H.au:=Ow (rt:=⟨aY P,call,rounds (aY P) call m n,m,⟨B1 l,f⟩⟩) E F hma hq;have hm2:H2.au<=i.H.au:=Ow (rt:=⟨aY P,call,rounds (aY P) call m n,m,⟨B1 l,f⟩⟩) E F hmb hq2;have hbn:H2.au=cZ.H.au:=q3q hb;have O:H'.au=i.H.au:=by
    unfold Il at h;split at h
    .injection h with h;injection h with _ h;subst h;rfl
    .simp only[qj,qk,ze]at h;obtain⟨H3,I,_,rfl⟩:=h;exact xdt I
   let b:Frame:={(default:NY)with fn:=r.fn,kind:=.normal,roundOf:=B1 (θ.cq l)}
   have hb0:Frame.round (θ.cq l) r.fn tmps r.assign r.body .normal=b.atR {tmps:=tmps,defers:=[]} [.code r.assign,.beginRound,.code r.body]:=by
    simp[Frame.round,Bm,b]
   have hS:SR P base D θ b z.ntmps (B1 l) {tm:=tm1,bj:=[],up:=B5,H:=H} {tmps:=tmps,defers:=[]} (c::cs) w :=
    ⟨hh,z2,by show z.ntmps<=tmps.size;omega,trivial,rfl,V,rfl⟩
   have hdr:=W ⟨aY P,call,rounds (aY P) call m n,m,⟨B1 l,f⟩⟩ rfl y s E F;have⟨θ1,a1,w1,cs1,s1,s2,s3,s4,s5⟩:=(A4 (rt:=⟨aY P,call,rounds (aY P) call m n,m,⟨B1 l,f⟩⟩) hP y s rfl E F hdr J A r.assign q7 q8 (b:=b) (k:=[.beginRound,.code r.body]) hS r3 hq (hf.left (by show cZ.H.au<=H'.au;omega))).normal;rw[<-hb0]at s1;have hcs1:cs1=c::cs:=s5;subst hcs1
   -- the round jL
   have C:θ1.cq l = θ.cq l:=(s3.ag l V).1;unfold beginRound at hb;split at hb
   .rename_i L f1 X N d1 o;cases hb;obtain⟨hDl1,co1,hco1,rl,rfl,y1,y2,y3,y4,y5,y6,y7⟩:=s2.heap.obj _ _ o;have hset:=s2.heap.set (o':=.loop .busy L f1 X N d1) (co':=.loop {rl with state:=.busy}) o rfl rfl ⟨_,rfl,rfl,y2,y3,y4,y5,y6,y7⟩;have gset:bE (Up D H.au cZ.H.au) cZ.H θ1 w1 (cZ.H.set l (.loop .busy L f1 X N d1)) θ1 (fH w1 (θ1.cq l) (.loop {rl with state:=.busy})):=bE.set o rfl (s2.heap.lt o);have hbr:=run_beginRound (P:=P) hco1 y1;rw[C]at hbr;have hst2:=stepR_beginRound (P:=P) (b:=b) (a:=a1) (k:=[.code r.body]) (cs:=c::cs) (w:=w1) rfl hbr;have hS2:SR P base (Up D H.au cZ.H.au) θ1 b z.ntmps (B1 l) {cZ with H:=cZ.H.set l (.loop .busy L f1 X N d1)} a1 (c::cs) (fH w1 (θ1.cq l) (.loop {rl with state:=.busy})) :=
     ⟨hset,s2.uA,s2.size,s2.bj,s2.up,s2.round⟩
    have hf2:eC (Up D H.au cZ.H.au) cZ.H.au i.H.au:=(O▸hf).right hm1;have⟨θ2,a2,w2,Z,e2,v1,v2,v3,v4,v5,v6⟩:=A4 (rt:=⟨aY P,call,rounds (aY P) call m n,m,⟨B1 l,f⟩⟩) hP y s rfl E F hdr J A r.body q9 q10 (b:=b) (k:=[]) hS2 r3 hq2 hf2;have hcs2:Z=c::cs:=by
     have hu1:cZ.up=none:=by
      cases K:cZ.up with
      |none=>rfl
      |some _=>rw[K]at s4;cases s4
     have v6':fE cZ.up (c::cs) Z:=v6;rw[hu1]at v6';exact v6'
    subst hcs2;have hnx:({cZ with H:=cZ.H.set l (.loop .busy L f1 X N d1)}:St).H.au=cZ.H.au:=rfl;rw[hnx]at v2 v4;have hupp:Up (Up D H.au cZ.H.au) cZ.H.au i.H.au=Up D H.au H'.au:=by rw[Up.up hm1 hm2,O]
    rw[hupp]at v2 v4;have B:bE D H θ w i.H θ2 w2:=(s3.trans gset Up.of).trans v3 Up.of;have u:Steps P (lone (Frame.round (θ.cq l) r.fn tmps r.assign r.body .normal) (c::cs) w) (lone (b.atR a1 [.code r.body]) (c::cs) (fH w1 (θ1.cq l) (.loop {rl with state:=.busy}))):=by
     refine s1.trans (.one ?_);rw[hst2,C];rfl
    have hdfs:a2.defers=[]:=by
     have:=v2.bj;cases K:i.bj with
     |nil =>
      rw[K]at this;cases hq4:a2.defers with
      |nil=>rfl
      |cons _ _=>rw[hq4]at this;exact this.elim
     |cons _ _=>simp only[K]at hnd;cases hnd
    have g:∀(ls:mV)(p:Option iv),cO i.H l ls p=B1 H'->(n_ ls=if(p.map mL).isNone then LoopState.ready else LoopState.done) ->
     ∃G,(Instr.endRound (θ.cq l) (p.map mL)).run P w2=.ok (.bool (p.map mL).isNone) G/\HR P base (Up D H.au H'.au) θ2 H' G/\bE D H θ w H' θ2 G:=by
     intro ls p hs hls;unfold cO at hs;split at hs
     .rename_i ls2 pd2 f2 k2 Y d2 q;cases hs;obtain⟨hDl2,co2,hco2,rl2,rfl,y1',y2',y3',y4',y5',y6',y7'⟩:=v2.heap.obj _ _ q;have v:θ2.cq l = θ.cq l:=(B.ag l V).1;have her:=run_endRound (P:=P) (p.map mL) hco2;rw[v]at her;refine⟨_,her,?_,?_⟩
      .have:=v2.heap.set (o':=.loop ls p f2 k2 Y d2) (co':=.loop {rl2 with state:=if(p.map mL).isNone then .ready else .done,pending:=p.map mL}) q rfl rfl ⟨_,rfl,hls.symm,rfl,y3',y4',y5',y6',y7'⟩;rw[v]at this;exact this
      .have:bE (Up D H.au (i.H.set l (.loop ls p f2 k2 Y d2)).au) i.H θ2 w2 (i.H.set l (.loop ls p f2 k2 Y d2)) θ2 (fH w2 (θ2.cq l) (.loop {rl2 with state:=if(p.map mL).isNone then .ready else .done,pending:=p.map mL})):=bE.set q rfl (v2.heap.lt q);rw[v]at this;exact B.trans this Up.of
     .cases hs
    unfold Il at h;cases x2 with
    |panic ch =>
     cases h;cases e2<;>try exact v4.elim
     rename_i ps;have⟨todo,hs⟩:=v1;refine⟨θ2,w2,c.raise ps,u.trans ((BP hs).trans (.one ?_)),⟨ps,v4.1,v4.2,rfl⟩,v2.heap,B⟩;exact step_leave_panicked (fr:={b.atR a2 todo with mode:=.panicking ps}) ⟨rfl,hdfs,z,by show P.funcs[r.fn]? = B1 z;rw[r3];exact J⟩
    |normal =>
     simp only[qj,qk,ze]at h;obtain⟨H3,I,rfl,rfl⟩:=h;have⟨G,R,S,U⟩:=g _ _ I rfl;cases e2<;>try exact v4.elim
     exact⟨θ2,G,_,u.trans ((BP v1).trans (.one (stepR_round_end rfl rfl R))),⟨_,.bool _,rfl⟩,S,U⟩
    |ret =>
     simp only[qj,qk,ze]at h;obtain⟨H3,I,rfl,rfl⟩:=h;have⟨G,R,S,U⟩:=g _ _ I rfl;cases e2<;>try exact v4.elim
     have⟨X,hs⟩:=v1.2 rfl;exact⟨θ2,G,_,u.trans ((BP hs).trans (.one (stepR_round_ret rfl rfl R))),⟨_,.bool _,rfl⟩,S,U⟩
    |exit id =>
     simp only[qj,qk,ze]at h;obtain⟨H3,I,rfl,rfl⟩:=h;have⟨G,R,S,U⟩:=g _ _ I rfl;cases e2<;>try exact v4.elim
     rename_i j;have v4:j=id:=v4;subst v4;have⟨X,hx,hs⟩:=v1.2 rfl rfl;exact⟨θ2,G,_,u.trans ((BP hs).trans (.one (stepR_round_exit rfl rfl hx R))),⟨_,.bool _,rfl⟩,S,U⟩
    |goto t =>
     simp only[qj,qk,ze]at h;obtain⟨H3,I,rfl,rfl⟩:=h;have⟨G,R,S,U⟩:=g _ _ I rfl;cases e2<;>try exact v4.elim
     rename_i j;have v4:j=t:=v4;subst v4;have⟨X,hx,hs⟩:=v1.2 rfl rfl;exact⟨θ2,G,_,u.trans ((BP hs).trans (.one (stepR_round_goto rfl rfl hx R))),⟨_,.bool _,rfl⟩,S,U⟩
   .cases hb
  .cases h
 .cases h
def qzl(i:dY P){call:b9}{m:Nat}(d:rR P base call)(g:pW call)
 (f:∀rt:RT,rt.AP=aY P->rR P base rt.call->xD P base rt.round->pW rt.call->Ae rt.round->Nu P base rt):∀n,xD P base (rounds (aY P) call m n)
 |0=>by intro D θ H w l vs args H' e c cs _ _ h;cases h
 |n+1=>xjp i d g (qzl i d g f n) (TC (UT i) g m n) f
def UR(d:dY P)(c:∀rt:RT,rt.AP=aY P->rR P base rt.call->xD P base rt.round->pW rt.call->Ae rt.round->Nu P base rt){told:b9}(i:rR P base told)(g:pW told):∀n,rR P base (kI (aY P) told n)
 |0=>i
 |n+1=>by
  have o:=UR d c i g n;have hm:=q3k (UT d) g n;have hs:=xid d o hm (qzl d o hm c n) (TC (UT d) hm n n) c;intro D θ H w f vs args up H' e p kind cs k m hu h j;simp only[kI]at h;split at h
  .rename_i r hr;cases h;exact i D θ H w f vs args up _ _ _ kind cs k m hu hr j
  .exact hs D θ H w f vs args up _ _ _ kind cs k m hu h j
end
end Go.Am
namespace Go.Am
open Go.RowKit
def Kh(H:ar):Prop:=∀b o,H.get b=B1 o->own o=B2
def bE.below{D:Nat->Prop}{H H':ar}{θ θ':Th}{w w':NJ}(g:bE D H θ w H' θ' w')(hg:Kh H):Below w.heap.size w w' :=
 ⟨g.os,g.tape,g.output,g.size,λ k hk=>g.ai k hk λ b o hb ho=>by rw[hg b o hb]at ho;cases ho⟩
variable{P:Jy}
end Go.Am
namespace Go.Am
section
variable{H:Type}
def JF(P:Jy)(rec:LP->Ry H->Option (List AV)):Nat->List (LP×Nat)->List (Ry H)->Option (List AV)
 |_,[],[]=>B1 []
 |k,(t,off)::ts,d::ds=>if off=k then(rec t d).bind λ l=>if l.length=P.cellsOf t then(JF P rec (k+P.cellsOf t) ts ds).bind λ r=>B1 (l++r)else B5 else B5
 |_,_,_=>B5
def pL(P:Jy):Nat->LP->Ry H->Option (List AV)
 |0,_,_=>B5
 |n+1,t,d=>match P.underlying t,d with
  |some .bool,.lit (.bool b)=>B1 [.bool b]
  |some (.int _),.lit (.int k i)=>B1 [.int k i]
  |some .string,.lit (.string s)=>B1 [.str s]
  |some (.pointer _),.nil=>B1 [.nilp]
  |some (.slice _),.nil=>B1 [.nils]
  |some (.map _ _),.nil=>B1 [.mE]
  |some (.struct fs),.agg ds=>(JF P (pL P n) 0 (fs.toList.map λ f=>(f.type,f.offset)) ds).bind λ l=>if l.length=P.cellsOf t then B1 l else B5
  |some (.array m e),.agg ds=>(JF P (pL P n) 0 ((N7 m).map λ i=>(e,i*P.cellsOf e)) ds).bind λ l=>if l.length=P.cellsOf t then B1 l else B5
  |_,_=>B5
variable{P:Jy}{enc:LP×K8->H}{w:NJ}{base:Nat}{sp:Nat->Bool}{held:Bool}
def fB(θ:Th){rec:LP->Ry H->Option (List AV)}{g:LP->List K8->Option (Ry H×List B7)}(c:∀t d l cs p,rec t d=B1 l->g t cs=B1 (d,p)->bW θ l=cs){cs:List K8} :
 ∀{k:Nat}{ts:List (LP×Nat)}{ds:List (Ry H)}{l:List AV}{xs:List (Ry H×List B7)},JF P rec k ts ds=B1 l->ts.mapM (λ x=>g x.1 ((cs.drop x.2).take (P.cellsOf x.1)))=B1 xs->xs.map (·.1)=ds ->
  bW θ l=(cs.drop k).take l.length
 |k,[],ds,l,xs,h,hm,e=>by
  cases ds with
  |nil=>simp only[JF,qk]at h;subst h;simp[bW]
  |cons d ds=>simp[JF]at h
 |k,(t,off)::ts,ds,l,xs,h,hm,e=>by
  cases ds with
  |nil=>simp[JF]at h
  |cons d ds =>
   simp only[JF]at h;split at h
   .rename_i ho;subst ho;simp only[qj]at h;have⟨l0,j,h⟩:=h;split at h
    .rename_i hlen;simp only[qj,qk]at h;obtain⟨l1,m,rfl⟩:=h;simp only[List.mapM_cons,Option.bind_eq_bind,qj,Option.pure_def,qk]at hm;obtain⟨y,n,ys,f,rfl⟩:=hm;simp only[j7,zz]at e;obtain⟨rfl,e⟩:=e;have i:=c t y.1 l0 _ y.2 j n;have e1:=fB θ c m f e;rw[ui,I9,<-ui,<-ui,i,e1,xc,hlen,List.take_add,AF]
    .cases h
   .cases h
def KF{α:Type}{f:α->LP×Nat}{fuel:Nat}{l:List α}{cs:List K8}{xs:List (Ry H×List B7)}
 (h:l.mapM (λ a=>Om enc P w base sp held fuel (f a).1 ((cs.drop (f a).2).take (P.cellsOf (f a).1)))=B1 xs) :
 (l.map f).mapM (λ x=>Om enc P w base sp held fuel x.1 ((cs.drop x.2).take (P.cellsOf x.1)))=B1 xs:=by
 rw[List.mapM_map];exact h
def qzf(θ:Th):∀(n:Nat){t:LP}{d:Ry H}{l:List AV},pL P n t d=B1 l -> ∀{fuel:Nat}{cs:List K8}{p:List B7},Om enc P w base sp held fuel t cs=B1 (d,p)->bW θ l=cs
 |0,_,_,_,h,_,_,_,_=>by cases h
 |n+1,t,d,l,h,0,cs,p,ht=>by cases ht
 |n+1,t,d,l,h,fuel+1,cs,p,ht=>by
  have o:∀t d l cs p,pL P n t d=B1 l->Om enc P w base sp held fuel t cs=B1 (d,p)->bW θ l=cs:=λ t d l cs p g q=>qzf θ n g q;simp only[pL]at h;split at h
  .rename_i b hu;cases h;simp only[Om,hu]at ht;split at ht<;>first|(cases ht;done)|skip
   all_goals first|(simp_all[bW,az];done)|skip
   all_goals (repeat' (split at ht))
   all_goals first|(cases ht;done)|skip
   all_goals simp[qj,xk]at ht
  .rename_i k' k i hu;cases h;simp only[Om,hu]at ht;split at ht<;>first|(cases ht;done)|skip
   all_goals first|(simp_all[bW,az];done)|skip
   all_goals (repeat' (split at ht))
   all_goals first|(cases ht;done)|skip
   all_goals simp[qj,xk]at ht
  .rename_i s hu;cases h;simp only[Om,hu]at ht;split at ht<;>first|(cases ht;done)|skip
   all_goals first|(simp_all[bW,az];done)|skip
   split at ht
   .simp only[qk,ze,Ry.lit.injEq,Lit.string.injEq]at ht;obtain⟨rfl,_⟩:=ht;rfl
   .cases ht
  .rename_i hu;cases h;simp only[Om,hu]at ht;split at ht<;>first|(cases ht;done)|skip
   all_goals first|(simp_all[bW,az];done)|skip
   all_goals (repeat' (split at ht))
   all_goals first|(cases ht;done)|skip
   all_goals simp[qj,xk]at ht
  .rename_i hu;cases h;simp only[Om,hu]at ht;split at ht<;>first|(cases ht;done)|skip
   all_goals first|(simp_all[bW,az];done)|skip
   all_goals (repeat' (split at ht))
   all_goals first|(cases ht;done)|skip
   all_goals simp[qj,xk]at ht
  .rename_i hu;cases h;simp only[Om,hu]at ht;split at ht<;>first|(cases ht;done)|skip
   all_goals first|(simp_all[bW,az];done)|skip
   all_goals (repeat' (split at ht))
   all_goals first|(cases ht;done)|skip
   all_goals simp[qj]at ht
  .rename_i fs ds hu;simp only[qj]at h;have⟨r,g,h⟩:=h;split at h
   .rename_i hlen;cases h;simp only[Om,hu]at ht;split at ht
    .rename_i c;have⟨xs,hm,j⟩:=xk.1 ht;have e:=fB θ o g (KF (f:=λ f:Field=>(f.type,f.offset)) hm) (by simpa using congrArg Prod.fst j);rw[e,hlen,<-c];simp
    .cases ht
   .cases h
  .rename_i m e ds hu;simp only[qj]at h;have⟨r,g,h⟩:=h;split at h
   .rename_i hlen;cases h;simp only[Om,hu]at ht;split at ht
    .rename_i c;have⟨xs,hm,j⟩:=xk.1 ht;have e:=fB θ o g (KF (f:=λ i:Nat=>(e,i*P.cellsOf e)) hm) (by simpa using congrArg Prod.fst j);rw[e,hlen,<-c];simp
    .cases ht
   .cases h
  .cases h
end
def sS{P:Jy}{w:NJ}:∀{laid:List (String×Ry Unit)}{c:List B7},Ry.LaidVars P w laid c -> ∀{n:String}{d:Ry Unit},(n,d)∈laid ->
 ∃g t cs fuel p,P.globalNamed n=B1 g/\(P.globals[g]?).map (·.type)=B1 t/\w.var? P n=B1 cs/\Om (λ _=>()) P w 0 (λ _=>B4) B2 fuel t cs.toList=B1 (d,p)
 |[],_,_,_,_,h=>by cases h
 |(n',d')::r,c,⟨g,t,cs,fuel,p,q,h1,h2,h3,h4,h5,h6⟩,n,d,h=>by
  rcases jj.1 h with e|h
  .cases e;exact⟨g,t,cs,fuel,p,h1,h2,h3,h4⟩
  .exact sS h5 h
def Fw:List (Nat×List AV)->T bF->T bF
 |[],t=>t
 |(g,l)::r,t=>(Fw r t).set g (.row l 0 (0,0) B2)
def vm(gl:List (Nat×List AV))(n:Nat):ar:=⟨Fw gl .nil,n⟩
def Tm:∀{c:List (Nat×List AV)}{b:Nat}{o:bF},(Fw c .nil).get b=B1 o -> ∃l,(b,l)∈c/\o=.row l 0 (0,0) B2
 |[],b,o,h=>by rw[Fw,T.get_nil]at h;cases h
 |(g,l)::r,b,o,h=>by
  rw[Fw,T.aK]at h;split at h
  .rename_i he;subst he;injection h with h
   exact⟨l,by simp,h.symm⟩
  .have ⟨f,d,e⟩:=Tm h;exact⟨f,by simp[d],e⟩
def Nb(c:List (Nat×List AV))(n:Nat):Kh (vm c n):=λ b o h=>by
 obtain⟨l,_,rfl⟩:=Tm h;rfl
def θ0:Th:=⟨id,λ _=>0,λ _=>0⟩
def HR.given{P:Jy}{w:NJ}{d:List (Nat×List AV)}{base:Nat}(hb:base<=w.heap.size)(h:∀g l,(g,l)∈d->g<P.globals.size /\ ∃cs e fz,w.heap[g]? = B1 (.cells cs e fz) /\ ∀θ,bW θ l=cs.toList) :
 HR P base (Lt P.globals.size) θ0 (vm d P.globals.size) w:=by
 refine⟨λ b o hg=>?_,λ b k o o' c _ i _=>?_,λ b o c f=>?_,λ g hg=>⟨hg,rfl,rfl⟩,hb⟩
 .obtain ⟨l,c,rfl⟩:=Tm hg;have⟨j,cs,e,fz,f,i⟩:=h b l c;exact⟨j,_,f,[],cs.toList,[],fz,e,by simp,rfl,λ θ' _=>i θ',λ h=>by cases h⟩
 .rw [Nb d _ b o c]at i;cases i
 .rw [Nb d _ b o c]at f;cases f
def EP{P:Jy}{w:NJ}{laid:List (String×Ry Unit)}(h:laidMet P laid w){n:String}{d:Ry Unit}(hm:(n,d)∈laid){g:Nat}{t:LP}{j:Nat}{l:List AV}(hg:P.globalNamed n=B1 g)
 (i:(P.globals[g]?).map (·.type)=B1 t) (hl:pL P j t d=B1 l):g<P.globals.size /\ ∃cs e fz,w.heap[g]? = B1 (.cells cs e fz) /\ ∀θ,bW θ l=cs.toList:=by
 have⟨v,s,_⟩:=h;have⟨u,x,cs,fuel,p,k,m,f,o⟩:=sS s hm;obtain rfl:=KA (hg.symm.trans k);obtain rfl:=KA (i.symm.trans m);refine⟨?_,cs,?_⟩
 .rcases xw g P.globals.size with q|q
  .exact q
  .rw [Array.getElem?_eq_none q]at i;cases i
 .unfold NJ.var? at f;rw[k]at f;simp only[qr]at f;split at f
  .rename_i c e fz r;cases f;exact⟨e,fz,r,λ θ=>qzf θ j hl o⟩
  .cases f
end Go.Am
namespace Go.Am
open Go.RowKit Go.ChangeShapes
def HR.xB{P:Jy}{w:NJ}{d:List (Nat×List AV)}{base n:Nat}{θ:Th}(hb:base<=w.heap.size)(hn:P.globals.size<=n)(m:∀g,g<P.globals.size -> θ.cq g=g /\ θ.off g=0)
 (h:∀b l,(b,l)∈d->b<n /\ ∃pre cs post e fz,w.heap[θ.cq b]? = B1 (.cells (pre++cs++post).toArray e fz)/\pre.length = θ.off b/\bN (Lt n) θ l cs) :
 HR P base (Lt n) θ (vm d n) w:=by
 refine⟨λ b o hg=>?_,λ b p o o' c _ i _=>?_,λ b o c f=>?_,λ g hg=>⟨qn hg hn,m g hg⟩,hb⟩
 .obtain ⟨l,c,rfl⟩:=Tm hg;have⟨j,pre,cs,post,e,fz,f,i,k⟩:=h b l c;exact⟨j,_,f,pre,cs,post,fz,e,rfl,i,k,λ h=>by cases h⟩
 .rw [Nb d _ b o c]at i;cases i
 .rw [Nb d _ b o c]at f;cases f
def EN(P:Jy)(tp:LP):Bool :=
 match P.underlying tp with
 |some (.pointer te)=>match P.underlying te with
  |some (.struct ⟨[f]⟩)=>J8 f.offset 0 && (match P.underlying f.type with|some .string=>B4|_=>B2) && J8 (P.cellsOf te) 1 && J8 (P.cellsOf f.type) 1
  |_=>B2
 |_=>B2
structure Q3(P:Jy)(tp:LP):Prop where
 row:∀u,P.typeName? 3 u=B1 "*errors.errorString" -> u=tp
 ok:EN P tp=B4
def Oe:Ry Unit->Option (List UInt8)
 | .iface nm (.ptr (.agg [.lit (.string text)]))=>if nm = "*errors.errorString" then B1 text else B5
 |_=>B5
def xfy{d:Ry Unit}{s:List UInt8}(h:Oe d=B1 s):d=.iface "*errors.errorString" (.ptr (.agg [.lit (.string s)])):=by
 unfold Oe at h;split at h
 .split at h
  .rename_i e;subst e;cases h;rfl
  .cases h
 .cases h
def Tc:Option TypeDesc->Bool
 |some (.interface _)=>B4
 |_=>B2
def Ab(P:Jy)(x:String×Ry Unit):Option (Nat×LP):=(P.globalNamed x.1).bind λ g=>((P.globals[g]?).map (·.type)).map λ t=>(g,t)
def tf(P:Jy)(tp:LP)(i:Nat)(x:String×Ry Unit):List (Nat×List AV) :=
 match Ab P x with
 |none=>[]
 |some (g,t)=>match pL P 30 t x.2 with
  |some l=>[(g,l)]
  |none=>match Tc (P.underlying t),Oe x.2 with
   |true,B1 s=>[(g,[.iface tp (.ptr i 0)]),(i,[.str s])]
   |_,_=>[]
def rowsOf(P:Jy)(tp:LP):Nat->List (String×Ry Unit)->List (Nat×List AV)
 |_,[]=>[]
 |i,x::r=>tf P tp i x++rowsOf P tp (i+1) r
def WL(P:Jy)(tp:LP)(laid:List (String×Ry Unit)):ar:=vm (rowsOf P tp P.globals.size laid) (P.globals.size+laid.length)
def O'{P:Jy}{tp:LP}:∀{laid:List (String×Ry Unit)}{i b:Nat}{l:List AV},(b,l)∈rowsOf P tp i laid -> ∃j x,laid[j]? = B1 x/\(b,l)∈tf P tp (i+j) x
 |[],i,b,l,h=>by cases h
 |x::r,i,b,l,h=>by
  rcases zt.1 h with h|h
  .exact ⟨0,x,rfl,h⟩
  .have ⟨j,y,c,d⟩:=O' h;exact⟨j+1,y,by simpa using c,by rw[show i+(j+1)=i+1+j from by omega];exact d⟩
def _o{P:Jy}{x:String×Ry Unit}{g:Nat}{t:LP}(h:Ab P x=B1 (g,t)):P.globalNamed x.1=B1 g/\(P.globals[g]?).map (·.type)=B1 t:=by
 simp only[Ab,qj,xk,ze]at h;obtain⟨e,c,f,d,rfl,rfl⟩:=h;exact⟨c,by simpa[xk]using d⟩
def tE(P:Jy)(tp:LP)(w:NJ)(x:String×Ry Unit)(a:Addr):Prop :=
 ∀g t s,Ab P x=B1 (g,t)->Tc (P.underlying t)=B4->Oe x.2=B1 s ->
  a.spot=B5/\(∃e fz,w.heap[g]? = B1 (.cells #[.iface tp (.pointer (B1 a))] e fz)) /\ ∃cs e fz,w.heap[a.block]? = B1 (.cells cs e fz)/\cs[a.off]? = B1 (.string ⟨s.toArray⟩)
def GD{P:Jy}{tp:LP}(V:Q3 P tp){w:NJ}{laid:List (String×Ry Unit)}(h:laidMet P laid w){x:String×Ry Unit}(hx:x∈laid):∃a,tE P tp w x a:=by
 by_cases X:∃g t s,Ab P x=B1 (g,t)/\Tc (P.underlying t)=B4/\Oe x.2=B1 s
 .obtain ⟨g,t,s,A,m,B⟩:=X;obtain⟨k1,k2⟩:=_o A;have hd:=xfy B;obtain⟨C,N,hnd,j⟩:=h;have key:∀{laid:List (String×Ry Unit)}{C:List B7},Ry.LaidVars P w laid C->x∈laid ->
   ∃g t cs fuel p,P.globalNamed x.1=B1 g/\(P.globals[g]?).map (·.type)=B1 t/\w.var? P x.1=B1 cs/\Om (λ _=>()) P w 0 (λ _=>B4) B2 fuel t cs.toList=B1 (x.2,p) /\ ∀q∈B7.row ⟨g,0,B5⟩ cs.size,q∈C:=by
   intro laid
   induction laid with
   |nil=>intro _ _ hm;cases hm
   |cons y r ih =>
    intro C N hm;obtain⟨g,t,cs,fuel,p,q,e1,e2,E,o,F,S⟩:=N;rcases jj.1 hm with rfl|hm
    .exact ⟨g,t,cs,fuel,p,e1,e2,E,o,λ z O=>by rw[S];simp[O]⟩
    .obtain ⟨U,Y,cs',i,p',f1,f2,f3,f4,f5⟩:=ih F hm;exact⟨U,Y,cs',i,p',f1,f2,f3,f4,λ z O=>by rw[S];simp[f5 z O]⟩
  obtain⟨U,Y,cs,fuel,p,e1,e2,E,o,F⟩:=key N hx;obtain rfl:=KA (k1.symm.trans e1);obtain rfl:=KA (k2.symm.trans e2);rw[hd]at o;obtain⟨ms,hi⟩:∃ms,P.underlying t=B1 (.interface ms):=by
   unfold Tc at m;split at m
   .rename_i ms hu;exact⟨ms,hu⟩
   .cases m
  obtain⟨k,f,hp,he,ho,hs,I,J⟩:∃k f,P.underlying tp=B1 (.pointer k)/\P.underlying k=B1 (.struct #[f])/\f.offset=0/\P.underlying f.type=B1 .string/\P.cellsOf k=1/\P.cellsOf f.type=1:=by
   have:=V.ok;unfold EN at this;split at this
   .rename_i k L;split at this
    .rename_i f hf;simp only[zf,kc]at this;obtain⟨⟨⟨Z,R⟩,a3⟩,a4⟩:=this;split at R
     .rename_i hs;exact⟨k,f,L,hf,Z,hs,a3,a4⟩
     .cases R
    .cases this
   .cases this
  have d:=E;unfold NJ.var? at d;rw[e1]at d;simp only[qr]at d;split at d
  .rename_i c e fz W;injection d with d;subst d
   have ok:∀u v,c.toList=[.iface u v]->BO P w .any 0 u v:=λ u v q=>by
    have K:c.size=1:=by simpa using congrArg List.length q
    refine(j g 0 (F _ (by rw[K];simp[B7.row]))).2 u v ?_;have G:c[0]? = B1 (.iface u v):=by rw[<-kh,q];rfl
    simp[World.cell?,W,G]
   obtain⟨a,sb,q1,n,q3,q4,_⟩:=errorString_of_trod hi V.row hp he rfl ho hs I J o ok;refine⟨a,λ g2 t2 s2 r1 r2 r3=>?_⟩;obtain⟨rfl,rfl⟩:g=g2/\t=t2:=by have:=A.symm.trans r1;simpa using this
   obtain rfl:=KA (B.symm.trans r3);refine⟨NJ.cell?_spot n,⟨e,fz,by rw[W,Array.eq_one_of_toList q1]⟩,?_⟩;unfold World.cell? at n;split at n
   .rename_i cs' e' fz' hh;refine⟨_,_,_,hh,?_⟩;rw[<-q3];have Q:a.spot=B5/\cs'[a.off]? = B1 (.string sb):=by simpa using n
    rw[Q.2]
   .cases n
  .cases d
 .exact ⟨default,λ g t s A m B=>(X ⟨g,t,s,A,m,B⟩).elim⟩
def vB{P:Jy}{tp:LP}{w:NJ}{laid:List (String×Ry Unit)}(h:laidMet P laid w)(A:∀x∈laid,∃a,tE P tp w x a) :
 ∃θ:Th,(∀g,g<P.globals.size -> θ.cq g=g /\ θ.off g=0) /\ ∀b l,(b,l)∈rowsOf P tp P.globals.size laid->b<P.globals.size+laid.length /\ ∃pre cs post e fz,w.heap[θ.cq b]? = B1 (.cells (pre++cs++post).toArray e fz)/\pre.length = θ.off b/\bN (Lt (P.globals.size+laid.length)) θ l cs:=by
 have c:∀j:Nat,∃a:Addr,∀x,laid[j]? = B1 x->tE P tp w x a:=λ j=>by
  cases f:laid[j]? with
  |none=>exact⟨default,λ x I=>by cases I⟩
  |some x =>
   have⟨a,ha⟩:=A x (zh f);exact⟨a,λ y J=>by cases J;exact ha⟩
 have⟨F,z⟩:=Classical.axiomOfChoice c
 let N:=P.globals.size
 refine⟨⟨λ b=>if b<N then b else(F (b-N)).block,λ b=>if b<N then 0 else(F (b-N)).off,λ _=>0⟩,λ g hg=>⟨xb hg,xb hg⟩,λ b l hm=>?_⟩;have⟨j,x,f,hm⟩:=O' hm;have C:=(qo.1 f).1;unfold tf at hm;split at hm
 .cases hm
 .rename_i g t p;have⟨K,m⟩:=_o p;have hg:g<N:=by
   rcases xw g N with q|q
   .exact q
   .rw [Array.getElem?_eq_none q]at m;cases m
  split at hm
  .rename_i R hl;simp only[jz,ze]at hm;obtain⟨rfl,rfl⟩:=hm;have⟨_,cs,e,fz,u,v⟩:=EP (d:=x.2) (n:=x.1) h (zh f) K m hl;refine⟨qn hg (by omega),[],cs.toList,[],e,fz,?_,by simp[hg],λ θ' _=>v θ'⟩;simp[hg,u]
  .split at hm
   .rename_i s B hs;have⟨L,⟨e,fz,O⟩,cs,e',i,Q,r⟩:=z j x f g t s p B hs;rcases jj.1 hm with hm|hm
    .cases hm;refine⟨qn hg (by omega),[],[.iface tp (.pointer (B1 (F j)))],[],e,fz,?_,by simp[hg],?_⟩
     .simp [hg,O]
     .refine .one (.iface ?_);have:=VR.ptr (D:=Lt (N+laid.length)) (θ:=⟨λ b=>if b<N then b else(F (b-N)).block,λ b=>if b<N then 0 else(F (b-N)).off,λ _=>0⟩) (b:=N+j) (o:=0) (by show N+j<_;omega);have hn:¬N+j<N:=by omega
      simp only[hn,nT,vq,vc]at this;have k:(F j)=⟨(F j).block,(F j).off,B5⟩:=by rw[<-L]
      rw[k];exact this
    .simp only[jz,ze]at hm;obtain⟨rfl,rfl⟩:=hm;have hn:¬N+j<N:=by omega
     have E:=(Np.1 r).1;refine⟨by omega,cs.toList.take (F j).off,[.string ⟨s.toArray⟩],cs.toList.drop ((F j).off+1),e',i,?_,?_,.one (.str s)⟩
     .show w.heap[if N+j<N then _ else(F (N+j-N)).block]? = _;rw[qv hn,vq,Q];congr 2;apply Array.ext';have G:cs.toList[(F j).off]? = B1 (.string ⟨s.toArray⟩):=by rw[kh];exact r
      have:=yx (F j).off cs.toList;rw[List.drop_eq_getElem?_toList_append,G]at this
      simpa using this.symm
     .show _=if N+j<N then 0 else(F (N+j-N)).off
      rw[qv hn,vq];simp;omega
   .cases hm
def HR.vB{P:Jy}{tp:LP}{w:NJ}{laid:List (String×Ry Unit)}(h:laidMet P laid w)(e:∀x∈laid,∃a,tE P tp w x a){base:Nat}(hb:base<=w.heap.size) :
 ∃θ,HR P base (Lt (P.globals.size+laid.length)) θ (WL P tp laid) w:=by
 have⟨θ,c,d⟩:=Go.Am.vB h e;exact⟨θ,HR.xB hb (by omega) c d⟩
def HR.laid{P:Jy}{tp:LP}(c:Q3 P tp){w:NJ}{laid:List (String×Ry Unit)}(h:laidMet P laid w){base:Nat}(hb:base<=w.heap.size) :
 ∃θ,HR P base (Lt (P.globals.size+laid.length)) θ (WL P tp laid) w:=HR.vB h (λ x d=>GD c h d) hb
def wZ(laid:List (String×Ry Unit)):Bool:=laid.all λ x=>(Oe x.2).isNone
def HR.Kd{P:Jy}{tp:LP}{w:NJ}{laid:List (String×Ry Unit)}(hn:wZ laid=B4)(h:laidMet P laid w){base:Nat}(hb:base<=w.heap.size) :
 ∃θ,HR P base (Lt (P.globals.size+laid.length)) θ (WL P tp laid) w:=HR.vB h (λ x d=>⟨default,λ g t s e f c=>by
  have:=B6.1 hn x d;rw[c]at this;cases this⟩) hb
end Go.Am
namespace Go.Am
open Go.ChangeShapes Go.WideShapes Go.ChangeAt Go.RowKit
section
variable{H:Type}{enc:LP×K8->H}{P:Jy}
def xau{f:Func}{s:ChangeSpec}{apart fresh handsOn again:Bool}{W W':NJ}{args:Array K8}{v:K8}{ds gs:List (Ry H)}{before pa pv:List B7}
 (k:Ry.Whole enc P f.params.toList s.vars apart W args.toList ds gs before)
 (e:∀(b:Nat)(sp:Nat->Bool)(n:Bool),Be enc P W' b sp n f.resultTypes.toList (v.resultList f.resultTypes.size) (s.fn H (ds++gs)).results [])
 (c:∀sp:Nat->Bool,(∀p∈before,sp p.block=B4)->Be enc P W' 0 sp B4 f.params.toList args.toList (s.fn H (ds++gs)).args pa)
 (d:∀sp:Nat->Bool,(∀p∈before,sp p.block=B4)->Ry.TrodVars enc P W' sp s.vars (s.fn H (ds++gs)).vars pv)
 (g:before=pa++pv) (hb:Below W.heap.size W W')
 (m:∀(j:Nat)(t:LP)(r:K8),f.resultTypes[j]? = B1 t->(v.resultList f.resultTypes.size)[j]? = B1 r->BO P W' .any 0 t r) :
 s.post enc P f apart fresh handsOn again W args v W':=by
 have h:∀p∈before,p.block<W.heap.size:=k.lt;have hold:∀p∈before,(λ b=>decide (b<W.heap.size)) p.block=true:=λ p hp=>by simpa using h p hp
 refine⟨ds,gs,before,[],pa,pv,k,e _ _ _,c _ hold,d _ hold,hb.frame _,λ _=>?_⟩;obtain⟨_,_,_,_,_,o,hn⟩:=k;refine⟨m,_,_,([]++pa)++pv,⟨[]++pa,pv,trodAll_append (c _ (λ _ _=>rfl)) (e _ _ _),d _ (λ _ _=>rfl),rfl,?_,?_⟩,?_⟩
 .intro b off hp;have i:B7.cell b off∈before:=by rw[g];simpa using hp
  rw[hb.frozen (p:=⟨b,off,B5⟩) (h _ i)];exact o b off i
 .intro ha;have:=hn ha;rw[g]at this
  simpa using this
 .intro p hp _;rw[g]
  simpa using hp
end
def Qv{P:Jy}(h:(P.funcs.all λ fn=>fn.name != "runtime.NumGoroutine")=B4) (d:P.follows .mixedOrders=B4):dY P:=by
 refine⟨λ f fn g e=>?_,d⟩;obtain⟨c,rfl⟩:=Np.1 g;have:=(Array.all_eq_true.1 h) f c;simp[e]at this
noncomputable def Vn(P:Jy)(w:NJ)(xs:List (String×Ry Unit)):World :=
 {w with heap:=xs.foldl (λ h x=>match Ab P x with
  |some (g,t)=>match pL P 30 t x.2 with
   |some l=>h.modify g fun
    | .cells _ t fz=>.cells (bW θ0 l).toArray t fz
    |o=>o
   |none=>h
  |none=>h) w.heap}
end Go.Am
namespace Go.Am
open Go.RowKit
mutual
def A9(n:Nat):AV->Bool
 | .ptr b _=>Pk b n
 | .slice b _ _ _=>Pk b n
 | .gslice b _ _ _ _ _=>Pk b n
 | .eslice b=>Pk b n
 | .map b=>Pk b n
 | .fn _ _ _=>B2
 | .iface _ v=>A9 n v
 | .agg l=>CF n l
 | .tuple l=>CF n l
 |_=>B4
def CF(n:Nat):List AV->Bool
 |[]=>B4
 |v::l=>A9 n v && CF n l
end
mutual
def Ug{n:Nat}{θ θ':Th}(h:Ag (Lt n) θ θ'):∀(v:AV),A9 n v=B4->az θ' v=az θ v
 | .ptr b o,hv=>by have⟨c,d,_⟩:=h b (by simpa[A9,Lt]using hv);simp[az,c,d]
 | .slice b _ _ _,hv=>by have⟨c,d,_⟩:=h b (by simpa[A9,Lt]using hv);simp[az,c,d]
 | .gslice b _ _ _ _ _,hv=>by have⟨c,d,e⟩:=h b (by simpa[A9,Lt]using hv);simp[az,c,d,e]
 | .eslice b,hv=>by have⟨c,d,e⟩:=h b (by simpa[A9,Lt]using hv);simp[az,c,d,e]
 | .map b,hv=>by have⟨c,_,_⟩:=h b (by simpa[A9,Lt]using hv);simp[az,c]
 | .fn _ _ _,hv=>by simp[A9]at hv
 | .iface _ v,hv=>by simp only[az];rw[Ug h v hv]
 | .agg l,hv=>by simp only[az];rw[QG h l hv]
 | .tuple l,hv=>by simp only[az];rw[QG h l hv]
 | .bool _,_=>rfl
 | .int _ _,_=>rfl
 | .str _,_=>rfl
 | .nilp,_=>rfl
 | .nils,_=>rfl
 | .mE,_=>rfl
 | .nilf,_=>rfl
 | .nili,_=>rfl
def QG{n:Nat}{θ θ':Th}(h:Ag (Lt n) θ θ'):∀(l:List AV),CF n l=B4->bW θ' l=bW θ l
 |[],_=>rfl
 |v::l,hv=>by
  simp only[CF,zf]at hv;simp only[bW];rw[Ug h v hv.1,QG h l hv.2]
end
theorem Ag.none{θ θ':Th}:Ag (Lt 0) θ θ':=λ b hb=>by cases hb
mutual
def jU:AV->AV->Bool
 | .bool a,.bool b=>a == b
 | .int k a,.int k' b=>decide (k=k') && decide (a=b)
 | .str s,.str t=>decide (s=t)
 | .nilp,.nilp=>B4
 | .ptr b o,.ptr b' o'=>J8 b b' && J8 o o'
 | .nils,.nils=>B4
 | .mE,.mE=>B4
 | .nilf,.nilf=>B4
 | .nili,.nili=>B4
 | .iface t v,.iface t' v'=>J8 t t' && jU v v'
 | .agg l,.agg l'=>mf l l'
 | .tuple l,.tuple l'=>mf l l'
 |_,_=>B2
def mf:List AV->List AV->Bool
 |[],[]=>B4
 |v::l,v'::l'=>jU v v' && mf l l'
 |_,_=>B2
end
mutual
def XZ:∀(v c:AV),jU v c=B4->v=c
 | .iface t v,x,h=>by
  cases x<;>simp only[jU,zf,kc,zu]at h;rw[h.1,XZ _ _ h.2]
 | .agg l,x,h=>by
  cases x<;>simp only[jU,zu]at h;rw[QH _ _ h]
 | .tuple l,x,h=>by
  cases x<;>simp only[jU,zu]at h;rw[QH _ _ h]
 | .bool _,x,h=>by cases x<;>simp_all[jU]
 | .int _ _,x,h=>by cases x<;>simp_all[jU]
 | .str _,x,h=>by cases x<;>simp_all[jU]
 | .nilp,x,h=>by cases x<;>simp_all[jU]
 | .ptr _ _,x,h=>by cases x<;>simp_all[jU]
 | .nils,x,h=>by cases x<;>simp_all[jU]
 | .slice _ _ _ _,x,h=>by cases x<;>simp_all[jU]
 | .gslice _ _ _ _ _ _,x,h=>by cases x<;>simp_all[jU]
 | .mE,x,h=>by cases x<;>simp_all[jU]
 | .map _,x,h=>by cases x<;>simp_all[jU]
 | .fn _ _ _,x,h=>by cases x<;>simp_all[jU]
 | .nilf,x,h=>by cases x<;>simp_all[jU]
 | .nili,x,h=>by cases x<;>simp_all[jU]
def QH:∀(l c:List AV),mf l c=B4->l=c
 |[],[],_=>rfl
 |[],_::_,h=>by simp[mf]at h
 |_::_,[],h=>by simp[mf]at h
 |v::l,v'::c,h=>by
  simp only[mf,zf]at h;rw[XZ _ _ h.1,QH _ _ h.2]
end
structure fK where
 f:Nat
 args:List AV
 res:AV
def eQ(H:ar):List (Nat×List AV)->Bool
 |[]=>B4
 |(b,l)::r=>(match H.get b with|some (.row l' _ _ _)=>mf l l'|_=>B2) && eQ H r
def jM(n:Nat):List (Nat×List AV)->Bool
 |[]=>B4
 |(b,l)::r=>Pk b n && CF n l && jM n r
def pE(gl:List (Nat×List AV))(H:ar)(f:Nat)(vs:List AV):List fK->Option (bJ×Option aH×ar)
 |[]=>B5
 |e::r=>cond (J8 f e.f && (mf vs e.args && eQ H gl)) (B1 (.ret e.res,B5,H)) (pE gl H f vs r)
def nq(gl:List (Nat×List AV))(L:List fK):b9:=λ f vs up H =>
 match up with
 |none=>pE gl H f vs L
 |some _=>B5
def ZY{d:List (Nat×List AV)}{H:ar}{f:Nat}{vs:List AV}:∀{L:List fK}{r:bJ×Option aH×ar},pE d H f vs L=B1 r -> ∃e∈L,f=e.f/\vs=e.args/\eQ H d=B4/\r=(.ret e.res,B5,H)
 |[],_,h=>by cases h
 |e::L,r,h=>by
  simp only[pE]at h;cases c:(J8 f e.f && (mf vs e.args && eQ H d))with
  |true =>
   rw[c]at h;simp only[xv,qk]at h;simp only[zf,kc]at c;exact⟨e,by simp,c.1,QH _ _ c.2.1,c.2.2,h.symm⟩
  |false =>
   rw[c]at h;have⟨e',g,i⟩:=ZY (L:=L) h;exact⟨e',by simp[g],i⟩
def φ{c:List (Nat×List AV)}{L:List fK}:pW (nq c L):=by
 intro f vs up H e d H' h;cases up with
 |some _=>cases h
 |none =>
  have⟨e',_,_,_,_,hr⟩:=ZY h;injection hr with _ hr
  injection hr with _ hr
  subst hr;exact Ext.refl _
def q4m{H:ar}:∀{d:List (Nat×List AV)},eQ H d=B4 -> ∀{b:Nat}{l:List AV},(b,l)∈d -> ∃e fz ow,H.get b=B1 (.row l e fz ow)
 |[],_,b,l,h=>by cases h
 |(b',l')::r,hr,b,l,h=>by
  simp only[eQ,zf]at hr;rcases jj.1 h with e|h
  .cases e;have c:=hr.1;split at c
   .rename_i l2 e fz ow hg;rw[QH _ _ c];exact⟨e,fz,ow,hg⟩
   .cases c
  .exact q4m hr.2 h
def mm{n:Nat}:∀{c:List (Nat×List AV)},jM n c=B4 -> ∀{b:Nat}{l:List AV},(b,l)∈c->b<n/\CF n l=B4
 |[],_,b,l,h=>by cases h
 |(b',l')::r,hr,b,l,h=>by
  simp only[jM,zf,vX]at hr;rcases jj.1 h with e|h
  .cases e;exact hr.1
  .exact mm hr.2 h
def HR.Dk{P:Jy}{base n:Nat}{D:Nat->Prop}{θ:Th}{H:ar}{w:NJ}{d:List (Nat×List AV)}(h:HR P base D θ H w)(hn:P.globals.size<=n)(f:jM n d=B4)(hr:eQ H d=B4) :
 HR P base (Lt n) θ (vm d n) w:=by
 refine HR.xB h.low hn (λ g hg=>(h.eJ g hg).2) λ b l hm=>?_;have⟨i,j⟩:=mm f hm;have⟨e,fz,ow,hg⟩:=q4m hr hm;obtain⟨_,co,k,pre,cs,post,c,e',rfl,m,o,_⟩:=h.obj _ _ hg;exact⟨i,pre,cs,post,e',c,k,m,λ θ' ha=>(QG ha l j).trans o.now⟩
def HR.below{P:Jy}{base:Nat}{D:Nat->Prop}{θ:Th}{H:ar}{w w':NJ}(h:HR P base D θ H w)(hb:Below w.heap.size w w'):HR P base D θ H w':=by
 refine⟨λ b o hg=>?_,h.inj,h.lR,h.eJ,zd h.low hb.size⟩;have⟨d,co,c,e⟩:=h.obj b o hg;exact⟨d,co,by rw[hb.block _ (Np.1 c).1];exact c,e⟩
def xia{D:Nat->Prop}{H:ar}{θ:Th}{w w':NJ}(hb:Below w.heap.size w w'):bE D H θ w H θ w' :=
 ⟨qm _,Ag.refl _ _,hb.size,hb.os,hb.tape,hb.output,λ k hk _=>hb.block k hk,λ b o h ho _=>⟨b,o,h,ho,rfl⟩⟩
def sK(P:Jy)(gl:List (Nat×List AV))(n:Nat)(e:fK):Prop :=
 A9 0 e.res=B4 /\ ∀base θ w(args:Array K8),HR P base (Lt n) θ (vm gl n) w->bN (Lt n) θ e.args args.toList ->
  (∃fn c,P.funcs[e.f]? = B1 fn/\fn.body=B1 c)/\Calls P e.f args w λ en w'=>en=.returned (az θ e.res)/\Below w.heap.size w w'
def M_{P:Jy}{base n:Nat}{g:List (Nat×List AV)}{L:List fK}(hn:P.globals.size<=n)(k:jM n g=B4)(s:∀e∈L,CF 0 e.args=B4/\sK P g n e):rR P base (nq g L):=by
 intro D θ H w f vs args up H' e x kind cs r v hu h y;cases up with
 |some _=>cases h
 |none =>
  have hk:kind=.normal:=hu;obtain⟨e',hm,rfl,rfl,c,hr⟩:=ZY h;injection hr with o hr
  injection hr with p q
  subst o;subst p;subst q;have⟨m,d,u⟩:=s e' hm;have⟨i,t⟩:=u base θ w args (r.Dk hn k c) (λ θ' _=>(QG Ag.none _ m).trans v.now);refine⟨i,?_⟩;obtain⟨en,w',fr,⟨rfl,hb⟩,hs,j,hl⟩:=t cs;have⟨l1,l2,l3,l4⟩:=hl;subst hk;refine⟨θ,w',cs,fr,.returned (az θ e'.res),hs,l3,j,⟨l1,l2,l4⟩,λ θ' _=>Ug Ag.none _ d,?_,xia hb,rfl,rfl,rfl⟩;rw[Up.none];exact r.below hb
def yS(v:AV):Option (bJ×Option aH×ar)->Bool
 |some (.ret u,_,_)=>jU u v
 |_=>B2
def ag4{v:AV}{o:Option (bJ×Option aH×ar)}(h:yS v o=B4):∃u H',o=B1 (.ret v,u,H'):=by
 unfold yS at h;split at h
 .rw [XZ _ _ h];exact⟨_,_,rfl⟩
 .cases h
def xf6{P:Jy}(r:dY P){d:List (Nat×List AV)}{L:List fK}{n:Nat}(hn:P.globals.size<=n)(k:jM n d=B4)(B:∀e∈L,CF 0 e.args=B4/\sK P d n e)
 {e:fK} {m:Nat} (hp:A9 0 e.res=B4) (hr:yS e.res (kI (aY P) (nq d L) m e.f e.args B5 (vm d n))=B4):sK P d n e:=by
 have⟨u,H',hr⟩:=ag4 hr;refine⟨hp,λ base θ w args E F=>?_⟩;have hs:=λ cs=>UR r (λ rt h C o i p=>q74 r h C o i p) (M_ hn k B) φ m (Lt n) θ (vm d n) w e.f e.args args B5 H' (.ret e.res) u .normal cs E F rfl hr
  (λ b q J hb=>by have q:n<=b:=q;have hb:b<n:=hb;omega)
 refine⟨(hs []).1,λ cs=>?_⟩;have⟨_,θ',w',cs',fr,e',s,v,x,y,g,G,z,I,A,t⟩:=hs cs;have j:cs'=cs:=A;subst j;cases e' with
 |returned c =>
  refine⟨.returned c,w',fr,⟨?_,z.below (Nb _ _)⟩,s,x,Tk y v⟩;have g:VR _ θ' e.res c:=g;rw[<-g.now,Ug Ag.none _ hp]
 |panicked _=>exact g.elim
 |outgrown=>exact g.elim
end Go.Am
