import Derived.Test.YtpnpgihabgglcaaGreatDoorAmUZb
import Derived.Below
import GoSem.ClaimJoined
import Derived.ChangeSame
import Derived.LaidSub
import Derived.LaidLaws
import Derived.WalkKit
import Derived.ProofKit
import Derived.OpenShut
set_option linter.defProp false
set_option linter.unusedVariables false
set_option linter.unusedSimpArgs false
namespace Go.Am
def Oi{a b:Nat}(h:pH a b=true){j:Nat}(d:a.testBit j=true):b.testBit j=true:=by
 unfold pH at h;simp only[jh]at h;have c:(a &&& b).testBit j=a.testBit j:=by
  rw[show a &&& b=Nat.land a b from rfl,h]
 rw[Nat.testBit_and,d]at c
 simpa using c
def Re(a b j:Nat):(Nat.lor a b).testBit j=(a.testBit j ||b.testBit j):=Nat.testBit_or a b j
def Xd(a b j:Nat):(Nat.land a b).testBit j=(a.testBit j && b.testBit j):=Nat.testBit_and a b j
def VG(i j:Nat):(2 ^ i).testBit j=decide (i=j):=Nat.testBit_two_pow
def Qc:∀(l:List (Bool×Nat))(d j:Nat),(bitsOf l d).testBit j=true↔d.testBit j=true\/(false,j)∈l
 |[],d,j=>by simp[bitsOf]
 |(true,r)::l,d,j=>by rw[bitsOf,Qc l];simp
 |(false,i)::l,d,j=>by
  rw[bitsOf,Qc l,Re,VG];simp only[wc,KT,jf,xv,B0];constructor
  .rintro ((h|h)|h)
   .exact .inl h
   .exact .inr (.inl h.symm)
   .exact .inr (.inr h)
  .rintro (h|h|h)
   .exact .inl (.inl h)
   .exact .inl (.inr h.symm)
   .exact .inr h
def V1:∀(l:List (Bool×Nat))(d r:Nat),(mL l d).testBit r=true->d.testBit r=true \/ ∃u:Nat,l[u]? = some (true,r) /\ ∀v:Nat,v<=u -> ∃c,l[v]? = some (true,c)
 |[],d,r,h=>.inl h
 |(false,i)::l,d,r,h=>.inl h
 |(true,c)::l,d,r,h=>by
  rw[mL]at h;rcases V1 l _ r h with h|⟨u,e,f⟩
  .rw [Re,VG]at h;simp only[wc,KT]at h;rcases h with h|h
   .exact .inl h
   .subst h;refine .inr ⟨0,rfl,λ v g=>⟨c,?_⟩⟩;obtain rfl:v=0:=by omega
    rfl
  .refine .inr ⟨u+1,by simpa using e,λ v g=>?_⟩;cases v with
   |zero=>exact⟨c,rfl⟩
   |succ v=>simpa using f v (by omega)
def M6(p:Nat->Bool):∀(n j:Nat),(iV p n).testBit j=true↔j<n/\p j=true
 |0,j=>by simp[iV]
 |n+1,j=>by
  rw[iV];cases hp:p n with
  |true =>
   simp only[xm,Re,VG,wc,KT,M6 p n];constructor
   .rintro (⟨d,c⟩|h)
    .exact ⟨by omega,c⟩
    .subst h;exact⟨by omega,hp⟩
   .rintro ⟨d,c⟩
    by_cases e:n=j
    .exact .inr e
    .exact .inl ⟨by omega,c⟩
  |false =>
   simp only[zj,M6 p n];constructor
   .rintro ⟨d,c⟩;exact⟨by omega,c⟩
   .rintro ⟨d,c⟩;refine⟨?_,c⟩
    by_cases e:n=j
    .subst e;rw[hp]at c;cases c
    .omega
def SJ{p:Nat->Bool}:∀{n:Nat},rK p n=true -> ∀i,i<n->p i=true
 |0,_,i,hi=>by omega
 |n+1,h,i,hi=>by
  rw[rK,xt]at h
  by_cases e:i=n
  .subst e;exact h.1
  .exact SJ h.2 i (by omega)
def TB(c d:Je):qM c d=true↔c=d:=by cases c<;>cases d<;>simp[qM]
def Wv(t:Nat):∀l,nK t l=true↔t∈l
 |[]=>by simp[nK]
 |x::l=>by
  rw[nK,wc,Wv t l];simp only[jh,jf];constructor
  .rintro (h|h)
   .exact .inl h.symm
   .exact .inr h
  .rintro (h|h)
   .exact .inl h.symm
   .exact .inr h
def VV{I:lS}:∀{plan:List (Bool×Nat)}{d:Nat},I3 I plan d=true ->
 (∀pre x post,plan=pre++x::post->LX I (bitsOf pre d) post x=true)/\pH (2 ^ I.n-1) (bitsOf plan d)=true
 |[],d,h=>⟨λ pre x post e=>by simp at e,h⟩
 |(false,i)::l,d,h=>by
  rw[I3,xt]at h;obtain⟨c,f⟩:=VV h.2;refine⟨λ pre x post e=>?_,f⟩;cases pre with
  |nil =>
   simp only[zw,zk]at e;obtain⟨rfl,rfl⟩:=e;exact h.1
  |cons y pre =>
   simp only[Ht,zk]at e;obtain⟨rfl,e⟩:=e;exact c pre x post e
 |(true,r)::l,d,h=>by
  rw[I3,xt]at h;obtain⟨c,f⟩:=VV h.2;refine⟨λ pre x post e=>?_,f⟩;cases pre with
  |nil =>
   simp only[zw,zk]at e;obtain⟨rfl,rfl⟩:=e;exact h.1
  |cons y pre =>
   simp only[Ht,zk]at e;obtain⟨rfl,e⟩:=e;exact c pre x post e
structure xD(I:lS)(plan:List (Bool×Nat)):Prop where
 all:∀i:Nat,i<I.n -> ∃p:Nat,plan[p]? = some (false,i)
 lt:∀p i:Nat,plan[p]? = some (false,i)->i<I.n
 one:∀p p' i:Nat,plan[p]? = some (false,i)->plan[p']? = some (false,i)->p=p'
 fX:∀p i j:Nat,plan[p]? = some (false,i)->(I.fX i).testBit j=true -> ∃p':Nat,p'<p/\plan[p']? = some (false,j)
 made:∀p i p' j:Nat,plan[p]? = some (false,i)->(I.cls i=.read\/I.cls i=.gJ)->plan[p']? = some (false,j)->p'<p->(I.cls j=.alloc\/I.cls j=.gJ)->(I.fX i).testBit j=true
 look:∀p e p' r:Nat,plan[p]? = some (false,e)->I.cls e=.gJ->plan[p']? = some (false,r)->p'<p->I.cls r=.read->(I.fX e).testBit r=false ->
  ∃u:Nat,p<u/\plan[u]? = some (true,r) /\ ∀v:Nat,p<v->v<=u -> ∃r',plan[v]? = some (true,r')
 again:∀p r:Nat,plan[p]? = some (true,r)->I.cls r=.read/\I.self r=true/\(∃p':Nat,p'<p/\plan[p']? = some (false,r)) /\
  ∀w p':Nat,plan[p']? = some (false,w)->p'<p->w≠r->I.jF r w=true->(I.fX r).testBit w=true
 HG:∀r w:Nat,r<I.n->w<I.n->r≠w->I.jF r w=true->(I.fX r).testBit w=true\/(I.fX w).testBit r=true
def BL{α:Type}{l:List α}{p:Nat}{x:α}(h:l[p]? = some x):l=l.take p++x::l.drop (p+1):=by
 obtain⟨hp,c⟩:=qk.1 h;rw[<-c];simp
def BT{α:Type}{l:List α}{p:Nat}{x:α}:x∈l.take p↔ ∃p':Nat,p'<p/\l[p']? = some x:=by
 rw[O0];constructor
 .rintro ⟨i,c⟩;rw[yf]at c;split at c
  .exact ⟨i,by assumption,c⟩
  .cases c
 .rintro ⟨i,c,h⟩;exact⟨i,by rw[yf,qr c];exact h⟩
def CQ{I:lS}{plan:List (Bool×Nat)}(m:I.made=iV (λ i=>uU (I.cls i)) I.n)(f:I.reads=iV (λ i=>qM (I.cls i) .read) I.n)(h:I3 I plan 0=true)(N:vY I=true):xD I plan:=by
 obtain⟨J,t⟩:=VV h;have at_:∀{p:Nat}{x:Bool×Nat},plan[p]? = some x->LX I (bitsOf (plan.take p) 0) (plan.drop (p+1)) x=true:=λ R=>J _ _ _ (BL R);have done:∀p j:Nat,(bitsOf (plan.take p) 0).testBit j=true↔ ∃p':Nat,p'<p/\plan[p']? = some (false,j):=λ p j=>by
  rw[Qc,BT];simp
 have run:∀{p i:Nat},plan[p]? = some (false,i)->i<I.n/\(bitsOf (plan.take p) 0).testBit i=false/\pH (I.fX i) (bitsOf (plan.take p) 0)=true /\
  ((I.cls i=.read\/I.cls i=.gJ)->pH (Nat.land (bitsOf (plan.take p) 0) I.made) (I.fX i)=true) /\
  (I.cls i=.gJ->pH (Nat.land (bitsOf (plan.take p) 0) I.reads) (Nat.lor (I.fX i) (mL (plan.drop (p+1)) 0))=true):=λ{p i}hp=>by
  have:=at_ hp;simp only[LX,xt,sX,Ny]at this;obtain⟨q,s,z,g⟩:=this;refine⟨q,s,z,λ k=>?_,λ k=>?_⟩
  .rcases k with k|k
   .rw [k]at g;exact g
   .rw [k]at g;simp only[xt]at g;exact g.1
  .rw [k]at g;simp only[xt]at g;exact g.2
 have one:∀p p' i:Nat,plan[p]? = some (false,i)->plan[p']? = some (false,i)->p=p':=by
  intro p p' i hp c;rcases Nat.lt_trichotomy p p' with d|rfl|d
  .have:=(run c).2.1;rw[(done p' i).2 ⟨p,d,hp⟩]at this;cases this
  .rfl
  .have:=(run hp).2.1;rw[(done p i).2 ⟨p',d,c⟩]at this;cases this
 refine⟨λ i K=>?_,λ p i hp=>(run hp).1,one,λ p i j hp L=>(done p j).1 (Oi (run hp).2.2.1 L),λ p i p' j hp C c d B=>?_,λ p e p' r hp A c d E F=>?_,λ p r hp=>?_,λ r w hr hw o hm=>?_⟩
 .have:(2 ^ I.n-1).testBit i=true:=by rw[Nat.testBit_two_pow_sub_one];simpa using K
  have:=Oi t this;rw[Qc]at this;rcases this with h|h
  .simp at h
  .exact O0.1 h
 .refine Oi ((run hp).2.2.2.1 C) ?_;rw[Xd,(done p j).2 ⟨p',d,c⟩,m,(M6 _ _ _).2 ⟨(run c).1,?_⟩]
  .rfl
  .simp only[uU,wc,TB];exact B
 .have:=Oi ((run hp).2.2.2.2 A) (j:=r) (by
   rw[Xd,(done p r).2 ⟨p',d,c⟩,f,(M6 _ _ _).2 ⟨(run c).1,by rw[TB];exact E⟩];rfl)
  rw[Re,F,Bool.false_or]at this;rcases V1 _ _ _ this with h|⟨u,q,s⟩
  .simp at h
  .rw [yo]at q;refine⟨p+1+u,by omega,q,λ v O Q=>?_⟩;obtain⟨S,y⟩:=s (v-(p+1)) (by omega);rw[yo,show p+1+(v-(p+1))=v from by omega]at y;exact⟨S,y⟩
 .have:=at_ hp;simp only[LX,xt,TB]at this;obtain⟨q,G,s,z⟩:=this;refine⟨q,G,(done p r).1 s,λ w p' c d o hm=>Oi z ?_⟩;rw[Xd,(done p w).2 ⟨p',d,c⟩,(M6 _ _ _).2 ⟨(run c).1,?_⟩]
  .rfl
  .simp only[xt,Ny,hm,rk];cases hb:Nat.beq w r with
   |false=>rfl
   |true=>simp only[jh]at hb;exact absurd hb o
 .have:=SJ (SJ N r hr) w hw;simp only[wc,jh,hm,Bool.not_true,or_false]at this;rcases this with h|h|h|h
  .exact absurd h o
  .exact .inl h
  .exact .inr h
  .cases h
def sM(acc:Array Nat)(j:Nat):∀(l:List Edge)(s:Nat),(l.foldl (λ s e=>if Region.binds .any e then s |||2 ^ e.on |||acc.getD e.on 0 else s) s).testBit j=true ->
 s.testBit j=true \/ ∃e∈l,Region.binds .any e=true/\(e.on=j\/(acc.getD e.on 0).testBit j=true)
 |[],s,h=>.inl h
 |e::l,s,h=>by
  rw[Mt]at h;rcases sM acc j l _ h with h|⟨e',c,d⟩
  .split at h
   .rename_i hb;simp only[Nat.testBit_or,Nat.testBit_two_pow,wc,KT]at h;rcases h with(h|h)|h
    .exact .inl h
    .exact .inr ⟨e,by simp,hb,.inl h⟩
    .exact .inr ⟨e,by simp,hb,.inr h⟩
   .exact .inl h
  .exact .inr ⟨e',by simp[c],d⟩
def ZD(acc:Array Nat):∀(l:List Edge)(s:Nat),(∀j,s.testBit j=true->(l.foldl (λ s e=>if Region.binds .any e then s |||2 ^ e.on |||acc.getD e.on 0 else s) s).testBit j=true) /\
 ∀e∈l,Region.binds .any e=true->(l.foldl (λ s e=>if Region.binds .any e then s |||2 ^ e.on |||acc.getD e.on 0 else s) s).testBit e.on=true
 |[],s=>⟨λ j h=>h,λ e he=>by simp at he⟩
 |e::l,s=>by
  obtain⟨d,g⟩:=ZD acc l (if Region.binds .any e then s |||2 ^ e.on |||acc.getD e.on 0 else s);refine⟨λ j f=>?_,λ e' c hb=>?_⟩
  .rw [Mt];refine d j ?_;split
   .simp [Nat.testBit_or,f]
   .exact f
  .rw [Mt];rcases jf.1 c with rfl|c
   .refine d _ ?_;rw[qr hb];simp[Nat.testBit_or,Nat.testBit_two_pow]
   .exact g e' c hb
def q1t(ops:Array Oper):∀(i:Nat)(o:Oper),ops[i]? = some o ->
 (∀e∈o.after.toList,Region.binds .any e=true->((Region.before ops).getD i 0).testBit e.on=true) /\
 (∀j,((Region.before ops).getD i 0).testBit j=true -> ∃e∈o.after.toList,Region.binds .any e=true/\(e.on=j\/(e.on<i/\((Region.before ops).getD e.on 0).testBit j=true))):=by
 have key:∀(l:List Oper)(acc:Array Nat),let R:=l.foldl (λ acc o=>acc.push (o.after.foldl (λ s e=>if Region.binds .any e then s |||2 ^ e.on |||acc.getD e.on 0 else s) 0)) acc
  (∀i,i<acc.size->R.getD i 0=acc.getD i 0)/\acc.size<=R.size /\ ∀(i:Nat)(o:Oper),l[i]? = some o ->
   (∀e∈o.after.toList,Region.binds .any e=true->(R.getD (acc.size+i) 0).testBit e.on=true) /\
   (∀j,(R.getD (acc.size+i) 0).testBit j=true -> ∃e∈o.after.toList,Region.binds .any e=true/\(e.on=j\/(e.on<acc.size+i/\(R.getD e.on 0).testBit j=true))):=by
  intro l
  induction l with
  |nil=>intro acc;exact⟨λ i p=>rfl,qg _,λ i o h=>by simp at h⟩
  |cons o l ih =>
   intro acc;simp only[Mt];generalize q:o.after.foldl (λ s e=>if Region.binds .any e then s |||2 ^ e.on |||acc.getD e.on 0 else s) 0=v;rw[<-Array.foldl_toList]at q;obtain⟨k,t,g⟩:=ih (acc.push v);generalize(l.foldl (λ acc o=>acc.push (o.after.foldl (λ s e=>if Region.binds .any e then s |||2 ^ e.on |||acc.getD e.on 0 else s) 0)) (acc.push v))=R at k t g;have n:(acc.push v).size=acc.size+1:=by simp
   have c:∀i,i<acc.size->R.getD i 0=acc.getD i 0:=λ i p=>by
    rw[k i (by omega)];simp[j7,Array.getElem?_push,Jo p]
   have m:R.getD acc.size 0=v:=by
    rw[k acc.size (by omega)];simp[j7,Array.getElem?_push]
   refine⟨c,by omega,λ i o' d=>?_⟩;cases i with
   |zero =>
    simp only[jm,qe]at d;subst d;rw[vf,m,<-q];obtain⟨x,r⟩:=ZD acc o.after.toList 0;refine⟨r,λ j u=>?_⟩;rcases sM acc j _ _ u with h|⟨e,he,hb,h⟩
    .simp at h
    .refine ⟨e,he,hb,?_⟩;rcases h with h|h
     .exact .inl h
     .by_cases f:e.on<acc.size
      .exact .inr ⟨f,by rw[c _ f];exact h⟩
      .rw [j7,Array.getElem?_eq_none (by omega)]at h;simp at h
   |succ i =>
    have:=g i o' (by simpa using d);rw[n,vw,Nat.add_comm 1 i]at this;exact this
 intro i o ho;obtain⟨_,_,g⟩:=key ops.toList #[];have:=g i o (by rw[j8];exact ho);unfold Region.before;rw[<-Array.foldl_toList]
 simpa using this
structure Order(I:lS)(L:List Nat):Prop where
 all:∀i,i<I.n->i∈L
 lt:∀i∈L,i<I.n
 fX:∀L1 i L2,L=L1++i::L2->i∉L1 /\ ∀j,(I.fX i).testBit j=true->j∈L1
def q3a{ops:Array Oper}{I:lS}(hn:I.n=ops.size)(q:∀i,I.fX i=(Region.before ops).getD i 0){plan:List (Bool×Nat)}(hp:xD I plan)(t:Nat):Order I (Region.linearise .any ops t):=by
 -- an operation that is ready
 let ready (listed:Array Bool) (i:Nat):Bool:=!listed.getD i true && ((ops[i]?).map (·.after.all λ e=>!Region.binds .any e ||listed.getD e.on false)).getD false
 have hgo:∀(fuel t:Nat)(listed:Array Bool)(acc:List Nat),listed.size=ops.size->(∀i,listed[i]? = some true↔i∈acc/\i<ops.size)->(∀i∈acc,i<ops.size)->acc.Nodup->acc.length+fuel=ops.size ->
  (∀A i B,acc.reverse=A++i::B->i∉A /\ ∀j,(I.fX i).testBit j=true->j∈A) ->
  Order I (Region.linearise.go .any ops fuel t listed acc):=by
  intro fuel
  induction fuel with
  |zero =>
   intro t listed acc U hl s R hlen E;unfold Region.linearise.go;refine⟨λ i K=>?_,λ i K=>by rw[hn];exact s i (by simpa using K),E⟩;rw[List.mem_reverse];refine MG λ S=>?_;have:(i::acc).length<=ops.size:=by
    have hnd':(i::acc).Nodup:=List.nodup_cons.2 ⟨S,R⟩;have u:(i::acc)⊆List.range ops.size:=λ x f=>by
     rw[List.mem_range];rcases jf.1 f with rfl|f
     .rw [<-hn];exact K
     .exact s x f
    have:=hnd'.length_le_of_subset u
    simpa using this
   simp at this;omega
  |succ fuel ih =>
   intro t listed acc U hl s R hlen E;unfold Region.linearise.go;simp only
   -- something is ready
   have G:∃i,i<ops.size/\ready listed i=true:=by
    -- the first one of the plan that is not listed
    obtain⟨x,hx1,hx2⟩:∃x,x<ops.size/\x∉acc:=by
     refine MG λ S=>?_;have u:List.range ops.size⊆acc:=λ x f=>MG λ h=>S ⟨x,by simpa using f,h⟩;have:=List.nodup_range.length_le_of_subset u;simp at this;omega
    have:∀m p x:Nat,p<m->plan[p]? = some (false,x)->x∉acc -> ∃p0 g:Nat,plan[p0]? = some (false,g)/\g∉acc /\ ∀p' J:Nat,p'<p0->plan[p']? = some (false,J)->J∈acc:=by
     intro m
     induction m with
     |zero=>intro p x hp;omega
     |succ m ihm =>
      intro p x hpm hpx hxa
      by_cases h:∃p' J:Nat,p'<p/\plan[p']? = some (false,J)/\J∉acc
      .obtain ⟨p',J,c,d,X⟩:=h;exact ihm p' J (by omega) d X
      .exact ⟨p,x,hpx,hxa,λ p' J c d=>MG λ X=>h ⟨p',J,c,d,X⟩⟩
    obtain⟨p,hp1⟩:=hp.all x (by rw[hn];exact hx1);obtain⟨p0,g,c,d,X⟩:=this (p+1) p x (zp _) hp1 hx2;have hx0:g<ops.size:=by rw[<-hn];exact hp.lt _ _ c
    refine⟨g,hx0,?_⟩;obtain⟨o,ho⟩:∃o,ops[g]? = some o:=⟨ops[g],by simp[hx0]⟩
    have hnl:listed.getD g true=false:=by
     have h4:=hl g;rw[j7];cases W:listed[g]? with
     |none=>rw[Array.getElem?_eq_none_iff]at W;omega
     |some v =>
      cases v with
      |false=>rfl
      |true=>rw[W]at h4;exact absurd (h4.1 rfl).1 d
    show(!listed.getD g true && _)=true;rw[hnl,ho];simp only[Bool.not_false,wl,vi,Bool.true_and,Array.all_eq_true',wc,Ny];intro e he;cases hb:Region.binds .any e with
    |false=>exact .inl rfl
    |true =>
     right;have:=(q1t ops g o ho).1 e (by simpa using he) hb;rw[<-q]at this;obtain⟨p',hp',hp'2⟩:=hp.fX _ _ _ c this;have h5:=X p' e.on hp' hp'2;have:=(hl e.on).2 ⟨h5,s _ h5⟩;rw[j7,this];rfl
   obtain⟨i0,hi0,Y⟩:=G;have hne:0<((List.range ops.size).filter λ i=>ready listed i).length:=by
    rw[List.length_pos_iff_exists_mem];exact⟨i0,by simp[hi0,Y]⟩
   have hrs:∃i,((List.range ops.size).filter λ i=>ready listed i)[t % ((List.range ops.size).filter λ i=>ready listed i).length]? = some i:=⟨_,qt (Nat.mod_lt _ hne)⟩
   obtain⟨i,K⟩:=hrs;have N:=x9 K;rw[List.mem_filter,List.mem_range]at N;obtain⟨F,hi2⟩:=N;rw[show((List.range ops.size).filter λ i=>!listed.getD i true && ((ops[i]?).map (·.after.all λ e=>!Region.binds .any e ||listed.getD e.on false)).getD false)=((List.range ops.size).filter λ i=>ready listed i)from rfl,K];simp only;have L:(!listed.getD i true && ((ops[i]?).map (·.after.all λ e=>!Region.binds .any e ||listed.getD e.on false)).getD false)=true:=hi2;rw[xt]at L;obtain⟨Z,O⟩:=L;obtain⟨o,ho⟩:∃o,ops[i]? = some o:=⟨ops[i],by simp[F]⟩
   have Q:i∉acc:=λ h=>by
    have:=(hl i).2 ⟨h,F⟩;rw[j7,this]at Z;simp at Z
   rw[ho]at O;simp only[wl,vi,Array.all_eq_true',wc,Ny]at O
   -- ancestors are listed
   have r:∀j,(I.fX i).testBit j=true->j∈acc:=by
    intro j V;rw[q]at V;obtain⟨e,he,hb,h⟩:=(q1t ops i o ho).2 j V;have hon:e.on∈acc:=by
     rcases O e (by simpa using he)with z|z
     .rw [hb]at z;cases z
     .rw [j7]at z;cases W:listed[e.on]? with
      |none=>rw[W]at z;simp at z
      |some v=>rw[W]at z;simp at z;subst z;exact((hl e.on).1 W).1
    rcases h with h|⟨_,h⟩
    .rw [<-h];exact hon
    .rw [<-q]at h;obtain⟨A,B,k⟩:=List.append_of_mem (List.mem_reverse.2 hon);have:=(E A e.on B k).2 j h;rw[<-List.mem_reverse,k];simp[this]
   refine ih _ _ _ (by simp[U]) (λ x=>?_) (λ x f=>?_) (List.nodup_cons.2 ⟨Q,R⟩) (by simp;omega) (λ A x B k=>?_)
   .rw [vr]
    by_cases f:i=x
    .subst f;simp[U,F]
    .rw [qo f,hl x];simp only[jf];constructor
     .rintro ⟨c,d⟩;exact⟨.inr c,d⟩
     .rintro ⟨c|c,d⟩
      .exact absurd c.symm f
      .exact ⟨c,d⟩
   .rcases jf.1 f with rfl|f
    .exact F
    .exact s x f
   .rw [List.reverse_cons]at k;rcases List.append_eq_append_iff.1 k.symm with⟨C,c,d⟩|⟨C,c,d⟩
    .cases C with
     |nil =>
      simp only[zw,ze,zk]at c d;obtain⟨rfl,_⟩:=d;subst c;exact⟨by simpa using Q,λ j V=>by simpa using r j V⟩
     |cons y C =>
      simp only[Ht,zk]at d;obtain⟨rfl,rfl⟩:=d;exact E A _ C c
    .cases C with
     |nil =>
      simp only[zw,ze,zk]at c d;obtain⟨rfl,_⟩:=d;subst c;exact⟨by simpa using Q,λ j V=>by simpa using r j V⟩
     |cons y C =>
      simp at d
 have:=hgo ops.size t (Array.replicate ops.size false) [] (by simp) (λ i=>by simp[Array.getElem?_replicate]) (λ i K=>by simp at K) (by simp) (by simp) (λ A i B h=>by simp at h);exact this
end Go.Am
namespace Go.Am
mutual
def Ts:∀(a b:AV),Am.bY a b=true->a=b
 | .bool a,b,h=>by cases b<;>simp_all[Am.bY]
 | .int k a,b,h=>by cases b<;>simp_all[Am.bY,BU,QI]
 | .str a,b,h=>by cases b<;>simp_all[Am.bY,J7]
 | .nilp,b,h=>by cases b<;>simp_all[Am.bY]
 | .ptr a o,b,h=>by cases b<;>simp_all[Am.bY]
 | .nils,b,h=>by cases b<;>simp_all[Am.bY]
 | .slice a o n c,b,h=>by cases b<;>simp_all[Am.bY]
 | .gslice a i m s al n,b,h=>by cases b<;>simp_all[Am.bY]
 | .eslice a,b,h=>by cases b<;>simp_all[Am.bY]
 | .lI,b,h=>by cases b<;>simp_all[Am.bY]
 | .map a,b,h=>by cases b<;>simp_all[Am.bY]
 | .nilf,b,h=>by cases b<;>simp_all[Am.bY]
 | .nili,b,h=>by cases b<;>simp_all[Am.bY]
 | .fn (.func f) x y,b,h=>by
  cases b with
  |fn g x' y' =>
   cases g with
   |func g =>
    simp only[Am.bY,xt,jh]at h;obtain⟨⟨d,e⟩,j⟩:=h;rw[d,KW x x' e,KW y y' j]
   |yield g=>simp[Am.bY]at h
  |_=>simp[Am.bY]at h
 | .fn (.yield f) x y,b,h=>by
  cases b with
  |fn g x' y' =>
   cases g with
   |yield g =>
    simp only[Am.bY,xt,jh]at h;obtain⟨⟨d,e⟩,j⟩:=h;rw[d,KW x x' e,KW y y' j]
   |func g=>simp[Am.bY]at h
  |_=>simp[Am.bY]at h
 | .iface t v,b,h=>by
  cases b with
  |iface u w =>
   simp only[Am.bY,xt,jh]at h;rw[h.1,Ts v w h.2]
  |_=>simp[Am.bY]at h
 | .agg x,b,h=>by
  cases b with
  |agg y=>simp only[Am.bY]at h;rw[KW x y h]
  |_=>simp[Am.bY]at h
 | .tuple x,b,h=>by
  cases b with
  |tuple y=>simp only[Am.bY]at h;rw[KW x y h]
  |_=>simp[Am.bY]at h
def KW:∀(a b:List AV),Am.eT a b=true->a=b
 |[],b,h=>by cases b<;>simp_all[Am.eT]
 |x::xs,b,h=>by
  cases b with
  |nil=>simp[Am.eT]at h
  |cons y ys =>
   simp only[Am.eT,xt]at h;rw[Ts x y h.1,KW xs ys h.2]
end
inductive iM(rt:RT)(s:aN)(st cS:St):Prop
 |skip (hc:s.gW=false) (hw:df s st.tm=some false) (h:cS=⟨ey s.dst .undef st.tm,st.aX,st.up,st.H⟩)
 |run (hc:s.gW=false) (hw:df s st.tm=some true) (vs:List AV) (v:AV) (d:List aM) (u:Option aE) (H':ar) (he:lK st.tm s.args=some vs) (ho:ia rt st vs s.op=some (.val v d u H')) (h:cS=⟨ey s.dst v st.tm,d,u,H'⟩)
 |look (hc:s.gW=true) (d:Nat) (hd:s.dst=some d) (h:cS=st) (hl:df s st.tm=some false\/(df s st.tm=some true /\ ∃vs,lK st.tm s.args=some vs/\pP (λ t=>t.get d) st vs s.op=true))
def uO(rt:RT)(steps:List aN)(sts:Nat->St)(M:Nat)(r:aU×St):Prop :=
 (M=steps.length/\r=(.normal,sts M)) \/
 ∃s vs c H' ds,steps[M]? = some s/\s.gW=false/\df s (sts M).tm=some true/\lK (sts M).tm s.args=some vs/\ia rt (sts M) vs s.op=some (.panic c H')/\s.ct=some ds /\
  r=(.panic c,⟨forget ds (sts M).tm,(sts M).aX,(sts M).up,H'⟩)
def sB{rt:RT}:∀{steps:List aN}{st:St}{r:aU×St},(gQ steps).run rt st=some r ->
 ∃(sts:Nat->St)(M:Nat),sts 0=st/\M<=steps.length/\(∀p,p<M -> ∃s,steps[p]? = some s/\iM rt s (sts p) (sts (p+1)))/\uO rt steps sts M r
 |[],st,r,h=>by
  injection h with h;subst h
  exact⟨λ _=>st,0,rfl,qg _,λ p hp=>by omega,.inl ⟨rfl,rfl⟩⟩
 |s::l,st,r,h=>by
  have h:(gF s).run rt ((gQ l).run rt) st=some r:=h;have e:∀cS,iM rt s st cS->(gQ l).run rt cS=some r -> ∃(sts:Nat->St)(M:Nat),sts 0=st/\M<=(s::l).length/\(∀p,p<M -> ∃i,(s::l)[p]? = some i/\iM rt i (sts p) (sts (p+1)))/\uO rt (s::l) sts M r:=by
   intro cS hr hl;obtain⟨sts,M,t,z,x,y⟩:=sB hl;refine⟨λ p=>match p with|0=>st|p+1=>sts p,M+1,rfl,by simp;omega,λ p hp=>?_,?_⟩
   .cases p with
    |zero=>exact⟨s,rfl,by show iM rt s st (sts 0);rw[t];exact hr⟩
    |succ p =>
     obtain⟨i,j,k⟩:=x p (by omega);exact⟨i,by simpa using j,k⟩
   .rcases y with⟨j,k⟩|⟨i,vs,c,H',ds,j,k⟩
    .exact .inl ⟨by simp[j],k⟩
    .exact .inr ⟨i,vs,c,H',ds,by simpa using j,k⟩
  cases f:s.gW with
  |false =>
   rw[Xi s f,qd]at h;obtain⟨w,hw,h⟩:=h;cases w with
   |false =>
    simp only[zj]at h;exact e _ (.skip f hw rfl) h
   |true =>
    simp only[xm,qd]at h;obtain⟨vs,g,q,o,h⟩:=h;cases q with
    |val v d u H'=>exact e _ (.run f hw vs v d u H' g o rfl) h
    |panic c H' =>
     simp only[tD,qd,qe]at h;obtain⟨ds,n,rfl⟩:=h;exact⟨λ _=>st,0,rfl,xy _,λ p hp=>by omega,.inr ⟨s,vs,c,H',ds,rfl,f,hw,g,o,n,rfl⟩⟩
  |true =>
   cases m:s.dst with
   |none=>rw[qrt s f m]at h;cases h
   |some d =>
    rw[Zw s f m,qd]at h;obtain⟨w,hw,h⟩:=h;cases w with
    |false =>
     simp only[zj]at h;exact e st (.look f d m rfl (.inl hw)) h
    |true =>
     simp only[xm,qd]at h;obtain⟨vs,g,h⟩:=h;rcases ki h with⟨hk,h⟩|⟨_,h⟩
     .exact e st (.look f d m rfl (.inr ⟨hw,vs,g,hk⟩)) h
     .cases h
def R2:∀{ys:List bI}{tm c:T AV},(∀t∈tmpsOf ys,tm.get t=c.get t)->lK tm ys=lK c ys
 |[],_,_,_=>rfl
 |y::ys,tm,c,h=>by
  have d:qU tm y=qU c y:=by
   cases y with
   |tmp t=>exact h t (by simp[tmpsOf])
   |const v=>rfl
   |d8 g=>rfl
   |func f=>rfl
  have e:lK tm ys=lK c ys:=R2 (λ t i=>h t (by cases y<;>simp[tmpsOf,i]));simp only[lK,d,e]
section
variable{P:Program}{base:Nat}{D:Nat->Prop}{θ:Th}{H:ar}{w:World}{a:Act}{tm:T AV}
def K6(m:HR P base D θ H w){x:Operand}{y:bI}(n:∀t∈tmpsOf [y],∀v,tm.get t=some v -> ∃c,a.tmps[t]? = some c/\VR D θ v c)(d:qL P.globals.size x=some y){v:AV}(e:qU tm y=some v):VR D θ v (a.eval x):=by
 cases x with
 |tmp t =>
  injection d with d;subst d
  obtain⟨c,h,i⟩:=n t (by simp[tmpsOf]) v e
  simpa[Act.eval,h]using i
 |const k =>
  simp only[qL,qd,qe]at d;obtain⟨u,hu,rfl⟩:=d;injection e with e;subst e
  exact RR hu
 |global g =>
  simp only[qL]at d;split at d
  .rename_i hg;injection d with d;subst d
   injection e with e;subst e
   obtain⟨h,i,j⟩:=m.d8 g (by simpa[sX]using hg);have:=VR.ptr (θ:=θ) (o:=0) h;rw[i,j]at this;exact this
  .cases d
 |func f =>
  injection d with d;subst d
  injection e with e;subst e
  exact λ _ _=>rfl
def Du(h:HR P base D θ H w):∀{xs:List Operand}{ys:List bI},(∀t∈tmpsOf ys,∀v,tm.get t=some v -> ∃c,a.tmps[t]? = some c/\VR D θ v c)->nG P.globals.size xs=some ys -> ∀{vs:List AV},lK tm ys=some vs->bL D θ vs (xs.map a.eval)
 |[],ys,ht,e,vs,f=>by
  injection e with e;subst e
  injection f with f;subst f
  exact .nil
 |x::xs,ys,ht,e,vs,f=>by
  simp only[nG,qd,qe]at e;obtain⟨y,k,n,g,rfl⟩:=e;simp only[lK,qd,qe]at f;obtain⟨v,i,m,j,rfl⟩:=f;refine .cons (K6 h (λ t d=>ht t ?_) k i) (Du h (λ t d=>ht t ?_) g j)
  .cases y<;>simp[tmpsOf]at d⊢;exact .inl d
  .cases y<;>simp[tmpsOf,d]
def xkt{ops:Array Oper}{o:Oper}{s:aN}(hg:guardOf ops o.guard=some s.guard){tm:T AV}{a:Array Value}(i:∀g,s.guard=some g -> ∀v,tm.get g.1=some v -> ∃c,a[g.1]? = some c/\VR D θ v c){q:Bool}(h:df s tm=some q) :
 Region.wanted o (yielded ops a)=q:=by
 cases f:s.guard with
 |none =>
  exact UD (D:=D) (θ:=θ) (tm:=T.nil) (a:=a) (q:=q) hg (λ t v d=>by rw[T.get_nil]at d;cases d) (by unfold df at h⊢;rw[f]at h⊢;exact h)
 |some g =>
  -- a table that holds the guard's slot alone
  refine UD (D:=D) (θ:=θ) (tm:=(T.nil:T AV).put g.1 (tm.get g.1)) (a:=a) (q:=q) hg (λ t v d=>?_) ?_
  .rw [T.jM]at d;split at d
   .rename_i e;subst e;exact i g f v d
   .rw [T.get_nil]at d;cases d
  .unfold df at h⊢;rw[f]at h⊢;simp only[T.jM,ri];exact h
end
end Go.Am
namespace Go.Am
structure RG(P:Program)(rt:RT)(nt:Nat)(ops:Array Oper)(l:List (List bI×ft))(plan:List (Bool×Nat))(sts:Nat->St)(M:Nat):Prop where
 comp:dg (ops.toList.map (fT P))=some l
 Ol:ops.toList.all (pj nt)=true
 cY:xD (aT ops l) plan
 len:M<=plan.length
 rel:∀p,p<M -> ∃q s o ca g,plan[p]? = some q/\ops[q.2]? = some o/\fT P o=some ca/\l[q.2]? = some ca/\guardOf ops o.guard=some g/\s.gW=q.1/\s.dst=o.dst/\s.guard=g/\s.args=ca.1/\s.op=ca.2/\iM rt s (sts p) (sts (p+1))
 mono:∀p,p<M->Ext (sts p).H (sts (p+1)).H
section
variable{P:Program}{rt:RT}{nt:Nat}{ops:Array Oper}{l:List (List bI×ft)}{plan:List (Bool×Nat)}{sts:Nat->St}{M:Nat}
def RG.ext(R:RG P rt nt ops l plan sts M):∀{p p':Nat},p<=p'->p'<=M->Ext (sts p).H (sts p').H:=by
 intro p p' h c
 induction p' with
 |zero=>obtain rfl:p=0:=by omega
        exact Ext.refl _
 |succ k ih =>
  by_cases e:p=k+1
  .subst e;exact Ext.refl _
  .exact (ih (by omega) (by omega)).trans (R.mono k (by omega))
def RG.kept(R:RG P rt nt ops l plan sts M){t:Nat}:∀{p p':Nat},p<=p'->p'<=M->(∀u j:Nat,p<=u->u<p'->plan[u]? = some (false,j)->gV ops j≠some t)->(sts p').tm.get t=(sts p).tm.get t:=by
 intro p p' h B hw
 induction p' with
 |zero=>obtain rfl:p=0:=by omega
        rfl
 |succ k ih =>
  by_cases e:p=k+1
  .subst e;rfl
  .rw [<-ih (by omega) (by omega) (λ u j n r=>hw u j n (by omega))];obtain⟨⟨c,i⟩,s,o,ca,g,n,r,C,E,F,x,A,G,I,z,hr⟩:=R.rel k (by omega);have f:∀v,c=false->(ey s.dst v (sts k).tm).get t=(sts k).tm.get t:=λ v m=>by
    subst m;have:=hw k i (by omega) (by omega) n;rw[A];cases y:o.dst with
    |none=>rfl
    |some d =>
     have q:d≠t:=λ e=>by subst e;exact this (by simp[gV,r,y])
     simp only[ey,T.aI,qo q]
   cases hr with
   |skip m hw' h=>rw[h];exact f _ (x.symm.trans m)
   |run m hw' vs v d u H' he ho h=>rw[h];exact f _ (x.symm.trans m)
   |look m d y h hl=>rw[h]
def RG.sE(R:RG P rt nt ops l plan sts M):∀{p p':Nat},p<=p'->p'<=M->(∀u j:Nat,p<=u->u<p'->plan[u]? = some (false,j)->(aT ops l).cls j≠ .gJ) ->
 (sts p').aX=(sts p).aX/\(sts p').up=(sts p).up /\ ∀b o,(sts p').H.get b=some o->(sts p).H.get b=some o \/
  ∃j u:Nat,p<=u/\u<p'/\plan[u]? = some (false,j)/\(aT ops l).cls j=.alloc/\(sts u).H.au<(sts (u+1)).H.au/\b=(sts u).H.au/\(sts (u+1)).H.get b=some o:=by
 intro p p' h N hw
 induction p' with
 |zero=>obtain rfl:p=0:=by omega
        exact⟨rfl,rfl,λ b o hb=>.inl hb⟩
 |succ k ih =>
  by_cases e:p=k+1
  .subst e;exact⟨rfl,rfl,λ b o hb=>.inl hb⟩
  .obtain ⟨x,y,J⟩:=ih (by omega) (by omega) (λ u j z F=>hw u j z (by omega));obtain⟨⟨c,i⟩,s,o,ca,g,z,F,O,G,Q,I,S,U,V,A,hr⟩:=R.rel k (by omega);have r:∀b o,(sts k).H.get b=some o->(sts p).H.get b=some o \/ ∃j u:Nat,p<=u/\u<k+1/\plan[u]? = some (false,j)/\(aT ops l).cls j=.alloc/\(sts u).H.au<(sts (u+1)).H.au/\b=(sts u).H.au/\(sts (u+1)).H.get b=some o:=λ b o hb=>by
    rcases J b o hb with hb|⟨j,u,K,W,L⟩
    .exact .inl hb
    .exact .inr ⟨j,u,K,by omega,L⟩
   cases hr with
   |skip hc hw' h=>rw[h];exact⟨x,y,r⟩
   |look hc d hd h hl=>rw[h];exact⟨x,y,r⟩
   |run hc hw' vs v d u H' he ho h =>
    have C:c=false:=I.symm.trans hc;subst C;have n:=hw k i (by omega) (by omega) z;have t:(aT ops l).cls i=qK ca.2:=by simp[aT,nC,G]
    rw[t]at n;rw[A]at ho;rw[h];cases q:ca.2 with
    |pure f =>
     rw[q]at ho;simp only[ia,qd,qe,gZ.val.injEq]at ho;obtain⟨_,_,_,rfl,rfl,rfl⟩:=ho;exact⟨x,y,r⟩
    |read f =>
     rw[q]at ho;simp only[ia,qd,qe,gZ.val.injEq]at ho;obtain⟨_,_,_,rfl,rfl,rfl⟩:=ho;exact⟨x,y,r⟩
    |alloc f =>
     rw[q]at ho;simp only[ia,qd,qe,gZ.val.injEq]at ho;obtain⟨⟨X,mk⟩,_,_,rfl,rfl,rfl⟩:=ho;refine⟨x,y,λ b o hb=>?_⟩;have B:=hb;simp only[ar.bJ]at hb;split at hb
     .rename_i E;refine .inr ⟨i,k,by omega,by omega,z,by rw[t,q];rfl,by rw[h];exact zp _,E.symm,by rw[h];exact B⟩
     .exact r b o hb
    |gJ f=>rw[q]at n;exact absurd rfl n
    |gY f=>rw[q]at n;exact absurd rfl n
    |gS=>rw[q]at n;exact absurd rfl n
    |invoke m=>rw[q]at n;exact absurd rfl n
    |recover=>rw[q]at n;exact absurd rfl n
    |defer=>rw[q]at n;exact absurd rfl n
    |panic=>rw[q]at n;exact absurd rfl n
def RG.at(R:RG P rt nt ops l plan sts M){p i:Nat}(hp:plan[p]? = some (false,i))(t:p<M):∃s o ca,ops[i]? = some o/\fT P o=some ca/\l[i]? = some ca/\guardOf ops o.guard=some s.guard/\s.gW=false/\s.dst=o.dst/\s.args=ca.1/\s.op=ca.2/\iM rt s (sts p) (sts (p+1)):=by
 obtain⟨q,s,o,ca,g,c,e,f,h,j,k,m,n,r,d,hr⟩:=R.rel p t;rw[hp]at c;injection c with c;subst c
 exact⟨s,o,ca,e,f,h,by rw[n];exact j,k,m,r,d,hr⟩
def RG.look(R:RG P rt nt ops l plan sts M){p i:Nat}(hp:plan[p]? = some (true,i))(t:p<M):∃s o ca,ops[i]? = some o/\fT P o=some ca/\l[i]? = some ca/\guardOf ops o.guard=some s.guard/\s.gW=true/\s.dst=o.dst/\s.args=ca.1/\s.op=ca.2/\iM rt s (sts p) (sts (p+1)):=by
 obtain⟨q,s,o,ca,g,c,e,f,h,j,k,m,n,r,d,hr⟩:=R.rel p t;rw[hp]at c;injection c with c;subst c
 exact⟨s,o,ca,e,f,h,by rw[n];exact j,k,m,r,d,hr⟩
def RG.still(R:RG P rt nt ops l plan sts M){p i:Nat}(hp:plan[p]? = some (true,i))(e:p<M):sts (p+1)=sts p:=by
 obtain⟨s,o,ca,_,_,_,_,c,_,_,_,hr⟩:=R.look hp e;cases hr with
 |skip hc'=>rw[c]at hc';cases hc'
 |run hc'=>rw[c]at hc';cases hc'
 |look hc' d hd h hl=>exact h
def RG.IZ(R:RG P rt nt ops l plan sts M){q:Nat}:∀{u:Nat},q<=u->u<=M->(∀v:Nat,q<=v->v<u -> ∃r,plan[v]? = some (true,r))->sts u=sts q:=by
 intro u h g c
 induction u with
 |zero=>obtain rfl:q=0:=by omega
        rfl
 |succ k ih =>
  by_cases e:q=k+1
  .subst e;rfl
  .obtain ⟨r,hr⟩:=c k (by omega) (by omega);rw[R.still hr (by omega)];exact ih (by omega) (by omega) (λ v d f=>c v d (by omega))
end
def DS(D0:Nat->Prop)(plan:List (Bool×Nat))(sts:Nat->St)(M:Nat)(S:List Nat):Nat->Prop:=λ b =>
 D0 b \/ ∃i p:Nat,i∈S/\plan[p]? = some (false,i)/\p<M/\(sts p).H.au<=b/\b<(sts (p+1)).H.au
def FY(ops:Array Oper)(plan:List (Bool×Nat))(sts:Nat->St)(M:Nat)(S:List Nat)(D:Nat->Prop)(θ:Th)(a:Array Value):Prop :=
 ∀t:Nat,∃p0:Nat,p0<=M/\(∀v,(sts p0).tm.get t=some v -> ∃c,a[t]? = some c/\VR D θ v c) /\
  (∀j p:Nat,j∈S->plan[p]? = some (false,j)->gV ops j=some t->p<p0) /\
  (p0=0 \/ ∃i0 p1:Nat,i0∈S/\plan[p1]? = some (false,i0)/\p0=p1+1/\gV ops i0=some t)
structure Inv(P:Program)(base:Nat)(D0:Nat->Prop)(θ0:Th)(w0:World)(cs0:List Frame)(b:Frame)(nt:Nat)(rd:Option Nat)(ops:Array Oper)(l:List (List bI×ft))(plan:List (Bool×Nat))(sts:Nat->St)(M:Nat)
 (S:List Nat) (q:Nat) (X:ar) (θ:Th) (a:Act) (w:World) (cs:List Frame):Prop where
 heap:HR P base (DS D0 plan sts M S) θ X w
 grow:bB D0 (sts 0).H θ0 w0 X θ w
 Sd:∀b o,(sts q).H.get b=some o->X.get b=some o
 yA:∀j p:Nat,j∈S->plan[p]? = some (false,j)->(aT ops l).cls j=.alloc->q<=p->p<M->(sts p).H.au<(sts (p+1)).H.au -> ∀o,(sts (p+1)).H.get (sts p).H.au=some o->X.get (sts p).H.au=some o
 Vo:q<=M
 yL:∀i p:Nat,plan[p]? = some (false,i)->(aT ops l).cls i=.gJ->(p<q↔i∈S)
 last:q=0 \/ ∃e p:Nat,q=p+1/\plan[p]? = some (false,e)/\(aT ops l).cls e=.gJ
 aX:gR (DS D0 plan sts M S) θ (sts q).aX a.defers
 up:qT (DS D0 plan sts M S) θ b.kind (sts q).up cs
 MZ:(sts q).up.isSome=(sts 0).up.isSome
 DP:eW (sts 0).up cs0 cs
 tl:FY ops plan sts M S (DS D0 plan sts M S) θ a.tmps
 size:nt<=a.tmps.size
 round:xS (DS D0 plan sts M S) θ b.roundOf rd
 QZ:∀i∈S,∃p:Nat,plan[p]? = some (false,i)/\p<M
 closed:∀i∈S,∀j,((aT ops l).fX i).testBit j=true->j∈S
section
variable{P:Program}{rt:RT}{nt:Nat}{ops:Array Oper}{l:List (List bI×ft)}{plan:List (Bool×Nat)}{sts:Nat->St}{M:Nat}
 {base:Nat} {D0:Nat->Prop} {θ0:Th} {w0:World} {cs0:List Frame} {b:Frame} {rd:Option Nat}
def Vi{i j t:Nat}(c:t∈gA ops l i)(d:gV ops j=some t):(aT ops l).jF i j=true:=by
 show Ae ops l i j=true;unfold Ae;rw[d];exact(Wv _ _).2 c
def DS.app{S:List Nat}{i:Nat}{x:Nat}(h:DS D0 plan sts M S x):DS D0 plan sts M (S ++ [i]) x:=by
 rcases h with h|⟨j,p,c,d⟩
 .exact .inl h
 .exact .inr ⟨j,p,by simp[c],d⟩
def Iv(R:RG P rt nt ops l plan sts M){S:List Nat}{q:Nat}{X:ar}{θ:Th}{a:Act}{w:World}{cs:List Frame}(hI:Inv P base D0 θ0 w0 cs0 b nt rd ops l plan sts M S q X θ a w cs){i p:Nat}(hp:plan[p]? = some (false,i))(x:p<=M)(n:i∉S)
 (m:∀j,((aT ops l).fX i).testBit j=true->j∈S) {t:Nat} (G:t∈gA ops l i):∀v,(sts p).tm.get t=some v -> ∃c,a.tmps[t]? = some c/\VR (DS D0 plan sts M S) θ v c:=by
 obtain⟨N,Q,C,E,F⟩:=hI.tl t;have s:=R.cY.lt p i hp
 -- a writer is an ancestor,or comes later
 have f:∀j p':Nat,plan[p']? = some (false,j)->gV ops j=some t->j≠i->((aT ops l).fX i).testBit j=true\/((aT ops l).fX j).testBit i=true:=λ j p' k o d =>
  R.cY.HG i j s (R.cY.lt p' j k) (λ e=>d e.symm) (Vi G o)
 have hle:N<=p:=by
  rcases F with rfl|⟨r,O,A,B,rfl,K⟩
  .exact xy _
  .have d:r≠i:=λ e=>n (e▸A);rcases f r O B K d with h|h
   .obtain ⟨p',L,y⟩:=R.cY.fX p i r hp h;have:=R.cY.one _ _ _ B y;omega
   .exact absurd (hI.closed r A i h) n
 have g:=R.kept (t:=t) hle x (λ u j I J k o=>by
  have d:j≠i:=λ e=>by
   subst e;have:=R.cY.one _ _ _ hp k;omega
  rcases f j u k o d with h|h
  .have:=E j u (m j h) k o;omega
  .obtain ⟨p',L,y⟩:=R.cY.fX u j i k h;have:=R.cY.one _ _ _ hp y;omega)
 intro v z;rw[g]at z;exact C v z
def FY.put(R:RG P rt nt ops l plan sts M){S:List Nat}{D D':Nat->Prop}{θ θ':Th}{a:Array Value}(h:FY ops plan sts M S D θ a)(A:Ag D θ θ')(V:∀x,D x->D' x){i p:Nat}(hp:plan[p]? = some (false,i))(G:p<M)
 (K:∀j,((aT ops l).fX i).testBit j=true->j∈S) (u:i∉S) (g:∀i∈S,∀j,((aT ops l).fX i).testBit j=true->j∈S) {o:Oper} (ho:ops[i]? = some o) (E:∃ca,l[i]? = some ca) {c:Value} (hs:nt<=a.size)
 (W:∀d v,o.dst=some d->(sts (p+1)).tm.get d=some v->VR D' θ' v c) :
 FY ops plan sts M (S ++ [i]) D' θ' (match o.dst with|some d=>a.setIfInBounds d c|none=>a):=by
 have n:gV ops i=o.dst:=by simp[gV,ho]
 intro t
 by_cases r:o.dst=some t
 .refine ⟨p+1,G,λ v s=>?_,λ j p' f k m=>?_,.inr ⟨i,p,by simp,hp,rfl,by rw[n];exact r⟩⟩
  .rw [r];have F:t<a.size:=by
    have:=R.Ol;rw[wq]at this;have:=this o (by have:=Array.mem_of_getElem? ho;simpa using this);unfold pj at this;rw[r]at this;simp only[sX]at this;omega
   exact⟨c,by simp[F],W t v r s⟩
  .rcases zt.1 f with f|f
   .have q:j≠i:=λ e=>u (e▸f);have C:=R.cY.lt p i hp;have I:t∈gA ops l i:=by
     obtain⟨ca,U⟩:=E;unfold gA;rw[n,r];simp
    rcases R.cY.HG i j C (R.cY.lt p' j k) (λ e=>q e.symm) (Vi I m)with h|h
    .obtain ⟨p2,k5,Y⟩:=R.cY.fX p i j hp h;have:=R.cY.one _ _ _ k Y;omega
    .exact absurd (g j f i h) u
   .simp at f;subst f;have:=R.cY.one _ _ _ hp k;omega
 .obtain ⟨Z,N,O,Q,z⟩:=h t;refine⟨Z,N,λ v s=>?_,λ j p' f k m=>?_,?_⟩
  .obtain ⟨L,y,J⟩:=O v s;refine⟨L,?_,J.up A V⟩;cases B:o.dst with
   |none=>exact y
   |some d =>
    have q:d≠t:=λ e=>r (by rw[B,e]);simp only[vr,qo q];exact y
  .rcases zt.1 f with f|f
   .exact Q j p' f k m
   .simp at f;subst f;rw[n]at m;exact absurd m r
  .rcases z with z|⟨X,p1,y,J⟩
   .exact .inl z
   .exact .inr ⟨X,p1,by simp[y],J⟩
end
end Go.Am
namespace Go.Am
def kO(X:ar):List Nat->ar->ar
 |[],H=>H
 |x::l,H=>match X.get x with
  |some o=>kO X l (H.set x o)
  |none=>kO X l H
def Wr(X:ar):∀(l:List Nat)(H:ar),(kO X l H).au=H.au
 |[],H=>rfl
 |x::l,H=>by
  unfold kO;split
  .rw [Wr X l];rfl
  .exact Wr X l H
def Ow(X:ar):∀(l:List Nat)(H:ar)(y:Nat),(kO X l H).get y=if y∈l/\(X.get y).isSome=true then X.get y else H.get y
 |[],H,y=>by simp[kO]
 |x::l,H,y=>by
  unfold kO;split
  .rename_i o ho;rw[Ow X l,ar.aI]
   by_cases c:y∈l/\(X.get y).isSome=true
   .rw [qr c,qr ⟨by simp[c.1],c.2⟩]
   .rw [qo c]
    by_cases f:x=y
    .subst f;rw[qr rfl,qr ⟨by simp,by rw[ho];rfl⟩,ho]
    .rw [qo f,qo];rintro⟨d,e⟩;rcases jf.1 d with d|d
     .exact f d.symm
     .exact c ⟨d,e⟩
  .rename_i ho;rw[Ow X l]
   by_cases c:y∈l/\(X.get y).isSome=true
   .rw [qr c,qr ⟨by simp[c.1],c.2⟩]
   .rw [qo c,qo];rintro⟨d,e⟩;rcases jf.1 d with d|d
    .subst d;rw[ho]at e;cases e
    .exact c ⟨d,e⟩
def HR.frame{P:Program}{base:Nat}{D D0:Nat->Prop}{θ θ0:Th}{H0 H X:ar}{w w0:World}{D':Nat->Prop}{θ':Th}{H':ar}{w':World}(r:HR P base D θ X w)(n:bB D0 H0 θ0 w0 X θ w)(Q:∀x,D0 x->D x)
 (i:∀b o,H.get b=some o->X.get b=some o) (K:HR P base D' θ' H' w') (g:bB D H θ w H' θ' w') (N:Ext H H') (Z:∀x,D x->D' x) (hn:H0.au<=H'.au) (E:List Nat)
 (S:∀x∈E,H.get x=none /\ ∀o,X.get x=some o->own o=true):HR P base D' θ' (kO X E H') w'/\bB D0 H0 θ0 w0 (kO X E H') θ' w':=by
 have f:∀y o,(kO X E H').get y=some o->(y∈E/\X.get y=some o)\/(H'.get y=some o):=by
  intro y o u;rw[Ow]at u;split at u
  .rename_i h;exact .inl ⟨h.1,u⟩
  .exact .inr u
 have d:∀x o,X.get x=some o -> θ'.bV x = θ.bV x:=λ x o A=>(g.ag x (r.obj x o A).1).1;refine⟨⟨λ x o A=>?_,λ x y F t A u z G=>?_,λ x o A ho=>?_,K.d8,K.low⟩,⟨by rw[Wr];exact hn,n.ag.trans g.ag Q,xu n.size g.size,g.os.trans n.os,g.tape.trans n.tape,g.output.trans n.output,λ k hk O=>?_,λ x o A ho v=>?_⟩⟩
 .rcases f x o A with⟨p,c⟩|c
  .obtain ⟨L,co,Y,R⟩:=r.obj x o c;refine⟨Z x L,co,?_,R.up L g.ag Z⟩;rw[d x o c,g.ah _ (r.lt c)]
   .exact Y
   .intro y t u W e;have B:=i y t u;refine r.inj y x t o B c W (λ q=>?_) e;subst q;rw[(S y p).1]at u;cases u
  .exact K.obj x o c
 .rcases f x F A with⟨p,c⟩|c<;>rcases f y t u with⟨U,j⟩|j
  .rw [d x F c,d y t j];exact r.inj x y F t c j z G
  .rw [d x F c];intro e;rcases N.2 y t j with⟨J,L,_⟩|⟨L,Y,R⟩
   .have B:=i y J L;rw[d y J B]at e;exact r.inj x y F J c B z G e
   .obtain ⟨m,o',s,I,C⟩:=g.news y t j R (by rw[<-e];exact r.lt c);refine r.inj m x o' F (i m o' s) c I (λ q=>?_) (C.trans e.symm);subst q;rw[(S m p).1]at s;cases s
  .rw [d y t j];intro e;obtain⟨m,o',s,I,C⟩:=g.news x F c z (by rw[e];exact r.lt j);refine r.inj m y o' t (i m o' s) j I (λ q=>?_) (C.trans e);subst q;rw[(S m U).1]at s;cases s
  .exact K.inj x y F t c j z G
 .rcases f x o A with⟨p,c⟩|c
  .rw [d x o c];exact r.kP x o c ho
  .exact K.kP x o c ho
 .rw [g.ah k (qj hk n.size)]
  .exact n.ah k hk O
  .intro b ob hb V e;obtain⟨m,o',s,I,C⟩:=n.news b ob (i b ob hb) V (by rw[e];exact hk);exact O m o' s I (C.trans e)
 .rcases f x o A with⟨p,c⟩|c
  .rw [d x o c]at v⊢;exact n.news x o c ho v
  .obtain ⟨m,o',s,I,C⟩:=g.news x o c ho (qj v n.size);obtain⟨b2,o2,k4,k5,k6⟩:=n.news m o' (i m o' s) I (by rw[C];exact v);exact⟨b2,o2,k4,k5,k6.trans C⟩
section
variable{P:Program}{rt:RT}{nt:Nat}{ops:Array Oper}{l:List (List bI×ft)}{plan:List (Bool×Nat)}{sts:Nat->St}{M:Nat}
 {base:Nat} {D0:Nat->Prop} {θ0:Th} {w0:World} {cs0:List Frame} {b:Frame}
def DS.snoc(R:RG P rt nt ops l plan sts M){S:List Nat}{i p:Nat}(hp:plan[p]? = some (false,i))(d:p<M):DS D0 plan sts M (S ++ [i])=Up (DS D0 plan sts M S) (sts p).H.au (sts (p+1)).H.au:=by
 funext x;simp only[eq_iff_iff];constructor
 .rintro (h|⟨j,p',c,e,g,f⟩)
  .exact .inl (.inl h)
  .rcases zt.1 c with c|c
   .exact .inl (.inr ⟨j,p',c,e,g,f⟩)
   .simp at c;subst c;have:=R.cY.one _ _ _ hp e;subst this;exact .inr f
 .rintro (h|h)
  .exact h.app
  .exact .inr ⟨i,p,by simp,hp,d,h⟩
def DS.fresh(R:RG P rt nt ops l plan sts M){S:List Nat}{i p:Nat}(hp:plan[p]? = some (false,i))(d:p<=M)(f:i∉S){n:Nat}(q:dV D0 (sts 0).H.au n){m:Nat}(hm:m<=n)
 (g:p<M->m<=(sts (p+1)).H.au):dV (DS D0 plan sts M S) (sts p).H.au m:=by
 intro x o s e;rcases e with e|⟨j,p',r,c,t,u,v⟩
 .exact q x (xu (R.ext (xy p) d).1 o) (by omega) e
 .rcases Nat.lt_trichotomy p p' with h|h|h
  .have k:=(R.ext (p:=p+1) (p':=p') h (by omega)).1;have:=g (by omega);omega
  .subst h;rw[hp]at c;injection c with c;injection c with _ c
   exact f (c▸r)
  .have k:=(R.ext (p:=p'+1) (p':=p) h d).1;omega
def R4(R:RG P rt nt ops l plan sts M){rd:Option Nat}{S:List Nat}{q:Nat}{X:ar}{θ:Th}{a:Act}{w:World}{cs:List Frame}(hI:Inv P base D0 θ0 w0 cs0 b nt rd ops l plan sts M S q X θ a w cs){i p:Nat}(hp:plan[p]? = some (false,i))(e:p<=M)(y:i∉S)
 (c:∀j,((aT ops l).fX i).testBit j=true->j∈S) (f:q<=p) (d:(aT ops l).cls i=.read\/(aT ops l).cls i=.gJ) :
 (sts p).aX=(sts q).aX/\(sts p).up=(sts q).up /\ ∀x o,(sts p).H.get x=some o->X.get x=some o:=by
 obtain⟨s,t,v⟩:=R.sE f e (λ u j z g m k=>by
  have:=c j (R.cY.made p i u j hp d m g (.inr k));have:=(hI.yL j u m k).2 this;omega)
 refine⟨s,t,λ x o h=>?_⟩;rcases v x o h with h|⟨j,u,A,B,n,r,C,rfl,E⟩
 .exact hI.Sd x o h
 .exact hI.yA j u (c j (R.cY.made p i u j hp d n B (.inl r))) n r A (by omega) C o E
def Nq(R:RG P rt nt ops l plan sts M){rd:Option Nat}{S:List Nat}{q:Nat}{X:ar}{θ:Th}{a:Act}{w:World}{cs:List Frame}(hI:Inv P base D0 θ0 w0 cs0 b nt rd ops l plan sts M S q X θ a w cs){i p:Nat}(hp:plan[p]? = some (false,i))(f:i∉S)
 (g:(aT ops l).cls i=.gJ):q<=p:=by
 rcases hI.last with h|⟨e,j,rfl,c,k⟩
 .omega
 .refine MG λ m=>?_;have d:=(hI.yL e j c k).1 (zp _);have n:p≠j:=λ q=>by
   subst q;rw[hp]at c;injection c with c;injection c with _ c
   exact f (c▸d)
  have:=R.cY.made j e p i c (.inr k) hp (by omega) (.inr g);exact f (hI.closed e d i this)
def AW(R:RG P rt nt ops l plan sts M){rd:Option Nat}{S:List Nat}{q:Nat}{X:ar}{θ:Th}{a:Act}{w:World}{cs:List Frame}(hI:Inv P base D0 θ0 w0 cs0 b nt rd ops l plan sts M S q X θ a w cs){i p:Nat}(hp:plan[p]? = some (false,i))(hpM:p<M)(E:i∉S)
 (J:∀j,((aT ops l).fX i).testBit j=true->j∈S) (B:M=plan.length \/ ∃j,plan[M]? = some (false,j)) {o:Oper} {ca:List bI×ft} {s:aN} (ho:ops[i]? = some o) (F:l[i]? = some ca) (hsd:s.dst=o.dst) (hsa:s.args=ca.1) (hso:s.op=ca.2) (Q:guardOf ops o.guard=some s.guard)
 {f:List AV->ar->Option AV} (hf:ca.2=.read f) {vs:List AV} {v:AV} (hw:df s (sts p).tm=some true) (he:lK (sts p).tm s.args=some vs) (hv:f vs (sts p).H=some v) (hst:sts (p+1)=⟨ey s.dst v (sts p).tm,(sts p).aX,(sts p).up,(sts p).H⟩) :
 ∃H,(∀x o,H.get x=some o->X.get x=some o)/\f vs H=some v:=by
 have K:(aT ops l).cls i=.read:=by
  show nC l i=.read;simp[nC,F,hf,qK]
 by_cases hqp:q<=p
 .exact ⟨(sts p).H,(R4 R hI hp (by omega) E J hqp (.inl K)).2.2,hv⟩
 .rcases hI.last with h|⟨e,Y,rfl,A,h3⟩
  .omega
  .have L:=(hI.yL e Y A h3).1 (zp _);have hne:p≠Y:=λ q=>by
    subst q;rw[hp]at A;injection A with A;injection A with _ A
    exact E (A▸L)
   have hna:((aT ops l).fX e).testBit i=false:=by
    cases hb:((aT ops l).fX e).testBit i with
    |false=>rfl
    |true=>exact absurd (hI.closed e L i hb) E
   obtain⟨u,k1,k2,k3⟩:=R.cY.look Y e p i A h3 hp (by omega) K hna;have huM:u<M:=by
    rcases B with B|⟨j,n⟩
    .have:=(qk.1 k2).1;omega
    .refine MG λ hlt=>?_;obtain⟨r',r⟩:=k3 M (by have:=hI.Vo;omega) (by omega);rw[n]at r;injection r with r;injection r with r _;cases r
   have hsu:sts u=sts (Y+1):=R.IZ (q:=Y+1) (by omega) (by omega) (λ v U y=>k3 v (by omega) (by omega));obtain⟨s',o',ca',Z,g2,g3,g4,g5,g6,g7,g8,hr⟩:=R.look k2 huM;rw[ho]at Z;injection Z with Z;subst Z
   rw[F]at g3;injection g3 with g3;subst g3
   have hgd:s'.guard=s.guard:=by rw[Q]at g4;injection g4 with g4;exact g4.symm
   have hin:=R.cY.lt p i hp
   -- nothing that it names is written sE
   have c:=(R.cY.again u i k2).2.1;have c:CY ops l i=true:=c;have C:gV ops i=o.dst:=by simp[gV,ho]
   have V:∀t∈gA ops l i,∀x j:Nat,p+1<=x->x<u->plan[x]? = some (false,j)->gV ops j≠some t:=by
    intro t I x j hx1 G n z;have hji:j≠i:=λ e=>by
     subst e;have:=R.cY.one _ _ _ hp n;omega
    have:=(R.cY.again u i k2).2.2.2 j x n G hji (Vi I z);obtain⟨x',hx',W⟩:=R.cY.fX p i j hp this;have:=R.cY.one _ _ _ n W;omega
   have k:∀t∈iK ops l i,(sts u).tm.get t=(sts p).tm.get t:=by
    intro t I;have hnd:o.dst≠some t:=λ z=>by
     unfold CY at c;rw[C,z]at c;simp only[Ny]at c;rw[(Wv _ _).2 I]at c;cases c
    refine R.kept (by omega) (by omega) (λ x j hx1 G n z=>?_)
    by_cases hxp:x=p
    .subst hxp;rw[hp]at n;injection n with n;injection n with _ n
     subst n;rw[C]at z;exact hnd z
    .exact V t (by unfold gA;simp[I]) x j (by omega) G n z
   have O:iK ops l i=(match guardOf ops o.guard with|some (some g)=>[g.1]|_=>[])++tmpsOf ca.1:=by unfold iK;rw[ho,F];rfl
   have hw':df s' (sts u).tm=some true:=by
    rw[<-hw];unfold df;rw[hgd];cases hg:s.guard with
    |none=>rfl
    |some g =>
     simp only;rw[k g.1 (by rw[O,Q,hg];simp)]
   have he':lK (sts u).tm s'.args=some vs:=by
    rw[<-he,hsa,g7];exact R2 (λ t I=>k t (by rw[O];simp[I]))
   cases hr with
   |skip hc'=>rw[g5]at hc';cases hc'
   |run hc'=>rw[g5]at hc';cases hc'
   |look hc' d z h hl =>
    rcases hl with hl|⟨_,vs',m,hk⟩
    .rw [hw']at hl;cases hl
    .rw [he']at m;injection m with m;subst m
     rw[g8,hf]at hk;unfold pP at hk;simp only at hk;split at hk
     .rename_i v1 v2 U y;have hdd:(sts u).tm.get d=some v:=by
       have N:o.dst=some d:=by rw[<-g6];exact z
       rw[R.kept (p:=p+1) (t:=d) (by omega) (by omega) (V d (by unfold gA;rw[C,N];simp))];rw[hst,hsd,N];simp only[ey,T.aI,ri]
      rw[hdd]at y;injection y with y;subst y
      have:=Ts _ _ hk;subst this;exact⟨(sts u).H,λ x o hx=>hI.Sd x o (by rw[hsu]at hx;exact hx),U⟩
     .cases hk
def Rf(a:Act)(d:Option Nat)(c:Value):(a.put d c).tmps=(match d with|some d=>a.tmps.setIfInBounds d c|none=>a.tmps):=by
 cases d<;>rfl
def q6i(a:Act)(d:Option Nat)(c:Value):(a.put d c).defers=a.defers:=by
 cases d<;>rfl
def Inv.step(R:RG P rt nt ops l plan sts M){rd:Option Nat}{S:List Nat}{q:Nat}{X:ar}{θ:Th}{a:Act}{w:World}{cs:List Frame}(hI:Inv P base D0 θ0 w0 cs0 b nt rd ops l plan sts M S q X θ a w cs){i p:Nat}(hp:plan[p]? = some (false,i))(B:p<M)(I:i∉S)
 (m:∀j,((aT ops l).fX i).testBit j=true->j∈S) {o:Oper} (ho:ops[i]? = some o) (L:∃ca,l[i]? = some ca) (G:(aT ops l).cls i≠ .gJ) {θ':Th} {X':ar} {w':World} {c:Value}
 (r:HR P base (DS D0 plan sts M (S ++ [i])) θ' X' w') (n:bB D0 (sts 0).H θ0 w0 X' θ' w') (C:∀x o,(∃d,DS D0 plan sts M S x/\X.get x=some d)->X.get x=some o->X'.get x=some o) (g:Ag (DS D0 plan sts M S) θ θ')
 (Q:(aT ops l).cls i=.alloc->(sts p).H.au<(sts (p+1)).H.au -> ∀o,(sts (p+1)).H.get (sts p).H.au=some o->X'.get (sts p).H.au=some o)
 (E:∀d v,o.dst=some d->(sts (p+1)).tm.get d=some v->VR (DS D0 plan sts M (S ++ [i])) θ' v c) :
 Inv P base D0 θ0 w0 cs0 b nt rd ops l plan sts M (S ++ [i]) q X' θ' (a.put o.dst c) w' cs:=by
 have k:∀x,DS D0 plan sts M S x->DS D0 plan sts M (S ++ [i]) x:=λ x h=>h.app;have f:∀x o,X.get x=some o->X'.get x=some o:=λ x o F=>C x o ⟨o,(hI.heap.obj x o F).1,F⟩ F;refine⟨r,n,λ x o F=>f x o (hI.Sd x o F),λ j p' e u y J K z o' A=>?_,hI.Vo,λ U p' N s=>?_,hI.last,?_,qT.up g k hI.up,hI.MZ,hI.DP,?_,?_,xS.up g k hI.round,λ j e=>?_,λ j e O t=>?_⟩
 .rcases zt.1 e with e|e
  .exact f _ _ (hI.yA j p' e u y J K z o' A)
  .simp at e;subst e;have:=R.cY.one _ _ _ hp u;subst this;exact Q y z o' A
 .rw [hI.yL U p' N s];constructor
  .intro h;simp[h]
  .intro h;rcases zt.1 h with h|h
   .exact h
   .simp at h;subst h;exact absurd s G
 .rw [q6i];exact gR.up g k hI.aX
 .rw [Rf];exact hI.tl.put R g k hp B m I hI.closed ho L hI.size E
 .rw [Rf];have:=hI.size;split<;>simpa using this
 .rcases zt.1 e with e|e
  .exact hI.QZ j e
  .simp at e;subst e;exact⟨p,hp,B⟩
 .rcases zt.1 e with e|e
  .simp [hI.closed j e O t]
  .simp at e;subst e;simp[m O t]
def Inv.HY(R:RG P rt nt ops l plan sts M){rd:Option Nat}{S:List Nat}{q:Nat}{X:ar}{θ:Th}{a:Act}{w:World}{cs:List Frame}(hI:Inv P base D0 θ0 w0 cs0 b nt rd ops l plan sts M S q X θ a w cs){i p:Nat}(hp:plan[p]? = some (false,i))(t:p<M)(C:i∉S)
 (k:∀j,((aT ops l).fX i).testBit j=true->j∈S) {o:Oper} (ho:ops[i]? = some o) (Q:∃ca,l[i]? = some ca) (r:(aT ops l).cls i=.gJ) {θ':Th} {X':ar} {w':World} {cs':List Frame} {c:Value} {ds:List Deferred}
 (s:HR P base (DS D0 plan sts M (S ++ [i])) θ' X' w') (n:bB D0 (sts 0).H θ0 w0 X' θ' w') (y:∀x o,(sts (p+1)).H.get x=some o->X'.get x=some o)
 (m:∀j p':Nat,j∈S->plan[p']? = some (false,j)->(aT ops l).cls j=.alloc->p+1<=p'->p'<M->(sts p').H.au<(sts (p'+1)).H.au -> ∀o,(sts (p'+1)).H.get (sts p').H.au=some o->X'.get (sts p').H.au=some o)
 (A:Ag (DS D0 plan sts M S) θ θ') (z:gR (DS D0 plan sts M (S ++ [i])) θ' (sts (p+1)).aX ds) (W:qT (DS D0 plan sts M (S ++ [i])) θ' b.kind (sts (p+1)).up cs') (J:(sts (p+1)).up.isSome=(sts 0).up.isSome) (u:eW (sts 0).up cs0 cs')
 (I:∀d v,o.dst=some d->(sts (p+1)).tm.get d=some v->VR (DS D0 plan sts M (S ++ [i])) θ' v c) :
 Inv P base D0 θ0 w0 cs0 b nt rd ops l plan sts M (S ++ [i]) (p+1) X' θ' (({a with defers:=ds}:Act).put o.dst c) w' cs':=by
 have G:∀x,DS D0 plan sts M S x->DS D0 plan sts M (S ++ [i]) x:=λ x h=>h.app;have Z:=Nq R hI hp C r;refine⟨s,n,y,λ j p' f F K L N O o' U=>?_,t,λ V p' g B=>?_,.inr ⟨i,p,rfl,hp,r⟩,?_,W,J,u,?_,?_,xS.up A G hI.round,λ j f=>?_,λ j f Y E=>?_⟩
 .rcases zt.1 f with f|f
  .exact m j p' f F K L N O o' U
  .simp at f;subst f;have:=R.cY.one _ _ _ hp F;omega
 .constructor
  .intro h
   by_cases e:p'=p
   .subst e;rw[hp]at g;injection g with g;injection g with _ g
    simp[g]
   .have:=k V (R.cY.made p i p' V hp (.inr r) g (by omega) (.inr B));simp[this]
  .intro h;rcases zt.1 h with h|h
   .have:=(hI.yL V p' g B).2 h;omega
   .simp at h;subst h;have:=R.cY.one _ _ _ hp g;omega
 .rw [q6i];exact z
 .rw [Rf];exact hI.tl.put R A G hp t k C hI.closed ho Q hI.size I
 .rw [Rf];have:=hI.size;split<;>simpa using this
 .rcases zt.1 f with f|f
  .exact hI.QZ j f
  .simp at f;subst f;exact⟨p,hp,t⟩
 .rcases zt.1 f with f|f
  .simp [hI.closed j f Y E]
  .simp at f;subst f;simp[k Y E]
def YK(R:RG P rt nt ops l plan sts M){rd:Option Nat}{S:List Nat}{q:Nat}{X:ar}{θ:Th}{a:Act}{w:World}{cs:List Frame}(hI:Inv P base D0 θ0 w0 cs0 b nt rd ops l plan sts M S q X θ a w cs){i p:Nat}(hp:plan[p]? = some (false,i))(f:p<=M)(d:i∉S)
 (c:∀j,((aT ops l).fX i).testBit j=true->j∈S) {o:Oper} {ca:List bI×ft} {s:aN} (ho:ops[i]? = some o) (n:l[i]? = some ca) (r:s.args=ca.1) (k:guardOf ops o.guard=some s.guard) :
 (∀{wd:Bool},df s (sts p).tm=some wd->Region.wanted o (yielded ops a.tmps)=wd) /\
 ∀{xs:List Operand},nG P.globals.size xs=some ca.1 -> ∀{vs:List AV},lK (sts p).tm s.args=some vs->bL (DS D0 plan sts M S) θ vs (xs.map a.eval):=by
 have h:iK ops l i=(match guardOf ops o.guard with|some (some g)=>[g.1]|_=>[])++tmpsOf ca.1:=by unfold iK;rw[ho,n];rfl
 have e:∀t∈iK ops l i,t∈gA ops l i:=λ t u=>by unfold gA;simp[u]
 refine⟨λ{wd}hw=>xkt (D:=DS D0 plan sts M S) (θ:=θ) k (λ g hg v x=>?_) hw,λ{xs}y{vs}m=>?_⟩
 .exact Iv R hI hp f d c (e g.1 (by rw[h,k,hg];simp)) v x
 .rw [r]at m;exact Du hI.heap (λ t u v x=>Iv R hI hp f d c (e t (by rw[h];simp[u])) v x) y m
end
end Go.Am
namespace Go.Am
section
variable{P:Program}{rt:RT}{nt:Nat}{ops:Array Oper}{l:List (List bI×ft)}{plan:List (Bool×Nat)}{sts:Nat->St}{M:Nat}
 {base:Nat} {D0:Nat->Prop} {θ0:Th} {w0:World} {cs0:List Frame} {b:Frame}
def RG.made(R:RG P rt nt ops l plan sts M){p j:Nat}(hp:plan[p]? = some (false,j))(m:p<M)(c:(aT ops l).cls j=.alloc)(h:(sts p).H.au<(sts (p+1)).H.au):∃r,(sts (p+1)).H.get (sts p).H.au=some r:=by
 obtain⟨s,o,ca,ho,t,k,z,n,y,x,q,i⟩:=R.at hp m;have g:(aT ops l).cls j=qK ca.2:=by simp[aT,nC,k]
 rw[g]at c;cases i with
 |look hc=>rw[n]at hc;cases hc
 |skip hc hw hst=>rw[hst]at h;exact absurd h (A9 _)
 |run hc hw vs v d u H' he hop hst =>
  rw[q]at hop;cases e:ca.2 with
  |alloc f =>
   rw[e]at hop;simp only[ia,qd,qe,gZ.val.injEq]at hop;obtain⟨⟨r,mk⟩,_,_,rfl,rfl,rfl⟩:=hop;exact⟨r,by rw[hst];simp only[ar.bJ,ri]⟩
  |_=>rw[e]at c;cases c
set_option maxHeartbeats 1000000 in
def xio(R:RG P rt nt ops l plan sts M)(hP:dL P)(hcall:wx P base rt.call)(hround:uz P base rt.round)(hAP:rt.AP=aV P){S:List Nat}{q:Nat}{X:ar}{θ:Th}{a:Act}{w:World}{cs:List Frame}
 (hI:Inv P base D0 θ0 w0 cs0 b nt rt.ctx.round ops l plan sts M S q X θ a w cs) {i p:Nat} (hp:plan[p]? = some (false,i)) (A:p<M) (y:i∉S) (t:∀j,((aT ops l).fX i).testBit j=true->j∈S) {n:Nat} (hfr:dV D0 (sts 0).H.au n)
 (hMn:(sts M).H.au<=n) (hend:M=plan.length \/ ∃j,plan[M]? = some (false,j)) (h0:∀x o,(sts 0).H.get x=some o->D0 x) {k:List Item} {rest:List Nat} :
 ∃q' X' θ' a' w' cs',Steps P (lone (b.atR a (.inRegion ops (i::rest)::k)) cs w) (lone (b.atR a' (.inRegion ops rest::k)) cs' w')/\Inv P base D0 θ0 w0 cs0 b nt rt.ctx.round ops l plan sts M (S ++ [i]) q' X' θ' a' w' cs':=by
 obtain⟨s,o,ca,ho,hco,L,hsg,hsc,hsd,hsa,hso,hrel⟩:=R.at hp A;obtain⟨xs,hxs,W,hdef⟩:=ML hP hco;obtain⟨hwant,hopd⟩:=YK R hI hp (by omega) y t ho L hsa hsg;have hcls:(aT ops l).cls i=qK ca.2:=by simp[aT,nC,L]
 have hsn:=DS.snoc (D0:=D0) R (S:=S) hp A;have hnle:(sts (p+1)).H.au<=n:=xu (R.ext (p:=p+1) (p':=M) A (qg _)).1 hMn
 have K:=DS.fresh R (S:=S) hp (by omega) y hfr (m:=(sts (p+1)).H.au) hnle (λ _=>qg _)
 -- no block bears a number that is to come
 have V:∀p1 p2:Nat,p1<=p2->p2<M->(sts p2).H.au<(sts (p2+1)).H.au->(sts p1).H.get (sts p2).H.au=none:=by
  intro p1 p2 I h2 h3;cases hg:(sts p1).H.get (sts p2).H.au with
  |none=>rfl
  |some o' =>
   exfalso;have e0:=(R.ext (p:=0) (p':=p2) (by omega) (by omega)).1;have e1:=(R.ext (p:=p1) (p':=p2) I (by omega)).1;have e2:=(R.ext (p:=p2+1) (p':=M) h2 (qg _)).1;rcases(R.ext (p:=0) (p':=p1) (by omega) (by omega)).2 _ _ hg with⟨o'',Y,_⟩|⟨_,h8,_⟩
   .exact hfr _ e0 (by omega) (h0 _ _ Y)
   .omega
 cases hrel with
 |look hc=>rw[hsc]at hc;cases hc
 |skip hc hw hst =>
  have hwf:=hwant hw;have hsk:=stepR_op_skip (P:=P) (b:=b) (a:=a) (k:=k) (cs:=cs) (w:=w) (ops:=ops) (i:=i) (rest:=rest) (by simp[ho,hwf]);rw[ho]at hsk;have g:DS D0 plan sts M (S ++ [i])=DS D0 plan sts M S:=by rw[hsn,hst];exact Up.none
  by_cases e:(aT ops l).cls i=.gJ
  .obtain ⟨k1,k2,k3⟩:=R4 R hI hp (by omega) y t (Nq R hI hp y e) (.inr e);have B:=hI.HY R (cs':=cs) (ds:=a.defers) hp A y t ho ⟨ca,L⟩ e (θ':=θ) (X':=X) (w':=w) (c:=undef) (by rw[g];exact hI.heap) hI.grow (λ x o' z=>by rw[hst]at z;exact k3 x o' z)
    (λ j p' hj hj2 hj3 hj4 hj5 hj6 o' N=>hI.yA j p' hj hj2 hj3 (by have:=Nq R hI hp y e;omega) hj5 hj6 o' N) (Ag.refl _ _) (by rw[g,hst];simp only;rw[k1];exact hI.aX) (by rw[g,hst];simp only;rw[k2];exact hI.up)
    (by rw[hst];simp only;rw[k2];exact hI.MZ) hI.DP (λ d v hd hv=>by
     rw[hst,hsd,hd]at hv;simp only[ey,T.aI,ri,qe]at hv;subst hv;exact .undef)
   exact⟨_,_,_,_,_,_,.one hsk,B⟩
  .have B:=hI.step R hp A y t ho ⟨ca,L⟩ e (θ':=θ) (X':=X) (w':=w) (c:=undef) (by rw[g];exact hI.heap) hI.grow (λ x o' _ z=>z) (Ag.refl _ _) (λ _ O=>by rw[hst]at O;exact absurd O (A9 _))
    (λ d v hd hv=>by
     rw[hst,hsd,hd]at hv;simp only[ey,T.aI,ri,qe]at hv;subst hv;exact .undef)
   exact⟨_,_,_,_,_,_,.one hsk,B⟩
 |run hc hw vs v d u H' he hop hst =>
  have hwt:=hwant hw;have hv:=hopd hxs he;rw[hso]at hop;have Z:∀(x:AV),(∀dd v',o.dst=some dd->(sts (p+1)).tm.get dd=some v'->v'=v):=by
   intro _ dd v' hd G;rw[hst,hsd,hd]at G;simp only[ey,T.aI,ri,qe]at G;exact G.symm
  have hnd:ca.2≠ .defer->ca.2≠ .pure Op.fail->o.semAt b.roundOf a.eval=execOp a.eval o:=λ q1 q2=>Oper.semAt_eq _ _ _ (by
   rcases hdef with h|h|h
   .exact h
   .exact absurd h q1
   .exact absurd h q2)
  by_cases e:qK ca.2=.gJ
  .-- an effect
   have hce':(aT ops l).cls i=.gJ:=by rw[hcls];exact e
   have hqp:=Nq R hI hp y hce';obtain⟨k1,k2,k3⟩:=R4 R hI hp (by omega) y t hqp (.inr hce');have J:(sts (p+1)).H=H':=by rw[hst]
   have hout:=WK hP hcall hround hAP W hdef (rest:=rest) (k:=k) (st:=sts p) (cs:=cs) (r:=.val v d u H') ho hwt (hI.heap.sub k3) (by rw[k1];exact hI.aX) (by rw[k2];exact hI.up) hI.round hv hop (by rw[J]at K;exact K);obtain⟨θ',w',c,cs',ds,U,g2,g3,g4,g5,g6,g7,g8⟩:=hout;have hext:Ext (sts p).H H':=by rw[<-J];exact R.mono p A
   have g:DS D0 plan sts M (S ++ [i])=Up (DS D0 plan sts M S) (sts p).H.au H'.au:=by rw[hsn,J]
   -- what was made ahead of its time
   let Q:Nat->Prop:=λ p'=>p+1<=p' /\ ∃j,j∈S/\plan[p']? = some (false,j)/\(aT ops l).cls j=.alloc/\(sts p').H.au<(sts (p'+1)).H.au
   let E:List Nat:=((List.range M).filter (λ p'=>@decide (Q p') (Classical.propDecidable _))).map (λ p'=>(sts p').H.au)
   have hEm:∀x,x∈E↔ ∃p',p'<M/\Q p'/\x=(sts p').H.au:=by
    intro x;simp only[E,FE,List.mem_filter,List.mem_range,KT];constructor
    .rintro ⟨p',⟨I,h2⟩,rfl⟩;exact⟨p',I,h2,rfl⟩
    .rintro ⟨p',I,h2,rfl⟩;exact⟨p',⟨I,h2⟩,rfl⟩
   have hE:∀x∈E,(sts p).H.get x=none /\ ∀o,X.get x=some o->own o=true:=by
    intro x z;obtain⟨p',I,⟨h2,j,h3,h4,h5,h6⟩,rfl⟩:=(hEm x).1 z;refine⟨V p p' (by omega) I h6,λ o' N=>?_⟩;obtain⟨ob,hob⟩:=R.made h4 I h5 h6;have:=hI.yA j p' h3 h4 h5 (by omega) I h6 ob hob;rw[N]at this;injection this with this;subst this
    rcases(R.mono p' I).2 _ _ hob with⟨o'',Y,_⟩|⟨_,_,h9⟩
    .rw [V p' p' (qg _) I h6]at Y;cases Y
    .exact h9
   have hn0:(sts 0).H.au<=H'.au:=by rw[<-J];exact(R.ext (p:=0) (p':=p+1) (by omega) A).1
   obtain⟨f1,f2⟩:=hI.heap.frame hI.grow (λ x z=>.inl z) k3 g2 g3 hext Up.of hn0 E hE;rw[<-g]at f1;have hnotE:∀x o',H'.get x=some o'->x∉E:=by
    intro x o' z hxE;obtain⟨p',I,⟨h2,j,h3,h4,h5,h6⟩,rfl⟩:=(hEm x).1 hxE;have:=V (p+1) p' h2 I h6;rw[J,z]at this;cases this
   have B:=hI.HY R (cs':=cs') (ds:=ds) hp A y t ho ⟨ca,L⟩ hce' (θ':=θ') (X':=kO X E H') (w':=w') (c:=c) f1 f2
    (λ x o' z=>by
     rw[J]at z;rw[Ow,qo (λ q=>hnotE x o' z q.1)];exact z)
    (λ j p' hj hj2 hj3 hj4 hj5 hj6 o' N=>by
     have hX:=hI.yA j p' hj hj2 hj3 (by omega) hj5 hj6 o' N;rw[Ow,qr ⟨(hEm _).2 ⟨p',hj5,⟨hj4,j,hj,hj2,hj3,hj6⟩,rfl⟩,by rw[hX];rfl⟩];exact hX)
    g3.ag (by rw[g,hst];exact g5) (by rw[g,hst];exact g7) (by rw[hst];exact(g6.trans (by rw[k2])).trans hI.MZ) (eW.trans hI.MZ hI.DP (by rw[<-k2];exact g8))
    (λ dd v' hd G=>by rw[g,Z v dd v' hd G];exact g4)
   exact⟨_,_,_,_,_,_,U,B⟩
  .have hnce:(aT ops l).cls i≠ .gJ:=by rw[hcls];exact e
   cases C:ca.2 with
   |pure f =>
    rw[C]at hop W hnd;simp only[ia,qd,qe,gZ.val.injEq]at hop;obtain⟨v',I,rfl,rfl,rfl,rfl⟩:=hop;have g:DS D0 plan sts M (S ++ [i])=DS D0 plan sts M S:=by rw[hsn,hst];exact Up.none
    obtain⟨c,U,g2⟩:=W (DS D0 plan sts M S) θ a.eval w vs v' (QN a) hv I;have F:=hnd (by intro q;cases q) (by intro q;injection q with q;subst q;cases I);have B:=hI.step R hp A y t ho ⟨ca,L⟩ hnce (θ':=θ) (X':=X) (w':=w) (c:=c) (by rw[g];exact hI.heap) hI.grow (λ x o' _ z=>z) (Ag.refl _ _) (λ _ O=>by rw[hst]at O;exact absurd O (A9 _))
     (λ dd v'' hd G=>by rw[g,Z v' dd v'' hd G];exact g2)
    refine⟨_,_,_,_,_,_,.one ?_,B⟩;rcases U with U|⟨U,rfl⟩
    .exact JX ho hwt (by rw[F];exact U)
    .exact P7 ho hwt (by rw[F];exact U)
   |read f =>
    have hop0:=hop;rw[C]at hop W hnd;simp only[ia,qd,qe,gZ.val.injEq]at hop;obtain⟨v',I,rfl,rfl,rfl,rfl⟩:=hop;have g:DS D0 plan sts M (S ++ [i])=DS D0 plan sts M S:=by rw[hsn,hst];exact Up.none
    obtain⟨Hr,r1,r2⟩:=AW R hI hp A y t hend ho L hsd hsa hso hsg C hw he I hst;obtain⟨c,U,g2⟩:=W base (DS D0 plan sts M S) θ Hr a.eval w vs v' (hI.heap.sub r1) hv r2;have F:=hnd (by intro q;cases q) (by intro q;cases q);have B:=hI.step R hp A y t ho ⟨ca,L⟩ hnce (θ':=θ) (X':=X) (w':=w) (c:=c) (by rw[g];exact hI.heap) hI.grow (λ x o' _ z=>z) (Ag.refl _ _) (λ _ O=>by rw[hst]at O;exact absurd O (A9 _))
     (λ dd v'' hd G=>by rw[g,Z v' dd v'' hd G];exact g2)
    refine⟨_,_,_,_,_,_,.one ?_,B⟩;rcases U with U|⟨U,rfl⟩
    .exact JX ho hwt (by rw[F];exact U)
    .exact P7 ho hwt (by rw[F];exact U)
   |alloc f =>
    rw[C]at hop W hnd;simp only[ia,qd,qe,gZ.val.injEq]at hop;obtain⟨⟨ob,mk⟩,I,rfl,rfl,rfl,rfl⟩:=hop;obtain⟨hown,w1,co,ext,c,U,g2,g3⟩:=W.1 (DS D0 plan sts M S) θ a.eval w vs ob mk (QN a) hv I;have F:=hnd (by intro q;cases q) (by intro q;cases q);have g:DS D0 plan sts M (S ++ [i])=Up (DS D0 plan sts M S) (sts p).H.au ((sts p).H.au+1):=by rw[hsn,hst];rfl
    have hn:¬DS D0 plan sts M S (sts p).H.au:=K _ (qg _) (by rw[hst];exact zp _)
    have hag:=Th.gM θ (sts p).H.au w1.heap.size 0 ext hn
    obtain⟨e1,e2,e3⟩:=Th.eH θ (sts p).H.au w1.heap.size 0 ext
    obtain⟨k1,k2⟩:=g3 (Up (DS D0 plan sts M S) (sts p).H.au ((sts p).H.au+1)) (θ.add (sts p).H.au w1.heap.size 0 ext) (sts p).H.au hag Up.of (.inr ⟨qg _,zp _⟩) (by rw[e1,g2.heap]) e2 e3
    have hX1:HR P base (DS D0 plan sts M S) θ {X with au:=(sts p).H.au} w1:=(HR.draw (w':=w1) hI.heap g2.heap).sub (λ x o z=>z);have hG1:bB D0 (sts 0).H θ0 w0 {X with au:=(sts p).H.au} θ w :=
     ⟨(R.ext (p:=0) (p':=p) (by omega) (by omega)).1,hI.grow.ag,hI.grow.size,hI.grow.os,hI.grow.tape,hI.grow.output,hI.grow.ah,hI.grow.news⟩
    have hA1:=hX1.alloc (w':=w1.alloc co) (co:=co) (k:=w1.heap.size) (off:=0) (ext:=ext) (o:=ob) hn (by rw[CE];simp) (λ j hj=>by rw[CE,qo (Jo hj)]) (qg _) (by simp) k1;have hG2:=(hG1.trans (bB.draw (D:=DS D0 plan sts M S) (w:=w) (w':=w1) g2.heap g2.os g2.tape g2.output) (λ x z=>.inl z)).trans (bB.alloc (w:=w1) hX1 hn ob co 0 ext) (λ x z=>.inl z);have B:=hI.step R hp A y t ho ⟨ca,L⟩ hnce (θ':=θ.add (sts p).H.au w1.heap.size 0 ext) (X':=({X with au:=(sts p).H.au}:ar).alloc ob) (w':=w1.alloc co) (c:=c) (by rw[g];exact hA1) hG2
     (λ x o' hx1 z=>by
      obtain⟨_,hx1,_⟩:=hx1;rw[ar.bJ,qo (λ q=>hn (by rw[show(sts p).H.au=x from q];exact hx1))];exact z)
     hag
     (λ _ _ o' N=>by
      rw[hst]at N;simp only[ar.bJ,ri]at N⊢;exact N)
     (λ dd v'' hd G=>by rw[g,Z (mk (sts p).H.au) dd v'' hd G];exact k2)
    exact⟨_,_,_,_,_,_,.one (JX ho hwt (by rw[F];exact U)),B⟩
   |gJ f=>rw[C]at e;exact absurd rfl e
   |gY f=>rw[C]at e;exact absurd rfl e
   |gS=>rw[C]at e;exact absurd rfl e
   |invoke m=>rw[C]at e;exact absurd rfl e
   |recover=>rw[C]at e;exact absurd rfl e
   |defer=>rw[C]at e;exact absurd rfl e
   |panic=>rw[C]at e;exact absurd rfl e
def DS.nil:DS D0 plan sts M []=D0:=by
 funext x;simp only[DS,eq_iff_iff];constructor
 .rintro (h|⟨i,p,h,_⟩)
  .exact h
  .simp at h
 .exact .inl
def xbh{i:Nat}:∀{l:List (Bool×Nat)}{x:Bool×Nat},x∈tO i l -> ∃p':Nat,l[p']? = some x /\ ∀u:Nat,u<=p'->l[u]?≠some (false,i)
 |[],x,h=>by simp[tO]at h
 |(c,j)::l,x,h=>by
  unfold tO at h;cases hb:(!c && Nat.beq j i)with
  |true=>rw[hb]at h;simp at h
  |false =>
   rw[hb]at h;simp only[zj,jf]at h;have d:(c,j)≠(false,i):=by
    intro e;injection e with f g
    subst f;subst g;simp at hb
   rcases h with rfl|h
   .exact ⟨0,rfl,λ u hu=>by
     obtain rfl:u=0:=by omega
     simpa using d⟩
   .obtain ⟨p',k,m⟩:=xbh h;refine⟨p'+1,by simpa using k,λ u hu=>?_⟩;cases u with
    |zero=>simpa using d
    |succ u=>simpa using m u (by omega)
def DS.below(R:RG P rt nt ops l plan sts M){S:List Nat}{n:Nat}(hn:(sts M).H.au<=n):∀x,DS D0 plan sts M S x->Up D0 (sts 0).H.au n x:=by
 rintro x (h|⟨i,p,e,f,c,d,g⟩)
 .exact .inl h
 .refine .inr ⟨xu (R.ext (p:=0) (p':=p) (by omega) (by omega)).1 d,?_⟩;have:=(R.ext (p:=p+1) (p':=M) c (qg _)).1;omega
def bB.sub{D:Nat->Prop}{H:ar}{θ:Th}{w:World}{X:ar}{θ':Th}{w':World}(g:bB D H θ w X θ' w'){H':ar}(hn:H.au<=H'.au)(hs:∀b o,H'.get b=some o->X.get b=some o):bB D H θ w H' θ' w' :=
 ⟨hn,g.ag,g.size,g.os,g.tape,g.output,g.ah,λ b o hb=>g.news b o (hs b o hb)⟩
def xko(R:RG P rt nt ops l plan sts M){rd:Option Nat}{S:List Nat}{q:Nat}{X:ar}{θ:Th}{a:Act}{w:World}{cs:List Frame}(hI:Inv P base D0 θ0 w0 cs0 b nt rd ops l plan sts M S q X θ a w cs){t:Nat}
 (d:∀j u:Nat,u<M->plan[u]? = some (false,j)->gV ops j=some t->j∈S):∀v,(sts M).tm.get t=some v -> ∃c,a.tmps[t]? = some c/\VR (DS D0 plan sts M S) θ v c:=by
 obtain⟨p,h,i,k,o⟩:=hI.tl t;intro v n;refine i v ?_;rw[<-n];exact(R.kept h (qg _) (λ u j m e g f=>by
  have:=k j u (d j u e g f) g f;omega)).symm
end
section
variable{P:Program}{rt:RT}{nt:Nat}{ops:Array Oper}{l:List (List bI×ft)}{plan:List (Bool×Nat)}{sts:Nat->St}{M:Nat}
 {base:Nat} {D0:Nat->Prop} {θ0:Th} {w0:World} {cs0:List Frame} {b:Frame}
def Dq(R:RG P rt nt ops l plan sts M){S:List Nat}{q:Nat}{X:ar}{θ:Th}{a:Act}{w:World}{cs:List Frame}(hI:Inv P base D0 θ0 w0 cs0 b nt rt.ctx.round ops l plan sts M S q X θ a w cs)(d:∀i,i<ops.size->i∈S){k:List Item}{m:Machine}
 (hs:Steps P m (lone (b.atR a k) cs w)):Out P base D0 θ0 b nt rt.ctx.round k (sts 0) cs0 w0 m .normal (sts M):=by
 have f:=DS.below R (D0:=D0) (S:=S) (qg (sts M).H.au);obtain⟨z,s,A⟩:=R.sE hI.Vo (qg M) (λ u j C E g B=>by
  have:=(hI.yL j u g B).2 (d j (R.cY.lt u j g));omega)
 have e:∀x o,(sts M).H.get x=some o->X.get x=some o:=by
  intro x o h;rcases A x o h with h|⟨j,u,n,r,y,G,I,rfl,J⟩
  .exact hI.Sd x o h
  .exact hI.yA j u (d j (R.cY.lt u j y)) y G n r I o J
 refine⟨θ,a,w,cs,.normal,StepsIn.of_steps hs,⟨(hI.heap.sub e).up f,λ t v F=>?_,hI.size,?_,?_,xS.up (Ag.refl _ _) f hI.round⟩,hI.grow.sub (R.ext (p:=0) (p':=M) (by omega) (qg _)).1 e,trivial,by rw[s];exact hI.MZ,hI.DP⟩
 .obtain ⟨c,n,r⟩:=xko R hI (t:=t) (λ j u _ g _=>d j (R.cY.lt u j g)) v F;exact⟨c,n,r.up (Ag.refl _ _) f⟩
 .rw [z];exact gR.up (Ag.refl _ _) f hI.aX
 .rw [s];exact qT.up (Ag.refl _ _) f hI.up
set_option maxHeartbeats 1000000 in
def xin(R:RG P rt nt ops l plan sts M)(hP:dL P)(C:wx P base rt.call)(A:uz P base rt.round)(hAP:rt.AP=aV P)(hcm:pE rt.call)(hrm:xR rt.round){steps:List aN}(e:dg (plan.map (iX ops l (Mz ops (aT ops l) plan)))=some steps)
 {r:aU×St} (y:uO rt steps sts M r) (hfr:dV D0 (sts 0).H.au r.2.H.au) (hMn:(sts M).H.au<=r.2.H.au) (h0:∀x o,(sts 0).H.get x=some o->D0 x) {L:List Nat} (hL:Order (aT ops l) L) {k:List Item} :
 ∀(rest S:List Nat),L=S++rest -> ∀{q:Nat}{X:ar}{θ:Th}{a:Act}{w:World}{cs:List Frame}{m:Machine},Inv P base D0 θ0 w0 cs0 b nt rt.ctx.round ops l plan sts M S q X θ a w cs->Steps P m (lone (b.atR a (.inRegion ops rest::k)) cs w) ->
  Out P base D0 θ0 b nt rt.ctx.round k (sts 0) cs0 w0 m r.1 r.2:=by
 have hsl:steps.length=plan.length:=by have:=(xH e).1;simpa using this
 -- where the run ended
 have Q:M=plan.length \/ ∃j,plan[M]? = some (false,j):=by
  rcases y with⟨G,_⟩|⟨s,vs,c,H',ds,G,I,_⟩
  .left;omega
  .right;have:=(xH e).2 _ s G;rw[xj,xl]at this;obtain⟨⟨ch,j⟩,h3,h4⟩:=this;obtain⟨o,ca,g,_,_,_,rfl⟩:=Mv h4;have I:ch=false:=I;subst I;exact⟨j,h3⟩
 intro rest
 induction rest with
 |nil =>
  intro S B q X θ a w cs m hI hs;rw[ze]at B;have O:∀i,i<ops.size->i∈S:=λ i hi=>B▸hL.all i hi;rcases y with⟨_,rfl⟩|⟨s,vs,c,H',ds,G,I,_⟩
  .exact Dq R hI O (hs.trans (.one stepR_region_end))
  .exfalso;rcases Q with h|⟨j,hj⟩
   .rw [zz (by omega)]at G;cases G
   .obtain ⟨p,Z,hp2⟩:=hI.QZ j (O j (R.cY.lt M j hj));have:=R.cY.one _ _ _ hj Z;omega
 |cons i rest ih =>
  intro S B q X θ a w cs m hI hs;obtain⟨F,z⟩:=hL.fX S i rest B;have hin:i<(aT ops l).n:=hL.lt i (by rw[B];simp);obtain⟨p,hp⟩:=R.cY.all i hin
  by_cases hpM:p<M
  .obtain ⟨q',X',θ',a',w',cs',g1,g2⟩:=xio R hP C A hAP hI hp hpM F z hfr hMn Q h0 (k:=k) (rest:=rest);exact ih (S ++ [i]) (by rw[B];simp) g2 (hs.trans g1)
  .-- the one that panics
   rcases y with⟨G,_⟩|⟨s,vs,c,H',ds,G,I,hw,he,hop,hps,rfl⟩
   .have:=(qk.1 hp).1;omega
   .have hsM:=(xH e).2 _ s G;rw[xj,xl]at hsM;obtain⟨⟨ch,i0⟩,h3,h4⟩:=hsM;obtain⟨o,ca,g,ho,Y,hsg,rfl⟩:=Mv h4;have I:ch=false:=I;subst I;have hi0S:i0∉S:=λ h=>by
     obtain⟨p',Z,hp2⟩:=hI.QZ i0 h;have:=R.cY.one _ _ _ h3 Z;omega
    have U:Mz ops (aT ops l) plan i0=some ds:=hps;unfold Mz at U;rcases ki U with⟨hsafe,E⟩|⟨_,E⟩
    .have hii:i=i0:=by
      have:=SJ hsafe i hin;simp only[wc,jh]at this;rcases this with h|h|h
      .exact h
      .exfalso;rw[Qc]at h;rcases h with h|h
       .simp at h
       .obtain ⟨p',k1,k2⟩:=xbh h;have:=R.cY.one _ _ _ hp k1;subst this;exact k2 M (by omega) h3
      .exact absurd (z i0 h) hi0S
     subst hii;have hpe:=R.cY.one _ _ _ hp h3;subst hpe;have hco:fT P o=some ca:=by
      have:=(xH R.comp).2 _ ca Y;rw[xj,j8,ho]at this
      simpa using this
     obtain⟨xs,hxs,hok,hdef⟩:=ML hP hco;obtain⟨hwant,hopd⟩:=YK R (s:={gW:=false,dst:=o.dst,guard:=g,args:=ca.1,op:=ca.2,ct:=Mz ops (aT ops l) plan i}) hI hp (qg _) F z ho Y rfl hsg;have hce:(aT ops l).cls i=.gJ:=by
      have:(aT ops l).cls i=qK ca.2:=by
       have hla':l[i]? = some ca:=Y;simp[aT,nC,hla']
      rw[this];have d:ia rt (sts p) vs ca.2=some (.panic c H'):=hop;cases W:ca.2 with
      |pure f=>rw[W]at d;simp only[ia,qd,qe,reduceCtorEq,and_false,exists_false]at d
      |read f=>rw[W]at d;simp only[ia,qd,qe,reduceCtorEq,and_false,exists_false]at d
      |alloc f=>rw[W]at d;simp only[ia,qd,qe,reduceCtorEq,and_false,exists_false]at d
      |_=>rfl
     have hqp:=Nq R hI hp F hce;obtain⟨k1,k2,k3⟩:=R4 R hI hp (qg _) F z hqp (.inr hce);have N:(sts p).H.au<=H'.au:=hMn
     have K:=DS.fresh R (S:=S) hp (qg _) F hfr (m:=H'.au) (qg _) (λ h=>absurd h (A9 _));have hout:=WK hP C A hAP hok hdef (rest:=rest) (k:=k) (st:=sts p) (cs:=cs) (r:=.panic c H') ho (hwant hw) (hI.heap.sub k3) (by rw[k1];exact hI.aX) (by rw[k2];exact hI.up) hI.round (hopd hxs he) hop K;obtain⟨θ',w',ps,todo,g1,g2,g3,g4,g5⟩:=hout;have V:∀x,Up (DS D0 plan sts p S) (sts p).H.au H'.au x->Up D0 (sts 0).H.au H'.au x:=by
      rintro x (h|⟨G,I⟩)
      .exact DS.below R N x h
      .exact .inr ⟨xu (R.ext (p:=0) (p':=p) (by omega) (qg _)).1 G,I⟩
     have J:∀x,DS D0 plan sts p S x->Up D0 (sts 0).H.au H'.au x:=λ x hx=>V x (.inl hx)
     have hG:=(hI.grow.sub (R.ext (p:=0) (p':=p) (by omega) (qg _)).1 k3).trans g3 (λ x hx=>.inl hx);refine⟨θ',a,w',cs,.panic ps,⟨todo,StepsIn.of_steps (hs.trans g1)⟩,⟨g2.up V,λ t v hv=>?_,hI.size,?_,?_,xS.up g3.ag J hI.round⟩,hG,⟨g4,fF.up (Ag.refl _ _) V g5⟩,?_,hI.DP⟩
     .have hv:(forget ds (sts p).tm).get t=some v:=hv;rw[T.pR]at hv;split at hv
      .cases hv
      .rename_i hnt;obtain⟨c',k4,k5⟩:=xko R hI (t:=t) (λ j u hu hj hd=>by
        exfalso;apply hnt;injection E with E
        rw[<-E];unfold gV at hd;rw[qd]at hd;obtain⟨oj,hoj,hd⟩:=hd;rw[List.mem_filterMap];exact⟨oj,by have:=Array.mem_of_getElem? hoj;simpa using this,hd⟩) v hv
       exact⟨c',k4,k5.up g3.ag J⟩
     .show gR _ θ' (sts p).aX a.defers;rw[k1];exact gR.up g3.ag J hI.aX
     .show qT _ θ' b.kind (sts p).up cs;rw[k2];exact qT.up g3.ag J hI.up
     .show (sts p).up.isSome=(sts 0).up.isSome;rw[k2];exact hI.MZ
    .cases E
end
set_option maxHeartbeats 1000000 in
def hK{P:Program}{base:Nat}(U:dL P){rt:RT}(X:rt.AP=aV P)(F:wx P base rt.call)(B:uz P base rt.round)(G:pE rt.call)(L:xR rt.round):Mc P base rt:=by
 intro nt id ops c m D0 θ0 b k st a cs w r E hr hf;unfold iF at m;split at m
 .rename_i O;simp only[qd,ri]at m;obtain⟨l,hl,m⟩:=m;rcases ki m with⟨f,m⟩|⟨_,m⟩
  .simp only[qd,qe]at m;obtain⟨steps,e,rfl⟩:=m;generalize mq (aT ops l).cls (aT ops l).fX ops.size (2*ops.size) 0 []=plan at f e;rw[xt]at f;have hF:xD (aT ops l) plan:=CQ rfl rfl f.1 f.2;have hr:(gQ steps).run rt st=some r:=hr;obtain⟨sts,M,hs0,hM,Q,y⟩:=sB hr;have hsl:steps.length=plan.length:=by have:=(xH e).1;simpa using this
   have z:∀p,p<M -> ∃q s o ca g,plan[p]? = some q/\ops[q.2]? = some o/\fT P o=some ca/\l[q.2]? = some ca/\guardOf ops o.guard=some g/\s.gW=q.1/\s.dst=o.dst/\s.guard=g/\s.args=ca.1/\s.op=ca.2/\iM rt s (sts p) (sts (p+1)):=by
    intro p hp;obtain⟨s,V,h2⟩:=Q p hp;have:=(xH e).2 _ s V;rw[xj,xl]at this;obtain⟨q,h3,W⟩:=this;obtain⟨o,ca,g,ho,A,S,rfl⟩:=Mv W;have n:fT P o=some ca:=by
     have:=(xH hl).2 _ ca A;rw[xj,j8,ho]at this
     simpa using this
    exact⟨q,_,o,ca,g,h3,ho,n,A,S,rfl,rfl,rfl,rfl,rfl,h2⟩
   have J:∀p,p<M->Ext (sts p).H (sts (p+1)).H:=by
    intro p hp;obtain⟨q,s,o,ca,g,_,_,n,_,_,_,_,_,_,hso,h⟩:=z p hp;obtain⟨xs,_,K,_⟩:=ML U n;cases h with
    |skip m hw h=>rw[h];exact Ext.refl _
    |look m d hd h hl=>rw[h];exact Ext.refl _
    |run m hw vs v d u H' he ho h =>
     rw[hso]at ho;have:=UO G L K.mono ho;rw[h];exact this
   have R:RG P rt nt ops l plan sts M:=⟨hl,O,hF,by omega,z,J⟩
   have Y:(sts M).H.au<=r.2.H.au:=by
    rcases y with⟨_,rfl⟩|⟨s,vs,c,H',ds,V,_,_,_,hop,_,rfl⟩
    .exact qg _
    .have:=(xH e).2 _ s V;rw[xj,xl]at this;obtain⟨q,h3,W⟩:=this;obtain⟨o,ca,g,ho,A,S,rfl⟩:=Mv W;have n:fT P o=some ca:=by
      have:=(xH hl).2 _ ca A;rw[xj,j8,ho]at this
      simpa using this
     obtain⟨xs,_,K,_⟩:=ML U n;exact Yd G L K.mono hop
   have hL:=q3a (ops:=ops) (I:=aT ops l) rfl (λ i=>rfl) hF (w.tape w.drawn (.order b.fn id));have C:Region.schedule (P.follows .mixedOrders) ops (w.tape w.drawn (.order b.fn id))=Region.linearise .any ops (w.tape w.drawn (.order b.fn id)):=by
    rw[U.mixed];rfl
   subst hs0;have hI:Inv P base D0 θ0 w cs b nt rt.ctx.round ops l plan sts M [] 0 (sts 0).H θ0 a {w with drawn:=w.drawn+1} cs:=by
    have N:DS D0 plan sts M []=D0:=DS.nil;refine⟨by rw[N];exact E.heap.draw rfl,bB.draw rfl rfl rfl rfl,λ x o hx=>hx,λ j p hj=>by simp at hj,xy _,λ i p _ _=>by simp,.inl rfl,by rw[N];exact E.aX,by rw[N];exact E.up,rfl,eW.refl E.up,
     λ t=>⟨0,xy _,λ v hv=>by rw[N];exact E.tl t v hv,λ j p hj=>by simp at hj,.inl rfl⟩,E.size,by rw[N];exact E.round,λ i Z=>by simp at Z,λ i Z=>by simp at Z⟩
   refine xin R U F B X G L e y hf Y (λ x o hx=>(E.heap.obj x o hx).1) hL _ [] rfl hI (.one ?_);rw[stepR_region_draw,C];rfl
  .injection m with m;subst m;cases hr
 .cases m
end Go.Am
namespace Go.Am
section
variable{P:Program}{base:Nat}
def Z7:∀(vs:List AV)(i:Nat)(t:T AV)(j:Nat),(jK i vs t).get j=if i<=j/\j<i+vs.length then vs[j-i]? else t.get j
 |[],i,t,j=>by simp[jK];omega
 |v::vs,i,t,j=>by
  rw[jK,Z7 vs (i+1),T.aI]
  by_cases c:i=j
  .subst c;rw[qo (by omega),qr rfl,qr (by simp)];simp
  .simp only[c,wz,z6]
   by_cases d:i+1<=j/\j<i+1+vs.length
   .rw [qr d,qr (by omega)];obtain⟨k,rfl⟩:∃k,j=i+1+k:=⟨j-(i+1),by omega⟩
    rw[show i+1+k-(i+1)=k from by omega,show i+1+k-i=k+1 from by omega];simp
   .rw [qo d,qo (by omega)]
def KC{D:Nat->Prop}{θ:Th}{vs:List AV}{args:Array Value}(h:bL D θ vs args.toList)(n:Nat):pz D θ (jK 0 vs .nil) (args++Array.replicate n undef):=by
 intro t v d;rw[Z7,T.get_nil]at d;split at d
 .rename_i g;rw[HA]at d;obtain⟨c,e,f⟩:=h.pZ d;refine⟨c,?_,f⟩;rw[j8]at e;rw[Array.getElem?_append_left]
  .exact e
  .exact (kw.1 e).1
 .cases d
def zH{D:Nat->Prop}{θ:Th}:∀{e:List Nat}{vs:List AV}{cs:List Value}{tm d:T AV}{a:Array Value},Ju tm e vs=some d->bL D θ vs cs->(∀p∈e,p<a.size)->pz D θ tm a ->
 cs.length=e.length/\pz D θ d ((e.zip cs).foldl (λ tmps(t,x)=>tmps.setIfInBounds t x) a)/\((e.zip cs).foldl (λ tmps(t,x)=>tmps.setIfInBounds t x) a).size=a.size
 |[],[],cs,tm,d,a,h,hv,hp,ht=>by
  injection h with h;subst h
  rw[hv.mT];exact⟨rfl,ht,rfl⟩
 |p::e,v::vs,cs,tm,d,a,h,hv,hp,ht=>by
  obtain⟨c,cs',rfl,f,g⟩:=hv.eJ;obtain⟨j,k,m⟩:=zH (tm:=tm.set p v) (a:=a.setIfInBounds p c) h g (λ q i=>by simpa using hp q (by simp[i])) (ht.put (hp p (by simp)) f);refine⟨by simp[j],by simpa using k,?_⟩;simp only[List.zip_cons_cons,Mt];rw[m];simp
 |[],_::_,_,_,_,_,h,_,_,_=>by cases h
 |_::_,[],_,_,_,_,h,_,_,_=>by cases h
def xW(a:Array Value):ResultVar->Sem Value
 | .tmp t=>pure (a.getD t undef)
 | .cell x t=>do loadVar t (<-asAddr (a.getD x undef))
def xgz(fn:Func)(a:Array Value):results fn a=(do let vs <-fn.results.mapM (xW a);pure (if h:vs.size=1 then vs[0]else .tuple vs)):=rfl
def xa2{D:Nat->Prop}{θ:Th}{H:ar}{w:World}(z:HR P base D θ H w){tm:T AV}{a:Array Value}(m:pz D θ tm a){r:ResultVar}{rs:List ResultVar}{s:dX}{f:List dX}
 (i:qB P (r::rs)=some (s::f)) {v:AV} (d:Mu H tm s=some v):qB P rs=some f /\ ∃c,(xW a r).run P w=.ok c w/\VR D θ v c:=by
 cases r with
 |tmp t =>
  simp only[qB,qd,qe,zk]at i;obtain⟨l,hl,rfl,rfl⟩:=i;obtain⟨c,g,h⟩:=m t v d;exact⟨hl,c,by simp[xW,g],h⟩
 |cell x t =>
  simp only[qB,qd,qe,zk]at i;obtain⟨n,hn,l,hl,rfl,rfl⟩:=i;refine⟨hl,?_⟩;obtain⟨y,A⟩:=Su (w:=w) hn;cases n with
  |none =>
   simp only[Mu,qd]at d;obtain⟨u,hu,d⟩:=d;split at d
   .rename_i b o;obtain⟨c,g,h⟩:=m x _ hu;obtain⟨j,p,q⟩:=z.ae d;have e:a.getD x undef=.pointer (some ⟨θ.bV b,θ.off b+o,none⟩):=by
     have:=h.now;simp only[az]at this;simp[j7,g,<-this]
    exact⟨j,by simp only[xW,e,asAddr,Sem.run_bind,Sem.run_pure,Result.andThen_ok,loadVar,y,Jv,zx,wz,p],q⟩
   .cases d
  |some n =>
   simp only[Mu,qd]at d;obtain⟨u,hu,d⟩:=d;split at d
   .rename_i b o;obtain⟨c,g,h⟩:=m x _ hu;simp only[qd,qe]at d;obtain⟨B,k,rfl⟩:=d;obtain⟨j,p,q,_⟩:=z.aq k;have e:a.getD x undef=.pointer (some ⟨θ.bV b,θ.off b+o,none⟩):=by
     have:=h.now;simp only[az]at this;simp[j7,g,<-this]
    exact⟨.agg j.toArray,by simp only[xW,e,asAddr,Sem.run_bind,Sem.run_pure,Result.andThen_ok,loadVar,y,y8,ri,A n rfl,p],.agg q⟩
   .cases d
def q34{D:Nat->Prop}{θ:Th}{H:ar}{w:World}(h:HR P base D θ H w){tm:T AV}{a:Array Value}(i:pz D θ tm a):∀{rs:List ResultVar}{d:List dX},qB P rs=some d -> ∀{vs:List AV},dQ H tm d=some vs ->
 ∃cs:List Value,(rs.mapM (xW a)).run P w=.ok cs w/\bL D θ vs cs
 |[],d,e,vs,f=>by
  injection e with e;subst e
  injection f with f;subst f
  exact⟨[],by simp,.nil⟩
 |r::rs,d,e,vs,f=>by
  obtain⟨s,g,rfl⟩:∃x l,d=x::l:=by
   cases r<;>(simp only[qB,qd,qe]at e)<;>grind
  simp only[dQ,qd,qe]at f;obtain⟨v,j,q,k,rfl⟩:=f;obtain⟨hl,c,m,n⟩:=xa2 h i e j;obtain⟨cs,o,p⟩:=q34 h i hl k;refine⟨c::cs,?_,.cons n p⟩;rw[List.mapM_cons];simp only[Sem.run_bind,m,Result.andThen_ok,o,Sem.run_pure]
def xde{D:Nat->Prop}{θ:Th}{H:ar}{w:World}(i:HR P base D θ H w){tm:T AV}{a:Array Value}(j:pz D θ tm a){fn:Func}{d:List dX}(g:qB P fn.results.toList=some d){vs:List AV}(k:dQ H tm d=some vs) :
 ∃c,(results fn a).run P w=.ok c w/\VR D θ (iR vs) c:=by
 obtain⟨cs,f,e⟩:=q34 i j g k;have hl:=e.length;rw[xgz,Array.mapM_eq_mapM_toList];simp only[map_eq_pure_bind,bind_assoc,Sem.run_bind];refine⟨if h:cs.toArray.size=1 then cs.toArray[0]else .tuple cs.toArray,?_,?_⟩
 .rw [f];simp
 .cases vs with
  |nil=>rw[e.mT];exact .tuple .nil
  |cons v vs =>
   cases vs with
   |nil =>
    obtain⟨c,cs',rfl,m,n⟩:=e.eJ;rw[n.mT];exact m
   |cons v' vs =>
    have:¬cs.toArray.size=1:=by simp at hl⊢;omega
    rw[dif_neg this];exact .tuple e
def mR(D:Nat->Prop)(θ:Th):Option aE->FrameMode->Prop
 |none,.returning=>True
 |some c,.panicking ps=>c≠[]/\fF D θ c ps
 |_,_=>False
def q5o{fr:Frame}{cs:List Frame}{w:World}{r:Nat}{ds:List Deferred}(hm:fr.mode≠ .run)(d:fr.defers = {target:=.collected r,args:=#[]}::ds)(h:w.heap[r]? = some (.deferred (some []))) :
 step P (lone fr cs w)=.next (lone {fr with defers:=ds} cs (eX w r (.deferred none))):=by
 refine step_lone_go ?_;have e:=run_takeDeferred (P:=P) h;cases c:fr.mode with
 |run=>exact absurd c hm
 |returning=>simp[stepG,unwind,c,d,Sem.runT_eq,e];rfl
 |panicking ch=>simp[stepG,unwind,c,d,Sem.runT_eq,e];rfl
def DV{D:Nat->Prop}{θ:Th}{m:Option aE}{up:aE}{o:Option aE}(h:nD m up=some o){u:FrameMode}(hu:qF D θ up u):mR D θ o (settle u):=by
 have g:∀{c:aE}{d:List PanicEntry},fF D θ c d->d.dropWhile (!·.goexit)=[]:=by
  intro c
  induction c with
  |nil=>intro d h;cases d with
   |nil=>rfl
   |cons _ _=>exact h.elim
  |cons e es ih =>
   intro d h;cases d with
   |nil=>rfl
   |cons p d =>
    obtain⟨⟨_,_,f⟩,j⟩:=h;simp[List.dropWhile_cons,f,ih j]
 unfold nD at h;split at h
 .injection h with h;subst h
  cases u with
  |run=>exact hu.elim
  |returning=>trivial
  |panicking d=>exact absurd rfl hu.1
 .injection h with h;subst h
  cases u with
  |run=>exact hu.elim
  |returning=>cases hu
  |panicking d =>
   obtain⟨_,hu⟩:=hu;cases d with
   |nil=>exact hu.elim
   |cons p d =>
    obtain⟨⟨q,i,f⟩,j⟩:=hu;obtain⟨pv,s,r⟩:=p;simp only at i f;subst i;subst f;simp only[settle,g j,mR]
 .injection h with h;subst h
  cases u with
  |run=>exact hu.elim
  |returning=>cases hu
  |panicking d =>
   obtain⟨k,hu⟩:=hu;cases d with
   |nil=>exact hu.elim
   |cons p d =>
    have n:=hu;obtain⟨⟨q,i,f⟩,j⟩:=hu;obtain⟨pv,s,r⟩:=p;simp only at i f;subst i;subst f;simp only[settle,mR];exact⟨k,n⟩
 .cases h
def VI(J:dL P){call:bU}(j:wx P base call)(t:pE call){fn:Func}{rs:List dX}(A:qB P fn.results.toList=some rs){tm:T AV} :
 ∀(ds:List aM){m:Option aE}{D:Nat->Prop}{θ:Th}{H:ar}{w:World}{r:bE×ar}{fr:Frame}{cs:List Frame},bW call rs tm ds m H=some r->HR P base D θ H w->gR D θ ds fr.defers->mR D θ m fr.mode->pz D θ tm fr.tmps ->
  P.funcs[fr.fn]? = some fn->dV D H.au r.2.au ->
  ∃θ' w' Ef e',Steps P (lone fr cs w) (lone Ef cs w')/\Ef.fn=fr.fn/\Ef.kind=fr.kind/\Ef.going P w' e'/\Nd (Up D H.au r.2.au) θ' r.1 e'/\HR P base (Up D H.au r.2.au) θ' r.2 w'/\bB D H θ w r.2 θ' w'
 |[],m,D,θ,H,w,r,fr,cs,h,hh,g,hm,ht,hf,hfr=>by
  have E:fr.defers=[]:=by
   cases i:fr.defers with
   |nil=>rfl
   |cons _ _=>rw[i]at g;exact g.elim
  cases m with
  |none =>
   simp only[bW,qd,qe]at h;obtain⟨l,hl,rfl⟩:=h;obtain⟨c,h1,h2⟩:=xde hh ht A hl;have k:fr.mode=.returning:=by
    cases i:fr.mode<;>rw[i]at hm<;>first|rfl|exact hm.elim
   exact⟨θ,w,fr,.returned c,.refl _ _,rfl,rfl,⟨k,E,fn,hf,h1⟩,by rw[Up.none];exact h2,by rw[Up.none];exact hh,.refl _ _ _ _⟩
  |some c =>
   injection h with h;subst h
   cases i:fr.mode with
   |run=>rw[i]at hm;exact hm.elim
   |returning=>rw[i]at hm;exact hm.elim
   |panicking ps =>
    rw[i]at hm;exact⟨θ,w,fr,.panicked ps,.refl _ _,rfl,rfl,⟨i,E,fn,hf⟩,by rw[Up.none];exact hm,by rw[Up.none];exact hh,.refl _ _ _ _⟩
 | .iU b::ds,m,D,θ,H,w,r,fr,cs,h,hh,g,hm,ht,hf,hfr=>by
  simp only[bW]at h;split at h
  .rename_i n;obtain⟨hDb,co,K,G,rfl,x⟩:=hh.obj _ _ n;cases G with
   |none=>exact x.elim
   |some l' =>
    obtain⟨_,z⟩:=x;have z:l'=[]:=z;subst z;cases i:fr.defers with
    |nil=>rw[i]at g;exact g.elim
    |cons e es =>
     rw[i]at g;obtain⟨⟨_,he⟩,g⟩:=g;subst he;have d:fr.mode≠ .run:=by intro q;rw[q]at hm;cases m<;>exact hm.elim
     have B:=q5o (P:=P) (cs:=cs) d i K;have F:=hh.set (o':=.deferred none) (co':=.deferred none) n rfl rfl ⟨none,rfl,trivial⟩;have C:bB D H θ w (H.set b (.deferred none)) θ (eX w (θ.bV b) (.deferred none)):=bB.set n rfl (hh.lt n);obtain⟨θ',w',Ef,e',O,Q,k3,k4,k5,k6,k7⟩:=VI J j t A ds (fr:={fr with defers:=es}) (cs:=cs) h F g hm ht hf hfr;exact⟨θ',w',Ef,e',.head B O,Q,k3,k4,k5,k6,C.trans k7 (λ _ h=>h)⟩
  .cases h
 | .fn (.func f) args::ds,m,D,θ,H,w,r,fr,cs,h,hh,g,hm,ht,hf,hfr=>by
  simp only[bW,qd]at h;obtain⟨⟨e,u,H1⟩,V,h⟩:=h;simp only at h;cases e with
  |panic _=>cases h
  |ret v =>
   cases u with
   |none=>cases h
   |some up' =>
    simp only[qd]at h;obtain⟨m',L,h⟩:=h;have s:=qxo t h;have o:=(t _ _ _ _ _ _ _ V).1;cases i:fr.defers with
    |nil=>rw[i]at g;exact g.elim
    |cons dd es =>
     rw[i]at g;obtain⟨⟨c,cap,he,h4,h5⟩,g⟩:=g;subst he;have d:fr.mode≠ .run:=by intro q;rw[q]at hm;cases m<;>exact hm.elim
     have k:qF D θ (m.getD []) fr.mode:=by
      cases m with
      |none =>
       cases p:fr.mode with
       |run=>exact absurd p d
       |returning=>rfl
       |panicking ps=>rw[p]at hm;exact hm.elim
      |some ch =>
       cases p:fr.mode with
       |run=>exact absurd p d
       |returning=>rw[p]at hm;exact hm.elim
       |panicking ps=>rw[p]at hm;exact hm
     obtain⟨⟨fn2,c2,O,Q⟩,θ',w',cs',fr2,e',s1,s2,s3,s4,Y,s6,S,s8,s9,R⟩:=j D θ H w f args (c++cap) (some (m.getD [])) H1 (.ret v) (some up') .deferred ({fr with defers:=es}::cs) hh h5 ⟨rfl,k⟩ V (hfr.left s);obtain⟨U,rfl⟩:=s9;have B:=step_defer (P:=P) (cs:=cs) d i (f:=f) (args:=c++cap) rfl (by
      show(callFunc f (c++cap)).run P w=_;exact Oe J O Q)
     cases e' with
     |panicked _=>exact Y.elim
     |outgrown=>exact Y.elim
     |returned cv =>
      have y:=step_going_returned (P:=P) (c:={{fr with defers:=es}with mode:=U}) (cs:=cs) s2 s4;have N:=DV L R.2;obtain⟨θ2,w2,I,Z,r1,r2,r3,r4,W,X,r7⟩:=VI J j t A ds (fr:={{{fr with defers:=es}with mode:=U}with mode:=settle U}) (cs:=cs) h s6 (gR.up S.ag Up.of g) N (ht.up S.ag Up.of) hf (hfr.right o);rw[Up.up o s]at W X;exact⟨θ2,w2,I,Z,.head B (s1.trans (.head y r1)),r2,r3,r4,W,X,S.trans r7 Up.of⟩
 | .fn (.yield _) _::_,m,D,θ,H,w,r,fr,cs,h,_,_,_,_,_,_=>by simp[bW]at h
def xfq(R:dL P){call:bU}{n:Nat}(j:wx P base call)(s:pE call)(o:uz P base (rounds (aV P) call n n))(I:xR (rounds (aV P) call n n))
 (G:∀rt:RT,rt.AP=aV P->wx P base rt.call->uz P base rt.round->pE rt.call->xR rt.round->Mc P base rt):wx P base (EJ (aV P) call n):=by
 intro D θ H w f vs args up H' e U kind cs hh hv hu h V;simp only[EJ,qd]at h;obtain⟨af,p,⟨x,cS⟩,W,h⟩:=h;simp only[aV,qd]at p;obtain⟨fn,z,p⟩:=p;have A:=p;simp only[th,qd,qe]at A;obtain⟨body,r,⟨ac,L⟩,K,rs,S,rfl⟩:=A;refine⟨⟨fn,body,z,r⟩,?_⟩;have O:∃m,(match x with| .normal=>m=none| .ret=>m=none| .panic c=>m=some c|_=>False) /\ ∃q,bW call rs cS.tm cS.aX m cS.H=some q/\e=q.1/\U=cS.up/\H'=q.2:=by
  unfold pJ at h;cases x with
  |normal =>
   simp only[qd,qe,xv]at h;obtain⟨q,v,t,F,u⟩:=h;exact⟨none,rfl,q,v,t.symm,F.symm,u.symm⟩
  |ret =>
   simp only[qd,qe,xv]at h;obtain⟨q,v,t,F,u⟩:=h;exact⟨none,rfl,q,v,t.symm,F.symm,u.symm⟩
  |panic c =>
   simp only[qd,qe,xv]at h;obtain⟨q,v,t,F,u⟩:=h;exact⟨some c,rfl,q,v,t.symm,F.symm,u.symm⟩
  |exit _=>cases h
  |goto _=>cases h
 obtain⟨m,hm,⟨e1,H1⟩,Q,rfl,rfl,rfl⟩:=O;have g:=qxo s Q;have N:=(tT R body K).1;have d:H.au<=cS.H.au:=Mw (rt:=⟨aV P,call,rounds (aV P) call n n,n,⟨none,f⟩⟩) s I N W
 let b:Frame:={(default:Frame)with fn:=f,kind:=kind}
 have y:Frame.enter P f args kind=b.atR {tmps:=args++Array.replicate (fn.ntmps-args.size) undef,defers:=[]} [.code body]:=by
  simp[Frame.enter,Frame.atR,z,r,b];rfl
 have hS:SR P base D θ b fn.ntmps none {tm:=jK 0 vs .nil,aX:=[],up:=up,H:=H} {tmps:=args++Array.replicate (fn.ntmps-args.size) undef,defers:=[]} cs w :=
  ⟨hh,KC hv _,by simp;omega,trivial,hu,rfl⟩
 have B:=zB (rt:=⟨aV P,call,rounds (aV P) call n n,n,⟨none,f⟩⟩) R j o rfl s I (G _ rfl j o s I) z p body K (λ i l hl=>by rw[jy];exact hl) (b:=b) (k:=[]) hS rfl W (V.left g);rw[<-y]at B;obtain⟨θ1,J,w1,C,E,v,t,F,u,h5,h6⟩:=B
 -- the frame that unwinds
 obtain⟨fr,k1,X,k3,k4,k5,k6⟩:∃fr:Frame,Steps P (lone (Frame.enter P f args kind) cs w) (lone fr C w1)/\fr.fn=f/\fr.kind=kind/\fr.defers=J.defers/\fr.tmps=J.tmps/\mR (Up D H.au cS.H.au) θ1 m fr.mode:=by
  cases x with
  |normal =>
   have hm:m=none:=hm;subst hm;cases E<;>try exact u.elim
   exact⟨{b.atR J []with mode:=.returning},(StepsIn.steps v).trans (.one (stepR_end rfl)),rfl,rfl,rfl,rfl,trivial⟩
  |ret =>
   have hm:m=none:=hm;subst hm;cases E<;>try exact u.elim
   obtain⟨todo,hs⟩:=v.1 rfl;exact⟨{b.atR J todo with mode:=.returning},StepsIn.steps hs,rfl,rfl,rfl,rfl,trivial⟩
  |panic c =>
   have hm:m=some c:=hm;subst hm;cases E<;>try exact u.elim
   rename_i ps;obtain⟨todo,hs⟩:=v;exact⟨{b.atR J todo with mode:=.panicking ps},StepsIn.steps hs,rfl,rfl,rfl,rfl,u⟩
  |exit _=>exact hm.elim
  |goto _=>exact hm.elim
 obtain⟨θ',w',Ef,e',r1,r2,r3,r4,Y,Z,r7⟩:=VI R j s S cS.aX (fr:=fr) (cs:=C) Q t.heap (by rw[k4];exact t.aX) k6 (by rw[k5];exact t.tl) (by rw[X];exact z) (V.right d);rw[Up.up d g]at Y Z;refine⟨θ',w',C,Ef,e',k1.trans r1,r3.trans k3,r2.trans X,r4,Y,Z,F.trans r7 Up.of,h5,h6,?_⟩;have:=qT.up (D':=Up (Up D H.au cS.H.au) cS.H.au H'.au) r7.ag Up.of t.up;rw[Up.up d g]at this;exact this
def xg0(hP:dL P){call:bU}{m n:Nat}(y:wx P base call)(E:pE call)(s:uz P base (rounds (aV P) call m n))(F:xR (rounds (aV P) call m n))
 (W:∀rt:RT,rt.AP=aV P->wx P base rt.call->uz P base rt.round->pE rt.call->xR rt.round->Mc P base rt):uz P base (rounds (aV P) call m (n+1)):=by
 intro D θ H w l vs args H' e c cs hh hv h hf;simp only[rounds,roundOf]at h;split at h
 .rename_i ls pd f k tm d hget;simp only[qd]at h;obtain⟨af,A,lp,hlp,tm1,Q,⟨x,cS⟩,hq,h⟩:=h;simp only[aV,qd]at A;obtain⟨fn,J,A⟩:=A;obtain⟨V,co,hco,r,rfl,r1,r2,r3,r4,⟨z,af',lp',ka,kb,L1,L2,q1,q2,q3,q4,q5,q6,q7,q8,q9,q10⟩,r6,r7⟩:=hh.obj _ _ hget;have:z=fn:=by rw[J]at q1;injection q1 with q1;exact q1.symm
  subst this;have:af'=af:=by rw[A]at q2;injection q2 with q2;exact q2.symm
  subst this;have:lp'=lp:=by rw[hlp]at q3;injection q3 with q3;exact q3.symm
  subst this;rw[q4]at Q;obtain⟨z1,z2,z3⟩:=zH Q hv (λ p hp=>qj (q5 p hp) q6) r4;have hsz:args.size=r.params.size:=by simpa using z1
  have hzip:(r.params.zip args).foldl (λ tmps(t,x)=>tmps.setIfInBounds t x) r.tmps=(r.params.toList.zip args.toList).foldl (λ tmps(t,x)=>tmps.setIfInBounds t x) r.tmps:=by
   rw[<-Array.foldl_toList,Array.toList_zip]
  have hy:=run_yield (P:=P) (args:=args) hco hsz;refine⟨r.fn,_,r.assign,r.body,hy,?_⟩;rw[hzip];generalize(r.params.toList.zip args.toList).foldl (λ tmps(t,x)=>tmps.setIfInBounds t x) r.tmps=tmps at z2 z3;cases x with
  |exit _=>cases h
  |goto _=>cases h
  |ret=>cases h
  |panic _=>cases h
  |normal =>
  simp only[qd]at h;obtain⟨H2,hb,⟨x2,i⟩,hq2,h⟩:=h;rcases ki h with⟨hnd,h⟩|⟨_,h⟩
  .have hma:=(tT hP r.assign q7).1;have hmb:=(tT hP r.body q9).1;have hm1:H.au<=cS.H.au:=Mw (rt:=⟨aV P,call,rounds (aV P) call m n,m,⟨some l,f⟩⟩) E F hma hq
   have hm2:H2.au<=i.H.au:=Mw (rt:=⟨aV P,call,rounds (aV P) call m n,m,⟨some l,f⟩⟩) E F hmb hq2
   have hbn:H2.au=cS.H.au:=q1u hb
   have O:H'.au=i.H.au:=by
    unfold Gw at h;split at h
    .injection h with h;injection h with _ h;subst h;rfl
    .simp only[qd,qe,xv]at h;obtain⟨H3,I,_,rfl⟩:=h;exact xa9 I
   let b:Frame:={(default:Frame)with fn:=r.fn,kind:=.normal,roundOf:=some (θ.bV l)}
   have hb0:Frame.round (θ.bV l) r.fn tmps r.assign r.body .normal=b.atR {tmps:=tmps,defers:=[]} [.code r.assign,.beginRound,.code r.body]:=by
    simp[Frame.round,Frame.atR,b]
   have hS:SR P base D θ b z.ntmps (some l) {tm:=tm1,aX:=[],up:=none,H:=H} {tmps:=tmps,defers:=[]} (c::cs) w :=
    ⟨hh,z2,by show z.ntmps<=tmps.size;omega,trivial,rfl,V,rfl⟩
   have hdr:=W ⟨aV P,call,rounds (aV P) call m n,m,⟨some l,f⟩⟩ rfl y s E F;obtain⟨θ1,a1,w1,cs1,s1,s2,s3,s4,s5⟩:=(zB (rt:=⟨aV P,call,rounds (aV P) call m n,m,⟨some l,f⟩⟩) hP y s rfl E F hdr J A r.assign q7 q8 (b:=b) (k:=[.beginRound,.code r.body]) hS r3 hq (hf.left (by show cS.H.au<=H'.au;omega))).normal;rw[<-hb0]at s1;have hcs1:cs1=c::cs:=s5;subst hcs1
   -- the round iZ
   have C:θ1.bV l = θ.bV l:=(s3.ag l V).1;unfold beginRound at hb;split at hb
   .rename_i L f1 X N d1 o;injection hb with hb;subst hb
    obtain⟨hDl1,co1,hco1,rl,rfl,y1,y2,y3,y4,y5,y6,y7⟩:=s2.heap.obj _ _ o;have hset:=s2.heap.set (o':=.loop .busy L f1 X N d1) (co':=.loop {rl with state:=.busy}) o rfl rfl ⟨_,rfl,rfl,y2,y3,y4,y5,y6,y7⟩;have gset:bB (Up D H.au cS.H.au) cS.H θ1 w1 (cS.H.set l (.loop .busy L f1 X N d1)) θ1 (eX w1 (θ1.bV l) (.loop {rl with state:=.busy})):=bB.set o rfl (s2.heap.lt o);have hbr:=run_beginRound (P:=P) hco1 y1;rw[C]at hbr;have hst2:=stepR_beginRound (P:=P) (b:=b) (a:=a1) (k:=[.code r.body]) (cs:=c::cs) (w:=w1) rfl hbr;have hS2:SR P base (Up D H.au cS.H.au) θ1 b z.ntmps (some l) {cS with H:=cS.H.set l (.loop .busy L f1 X N d1)} a1 (c::cs) (eX w1 (θ1.bV l) (.loop {rl with state:=.busy})) :=
     ⟨hset,s2.tl,s2.size,s2.aX,s2.up,s2.round⟩
    have hf2:dV (Up D H.au cS.H.au) cS.H.au i.H.au:=(O▸hf).right hm1
    obtain⟨θ2,a2,w2,Z,e2,v1,v2,v3,v4,v5,v6⟩:=zB (rt:=⟨aV P,call,rounds (aV P) call m n,m,⟨some l,f⟩⟩) hP y s rfl E F hdr J A r.body q9 q10 (b:=b) (k:=[]) hS2 r3 hq2 hf2;have hcs2:Z=c::cs:=by
     have hu1:cS.up=none:=by
      cases K:cS.up with
      |none=>rfl
      |some _=>rw[K]at s4;cases s4
     have v6':eW cS.up (c::cs) Z:=v6;rw[hu1]at v6';exact v6'
    subst hcs2;have hnx:({cS with H:=cS.H.set l (.loop .busy L f1 X N d1)}:St).H.au=cS.H.au:=rfl
    rw[hnx]at v2 v4;have hupp:Up (Up D H.au cS.H.au) cS.H.au i.H.au=Up D H.au H'.au:=by rw[Up.up hm1 hm2,O]
    rw[hupp]at v2 v4;have B:bB D H θ w i.H θ2 w2:=(s3.trans gset Up.of).trans v3 Up.of;have u:Steps P (lone (Frame.round (θ.bV l) r.fn tmps r.assign r.body .normal) (c::cs) w) (lone (b.atR a1 [.code r.body]) (c::cs) (eX w1 (θ1.bV l) (.loop {rl with state:=.busy}))):=by
     refine s1.trans (.one ?_);rw[hst2,C];rfl
    have hdfs:a2.defers=[]:=by
     have:=v2.aX;cases K:i.aX with
     |nil =>
      rw[K]at this;cases hq4:a2.defers with
      |nil=>rfl
      |cons _ _=>rw[hq4]at this;exact this.elim
     |cons _ _=>simp only[K]at hnd;cases hnd
    have g:∀(ls:mC)(p:Option gU),cM i.H l ls p=some H'->(E1 ls=if(p.map lY).isNone then LoopState.ready else LoopState.done) ->
     ∃G,(Instr.endRound (θ.bV l) (p.map lY)).run P w2=.ok (.bool (p.map lY).isNone) G/\HR P base (Up D H.au H'.au) θ2 H' G/\bB D H θ w H' θ2 G:=by
     intro ls p hs hls;unfold cM at hs;split at hs
     .rename_i ls2 pd2 f2 k2 Y d2 q;injection hs with hs;subst hs
      obtain⟨hDl2,co2,hco2,rl2,rfl,y1',y2',y3',y4',y5',y6',y7'⟩:=v2.heap.obj _ _ q;have v:θ2.bV l = θ.bV l:=(B.ag l V).1;have her:=run_endRound (P:=P) (p.map lY) hco2;rw[v]at her;refine⟨_,her,?_,?_⟩
      .have:=v2.heap.set (o':=.loop ls p f2 k2 Y d2) (co':=.loop {rl2 with state:=if(p.map lY).isNone then .ready else .done,pending:=p.map lY}) q rfl rfl ⟨_,rfl,hls.symm,rfl,y3',y4',y5',y6',y7'⟩;rw[v]at this;exact this
      .have:bB (Up D H.au (i.H.set l (.loop ls p f2 k2 Y d2)).au) i.H θ2 w2 (i.H.set l (.loop ls p f2 k2 Y d2)) θ2 (eX w2 (θ2.bV l) (.loop {rl2 with state:=if(p.map lY).isNone then .ready else .done,pending:=p.map lY})):=bB.set q rfl (v2.heap.lt q);rw[v]at this;exact B.trans this Up.of
     .cases hs
    unfold Gw at h;cases x2 with
    |panic ch =>
     injection h with h;injection h with h1 h2;subst h1;subst h2
     cases e2<;>try exact v4.elim
     rename_i ps;obtain⟨todo,hs⟩:=v1;refine⟨θ2,w2,c.raise ps,u.trans ((StepsIn.steps hs).trans (.one ?_)),⟨ps,v4.1,v4.2,rfl⟩,v2.heap,B⟩;exact step_leave_panicked (fr:={b.atR a2 todo with mode:=.panicking ps}) ⟨rfl,hdfs,z,by show P.funcs[r.fn]? = some z;rw[r3];exact J⟩
    |normal =>
     simp only[qd,qe,xv]at h;obtain⟨H3,I,rfl,rfl⟩:=h;obtain⟨G,R,S,U⟩:=g _ _ I rfl;cases e2<;>try exact v4.elim
     exact⟨θ2,G,_,u.trans ((StepsIn.steps v1).trans (.one (stepR_round_end rfl rfl R))),⟨_,.bool _,rfl⟩,S,U⟩
    |ret =>
     simp only[qd,qe,xv]at h;obtain⟨H3,I,rfl,rfl⟩:=h;obtain⟨G,R,S,U⟩:=g _ _ I rfl;cases e2<;>try exact v4.elim
     obtain⟨X,hs⟩:=v1.2 rfl;exact⟨θ2,G,_,u.trans ((StepsIn.steps hs).trans (.one (stepR_round_ret rfl rfl R))),⟨_,.bool _,rfl⟩,S,U⟩
    |exit id =>
     simp only[qd,qe,xv]at h;obtain⟨H3,I,rfl,rfl⟩:=h;obtain⟨G,R,S,U⟩:=g _ _ I rfl;cases e2<;>try exact v4.elim
     rename_i j;have v4:j=id:=v4;subst v4;obtain⟨X,hx,hs⟩:=v1.2 rfl rfl;exact⟨θ2,G,_,u.trans ((StepsIn.steps hs).trans (.one (stepR_round_exit rfl rfl hx R))),⟨_,.bool _,rfl⟩,S,U⟩
    |goto t =>
     simp only[qd,qe,xv]at h;obtain⟨H3,I,rfl,rfl⟩:=h;obtain⟨G,R,S,U⟩:=g _ _ I rfl;cases e2<;>try exact v4.elim
     rename_i j;have v4:j=t:=v4;subst v4;obtain⟨X,hx,hs⟩:=v1.2 rfl rfl;exact⟨θ2,G,_,u.trans ((StepsIn.steps hs).trans (.one (stepR_round_goto rfl rfl hx R))),⟨_,.bool _,rfl⟩,S,U⟩
   .cases hb
  .cases h
 .cases h
def qxl(i:dL P){call:bU}{m:Nat}(d:wx P base call)(g:pE call)
 (f:∀rt:RT,rt.AP=aV P->wx P base rt.call->uz P base rt.round->pE rt.call->xR rt.round->Mc P base rt):∀n,uz P base (rounds (aV P) call m n)
 |0=>by intro D θ H w l vs args H' e c cs _ _ h;cases h
 |n+1=>xg0 i d g (qxl i d g f n) (RZ (Wh i) g m n) f
def XT(d:dL P)(c:∀rt:RT,rt.AP=aV P->wx P base rt.call->uz P base rt.round->pE rt.call->xR rt.round->Mc P base rt){told:bU}(i:wx P base told)(g:pE told):∀n,wx P base (jS (aV P) told n)
 |0=>i
 |n+1=>by
  have o:=XT d c i g n;have hm:=q1n (Wh d) g n;have hs:=xfq d o hm (qxl d o hm c n) (RZ (Wh d) hm n n) c;intro D θ H w f vs args up H' e p kind cs k m hu h j;simp only[jS]at h;split at h
  .rename_i r hr;injection h with h;subst h
   exact i D θ H w f vs args up _ _ _ kind cs k m hu hr j
  .exact hs D θ H w f vs args up _ _ _ kind cs k m hu h j
end
end Go.Am
namespace Go.Am
open Go.RowKit
def Ia(H:ar):Prop:=∀b o,H.get b=some o->own o=false
def bB.below{D:Nat->Prop}{H H':ar}{θ θ':Th}{w w':World}(g:bB D H θ w H' θ' w')(hg:Ia H):Below w.heap.size w w' :=
 ⟨g.os,g.tape,g.output,g.size,λ k hk=>g.ah k hk λ b o hb ho=>by rw[hg b o hb]at ho;cases ho⟩
variable{P:Program}
end Go.Am
namespace Go.Am
section
variable{H:Type}
def IJ(P:Program)(rec:TypeId->DataW H->Option (List AV)):Nat->List (TypeId×Nat)->List (DataW H)->Option (List AV)
 |_,[],[]=>some []
 |k,(t,off)::ts,d::ds=>if off=k then(rec t d).bind λ l=>if l.length=P.cellsOf t then(IJ P rec (k+P.cellsOf t) ts ds).bind λ r=>some (l++r)else none else none
 |_,_,_=>none
def oE(P:Program):Nat->TypeId->DataW H->Option (List AV)
 |0,_,_=>none
 |n+1,t,d=>match P.underlying t,d with
  |some .bool,.lit (.bool b)=>some [.bool b]
  |some (.int _),.lit (.int k i)=>some [.int k i]
  |some .string,.lit (.string s)=>some [.str s]
  |some (.pointer _),.nil=>some [.nilp]
  |some (.slice _),.nil=>some [.nils]
  |some (.map _ _),.nil=>some [.lI]
  |some (.struct fs),.agg ds=>(IJ P (oE P n) 0 (fs.toList.map λ f=>(f.type,f.offset)) ds).bind λ l=>if l.length=P.cellsOf t then some l else none
  |some (.array m e),.agg ds=>(IJ P (oE P n) 0 ((List.range m).map λ i=>(e,i*P.cellsOf e)) ds).bind λ l=>if l.length=P.cellsOf t then some l else none
  |_,_=>none
variable{P:Program}{enc:TypeId×Value->H}{w:World}{base:Nat}{sp:Nat->Bool}{held:Bool}
def Xw(θ:Th){rec:TypeId->DataW H->Option (List AV)}{g:TypeId->List Value->Option (DataW H×List MemPlace)}(c:∀t d l cs p,rec t d=some l->g t cs=some (d,p)->bR θ l=cs){cs:List Value} :
 ∀{k:Nat}{ts:List (TypeId×Nat)}{ds:List (DataW H)}{l:List AV}{xs:List (DataW H×List MemPlace)},IJ P rec k ts ds=some l->ts.mapM (λ x=>g x.1 ((cs.drop x.2).take (P.cellsOf x.1)))=some xs->xs.map (·.1)=ds ->
  bR θ l=(cs.drop k).take l.length
 |k,[],ds,l,xs,h,hm,e=>by
  cases ds with
  |nil=>simp only[IJ,qe]at h;subst h;simp[bR]
  |cons d ds=>simp[IJ]at h
 |k,(t,off)::ts,ds,l,xs,h,hm,e=>by
  cases ds with
  |nil=>simp[IJ]at h
  |cons d ds =>
   simp only[IJ]at h;split at h
   .rename_i ho;subst ho;simp only[qd]at h;obtain⟨l0,m,h⟩:=h;split at h
    .rename_i hlen;simp only[qd,qe]at h;obtain⟨l1,n,rfl⟩:=h;simp only[List.mapM_cons,Option.bind_eq_bind,qd,Option.pure_def,qe]at hm;obtain⟨y,o,ys,f,rfl⟩:=hm;simp only[ji,zk]at e;obtain⟨rfl,e⟩:=e;have i:=c t y.1 l0 _ y.2 m o;have j:=Xw θ c n f e;rw[u7,HJ,<-u7,<-u7,i,j,qv,hlen,List.take_add,Ib]
    .cases h
   .cases h
def q6r{α:Type}{f:α->TypeId×Nat}{fuel:Nat}{l:List α}{cs:List Value}{xs:List (DataW H×List MemPlace)}
 (h:l.mapM (λ a=>DataW.trod enc P w base sp held fuel (f a).1 ((cs.drop (f a).2).take (P.cellsOf (f a).1)))=some xs) :
 (l.map f).mapM (λ x=>DataW.trod enc P w base sp held fuel x.1 ((cs.drop x.2).take (P.cellsOf x.1)))=some xs:=by
 rw[List.mapM_map];exact h
def mu(θ:Th):∀(n:Nat){t:TypeId}{d:DataW H}{l:List AV},oE P n t d=some l -> ∀{fuel:Nat}{cs:List Value}{p:List MemPlace},DataW.trod enc P w base sp held fuel t cs=some (d,p)->bR θ l=cs
 |0,_,_,_,h,_,_,_,_=>by cases h
 |n+1,t,d,l,h,0,cs,p,ht=>by cases ht
 |n+1,t,d,l,h,fuel+1,cs,p,ht=>by
  have o:∀t d l cs p,oE P n t d=some l->DataW.trod enc P w base sp held fuel t cs=some (d,p)->bR θ l=cs:=λ t d l cs p g q=>mu θ n g q;simp only[oE]at h;split at h
  .rename_i b hu;injection h with h;subst h
   simp only[DataW.trod,hu]at ht;split at ht<;>first|(cases ht;done)|skip
   all_goals first|(simp_all[bR,az];done)|skip
   all_goals (repeat' (split at ht))
   all_goals first|(cases ht;done)|skip
   all_goals simp[qd,xl]at ht
  .rename_i k' k i hu;injection h with h;subst h
   simp only[DataW.trod,hu]at ht;split at ht<;>first|(cases ht;done)|skip
   all_goals first|(simp_all[bR,az];done)|skip
   all_goals (repeat' (split at ht))
   all_goals first|(cases ht;done)|skip
   all_goals simp[qd,xl]at ht
  .rename_i s hu;injection h with h;subst h
   simp only[DataW.trod,hu]at ht;split at ht<;>first|(cases ht;done)|skip
   all_goals first|(simp_all[bR,az];done)|skip
   split at ht
   .simp only[qe,xv,DataW.lit.injEq,Lit.string.injEq]at ht;obtain⟨rfl,_⟩:=ht;rfl
   .cases ht
  .rename_i hu;injection h with h;subst h
   simp only[DataW.trod,hu]at ht;split at ht<;>first|(cases ht;done)|skip
   all_goals first|(simp_all[bR,az];done)|skip
   all_goals (repeat' (split at ht))
   all_goals first|(cases ht;done)|skip
   all_goals simp[qd,xl]at ht
  .rename_i hu;injection h with h;subst h
   simp only[DataW.trod,hu]at ht;split at ht<;>first|(cases ht;done)|skip
   all_goals first|(simp_all[bR,az];done)|skip
   all_goals (repeat' (split at ht))
   all_goals first|(cases ht;done)|skip
   all_goals simp[qd,xl]at ht
  .rename_i hu;injection h with h;subst h
   simp only[DataW.trod,hu]at ht;split at ht<;>first|(cases ht;done)|skip
   all_goals first|(simp_all[bR,az];done)|skip
   all_goals (repeat' (split at ht))
   all_goals first|(cases ht;done)|skip
   all_goals simp[qd]at ht
  .rename_i fs ds hu;simp only[qd]at h;obtain⟨r,g,h⟩:=h;split at h
   .rename_i hlen;injection h with h;subst h
    simp only[DataW.trod,hu]at ht;split at ht
    .rename_i c;obtain⟨xs,hm,j⟩:=xl.1 ht;have e:=Xw θ o g (q6r (f:=λ f:Field=>(f.type,f.offset)) hm) (by simpa using congrArg Prod.fst j);rw[e,hlen,<-c];simp
    .cases ht
   .cases h
  .rename_i m e ds hu;simp only[qd]at h;obtain⟨r,g,h⟩:=h;split at h
   .rename_i hlen;injection h with h;subst h
    simp only[DataW.trod,hu]at ht;split at ht
    .rename_i c;obtain⟨xs,hm,j⟩:=xl.1 ht;have e:=Xw θ o g (q6r (f:=λ i:Nat=>(e,i*P.cellsOf e)) hm) (by simpa using congrArg Prod.fst j);rw[e,hlen,<-c];simp
    .cases ht
   .cases h
  .cases h
end
def A0{P:Program}{w:World}:∀{laid:List (String×DataW Unit)}{c:List MemPlace},DataW.LaidVars P w laid c -> ∀{n:String}{d:DataW Unit},(n,d)∈laid ->
 ∃g t cs fuel p,P.globalNamed n=some g/\(P.globals[g]?).map (·.type)=some t/\w.var? P n=some cs/\DataW.trod (λ _=>()) P w 0 (λ _=>true) false fuel t cs.toList=some (d,p)
 |[],_,_,_,_,h=>by cases h
 |(n',d')::r,c,⟨g,t,cs,fuel,p,q,h1,h2,h3,h4,h5,h6⟩,n,d,h=>by
  rcases jf.1 h with e|h
  .injection e with f i;subst f;subst i
   exact⟨g,t,cs,fuel,p,h1,h2,h3,h4⟩
  .exact A0 h5 h
def Eb:List (Nat×List AV)->T bH->T bH
 |[],t=>t
 |(g,l)::r,t=>(Eb r t).set g (.row l 0 (0,0) false)
def yx(gl:List (Nat×List AV))(n:Nat):ar:=⟨Eb gl .nil,n⟩
def Rt:∀{c:List (Nat×List AV)}{b:Nat}{o:bH},(Eb c .nil).get b=some o -> ∃l,(b,l)∈c/\o=.row l 0 (0,0) false
 |[],b,o,h=>by rw[Eb,T.get_nil]at h;cases h
 |(g,l)::r,b,o,h=>by
  rw[Eb,T.aI]at h;split at h
  .rename_i he;subst he;injection h with h
   exact⟨l,by simp,h.symm⟩
  .obtain ⟨f,d,e⟩:=Rt h;exact⟨f,by simp[d],e⟩
def MY(c:List (Nat×List AV))(n:Nat):Ia (yx c n):=λ b o h=>by
 obtain⟨l,_,rfl⟩:=Rt h;rfl
def θ0:Th:=⟨id,λ _=>0,λ _=>0⟩
def HR.given{P:Program}{w:World}{d:List (Nat×List AV)}{base:Nat}(hb:base<=w.heap.size)(h:∀g l,(g,l)∈d->g<P.globals.size /\ ∃cs e fz,w.heap[g]? = some (.cells cs e fz) /\ ∀θ,bR θ l=cs.toList) :
 HR P base (Lt P.globals.size) θ0 (yx d P.globals.size) w:=by
 refine⟨λ b o hg=>?_,λ b k o o' c _ i _=>?_,λ b o c f=>?_,λ g hg=>⟨hg,rfl,rfl⟩,hb⟩
 .obtain ⟨l,c,rfl⟩:=Rt hg;obtain⟨j,cs,e,fz,f,i⟩:=h b l c;exact⟨j,_,f,[],cs.toList,[],fz,e,by simp,rfl,λ θ' _=>i θ',λ h=>by cases h⟩
 .rw [MY d _ b o c]at i;cases i
 .rw [MY d _ b o c]at f;cases f
def Cw{P:Program}{w:World}{laid:List (String×DataW Unit)}(h:laidMet P laid w){n:String}{d:DataW Unit}(hm:(n,d)∈laid){g:Nat}{t:TypeId}{j:Nat}{l:List AV}(hg:P.globalNamed n=some g)
 (i:(P.globals[g]?).map (·.type)=some t) (hl:oE P j t d=some l):g<P.globals.size /\ ∃cs e fz,w.heap[g]? = some (.cells cs e fz) /\ ∀θ,bR θ l=cs.toList:=by
 obtain⟨v,s,_⟩:=h;obtain⟨u,x,cs,fuel,p,k,m,f,o⟩:=A0 s hm;obtain rfl:=KL (hg.symm.trans k);obtain rfl:=KL (i.symm.trans m);refine⟨?_,cs,?_⟩
 .rcases xq g P.globals.size with q|q
  .exact q
  .rw [Array.getElem?_eq_none q]at i;cases i
 .unfold World.var? at f;rw[k]at f;simp only[qm]at f;split at f
  .rename_i c e fz r;injection f with f;subst f
   exact⟨e,fz,r,λ θ=>mu θ j hl o⟩
  .cases f
end Go.Am
namespace Go.Am
open Go.RowKit Go.ChangeShapes
def HR.ux{P:Program}{w:World}{d:List (Nat×List AV)}{base n:Nat}{θ:Th}(hb:base<=w.heap.size)(hn:P.globals.size<=n)(m:∀g,g<P.globals.size -> θ.bV g=g /\ θ.off g=0)
 (h:∀b l,(b,l)∈d->b<n /\ ∃pre cs post e fz,w.heap[θ.bV b]? = some (.cells (pre++cs++post).toArray e fz)/\pre.length = θ.off b/\bL (Lt n) θ l cs) :
 HR P base (Lt n) θ (yx d n) w:=by
 refine⟨λ b o hg=>?_,λ b p o o' c _ i _=>?_,λ b o c f=>?_,λ g hg=>⟨qj hg hn,m g hg⟩,hb⟩
 .obtain ⟨l,c,rfl⟩:=Rt hg;obtain⟨j,pre,cs,post,e,fz,f,i,k⟩:=h b l c;exact⟨j,_,f,pre,cs,post,fz,e,rfl,i,k,λ h=>by cases h⟩
 .rw [MY d _ b o c]at i;cases i
 .rw [MY d _ b o c]at f;cases f
def Bl(P:Program)(tp:TypeId):Bool :=
 match P.underlying tp with
 |some (.pointer te)=>match P.underlying te with
  |some (.struct ⟨[f]⟩)=>Nat.beq f.offset 0 && (match P.underlying f.type with|some .string=>true|_=>false) && Nat.beq (P.cellsOf te) 1 && Nat.beq (P.cellsOf f.type) 1
  |_=>false
 |_=>false
structure NG(P:Program)(tp:TypeId):Prop where
 row:∀u,P.typeName? 3 u=some "*errors.errorString" -> u=tp
 ok:Bl P tp=true
def MM:DataW Unit->Option (List UInt8)
 | .iface nm (.ptr (.agg [.lit (.string text)]))=>if nm = "*errors.errorString" then some text else none
 |_=>none
def xdh{d:DataW Unit}{s:List UInt8}(h:MM d=some s):d=.iface "*errors.errorString" (.ptr (.agg [.lit (.string s)])):=by
 unfold MM at h;split at h
 .split at h
  .rename_i e;subst e;injection h with h;subst h;rfl
  .cases h
 .cases h
def Sx:Option TypeDesc->Bool
 |some (.interface _)=>true
 |_=>false
def yJ(P:Program)(x:String×DataW Unit):Option (Nat×TypeId):=(P.globalNamed x.1).bind λ g=>((P.globals[g]?).map (·.type)).map λ t=>(g,t)
def rX(P:Program)(tp:TypeId)(i:Nat)(x:String×DataW Unit):List (Nat×List AV) :=
 match yJ P x with
 |none=>[]
 |some (g,t)=>match oE P 30 t x.2 with
  |some l=>[(g,l)]
  |none=>match Sx (P.underlying t),MM x.2 with
   |true,some s=>[(g,[.iface tp (.ptr i 0)]),(i,[.str s])]
   |_,_=>[]
def rowsOf(P:Program)(tp:TypeId):Nat->List (String×DataW Unit)->List (Nat×List AV)
 |_,[]=>[]
 |i,x::r=>rX P tp i x++rowsOf P tp (i+1) r
def WA(P:Program)(tp:TypeId)(laid:List (String×DataW Unit)):ar:=yx (rowsOf P tp P.globals.size laid) (P.globals.size+laid.length)
def q6k{P:Program}{tp:TypeId}:∀{laid:List (String×DataW Unit)}{i b:Nat}{l:List AV},(b,l)∈rowsOf P tp i laid -> ∃j x,laid[j]? = some x/\(b,l)∈rX P tp (i+j) x
 |[],i,b,l,h=>by cases h
 |x::r,i,b,l,h=>by
  rcases zt.1 h with h|h
  .exact ⟨0,x,rfl,h⟩
  .obtain ⟨j,y,c,d⟩:=q6k h;exact⟨j+1,y,by simpa using c,by rw[show i+(j+1)=i+1+j from by omega];exact d⟩
def xkr{P:Program}{x:String×DataW Unit}{g:Nat}{t:TypeId}(h:yJ P x=some (g,t)):P.globalNamed x.1=some g/\(P.globals[g]?).map (·.type)=some t:=by
 simp only[yJ,qd,xl,xv]at h;obtain⟨e,c,f,d,rfl,rfl⟩:=h;exact⟨c,by simpa[xl]using d⟩
def rZ(P:Program)(tp:TypeId)(w:World)(x:String×DataW Unit)(a:Addr):Prop :=
 ∀g t s,yJ P x=some (g,t)->Sx (P.underlying t)=true->MM x.2=some s ->
  a.spot=none/\(∃e fz,w.heap[g]? = some (.cells #[.iface tp (.pointer (some a))] e fz)) /\ ∃cs e fz,w.heap[a.block]? = some (.cells cs e fz)/\cs[a.off]? = some (.string ⟨s.toArray⟩)
def Ff{P:Program}{tp:TypeId}(X:NG P tp){w:World}{laid:List (String×DataW Unit)}(h:laidMet P laid w){x:String×DataW Unit}(hx:x∈laid):∃a,rZ P tp w x a:=by
 by_cases Z:∃g t s,yJ P x=some (g,t)/\Sx (P.underlying t)=true/\MM x.2=some s
 .obtain ⟨g,t,s,B,m,C⟩:=Z;obtain⟨k1,k2⟩:=xkr B;have hd:=xdh C;obtain⟨E,Q,hnd,j⟩:=h;have key:∀{laid:List (String×DataW Unit)}{E:List MemPlace},DataW.LaidVars P w laid E->x∈laid ->
   ∃g t cs fuel p,P.globalNamed x.1=some g/\(P.globals[g]?).map (·.type)=some t/\w.var? P x.1=some cs/\DataW.trod (λ _=>()) P w 0 (λ _=>true) false fuel t cs.toList=some (x.2,p) /\ ∀q∈MemPlace.row ⟨g,0,none⟩ cs.size,q∈E:=by
   intro laid
   induction laid with
   |nil=>intro _ _ hm;cases hm
   |cons y r ih =>
    intro E Q hm;obtain⟨g,t,cs,fuel,p,q,o,F,G,A,I,V⟩:=Q;rcases jf.1 hm with rfl|hm
    .exact ⟨g,t,cs,fuel,p,o,F,G,A,λ z R=>by rw[V];simp[R]⟩
    .obtain ⟨W,t',cs',i,p',f1,f2,f3,f4,f5⟩:=ih I hm;exact⟨W,t',cs',i,p',f1,f2,f3,f4,λ z R=>by rw[V];simp[f5 z R]⟩
  obtain⟨W,t',cs,fuel,p,o,F,G,A,I⟩:=key Q hx;obtain rfl:=KL (k1.symm.trans o);obtain rfl:=KL (k2.symm.trans F);rw[hd]at A;obtain⟨ms,hi⟩:∃ms,P.underlying t=some (.interface ms):=by
   unfold Sx at m;split at m
   .rename_i ms hu;exact⟨ms,hu⟩
   .cases m
  obtain⟨k,f,hp,he,ho,hs,K,L⟩:∃k f,P.underlying tp=some (.pointer k)/\P.underlying k=some (.struct #[f])/\f.offset=0/\P.underlying f.type=some .string/\P.cellsOf k=1/\P.cellsOf f.type=1:=by
   have:=X.ok;unfold Bl at this;split at this
   .rename_i k O;split at this
    .rename_i f hf;simp only[xt,jh]at this;obtain⟨⟨⟨a1,U⟩,a3⟩,a4⟩:=this;split at U
     .rename_i hs;exact⟨k,f,O,hf,a1,hs,a3,a4⟩
     .cases U
    .cases this
   .cases this
  have d:=G;unfold World.var? at d;rw[o]at d;simp only[qm]at d;split at d
  .rename_i c e fz Y;injection d with d;subst d
   have ok:∀u v,c.toList=[.iface u v]->Value.okWide P w .any 0 u v:=λ u v q=>by
    have N:c.size=1:=by simpa using congrArg List.length q
    refine(j g 0 (I _ (by rw[N];simp[MemPlace.row]))).2 u v ?_;have J:c[0]? = some (.iface u v):=by rw[<-j8,q];rfl
    simp[World.cell?,Y,J]
   obtain⟨a,sb,q1,n,q3,q4,_⟩:=errorString_of_trod hi X.row hp he rfl ho hs K L A ok;refine⟨a,λ g2 t2 s2 r1 r2 r3=>?_⟩;obtain⟨rfl,rfl⟩:g=g2/\t=t2:=by have:=B.symm.trans r1;simpa using this
   obtain rfl:=KL (C.symm.trans r3);refine⟨World.cell?_spot n,⟨e,fz,by rw[Y,Array.eq_one_of_toList q1]⟩,?_⟩;unfold World.cell? at n;split at n
   .rename_i cs' e' fz' hh;refine⟨_,_,_,hh,?_⟩;rw[<-q3];have S:a.spot=none/\cs'[a.off]? = some (.string sb):=by simpa using n
    rw[S.2]
   .cases n
  .cases d
 .exact ⟨default,λ g t s B m C=>(Z ⟨g,t,s,B,m,C⟩).elim⟩
def tt{P:Program}{tp:TypeId}{w:World}{laid:List (String×DataW Unit)}(h:laidMet P laid w)(E:∀x∈laid,∃a,rZ P tp w x a) :
 ∃θ:Th,(∀g,g<P.globals.size -> θ.bV g=g /\ θ.off g=0) /\ ∀b l,(b,l)∈rowsOf P tp P.globals.size laid->b<P.globals.size+laid.length /\ ∃pre cs post e fz,w.heap[θ.bV b]? = some (.cells (pre++cs++post).toArray e fz)/\pre.length = θ.off b/\bL (Lt (P.globals.size+laid.length)) θ l cs:=by
 have c:∀j:Nat,∃a:Addr,∀x,laid[j]? = some x->rZ P tp w x a:=λ j=>by
  cases f:laid[j]? with
  |none=>exact⟨default,λ x L=>by cases L⟩
  |some x =>
   obtain⟨a,ha⟩:=E x (x9 f);exact⟨a,λ y r=>by injection r with r;subst r;exact ha⟩
 obtain⟨F,C⟩:=Classical.axiomOfChoice c
 let N:=P.globals.size
 refine⟨⟨λ b=>if b<N then b else(F (b-N)).block,λ b=>if b<N then 0 else(F (b-N)).off,λ _=>0⟩,λ g hg=>⟨qr hg,qr hg⟩,λ b l hm=>?_⟩;obtain⟨j,x,f,hm⟩:=q6k hm;have I:=(qk.1 f).1;unfold rX at hm;split at hm
 .cases hm
 .rename_i g t v;obtain⟨O,u⟩:=xkr v;have hg:g<N:=by
   rcases xq g N with q|q
   .exact q
   .rw [Array.getElem?_eq_none q]at u;cases u
  split at hm
  .rename_i U hl;simp only[ja,xv]at hm;obtain⟨rfl,rfl⟩:=hm;obtain⟨_,cs,e,fz,A,B⟩:=Cw (d:=x.2) (n:=x.1) h (x9 f) O u hl;refine⟨qj hg (by omega),[],cs.toList,[],e,fz,?_,by simp[hg],λ θ' _=>B θ'⟩;simp[hg,A]
  .split at hm
   .rename_i s G hs;obtain⟨Q,⟨e,fz,R⟩,cs,e',i,S,z⟩:=C j x f g t s v G hs;rcases jf.1 hm with hm|hm
    .injection hm with m p;subst m;subst p
     refine⟨qj hg (by omega),[],[.iface tp (.pointer (some (F j)))],[],e,fz,?_,by simp[hg],?_⟩
     .simp [hg,R]
     .refine .one (.iface ?_);have:=VR.ptr (D:=Lt (N+laid.length)) (θ:=⟨λ b=>if b<N then b else(F (b-N)).block,λ b=>if b<N then 0 else(F (b-N)).off,λ _=>0⟩) (b:=N+j) (o:=0) (by show N+j<_;omega);have hn:¬N+j<N:=by omega
      simp only[hn,wz,yp,vf]at this;have k:(F j)=⟨(F j).block,(F j).off,none⟩:=by rw[<-Q]
      rw[k];exact this
    .simp only[ja,xv]at hm;obtain⟨rfl,rfl⟩:=hm;have hn:¬N+j<N:=by omega
     have J:=(kw.1 z).1;refine⟨by omega,cs.toList.take (F j).off,[.string ⟨s.toArray⟩],cs.toList.drop ((F j).off+1),e',i,?_,?_,.one (.str s)⟩
     .show w.heap[if N+j<N then _ else(F (N+j-N)).block]? = _;rw[qo hn,yp,S];congr 2;apply G0;have K:cs.toList[(F j).off]? = some (.string ⟨s.toArray⟩):=by rw[j8];exact z
      have:=ve (F j).off cs.toList;rw[List.drop_eq_getElem?_toList_append,K]at this
      simpa using this.symm
     .show _=if N+j<N then 0 else(F (N+j-N)).off
      rw[qo hn,yp];simp;omega
   .cases hm
def HR.tt{P:Program}{tp:TypeId}{w:World}{laid:List (String×DataW Unit)}(h:laidMet P laid w)(e:∀x∈laid,∃a,rZ P tp w x a){base:Nat}(hb:base<=w.heap.size) :
 ∃θ,HR P base (Lt (P.globals.size+laid.length)) θ (WA P tp laid) w:=by
 obtain⟨θ,c,d⟩:=Go.Am.tt h e;exact⟨θ,HR.ux hb (by omega) c d⟩
def HR.laid{P:Program}{tp:TypeId}(c:NG P tp){w:World}{laid:List (String×DataW Unit)}(h:laidMet P laid w){base:Nat}(hb:base<=w.heap.size) :
 ∃θ,HR P base (Lt (P.globals.size+laid.length)) θ (WA P tp laid) w:=HR.tt h (λ x d=>Ff c h d) hb
def uE(laid:List (String×DataW Unit)):Bool:=laid.all λ x=>(MM x.2).isNone
def HR.HU{P:Program}{tp:TypeId}{w:World}{laid:List (String×DataW Unit)}(hn:uE laid=true)(h:laidMet P laid w){base:Nat}(hb:base<=w.heap.size) :
 ∃θ,HR P base (Lt (P.globals.size+laid.length)) θ (WA P tp laid) w:=HR.tt h (λ x d=>⟨default,λ g t s e f c=>by
  have:=wq.1 hn x d;rw[c]at this;cases this⟩) hb
end Go.Am
namespace Go.Am
open Go.ChangeShapes Go.WideShapes Go.ChangeAt Go.RowKit
section
variable{H:Type}{enc:TypeId×Value->H}{P:Program}
def q8g{f:Func}{s:ChangeSpec}{apart fresh handsOn again:Bool}{W W':World}{args:Array Value}{v:Value}{ds gs:List (DataW H)}{before pa pv:List MemPlace}
 (k:DataW.Whole enc P f.params.toList s.vars apart W args.toList ds gs before)
 (e:∀(b:Nat)(sp:Nat->Bool)(n:Bool),DataW.TrodAll enc P W' b sp n f.resultTypes.toList (v.resultList f.resultTypes.size) (s.fn H (ds++gs)).results [])
 (c:∀sp:Nat->Bool,(∀p∈before,sp p.block=true)->DataW.TrodAll enc P W' 0 sp true f.params.toList args.toList (s.fn H (ds++gs)).args pa)
 (d:∀sp:Nat->Bool,(∀p∈before,sp p.block=true)->DataW.TrodVars enc P W' sp s.vars (s.fn H (ds++gs)).vars pv)
 (g:before=pa++pv) (hb:Below W.heap.size W W')
 (m:∀(j:Nat)(t:TypeId)(r:Value),f.resultTypes[j]? = some t->(v.resultList f.resultTypes.size)[j]? = some r->Value.okWide P W' .any 0 t r) :
 s.post enc P f apart fresh handsOn again W args v W':=by
 have h:∀p∈before,p.block<W.heap.size:=k.lt;have hold:∀p∈before,(λ b=>decide (b<W.heap.size)) p.block=true:=λ p hp=>by simpa using h p hp
 refine⟨ds,gs,before,[],pa,pv,k,e _ _ _,c _ hold,d _ hold,hb.frame _,λ _=>?_⟩;obtain⟨_,_,_,_,_,o,hn⟩:=k;refine⟨m,_,_,([]++pa)++pv,⟨[]++pa,pv,trodAll_append (c _ (λ _ _=>rfl)) (e _ _ _),d _ (λ _ _=>rfl),rfl,?_,?_⟩,?_⟩
 .intro b off hp;have i:MemPlace.cell b off∈before:=by rw[g];simpa using hp
  rw[hb.frozen (p:=⟨b,off,none⟩) (h _ i)];exact o b off i
 .intro ha;have:=hn ha;rw[g]at this
  simpa using this
 .intro p hp _;rw[g]
  simpa using hp
end
def Oo{P:Program}(h:(P.funcs.all λ fn=>fn.name != "runtime.NumGoroutine")=true) (d:P.follows .mixedOrders=true):dL P:=by
 refine⟨λ f fn g e=>?_,d⟩;obtain⟨c,rfl⟩:=kw.1 g;have:=(Array.all_eq_true.1 h) f c;simp[e]at this
noncomputable def XH(P:Program)(w:World)(xs:List (String×DataW Unit)):World :=
 {w with heap:=xs.foldl (λ h x=>match yJ P x with
  |some (g,t)=>match oE P 30 t x.2 with
   |some l=>h.modify g fun
    | .cells _ t fz=>.cells (bR θ0 l).toArray t fz
    |o=>o
   |none=>h
  |none=>h) w.heap}
end Go.Am
namespace Go.Am
open Go.RowKit
mutual
def Ds(n:Nat):AV->Bool
 | .ptr b _=>Nat.blt b n
 | .slice b _ _ _=>Nat.blt b n
 | .gslice b _ _ _ _ _=>Nat.blt b n
 | .eslice b=>Nat.blt b n
 | .map b=>Nat.blt b n
 | .fn _ _ _=>false
 | .iface _ v=>Ds n v
 | .agg l=>DC n l
 | .tuple l=>DC n l
 |_=>true
def DC(n:Nat):List AV->Bool
 |[]=>true
 |v::l=>Ds n v && DC n l
end
mutual
def RV{n:Nat}{θ θ':Th}(h:Ag (Lt n) θ θ'):∀(v:AV),Ds n v=true->az θ' v=az θ v
 | .ptr b o,hv=>by obtain⟨c,d,_⟩:=h b (by simpa[Ds,Lt]using hv);simp[az,c,d]
 | .slice b _ _ _,hv=>by obtain⟨c,d,_⟩:=h b (by simpa[Ds,Lt]using hv);simp[az,c,d]
 | .gslice b _ _ _ _ _,hv=>by obtain⟨c,d,e⟩:=h b (by simpa[Ds,Lt]using hv);simp[az,c,d,e]
 | .eslice b,hv=>by obtain⟨c,d,e⟩:=h b (by simpa[Ds,Lt]using hv);simp[az,c,d,e]
 | .map b,hv=>by obtain⟨c,_,_⟩:=h b (by simpa[Ds,Lt]using hv);simp[az,c]
 | .fn _ _ _,hv=>by simp[Ds]at hv
 | .iface _ v,hv=>by simp only[az];rw[RV h v hv]
 | .agg l,hv=>by simp only[az];rw[PY h l hv]
 | .tuple l,hv=>by simp only[az];rw[PY h l hv]
 | .bool _,_=>rfl
 | .int _ _,_=>rfl
 | .str _,_=>rfl
 | .nilp,_=>rfl
 | .nils,_=>rfl
 | .lI,_=>rfl
 | .nilf,_=>rfl
 | .nili,_=>rfl
def PY{n:Nat}{θ θ':Th}(h:Ag (Lt n) θ θ'):∀(l:List AV),DC n l=true->bR θ' l=bR θ l
 |[],_=>rfl
 |v::l,hv=>by
  simp only[DC,xt]at hv;simp only[bR];rw[RV h v hv.1,PY h l hv.2]
end
def Ag.none{θ θ':Th}:Ag (Lt 0) θ θ':=λ b hb=>by cases hb
mutual
def jC:AV->AV->Bool
 | .bool a,.bool b=>a == b
 | .int k a,.int k' b=>decide (k=k') && decide (a=b)
 | .str s,.str t=>decide (s=t)
 | .nilp,.nilp=>true
 | .ptr b o,.ptr b' o'=>Nat.beq b b' && Nat.beq o o'
 | .nils,.nils=>true
 | .lI,.lI=>true
 | .nilf,.nilf=>true
 | .nili,.nili=>true
 | .iface t v,.iface t' v'=>Nat.beq t t' && jC v v'
 | .agg l,.agg l'=>kS l l'
 | .tuple l,.tuple l'=>kS l l'
 |_,_=>false
def kS:List AV->List AV->Bool
 |[],[]=>true
 |v::l,v'::l'=>jC v v' && kS l l'
 |_,_=>false
end
mutual
def TZ:∀(v c:AV),jC v c=true->v=c
 | .iface t v,x,h=>by
  cases x<;>simp only[jC,xt,jh,zx]at h;rw[h.1,TZ _ _ h.2]
 | .agg l,x,h=>by
  cases x<;>simp only[jC,zx]at h;rw[OC _ _ h]
 | .tuple l,x,h=>by
  cases x<;>simp only[jC,zx]at h;rw[OC _ _ h]
 | .bool _,x,h=>by cases x<;>simp_all[jC]
 | .int _ _,x,h=>by cases x<;>simp_all[jC]
 | .str _,x,h=>by cases x<;>simp_all[jC]
 | .nilp,x,h=>by cases x<;>simp_all[jC]
 | .ptr _ _,x,h=>by cases x<;>simp_all[jC]
 | .nils,x,h=>by cases x<;>simp_all[jC]
 | .slice _ _ _ _,x,h=>by cases x<;>simp_all[jC]
 | .gslice _ _ _ _ _ _,x,h=>by cases x<;>simp_all[jC]
 | .lI,x,h=>by cases x<;>simp_all[jC]
 | .map _,x,h=>by cases x<;>simp_all[jC]
 | .fn _ _ _,x,h=>by cases x<;>simp_all[jC]
 | .nilf,x,h=>by cases x<;>simp_all[jC]
 | .nili,x,h=>by cases x<;>simp_all[jC]
def OC:∀(l c:List AV),kS l c=true->l=c
 |[],[],_=>rfl
 |[],_::_,h=>by simp[kS]at h
 |_::_,[],h=>by simp[kS]at h
 |v::l,v'::c,h=>by
  simp only[kS,xt]at h;rw[TZ _ _ h.1,OC _ _ h.2]
end
structure fA where
 f:Nat
 args:List AV
 res:AV
def eG(H:ar):List (Nat×List AV)->Bool
 |[]=>true
 |(b,l)::r=>(match H.get b with|some (.row l' _ _ _)=>kS l l'|_=>false) && eG H r
def iN(n:Nat):List (Nat×List AV)->Bool
 |[]=>true
 |(b,l)::r=>Nat.blt b n && DC n l && iN n r
def oA(gl:List (Nat×List AV))(H:ar)(f:Nat)(vs:List AV):List fA->Option (bE×Option aE×ar)
 |[]=>none
 |e::r=>cond (Nat.beq f e.f && (kS vs e.args && eG H gl)) (some (.ret e.res,none,H)) (oA gl H f vs r)
def my(gl:List (Nat×List AV))(L:List fA):bU:=λ f vs up H =>
 match up with
 |none=>oA gl H f vs L
 |some _=>none
def To{d:List (Nat×List AV)}{H:ar}{f:Nat}{vs:List AV}:∀{L:List fA}{r:bE×Option aE×ar},oA d H f vs L=some r -> ∃e∈L,f=e.f/\vs=e.args/\eG H d=true/\r=(.ret e.res,none,H)
 |[],_,h=>by cases h
 |e::L,r,h=>by
  simp only[oA]at h;cases c:(Nat.beq f e.f && (kS vs e.args && eG H d))with
  |true =>
   rw[c]at h;simp only[xm,qe]at h;simp only[xt,jh]at c;exact⟨e,by simp,c.1,OC _ _ c.2.1,c.2.2,h.symm⟩
  |false =>
   rw[c]at h;obtain⟨e',g,i⟩:=To (L:=L) h;exact⟨e',by simp[g],i⟩
def q4k{c:List (Nat×List AV)}{L:List fA}:pE (my c L):=by
 intro f vs up H e d H' h;cases up with
 |some _=>cases h
 |none =>
  obtain⟨e',_,_,_,_,hr⟩:=To h;injection hr with _ hr
  injection hr with _ hr
  subst hr;exact Ext.refl _
def hT{H:ar}:∀{d:List (Nat×List AV)},eG H d=true -> ∀{b:Nat}{l:List AV},(b,l)∈d -> ∃e fz ow,H.get b=some (.row l e fz ow)
 |[],_,b,l,h=>by cases h
 |(b',l')::r,hr,b,l,h=>by
  simp only[eG,xt]at hr;rcases jf.1 h with e|h
  .injection e with f g;subst f;subst g
   have c:=hr.1;split at c
   .rename_i l2 e fz ow hg;rw[OC _ _ c];exact⟨e,fz,ow,hg⟩
   .cases c
  .exact hT hr.2 h
def q6l{n:Nat}:∀{c:List (Nat×List AV)},iN n c=true -> ∀{b:Nat}{l:List AV},(b,l)∈c->b<n/\DC n l=true
 |[],_,b,l,h=>by cases h
 |(b',l')::r,hr,b,l,h=>by
  simp only[iN,xt,sX]at hr;rcases jf.1 h with e|h
  .injection e with d f;subst d;subst f;exact hr.1
  .exact q6l hr.2 h
def HR.zT{P:Program}{base n:Nat}{D:Nat->Prop}{θ:Th}{H:ar}{w:World}{d:List (Nat×List AV)}(h:HR P base D θ H w)(hn:P.globals.size<=n)(f:iN n d=true)(hr:eG H d=true) :
 HR P base (Lt n) θ (yx d n) w:=by
 refine HR.ux h.low hn (λ g hg=>(h.d8 g hg).2) λ b l hm=>?_;obtain⟨i,j⟩:=q6l f hm;obtain⟨e,fz,ow,hg⟩:=hT hr hm;obtain⟨_,co,k,pre,cs,post,c,e',rfl,m,o,_⟩:=h.obj _ _ hg;exact⟨i,pre,cs,post,e',c,k,m,λ θ' ha=>(PY ha l j).trans o.now⟩
def HR.below{P:Program}{base:Nat}{D:Nat->Prop}{θ:Th}{H:ar}{w w':World}(h:HR P base D θ H w)(hb:Below w.heap.size w w'):HR P base D θ H w':=by
 refine⟨λ b o hg=>?_,h.inj,h.kP,h.d8,xu h.low hb.size⟩;obtain⟨d,co,c,e⟩:=h.obj b o hg;exact⟨d,co,by rw[hb.block _ (kw.1 c).1];exact c,e⟩
def xfn{D:Nat->Prop}{H:ar}{θ:Th}{w w':World}(hb:Below w.heap.size w w'):bB D H θ w H θ w' :=
 ⟨qg _,Ag.refl _ _,hb.size,hb.os,hb.tape,hb.output,λ k hk _=>hb.block k hk,λ b o h ho _=>⟨b,o,h,ho,rfl⟩⟩
def rJ(P:Program)(gl:List (Nat×List AV))(n:Nat)(e:fA):Prop :=
 Ds 0 e.res=true /\ ∀base θ w(args:Array Value),HR P base (Lt n) θ (yx gl n) w->bL (Lt n) θ e.args args.toList ->
  (∃fn c,P.funcs[e.f]? = some fn/\fn.body=some c)/\Calls P e.f args w λ en w'=>en=.returned (az θ e.res)/\Below w.heap.size w w'
def qxn{P:Program}{base n:Nat}{g:List (Nat×List AV)}{L:List fA}(hn:P.globals.size<=n)(k:iN n g=true)(s:∀e∈L,DC 0 e.args=true/\rJ P g n e):wx P base (my g L):=by
 intro D θ H w f vs args up H' e x kind cs r v hu h y;cases up with
 |some _=>cases h
 |none =>
  have hk:kind=.normal:=hu;obtain⟨e',hm,rfl,rfl,c,hr⟩:=To h;injection hr with o hr
  injection hr with p q
  subst o;subst p;subst q;obtain⟨m,d,u⟩:=s e' hm;obtain⟨i,t⟩:=u base θ w args (r.zT hn k c) (λ θ' _=>(PY Ag.none _ m).trans v.now);refine⟨i,?_⟩;obtain⟨en,w',fr,⟨rfl,hb⟩,hs,j,hl⟩:=t cs;obtain⟨l1,l2,l3,l4⟩:=hl;subst hk;refine⟨θ,w',cs,fr,.returned (az θ e'.res),hs,l3,j,⟨l1,l2,l4⟩,λ θ' _=>RV Ag.none _ d,?_,xfn hb,rfl,rfl,rfl⟩;rw[Up.none];exact r.below hb
def wW(v:AV):Option (bE×Option aE×ar)->Bool
 |some (.ret u,_,_)=>jC u v
 |_=>false
def B6{v:AV}{o:Option (bE×Option aE×ar)}(h:wW v o=true):∃u H',o=some (.ret v,u,H'):=by
 unfold wW at h;split at h
 .rw [TZ _ _ h];exact⟨_,_,rfl⟩
 .cases h
def xdn{P:Program}(r:dL P){d:List (Nat×List AV)}{L:List fA}{n:Nat}(hn:P.globals.size<=n)(k:iN n d=true)(B:∀e∈L,DC 0 e.args=true/\rJ P d n e)
 {e:fA} {m:Nat} (hp:Ds 0 e.res=true) (hr:wW e.res (jS (aV P) (my d L) m e.f e.args none (yx d n))=true):rJ P d n e:=by
 obtain⟨u,H',hr⟩:=B6 hr;refine⟨hp,λ base θ w args E F=>?_⟩;have hs:=λ cs=>XT r (λ rt h C o i p=>hK r h C o i p) (qxn hn k B) q4k m (Lt n) θ (yx d n) w e.f e.args args none H' (.ret e.res) u .normal cs E F rfl hr
  (λ b q J hb=>by have q:n<=b:=q;have hb:b<n:=hb;omega)
 refine⟨(hs []).1,λ cs=>?_⟩;obtain⟨_,θ',w',cs',fr,e',s,v,x,y,g,G,z,I,A,t⟩:=hs cs;have j:cs'=cs:=A;subst j;cases e' with
 |returned c =>
  refine⟨.returned c,w',fr,⟨?_,z.below (MY _ _)⟩,s,x,SI y v⟩;have g:VR _ θ' e.res c:=g;rw[<-g.now,RV Ag.none _ hp]
 |panicked _=>exact g.elim
 |outgrown=>exact g.elim
end Go.Am
