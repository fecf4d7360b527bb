import Derived.Test.YtbpnpfalldaocaaGreatDoorAmCZb
import Derived.Below
import GoSem.ClaimJoined
import Derived.ChangeSame
import Derived.LaidSub
import Derived.LaidLaws
import Derived.WalkKit
import Derived.ProofKit
import Derived.OpenShut
set_option linter.defProp false
set_option linter.unusedVariables false
set_option linter.unusedSimpArgs false
open Array renaming replicate→B9
open Bool renaming not_eq_true'→Az,false→B2,true→B4
open Go renaming DataW→MC,Frame→Jj,MemPlace→AA,Oper→KW,Operand→IY,Program→Fv,TypeId→IV,Value→Hm,World→J3
open Go.DataW renaming TrodAll→A_,trod→Jv
open Go.Frame renaming atR→Ap
open Go.Oper renaming semAt_eq→Aa
open Go.Region renaming before→Av,binds→A6,linearise→Aq,wanted→A1
open Go.Sem renaming run_bind→JX
open Go.StepsIn renaming of_steps→Ab,steps→AL
open Go.Value renaming okWide→Ac
open List renaming range→Ig
open Nat renaming beq→FW,blt→KI
open Option renaming none→B5,some→B1
open Option.some renaming inj→Aw
namespace Go.Am
theorem Km{a b:Nat}(h:oH a b=B4){j:Nat}(d:a.testBit j=B4):b.testBit j=true:=by
 unfold oH at h;simp only[je]at h;have c:(a &&& b).testBit j=a.testBit j:=by
  simp_all
 grind
def Nn(a b j:Nat):(Nat.lor a b).testBit j=(a.testBit j ||b.testBit j):=Nat.testBit_or a b j
def Qp(a b j:Nat):(Nat.land a b).testBit j=(a.testBit j && b.testBit j):=Nat.testBit_and a b j
def UA(i j:Nat):(2 ^ i).testBit j=decide (i=j):=Nat.testBit_two_pow
theorem LM:∀(l:List (Bool×Nat))(d j:Nat),(bitsOf l d).testBit j=B4↔d.testBit j=B4\/(B2,j)∈l
 |[],d,j=>by simp[bitsOf]
 |(B4,r)::l,d,j=>by rw[bitsOf,LM l];simp
 |(B2,i)::l,d,j=>by
  rw[bitsOf,LM l,Nn,UA]
  grind
def VK:∀(l:List (Bool×Nat))(d r:Nat),(mz l d).testBit r=B4->d.testBit r=B4 \/ ∃u:Nat,l[u]? = B1 (B4,r) /\ ∀v:Nat,v<=u -> ∃c,l[v]? = B1 (B4,c)
 |[],d,r,h=>.inl h
 |(B2,i)::l,d,r,h=>.inl h
 |(B4,c)::l,d,r,h=>by
  rw[mz]at h;rcases VK l _ r h with h|⟨u,e,g⟩
  .rw [Nn,UA]at h;simp only[wl,decide_eq_true_eq]at h;rcases h with h|h
   .grind
   .subst h;refine .inr ⟨0,rfl,λ v f=>⟨c,?_⟩⟩
    grind
  .refine .inr ⟨u+1,by simpa using e,λ v f=>?_⟩;cases v with
   |zero=>grind
   |succ v=>grind
def MP(p:Nat->Bool):∀(n j:Nat),(iA p n).testBit j=B4↔j<n/\p j=B4
 |0,j=>by simp[iA]
 |n+1,j=>by
  rw[iA];cases hp:p n with
  |true =>
   simp only[xg,Nn,UA,wl,decide_eq_true_eq,MP p n]
   grind
  |false =>
   simp only[ze,MP p n]
   grind
def Ph{p:Nat->Bool}:∀{n:Nat},qC p n=B4 -> ∀i,i<n->p i=B4
 |0,_,i,hi=>by omega
 |n+1,h,i,hi=>by
  rw[qC,xq]at h
  by_cases e:i=n
  .grind
  .exact Ph h.2 i (by omega)
def Qz(c d:Hq):oT c d=B4↔c=d:=by cases c<;>cases d<;>simp[oT]
theorem TC(t:Nat):∀l,mW t l=B4↔t∈l
 |[]=>by simp[mW]
 |x::l=>by
  rw[mW,wl,TC t l]
  grind [je]
def Tz{I:kZ}:∀{plan:List (Bool×Nat)}{d:Nat},Ho I plan d=B4 ->
 (∀pre x post,plan=pre++x::post->I5 I (bitsOf pre d) post x=B4)/\oH (2 ^ I.n-1) (bitsOf plan d)=B4
 |[],d,h=>⟨λ pre x post e=>by simp at e,h⟩
 |(B2,i)::l,d,h=>by
  rw[Ho,xq]at h;obtain⟨c,f⟩:=Tz h.2;refine⟨λ pre x post e=>?_,f⟩;cases pre with
  |nil =>
   simp only[jh,zg]at e;obtain⟨rfl,rfl⟩:=e;exact h.1
  |cons y pre =>
   simp only[Gh,zg]at e;obtain⟨rfl,e⟩:=e;exact c pre x post e
 |(B4,r)::l,d,h=>by
  rw[Ho,xq]at h;obtain⟨c,f⟩:=Tz h.2;refine⟨λ pre x post e=>?_,f⟩;cases pre with
  |nil =>
   simp only[jh,zg]at e;obtain⟨rfl,rfl⟩:=e;exact h.1
  |cons y pre =>
   simp only[Gh,zg]at e;obtain⟨rfl,e⟩:=e;exact c pre x post e
structure ux(I:kZ)(plan:List (Bool×Nat)):Prop where
 all:∀i:Nat,i<I.n -> ∃p:Nat,plan[p]? = B1 (B2,i)
 lt:∀p i:Nat,plan[p]? = B1 (B2,i)->i<I.n
 one:∀p p' i:Nat,plan[p]? = B1 (B2,i)->plan[p']? = B1 (B2,i)->p=p'
 fA:∀p i j:Nat,plan[p]? = B1 (B2,i)->(I.fA i).testBit j=B4 -> ∃p':Nat,p'<p/\plan[p']? = B1 (B2,j)
 made:∀p i p' j:Nat,plan[p]? = B1 (B2,i)->(I.cls i=.read\/I.cls i=.fT)->plan[p']? = B1 (B2,j)->p'<p->(I.cls j=.alloc\/I.cls j=.fT)->(I.fA i).testBit j=B4
 look:∀p e p' r:Nat,plan[p]? = B1 (B2,e)->I.cls e=.fT->plan[p']? = B1 (B2,r)->p'<p->I.cls r=.read->(I.fA e).testBit r=B2 ->
  ∃u:Nat,p<u/\plan[u]? = B1 (B4,r) /\ ∀v:Nat,p<v->v<=u -> ∃r',plan[v]? = B1 (B4,r')
 again:∀p r:Nat,plan[p]? = B1 (B4,r)->I.cls r=.read/\I.self r=B4/\(∃p':Nat,p'<p/\plan[p']? = B1 (B2,r)) /\
  ∀w p':Nat,plan[p']? = B1 (B2,w)->p'<p->w≠r->I.iS r w=B4->(I.fA r).testBit w=B4
 FI:∀r w:Nat,r<I.n->w<I.n->r≠w->I.iS r w=B4->(I.fA r).testBit w=B4\/(I.fA w).testBit r=B4
def wV{α:Type}{l:List α}{p:Nat}{x:α}(h:l[p]? = B1 x):l=l.take p++x::l.drop (p+1):=by
 obtain⟨hp,c⟩:=qo.1 h;rw[<-c];simp
def zI{α:Type}{l:List α}{p:Nat}{x:α}:x∈l.take p↔ ∃p':Nat,p'<p/\l[p']? = B1 x:=by
 simp_all[List.mem_iff_getElem?,IL]
def zG{I:kZ}{plan:List (Bool×Nat)}(g:I.made=iA (λ i=>tE (I.cls i)) I.n)(f:I.reads=iA (λ i=>oT (I.cls i) .read) I.n)(h:Ho I plan 0=B4)(G:uD I=B4):ux I plan:=by
 obtain⟨F,k⟩:=Tz h;have at_:∀{p:Nat}{x:Bool×Nat},plan[p]? = B1 x->I5 I (bitsOf (plan.take p) 0) (plan.drop (p+1)) x=true:=λ L=>F _ _ _ (wV L);have done:∀p j:Nat,(bitsOf (plan.take p) 0).testBit j=B4↔ ∃p':Nat,p'<p/\plan[p']? = B1 (B2,j):=λ p j=>by
  rw[LM,zI];simp
 have run:∀{p i:Nat},plan[p]? = B1 (B2,i)->i<I.n/\(bitsOf (plan.take p) 0).testBit i=B2/\oH (I.fA i) (bitsOf (plan.take p) 0)=B4 /\
  ((I.cls i=.read\/I.cls i=.fT)->oH (Nat.land (bitsOf (plan.take p) 0) I.made) (I.fA i)=B4) /\
  (I.cls i=.fT->oH (Nat.land (bitsOf (plan.take p) 0) I.reads) (Nat.lor (I.fA i) (mz (plan.drop (p+1)) 0))=B4):=λ{p i}hp=>by
  have:=at_ hp;simp only[I5,xq,uv,Az]at this
  grind
 have one:∀p p' i:Nat,plan[p]? = B1 (B2,i)->plan[p']? = B1 (B2,i)->p=p':=by
  grind
 refine⟨λ i N=>?_,λ p i hp=>(run hp).1,one,λ p i j hp O=>(done p j).1 (by grind [Km]),λ p i p' j hp t c d s=>?_,λ p e p' r hp q c d y z=>?_,λ p r hp=>?_,λ r w hr hw A hm=>?_⟩
 .have:(2 ^ I.n-1).testBit i=true:=by grind
  have:=Km k this
  grind [LM,List.mem_iff_getElem?]
 .refine Km ((run hp).2.2.2.1 t) ?_;rw[Qp,(done p j).2 ⟨p',d,c⟩,g,(MP _ _ _).2 ⟨(run c).1,?_⟩]
  .rfl
  .simp only[tE,wl,Qz];exact s
 .have:=Km ((run hp).2.2.2.2 q) (j:=r) (by
   rw[Qp,(done p r).2 ⟨p',d,c⟩,f,(MP _ _ _).2 ⟨(run c).1,by rw[Qz];exact y⟩];rfl)
  rw[Nn,z,Bool.false_or]at this;rcases VK _ _ _ this with h|⟨u,m,o⟩
  .grind
  .rw [yt]at m;refine⟨p+1+u,by omega,m,λ v J K=>?_⟩;obtain⟨Q,B⟩:=o (v-(p+1)) (by omega);rw[yt,show p+1+(v-(p+1))=v from by omega]at B
   grind
 .have:=at_ hp;simp only[I5,xq,Qz]at this;obtain⟨m,C,o,E⟩:=this;refine⟨m,C,(done p r).1 o,λ w p' c d A hm=>Km E ?_⟩;rw[Qp,(done p w).2 ⟨p',d,c⟩,(MP _ _ _).2 ⟨(run c).1,?_⟩]
  .rfl
  .simp only[xq,Az,hm,rp]
   grind [je]
 .have:=Ph (Ph G r hr) w hw;simp only[wl,je,hm,Bool.not_true,or_false]at this
  grind
def XT(acc:Array Nat)(j:Nat):∀(l:List Edge)(s:Nat),(l.foldl (λ s e=>if A6 .any e then s |||2 ^ e.on |||acc.getD e.on 0 else s) s).testBit j=B4 ->
 s.testBit j=B4 \/ ∃e∈l,A6 .any e=B4/\(e.on=j\/(acc.getD e.on 0).testBit j=B4)
 |[],s,h=>.inl h
 |e::l,s,h=>by
  rw[List.foldl_cons]at h;rcases XT acc j l _ h with h|⟨e',c,d⟩
  .grind
  grind
def Hy(acc:Array Nat):∀(l:List Edge)(s:Nat),(∀j,s.testBit j=B4->(l.foldl (λ s e=>if A6 .any e then s |||2 ^ e.on |||acc.getD e.on 0 else s) s).testBit j=B4) /\
 ∀e∈l,A6 .any e=B4->(l.foldl (λ s e=>if A6 .any e then s |||2 ^ e.on |||acc.getD e.on 0 else s) s).testBit e.on=B4
 |[],s=>(by grind)
 |e::l,s=>by
  obtain⟨c,d⟩:=Hy acc l (if A6 .any e then s |||2 ^ e.on |||acc.getD e.on 0 else s)
  grind
def qq(ops:Array KW):∀(i:Nat)(o:KW),ops[i]? = B1 o ->
 (∀e∈o.after.toList,A6 .any e=B4->((Av ops).getD i 0).testBit e.on=B4) /\
 (∀j,((Av ops).getD i 0).testBit j=B4 -> ∃e∈o.after.toList,A6 .any e=B4/\(e.on=j\/(e.on<i/\((Av ops).getD e.on 0).testBit j=B4))):=by
 have key:∀(l:List KW)(acc:Array Nat),let R:=l.foldl (λ acc o=>acc.push (o.after.foldl (λ s e=>if A6 .any e then s |||2 ^ e.on |||acc.getD e.on 0 else s) 0)) acc
  (∀i,i<acc.size->R.getD i 0=acc.getD i 0)/\acc.size<=R.size /\ ∀(i:Nat)(o:KW),l[i]? = B1 o ->
   (∀e∈o.after.toList,A6 .any e=B4->(R.getD (acc.size+i) 0).testBit e.on=B4) /\
   (∀j,(R.getD (acc.size+i) 0).testBit j=B4 -> ∃e∈o.after.toList,A6 .any e=B4/\(e.on=j\/(e.on<acc.size+i/\(R.getD e.on 0).testBit j=B4))):=by
  intro l
  induction l with
  |nil=>grind
  |cons o l ih =>
   intro acc;simp only[List.foldl_cons];generalize p:o.after.foldl (λ s e=>if A6 .any e then s |||2 ^ e.on |||acc.getD e.on 0 else s) 0=v;rw[<-Array.foldl_toList]at p;obtain⟨n,r,g⟩:=ih (acc.push v);generalize(l.foldl (λ acc o=>acc.push (o.after.foldl (λ s e=>if A6 .any e then s |||2 ^ e.on |||acc.getD e.on 0 else s) 0)) (acc.push v))=R at n r g;have m:(acc.push v).size=acc.size+1:=by simp
   have c:∀i,i<acc.size->R.getD i 0=acc.getD i 0:=λ i x=>by
    rw[n i (by omega)];simp_all[Array.getElem?_push,Im]
   have k:R.getD acc.size 0=v:=by
    simp_all
   refine⟨c,by omega,λ i o' d=>?_⟩;cases i with
   |zero =>
    simp only[zx,qe]at d;subst d;rw[zJ,k,<-p];obtain⟨u,q⟩:=Hy acc o.after.toList 0;refine⟨q,λ j t=>?_⟩;rcases XT acc j _ _ t with h|⟨e,he,hb,h⟩
    .grind
    .refine ⟨e,he,hb,?_⟩;rcases h with h|h
     .omega
     .by_cases f:e.on<acc.size
      .exact .inr ⟨f,by rw[c _ f];exact h⟩
      .rw [OP,Array.getElem?_eq_none (by omega)]at h;simp at h
   |succ i =>
    have:=g i o' (by simpa using d);rw[m,yz,Nat.add_comm 1 i]at this;exact this
 intro i o ho;obtain⟨_,_,g⟩:=key ops.toList #[];have:=g i o (by rw[kz];exact ho);unfold Av;rw[<-Array.foldl_toList]
 simpa using this
structure Order(I:kZ)(L:List Nat):Prop where
 all:∀i,i<I.n->i∈L
 lt:∀i∈L,i<I.n
 fA:∀L1 i L2,L=L1++i::L2->i∉L1 /\ ∀j,(I.fA i).testBit j=B4->j∈L1
def q0h{ops:Array KW}{I:kZ}(hn:I.n=ops.size)(c:∀i,I.fA i=(Av ops).getD i 0){plan:List (Bool×Nat)}(hp:ux I plan)(t:Nat):Order I (Aq .any ops t):=by
 -- an operation that is ready
 let ready (listed:Array Bool) (i:Nat):Bool:=!listed.getD i B4 && ((ops[i]?).map (·.after.all λ e=>!Region.binds .any e ||listed.getD e.on B2)).getD B2
 have S:∀(fuel t:Nat)(listed:Array Bool)(acc:List Nat),listed.size=ops.size->(∀i,listed[i]? = B1 B4↔i∈acc/\i<ops.size)->(∀i∈acc,i<ops.size)->acc.Nodup->acc.length+fuel=ops.size ->
  (∀A i B,acc.reverse=A++i::B->i∉A /\ ∀j,(I.fA i).testBit j=B4->j∈A) ->
  Order I (Aq.go .any ops fuel t listed acc):=by
  intro fuel
  induction fuel with
  |zero =>
   intro t listed acc G hl F K hlen z;unfold Aq.go;refine⟨λ i Q=>?_,λ i Q=>by grind,z⟩;rw[List.mem_reverse];refine OE λ N=>?_;have:(i::acc).length<=ops.size:=by
    have L:(i::acc).Nodup:=List.nodup_cons.2 ⟨N,K⟩;have d:(i::acc)⊆Ig ops.size:=λ x r=>by
     grind
    have:=L.length_le_of_subset d
    simpa using this
   grind
  |succ fuel ih =>
   intro t listed acc G hl F K hlen z;unfold Aq.go;simp only
   -- something is ready
   have q:∃i,i<ops.size/\ready listed i=true:=by
    -- the first one of the plan that is not listed
    obtain⟨x,hx1,hx2⟩:∃x,x<ops.size/\x∉acc:=by
     refine OE λ N=>?_;have d:Ig ops.size⊆acc:=λ x r=>(by grind)
     have:=List.nodup_range.length_le_of_subset d
     grind
    have:∀m p x:Nat,p<m->plan[p]? = B1 (B2,x)->x∉acc -> ∃p0 g:Nat,plan[p0]? = B1 (B2,g)/\g∉acc /\ ∀p' x':Nat,p'<p0->plan[p']? = B1 (B2,x')->x'∈acc:=by
     intro m
     induction m with
     |zero=>omega
     |succ m ihm =>
      grind
    obtain⟨p,Y⟩:=hp.all x (by omega);obtain⟨p0,g,f,v,h3⟩:=this (p+1) p x (zd _) Y hx2;have hx0:g<ops.size:=by rw[<-hn];exact hp.lt _ _ f
    refine⟨g,hx0,?_⟩;obtain⟨o,ho⟩:∃o,ops[g]? = B1 o:=(by simp_all)
    have V:listed.getD g B4=false:=by
     have h4:=hl g;simp_all
    show(!listed.getD g B4 && _)=B4;rw[V,ho];simp only[Bool.not_false,wq,vr,Bool.true_and,Array.all_eq_true',wl,Az];intro e he;cases hb:A6 .any e with
    |false=>grind
    |true =>
     right;have:=(qq ops g o ho).1 e (by simpa using he) hb;rw[<-c]at this;obtain⟨p',X,O⟩:=hp.fA _ _ _ f this;have h5:=h3 p' e.on X O;have:=(hl e.on).2 ⟨h5,F _ h5⟩;rw[OP,this];rfl
   obtain⟨i0,hi0,hi0r⟩:=q;have hne:0<((Ig ops.size).filter λ i=>ready listed i).length:=by
    rw[List.length_pos_iff_exists_mem];exact⟨i0,by grind⟩
   have Z:∃i,((Ig ops.size).filter λ i=>ready listed i)[t % ((Ig ops.size).filter λ i=>ready listed i).length]? = B1 i:=(by simp_all[Nat.mod_lt])
   obtain⟨i,Q⟩:=Z;have u:=xl Q;rw[List.mem_filter,List.mem_range]at u;obtain⟨J,U⟩:=u;rw[show((Ig ops.size).filter λ i=>!listed.getD i B4 && ((ops[i]?).map (·.after.all λ e=>!Region.binds .any e ||listed.getD e.on B2)).getD B2)=((Ig ops.size).filter λ i=>ready listed i)from rfl,Q];simp only;have s:(!listed.getD i B4 && ((ops[i]?).map (·.after.all λ e=>!Region.binds .any e ||listed.getD e.on B2)).getD B2)=true:=U;rw[xq]at s;obtain⟨hi3,E⟩:=s;obtain⟨o,ho⟩:∃o,ops[i]? = B1 o:=(by grind)
   have hia:i∉acc:=λ h=>by
    grind [OP]
   rw[ho]at E;simp only[wq,vr,Array.all_eq_true',wl,Az]at E
   -- ancestors are listed
   have R:∀j,(I.fA i).testBit j=B4->j∈acc:=by
    intro j hj;rw[c]at hj;obtain⟨e,he,hb,h⟩:=(qq ops i o ho).2 j hj;have W:e.on∈acc:=by
     rcases E e (by simpa using he)with h'|h'
     .grind
     .rw [OP]at h'
      grind
    rcases h with h|⟨_,h⟩
    .grind
    .rw [<-c]at h;obtain⟨A,B,k⟩:=List.append_of_mem (List.mem_reverse.2 W);have:=(z A e.on B k).2 j h;simp_all
   refine ih _ _ _ (by simp[G]) (λ x=>?_) (λ x r=>?_) (by grind) (by grind) (λ A x B k=>?_)
   .rw [Array.getElem?_setIfInBounds]
    by_cases r:i=x
    .subst r;simp[G,J]
    .rw [qn r,hl x];simp only[j8];constructor
     .rintro ⟨f,v⟩;exact⟨.inr f,v⟩
     .rintro ⟨f|f,v⟩
      .exact absurd f.symm r
      .exact ⟨f,v⟩
   .rcases j8.1 r with rfl|r
    .exact J
    .exact F x r
   .rw [List.reverse_cons]at k;rcases List.append_eq_append_iff.1 k.symm with⟨C,f,v⟩|⟨C,f,v⟩
    .cases C with
     |nil =>
      grind
     |cons y C =>
      grind
    .cases C with
     |nil =>
      grind
     |cons y C =>
      simp at v
 have:=S ops.size t (B9 ops.size B2) [] (by simp) (by grind) (by grind) (by simp) (by simp) (by simp_all);exact this
end Go.Am
namespace Go.Am
mutual
def Q2:∀(a b:AV),Am.bZ a b=B4->a=b
 | .bool a,b,h=>by cases b<;>simp_all[Am.bZ]
 | .int k a,b,h=>by cases b<;>simp_all[Am.bZ,yJ,O7]
 | .str a,b,h=>by cases b<;>simp_all[Am.bZ,GS]
 | .nilp,b,h=>by grind [Am.bZ]
 | .ptr a o,b,h=>by cases b<;>simp_all[Am.bZ]
 | .nils,b,h=>by grind [Am.bZ]
 | .slice a o n c,b,h=>by cases b<;>simp_all[Am.bZ]
 | .gslice a i m s al n,b,h=>by cases b<;>simp_all[Am.bZ]
 | .eslice a,b,h=>by cases b<;>simp_all[Am.bZ]
 | .kT,b,h=>by grind [Am.bZ]
 | .map a,b,h=>by cases b<;>simp_all[Am.bZ]
 | .nilf,b,h=>by grind [Am.bZ]
 | .nili,b,h=>by grind [Am.bZ]
 | .fn (.func f) x y,b,h=>by
  cases b with
  |fn g x' y' =>
   cases g with
   |func g =>
    simp only[Am.bZ,xq,je]at h;have⟨⟨d,e⟩,j⟩:=h;rw[d,Ge x x' e,Ge y y' j]
   |yield g=>grind [Am.bZ]
  |_=>grind [Am.bZ]
 | .fn (.yield f) x y,b,h=>by
  cases b with
  |fn g x' y' =>
   cases g with
   |yield g =>
    simp only[Am.bZ,xq,je]at h;have⟨⟨d,e⟩,j⟩:=h;rw[d,Ge x x' e,Ge y y' j]
   |func g=>grind [Am.bZ]
  |_=>grind [Am.bZ]
 | .iface t v,b,h=>by
  cases b with
  |iface u w =>
   simp only[Am.bZ,xq,je]at h;rw[h.1,Q2 v w h.2]
  |_=>grind [Am.bZ]
 | .agg x,b,h=>by
  cases b with
  |agg y=>simp only[Am.bZ]at h;rw[Ge x y h]
  |_=>grind [Am.bZ]
 | .tuple x,b,h=>by
  cases b with
  |tuple y=>simp only[Am.bZ]at h;rw[Ge x y h]
  |_=>grind [Am.bZ]
def Ge:∀(a b:List AV),Am.eC a b=B4->a=b
 |[],b,h=>by grind [Am.eC]
 |x::xs,b,h=>by
  cases b with
  |nil=>grind [Am.eC]
  |cons y ys =>
   simp only[Am.eC,xq]at h;rw[Q2 x y h.1,Ge xs ys h.2]
end
inductive i6(rt:RT)(s:aL)(st cQ:St):Prop
 |skip (hc:s.gK=B2) (hw:cT s st.tm=B1 B2) (h:cQ=⟨dW s.dst .undef st.tm,st.aV,st.up,st.H⟩)
 |run (hc:s.gK=B2) (hw:cT s st.tm=B1 B4) (vs:List AV) (v:AV) (d:List aK) (u:Option aA) (H':ar) (he:kS st.tm s.args=B1 vs) (ho:gO rt st vs s.op=B1 (.val v d u H')) (h:cQ=⟨dW s.dst v st.tm,d,u,H'⟩)
 |look (hc:s.gK=B4) (d:Nat) (hd:s.dst=B1 d) (h:cQ=st) (hl:cT s st.tm=B1 B2\/(cT s st.tm=B1 B4 /\ ∃vs,kS st.tm s.args=B1 vs/\pC (λ t=>t.get d) st vs s.op=B4))
def th(rt:RT)(steps:List aL)(sts:Nat->St)(M:Nat)(r:aS×St):Prop :=
 (M=steps.length/\r=(.normal,sts M)) \/
 ∃s vs c H' ds,steps[M]? = B1 s/\s.gK=B2/\cT s (sts M).tm=B1 B4/\kS (sts M).tm s.args=B1 vs/\gO rt (sts M) vs s.op=B1 (.panic c H')/\s.cq=B1 ds /\
  r=(.panic c,⟨forget ds (sts M).tm,(sts M).aV,(sts M).up,H'⟩)
def i1{rt:RT}:∀{steps:List aL}{st:St}{r:aS×St},(gh steps).run rt st=B1 r ->
 ∃(sts:Nat->St)(M:Nat),sts 0=st/\M<=steps.length/\(∀p,p<M -> ∃s,steps[p]? = B1 s/\i6 rt s (sts p) (sts (p+1)))/\th rt steps sts M r
 |[],st,r,h=>by
  cases h;exact⟨λ _=>st,0,rfl,qg _,λ p hp=>by omega,.inl ⟨rfl,rfl⟩⟩
 |s::l,st,r,h=>by
  have h:(fV s).run rt ((gh l).run rt) st=B1 r:=h;have e:∀cQ,i6 rt s st cQ->(gh l).run rt cQ=B1 r -> ∃(sts:Nat->St)(M:Nat),sts 0=st/\M<=(s::l).length/\(∀p,p<M -> ∃i,(s::l)[p]? = B1 i/\i6 rt i (sts p) (sts (p+1)))/\th rt (s::l) sts M r:=by
   intro cQ hr hl;have⟨sts,M,x,y,z,t⟩:=i1 hl;refine⟨λ p=>match p with|0=>st|p+1=>sts p,M+1,rfl,by grind,λ p hp=>?_,?_⟩
   .grind
   .rcases t with⟨m,n⟩|⟨i,vs,c,H',ds,m,n⟩
    .exact .inl ⟨by simp[m],n⟩
    .exact .inr ⟨i,vs,c,H',ds,by simpa using m,n⟩
  cases f:s.gK with
  |false =>
   rw[RY s f,qd]at h;have⟨w,hw,h⟩:=h;cases w with
   |false =>
    simp only[ze]at h;exact e _ (.skip f hw rfl) h
   |true =>
    simp only[xg,qd]at h;have⟨vs,g,q,o,h⟩:=h;cases q with
    |val v d u H'=>exact e _ (.run f hw vs v d u H' g o rfl) h
    |panic c H' =>
     simp only[rP,qd,qe]at h;obtain⟨ds,k,rfl⟩:=h;exact⟨λ _=>st,0,rfl,xu _,λ p hp=>by omega,.inr ⟨s,vs,c,H',ds,rfl,f,hw,g,o,k,rfl⟩⟩
  |true =>
   cases j:s.dst with
   |none=>grind [Wj]
   |some d =>
    rw[YY s f j,qd]at h;have⟨w,hw,h⟩:=h;cases w with
    |false =>
     simp only[ze]at h;exact e st (.look f d j rfl (.inl hw)) h
    |true =>
     simp only[xg,qd]at h;have⟨vs,g,h⟩:=h;rcases ju h with⟨hk,h⟩|⟨_,h⟩
     .exact e st (.look f d j rfl (by grind)) h
     grind
theorem Wy:∀{ys:List bE}{tm c:T AV},(∀t∈tmpsOf ys,tm.get t=c.get t)->kS tm ys=kS c ys
 |[],_,_,_=>rfl
 |y::ys,tm,c,h=>by
  have e:pN tm y=pN c y:=by
   cases y with
   |tmp t=>exact h t (by simp[tmpsOf])
   |const v=>rfl
   |dV g=>rfl
   |func f=>rfl
  have i:kS tm ys=kS c ys:=Wy (λ t d=>h t (by cases y<;>simp[tmpsOf,d]))
  grind [kS]
section
variable{P:Fv}{base:Nat}{D:Nat->Prop}{θ:Th}{H:ar}{w:J3}{a:Act}{tm:T AV}
def HN(m:HR P base D θ H w){x:IY}{y:bE}(n:∀t∈tmpsOf [y],∀v,tm.get t=B1 v -> ∃c,a.tmps[t]? = B1 c/\VR D θ v c)(d:pJ P.globals.size x=B1 y){v:AV}(e:pN tm y=B1 v):VR D θ v (a.eval x):=by
 cases x with
 |tmp t =>
  cases d;have⟨c,h,i⟩:=n t (by simp[tmpsOf]) v e
  simpa[Act.eval,h]using i
 |const k =>
  simp only[pJ,qd,qe]at d;obtain⟨u,hu,rfl⟩:=d;cases e;exact OD hu
 |global g =>
  simp only[pJ]at d;split at d
  .rename_i hg;cases d;cases e;have⟨h,i,j⟩:=m.dV g (by simp_all);have:=VR.ptr (θ:=θ) (o:=0) h;rw[i,j]at this;exact this
  grind
 |func f =>
  cases d;cases e;exact λ _ _=>rfl
def B8(f:HR P base D θ H w):∀{xs:List IY}{ys:List bE},(∀t∈tmpsOf ys,∀v,tm.get t=B1 v -> ∃c,a.tmps[t]? = B1 c/\VR D θ v c)->mH P.globals.size xs=B1 ys -> ∀{vs:List AV},kS tm ys=B1 vs->bH D θ vs (xs.map a.eval)
 |[],ys,ht,hc,vs,hv=>by
  cases hc;cases hv;exact .nil
 |x::xs,ys,ht,hc,vs,hv=>by
  simp only[mH,qd,qe]at hc;obtain⟨y,i,k,e,rfl⟩:=hc;simp only[kS,qd,qe]at hv;obtain⟨v,g,j,h,rfl⟩:=hv;refine .cons (HN f (λ t d=>ht t ?_) i g) (B8 f (λ t d=>ht t ?_) e h)
  .cases y<;>simp[tmpsOf]at d⊢;omega
  .cases y<;>simp[tmpsOf,d]
def xhk{ops:Array KW}{o:KW}{s:aL}(hg:guardOf ops o.guard=B1 s.guard){tm:T AV}{a:Array Hm}(f:∀g,s.guard=B1 g -> ∀v,tm.get g.1=B1 v -> ∃c,a[g.1]? = B1 c/\VR D θ v c){q:Bool}(h:cT s tm=B1 q) :
 A1 o (yielded ops a)=q:=by
 cases d:s.guard with
 |none =>
  exact QY (D:=D) (θ:=θ) (tm:=T.nil) (a:=a) (q:=q) hg (λ t v e=>by rw[T.get_nil]at e;cases e) (by unfold cT at h⊢;rw[d]at h⊢;exact h)
 |some g =>
  -- a table that holds the guard's slot alone
  refine QY (D:=D) (θ:=θ) (tm:=(T.nil:T AV).put g.1 (tm.get g.1)) (a:=a) (q:=q) hg (λ t v e=>?_) ?_
  .grind [T.i4,T.get_nil]
  simp_all[cT,T.i4]
end
end Go.Am
namespace Go.Am
structure RG(P:Fv)(rt:RT)(nt:Nat)(ops:Array KW)(l:List (List bE×eT))(plan:List (Bool×Nat))(sts:Nat->St)(M:Nat):Prop where
 comp:cS (ops.toList.map (fE P))=B1 l
 Ko:ops.toList.all (nG nt)=B4
 cU:ux (aQ ops l) plan
 len:M<=plan.length
 rel:∀p,p<M -> ∃q s o ca g,plan[p]? = B1 q/\ops[q.2]? = B1 o/\fE P o=B1 ca/\l[q.2]? = B1 ca/\guardOf ops o.guard=B1 g/\s.gK=q.1/\s.dst=o.dst/\s.guard=g/\s.args=ca.1/\s.op=ca.2/\i6 rt s (sts p) (sts (p+1))
 mono:∀p,p<M->Ext (sts p).H (sts (p+1)).H
section
variable{P:Fv}{rt:RT}{nt:Nat}{ops:Array KW}{l:List (List bE×eT)}{plan:List (Bool×Nat)}{sts:Nat->St}{M:Nat}
def RG.ext(R:RG P rt nt ops l plan sts M):∀{p p':Nat},p<=p'->p'<=M->Ext (sts p).H (sts p').H:=by
 intro p p' h c
 induction p' with
 |zero=>grind [Ext.refl]
 |succ k ih =>
  by_cases e:p=k+1
  .grind [Ext.refl]
  .exact (ih (by omega) (by omega)).trans (R.mono k (by omega))
def RG.kept(R:RG P rt nt ops l plan sts M){t:Nat}:∀{p p':Nat},p<=p'->p'<=M->(∀u j:Nat,p<=u->u<p'->plan[u]? = B1 (B2,j)->gD ops j≠B1 t)->(sts p').tm.get t=(sts p).tm.get t:=by
 intro p p' h z hw
 induction p' with
 |zero=>grind
 |succ k ih =>
  by_cases e:p=k+1
  .grind
  .rw [<-ih (by omega) (by omega) (λ u j m r=>hw u j m (by omega))];have⟨⟨c,i⟩,s,o,ca,g,m,r,A,B,C,E,x,F,G,q,hr⟩:=R.rel k (by omega);have n:∀v,c=B2->(dW s.dst v (sts k).tm).get t=(sts k).tm.get t:=λ v f=>by
    subst f;have:=hw k i (by omega) (by omega) m;rw[x];cases y:o.dst with
    |none=>rfl
    |some d =>
     simp_all[gD,dW,T.aH]
   cases hr with
   |skip f hw' h=>grind
   |run f hw' vs v d u H' he ho h=>grind
   |look f d y h hl=>rw[h]
def RG.qT(R:RG P rt nt ops l plan sts M):∀{p p':Nat},p<=p'->p'<=M->(∀u j:Nat,p<=u->u<p'->plan[u]? = B1 (B2,j)->(aQ ops l).cls j≠ .fT) ->
 (sts p').aV=(sts p).aV/\(sts p').up=(sts p).up /\ ∀b o,(sts p').H.get b=B1 o->(sts p).H.get b=B1 o \/
  ∃j u:Nat,p<=u/\u<p'/\plan[u]? = B1 (B2,j)/\(aQ ops l).cls j=.alloc/\(sts u).H.au<(sts (u+1)).H.au/\b=(sts u).H.au/\(sts (u+1)).H.get b=B1 o:=by
 intro p p' h N hw
 induction p' with
 |zero=>grind
 |succ k ih =>
  by_cases e:p=k+1
  .grind
  .have ⟨G,I,J⟩:=ih (by omega) (by omega) (λ u j t A=>hw u j t (by omega));have⟨⟨c,i⟩,s,o,ca,g,t,A,O,B,Q,C,S,U,V,x,hr⟩:=R.rel k (by omega);have F:∀b o,(sts k).H.get b=B1 o->(sts p).H.get b=B1 o \/ ∃j u:Nat,p<=u/\u<k+1/\plan[u]? = B1 (B2,j)/\(aQ ops l).cls j=.alloc/\(sts u).H.au<(sts (u+1)).H.au/\b=(sts u).H.au/\(sts (u+1)).H.get b=B1 o:=λ b o hb=>by
    rcases J b o hb with hb|⟨j,u,K,W,L⟩
    .grind
    .exact .inr ⟨j,u,K,by omega,L⟩
   cases hr with
   |skip hc hw' h=>grind
   |look hc d hd h hl=>grind
   |run hc hw' vs v d u H' he ho h =>
    have y:c=false:=C.symm.trans hc;subst y;have n:=hw k i (by omega) (by omega) t;have r:(aQ ops l).cls i=oX ca.2:=by simp[aQ,mq,B]
    rw[r]at n;rw[x]at ho;rw[h];cases q:ca.2 with
    |pure f =>
     grind [gO,qd]
    |read f =>
     grind [gO,qd]
    |alloc f =>
     rw[q]at ho;simp only[gO,qd,qe,ig.val.injEq]at ho;obtain⟨⟨X,mk⟩,_,_,rfl,rfl,rfl⟩:=ho;refine⟨G,I,λ b o hb=>?_⟩;have E:=hb;simp only[ar.bG]at hb;split at hb
     .rename_i z;refine .inr ⟨i,k,by omega,by omega,t,by rw[r,q];rfl,by rw[h];exact zd _,z.symm,by grind⟩
     simp_all
    |fT f=>rw[q]at n;exact absurd rfl n
    |gE f=>rw[q]at n;exact absurd rfl n
    |gF=>rw[q]at n;exact absurd rfl n
    |invoke m=>rw[q]at n;exact absurd rfl n
    |recover=>rw[q]at n;exact absurd rfl n
    |defer=>rw[q]at n;exact absurd rfl n
    |panic=>rw[q]at n;exact absurd rfl n
def RG.at(R:RG P rt nt ops l plan sts M){p i:Nat}(hp:plan[p]? = B1 (B2,i))(d:p<M):∃s o ca,ops[i]? = B1 o/\fE P o=B1 ca/\l[i]? = B1 ca/\guardOf ops o.guard=B1 s.guard/\s.gK=B2/\s.dst=o.dst/\s.args=ca.1/\s.op=ca.2/\i6 rt s (sts p) (sts (p+1)):=by
 have⟨q,s,o,ca,g,e,f,h,j,k,m,n,r,t,c,hr⟩:=R.rel p d
 grind
def RG.look(R:RG P rt nt ops l plan sts M){p i:Nat}(hp:plan[p]? = B1 (B4,i))(d:p<M):∃s o ca,ops[i]? = B1 o/\fE P o=B1 ca/\l[i]? = B1 ca/\guardOf ops o.guard=B1 s.guard/\s.gK=B4/\s.dst=o.dst/\s.args=ca.1/\s.op=ca.2/\i6 rt s (sts p) (sts (p+1)):=by
 have⟨q,s,o,ca,g,e,f,h,j,k,m,n,r,t,c,hr⟩:=R.rel p d
 grind
def RG.still(R:RG P rt nt ops l plan sts M){p i:Nat}(hp:plan[p]? = B1 (B4,i))(c:p<M):sts (p+1)=sts p:=by
 have⟨s,o,ca,_,_,_,_,e,_,_,_,hr⟩:=R.look hp c;cases hr with
 |skip hc'=>grind
 |run hc'=>grind
 |look hc' d hd h hl=>exact h
def RG.Gn(R:RG P rt nt ops l plan sts M){q:Nat}:∀{u:Nat},q<=u->u<=M->(∀v:Nat,q<=v->v<u -> ∃r,plan[v]? = B1 (B4,r))->sts u=sts q:=by
 intro u h d c
 induction u with
 |zero=>grind
 |succ k ih =>
  by_cases e:q=k+1
  .grind
  .have ⟨r,hr⟩:=c k (by omega) (by omega);rw[R.still hr (by omega)]
   grind
end
def DS(D0:Nat->Prop)(plan:List (Bool×Nat))(sts:Nat->St)(M:Nat)(S:List Nat):Nat->Prop:=λ b =>
 D0 b \/ ∃i p:Nat,i∈S/\plan[p]? = B1 (B2,i)/\p<M/\(sts p).H.au<=b/\b<(sts (p+1)).H.au
def Ed(ops:Array KW)(plan:List (Bool×Nat))(sts:Nat->St)(M:Nat)(S:List Nat)(D:Nat->Prop)(θ:Th)(a:Array Hm):Prop :=
 ∀t:Nat,∃p0:Nat,p0<=M/\(∀v,(sts p0).tm.get t=B1 v -> ∃c,a[t]? = B1 c/\VR D θ v c) /\
  (∀j p:Nat,j∈S->plan[p]? = B1 (B2,j)->gD ops j=B1 t->p<p0) /\
  (p0=0 \/ ∃i0 p1:Nat,i0∈S/\plan[p1]? = B1 (B2,i0)/\p0=p1+1/\gD ops i0=B1 t)
structure Inv(P:Fv)(base:Nat)(D0:Nat->Prop)(θ0:Th)(w0:J3)(cs0:List Jj)(b:Jj)(nt:Nat)(rd:Option Nat)(ops:Array KW)(l:List (List bE×eT))(plan:List (Bool×Nat))(sts:Nat->St)(M:Nat)
 (S:List Nat) (q:Nat) (X:ar) (θ:Th) (a:Act) (w:J3) (cs:List Jj):Prop where
 heap:HR P base (DS D0 plan sts M S) θ X w
 grow:bt D0 (sts 0).H θ0 w0 X θ w
 N0:∀b o,(sts q).H.get b=B1 o->X.get b=B1 o
 vD:∀j p:Nat,j∈S->plan[p]? = B1 (B2,j)->(aQ ops l).cls j=.alloc->q<=p->p<M->(sts p).H.au<(sts (p+1)).H.au -> ∀o,(sts (p+1)).H.get (sts p).H.au=B1 o->X.get (sts p).H.au=B1 o
 RW:q<=M
 u4:∀i p:Nat,plan[p]? = B1 (B2,i)->(aQ ops l).cls i=.fT->(p<q↔i∈S)
 last:q=0 \/ ∃e p:Nat,q=p+1/\plan[p]? = B1 (B2,e)/\(aQ ops l).cls e=.fT
 aV:gA (DS D0 plan sts M S) θ (sts q).aV a.defers
 up:oU (DS D0 plan sts M S) θ b.kind (sts q).up cs
 Je:(sts q).up.isSome=(sts 0).up.isSome
 BO:eP (sts 0).up cs0 cs
 sj:Ed ops plan sts M S (DS D0 plan sts M S) θ a.tmps
 size:nt<=a.tmps.size
 round:vU (DS D0 plan sts M S) θ b.roundOf rd
 OY:∀i∈S,∃p:Nat,plan[p]? = B1 (B2,i)/\p<M
 closed:∀i∈S,∀j,((aQ ops l).fA i).testBit j=B4->j∈S
section
variable{P:Fv}{rt:RT}{nt:Nat}{ops:Array KW}{l:List (List bE×eT)}{plan:List (Bool×Nat)}{sts:Nat->St}{M:Nat}
 {base:Nat} {D0:Nat->Prop} {θ0:Th} {w0:J3} {cs0:List Jj} {b:Jj} {rd:Option Nat}
def Sc{i j t:Nat}(c:t∈fN ops l i)(d:gD ops j=B1 t):(aQ ops l).iS i j=true:=by
 show yL ops l i j=B4
 grind [yL,TC]
def DS.app{S:List Nat}{i:Nat}{x:Nat}(h:DS D0 plan sts M S x):DS D0 plan sts M (S ++ [i]) x:=by
 rcases h with h|⟨j,p,d,c⟩
 .exact .inl h
 .exact .inr ⟨j,p,by grind,c⟩
theorem FM(R:RG P rt nt ops l plan sts M){S:List Nat}{q:Nat}{X:ar}{θ:Th}{a:Act}{w:J3}{cs:List Jj}(hI:Inv P base D0 θ0 w0 cs0 b nt rd ops l plan sts M S q X θ a w cs){i p:Nat}(hp:plan[p]? = B1 (B2,i))(s:p<=M)(g:i∉S)
 (y:∀j,((aQ ops l).fA i).testBit j=B4->j∈S) {t:Nat} (C:t∈fN ops l i):∀v,(sts p).tm.get t=B1 v -> ∃c,a.tmps[t]? = B1 c/\VR (DS D0 plan sts M S) θ v c:=by
 have⟨J,L,N,O,B⟩:=hI.sj t;have o:=R.cU.lt p i hp
 -- a writer is an ancestor,or comes later
 have f:∀j p':Nat,plan[p']? = B1 (B2,j)->gD ops j=B1 t->j≠i->((aQ ops l).fA i).testBit j=B4\/((aQ ops l).fA j).testBit i=true:=λ j p' k n d =>
  R.cU.FI i j o (R.cU.lt p' j k) (by omega) (Sc C n)
 have hle:J<=p:=by
  rcases B with rfl|⟨m,K,z,A,rfl,G⟩
  .omega
  .have d:m≠i:=λ e=>g (e▸z);rcases f m K A G d with h|h
   .have ⟨p',I,x⟩:=R.cU.fA p i m hp h;have:=R.cU.one _ _ _ A x;omega
   .exact absurd (hI.closed m z i h) g
 have r:=R.kept (t:=t) hle s (λ u j E F k n=>by
  have d:j≠i:=λ e=>by
   subst e;have:=R.cU.one _ _ _ hp k;omega
  rcases f j u k n d with h|h
  .grind
  .have ⟨p',I,x⟩:=R.cU.fA u j i k h;have:=R.cU.one _ _ _ hp x;omega)
 grind
theorem Ed.put(R:RG P rt nt ops l plan sts M){S:List Nat}{D D':Nat->Prop}{θ θ':Th}{a:Array Hm}(h:Ed ops plan sts M S D θ a)(q:Ag D θ θ')(F:∀x,D x->D' x){i p:Nat}(hp:plan[p]? = B1 (B2,i))(u:p<M)
 (z:∀j,((aQ ops l).fA i).testBit j=B4->j∈S) (r:i∉S) (k:∀i∈S,∀j,((aQ ops l).fA i).testBit j=B4->j∈S) {o:KW} (ho:ops[i]? = B1 o) (I:∃ca,l[i]? = B1 ca) {c:Hm} (hs:nt<=a.size)
 (V:∀d v,o.dst=B1 d->(sts (p+1)).tm.get d=B1 v->VR D' θ' v c) :
 Ed ops plan sts M (S ++ [i]) D' θ' (match o.dst with|some d=>a.setIfInBounds d c|none=>a):=by
 have G:gD ops i=o.dst:=by simp[gD,ho]
 intro t
 by_cases A:o.dst=B1 t
 .refine ⟨p+1,u,λ v n=>?_,λ j p' g f m=>?_,(by grind)⟩
  .rw [A];have J:t<a.size:=by
    have:=R.Ko;rw[EZ]at this;have:=this o (by have:=Array.mem_of_getElem? ho;simpa using this);unfold nG at this;rw[A]at this;simp only[uv]at this;omega
   grind
  .rcases zr.1 g with g|g
   .have K:j≠i:=λ e=>r (e▸g);have s:=R.cU.lt p i hp;have y:t∈fN ops l i:=by
     grind [fN]
    rcases R.cU.FI i j s (R.cU.lt p' j f) (by omega) (Sc y m)with h|h
    .have ⟨Y,X,N⟩:=R.cU.fA p i j hp h;have:=R.cU.one _ _ _ f N;omega
    grind
   .simp at g;subst g;have:=R.cU.one _ _ _ hp f;omega
 .have ⟨O,C,E,Q,U⟩:=h t;refine⟨O,C,λ v n=>?_,λ j p' g f m=>?_,?_⟩
  .have ⟨B,W,L⟩:=E v n;refine⟨B,?_,L.up q F⟩
   grind
  .grind
  grind
end
end Go.Am
namespace Go.Am
def kA(X:ar):List Nat->ar->ar
 |[],H=>H
 |x::l,H=>match X.get x with
  |some o=>kA X l (H.set x o)
  |none=>kA X l H
theorem UL(X:ar):∀(l:List Nat)(H:ar),(kA X l H).au=H.au
 |[],H=>rfl
 |x::l,H=>by
  unfold kA;split
  .rw [UL X l];rfl
  .exact UL X l H
theorem Lf(X:ar):∀(l:List Nat)(H:ar)(y:Nat),(kA X l H).get y=if y∈l/\(X.get y).isSome=B4 then X.get y else H.get y
 |[],H,y=>by simp[kA]
 |x::l,H,y=>by
  unfold kA;split
  .rename_i o ho;rw[Lf X l,ar.aH]
   grind
  .rename_i ho;rw[Lf X l]
   grind
def HR.frame{P:Fv}{base:Nat}{D D0:Nat->Prop}{θ θ0:Th}{H0 H X:ar}{w w0:J3}{D':Nat->Prop}{θ':Th}{H':ar}{w':J3}(m:HR P base D θ X w)(j:bt D0 H0 θ0 w0 X θ w)(L:∀x,D0 x->D x)
 (h:∀b o,H.get b=B1 o->X.get b=B1 o) (G:HR P base D' θ' H' w') (g:bt D H θ w H' θ' w') (J:Ext H H') (V:∀x,D x->D' x) (hn:H0.au<=H'.au) (E:List Nat)
 (hE:∀x∈E,H.get x=B5 /\ ∀o,X.get x=B1 o->own o=B4):HR P base D' θ' (kA X E H') w'/\bt D0 H0 θ0 w0 (kA X E H') θ' w':=by
 have f:∀y o,(kA X E H').get y=B1 o->(y∈E/\X.get y=B1 o)\/(H'.get y=B1 o):=by
  grind [Lf]
 have d:∀x o,X.get x=B1 o -> θ'.bQ x = θ.bQ x:=λ x o s=>(g.ag x (m.obj x o s).1).1;refine⟨⟨λ x o s=>?_,λ x y u n s S r A=>?_,λ x o s ho=>?_,G.dV,G.low⟩,⟨by grind [UL],j.ag.trans g.ag L,xm j.size g.size,g.os.trans j.os,g.tape.trans j.tape,g.output.trans j.output,λ k hk O=>?_,λ x o s ho z=>?_⟩⟩
 .rcases f x o s with⟨v,c⟩|c
  .have ⟨I,co,U,N⟩:=m.obj x o c;refine⟨V x I,co,?_,N.up I g.ag V⟩;rw[d x o c,g.ah _ (m.lt c)]
   .exact U
   .intro y n S R e;have t:=h y n S;refine m.inj y x n o t c R (λ q=>?_) e
    grind
  .exact G.obj x o c
 .rcases f x u s with⟨v,c⟩|c<;>rcases f y n S with⟨Y,i⟩|i
  .rw [d x u c,d y n i];exact m.inj x y u n c i r A
  .rw [d x u c];intro e;rcases J.2 y n i with⟨B,I,_⟩|⟨I,U,N⟩
   .have t:=h y B I;rw[d y B t]at e;exact m.inj x y u B c t r A e
   .have ⟨p,o',C,F,K⟩:=g.news y n i N (by rw[<-e];exact m.lt c);refine m.inj p x o' u (h p o' C) c F (λ q=>?_) (K.trans e.symm)
    grind
  .rw [d y n i];intro e;have⟨p,o',C,F,K⟩:=g.news x u c r (by rw[e];exact m.lt i);refine m.inj p y o' n (h p o' C) i F (λ q=>?_) (K.trans e)
   grind
  .exact G.inj x y u n c i r A
 .rcases f x o s with⟨v,c⟩|c
  .rw [d x o c];exact m.kJ x o c ho
  .exact G.kJ x o c ho
 .rw [g.ah k (qj hk j.size)]
  .exact j.ah k hk O
  .intro b W hb Q e;have⟨p,o',C,F,K⟩:=j.news b W (h b W hb) Q (by omega)
   grind
 .rcases f x o s with⟨v,c⟩|c
  .rw [d x o c]at z⊢;exact j.news x o c ho z
  .have ⟨p,o',C,F,K⟩:=g.news x o c ho (qj z j.size);have⟨Z,o2,k4,k5,k6⟩:=j.news p o' (h p o' C) F (by omega)
   grind
section
variable{P:Fv}{rt:RT}{nt:Nat}{ops:Array KW}{l:List (List bE×eT)}{plan:List (Bool×Nat)}{sts:Nat->St}{M:Nat}
 {base:Nat} {D0:Nat->Prop} {θ0:Th} {w0:J3} {cs0:List Jj} {b:Jj}
def DS.snoc(R:RG P rt nt ops l plan sts M){S:List Nat}{i p:Nat}(hp:plan[p]? = B1 (B2,i))(d:p<M):DS D0 plan sts M (S ++ [i])=Up (DS D0 plan sts M S) (sts p).H.au (sts (p+1)).H.au:=by
 funext x;simp only[eq_iff_iff];constructor
 .rintro (h|⟨j,p',c,e,g,f⟩)
  .exact .inl (.inl h)
  .rcases zr.1 c with c|c
   .exact .inl (.inr ⟨j,p',c,e,g,f⟩)
   .simp at c;subst c;have:=R.cU.one _ _ _ hp e;subst this;exact .inr f
 .rintro (h|h)
  .exact h.app
  .exact .inr ⟨i,p,by simp,hp,d,h⟩
def DS.fresh(R:RG P rt nt ops l plan sts M){S:List Nat}{i p:Nat}(hp:plan[p]? = B1 (B2,i))(c:p<=M)(k:i∉S){n:Nat}(g:dL D0 (sts 0).H.au n){m:Nat}(hm:m<=n)
 (o:p<M->m<=(sts (p+1)).H.au):dL (DS D0 plan sts M S) (sts p).H.au m:=by
 intro x f q d;rcases d with d|⟨j,p',r,s,t,u,v⟩
 .exact g x (xm (R.ext (xu p) c).1 f) (by omega) d
 .rcases Nat.lt_trichotomy p p' with h|h|h
  .have e:=(R.ext (p:=p+1) (p':=p') h (by omega)).1;omega
  .grind
  .have e:=(R.ext (p:=p'+1) (p':=p) h c).1;omega
theorem N5(R:RG P rt nt ops l plan sts M){rd:Option Nat}{S:List Nat}{q:Nat}{X:ar}{θ:Th}{a:Act}{w:J3}{cs:List Jj}(hI:Inv P base D0 θ0 w0 cs0 b nt rd ops l plan sts M S q X θ a w cs){i p:Nat}(hp:plan[p]? = B1 (B2,i))(e:p<=M)(y:i∉S)
 (c:∀j,((aQ ops l).fA i).testBit j=B4->j∈S) (f:q<=p) (d:(aQ ops l).cls i=.read\/(aQ ops l).cls i=.fT) :
 (sts p).aV=(sts q).aV/\(sts p).up=(sts q).up /\ ∀x o,(sts p).H.get x=B1 o->X.get x=B1 o:=by
 have⟨s,t,v⟩:=R.qT f e (λ u j z g m k=>by
  have:=c j (R.cU.made p i u j hp d m g (.inr k));have:=(hI.u4 j u m k).2 this;omega)
 refine⟨s,t,λ x o h=>?_⟩;rcases v x o h with h|⟨j,u,A,B,n,r,C,rfl,E⟩
 .exact hI.N0 x o h
 .exact hI.vD j u (c j (R.cU.made p i u j hp d n B (.inl r))) n r A (by omega) C o E
def L6(R:RG P rt nt ops l plan sts M){rd:Option Nat}{S:List Nat}{q:Nat}{X:ar}{θ:Th}{a:Act}{w:J3}{cs:List Jj}(hI:Inv P base D0 θ0 w0 cs0 b nt rd ops l plan sts M S q X θ a w cs){i p:Nat}(hp:plan[p]? = B1 (B2,i))(f:i∉S)
 (c:(aQ ops l).cls i=.fT):q<=p:=by
 rcases hI.last with h|⟨e,g,rfl,j,k⟩
 .omega
 .refine OE λ m=>?_;have d:=(hI.u4 e g j k).1 (zd _);have n:p≠g:=λ q=>by
   grind
  have:=R.cU.made g e p i j (.inr k) hp (by omega) (.inr c);exact f (hI.closed e d i this)
def af1(R:RG P rt nt ops l plan sts M){rd:Option Nat}{S:List Nat}{q:Nat}{X:ar}{θ:Th}{a:Act}{w:J3}{cs:List Jj}(hI:Inv P base D0 θ0 w0 cs0 b nt rd ops l plan sts M S q X θ a w cs){i p:Nat}(hp:plan[p]? = B1 (B2,i))(hpM:p<M)(J:i∉S)
 (hanc:∀j,((aQ ops l).fA i).testBit j=B4->j∈S) (m:M=plan.length \/ ∃j,plan[M]? = B1 (B2,j)) {o:KW} {ca:List bE×eT} {s:aL} (ho:ops[i]? = B1 o) (L:l[i]? = B1 ca) (hsd:s.dst=o.dst) (hsa:s.args=ca.1) (hso:s.op=ca.2) (hsg:guardOf ops o.guard=B1 s.guard)
 {f:List AV->ar->Option AV} (hf:ca.2=.read f) {vs:List AV} {v:AV} (hw:cT s (sts p).tm=B1 B4) (he:kS (sts p).tm s.args=B1 vs) (hv:f vs (sts p).H=B1 v) (hst:sts (p+1)=⟨dW s.dst v (sts p).tm,(sts p).aV,(sts p).up,(sts p).H⟩) :
 ∃H,(∀x o,H.get x=B1 o->X.get x=B1 o)/\f vs H=B1 v:=by
 have E:(aQ ops l).cls i=.read:=by
  show mq l i=.read
  grind [mq,oX]
 by_cases hqp:q<=p
 .grind [N5]
 .rcases hI.last with h|⟨e,A,rfl,h2,h3⟩
  .omega
  .have I:=(hI.u4 e A h2 h3).1 (zd _);have hne:p≠A:=λ q=>by
    grind
   have N:((aQ ops l).fA e).testBit i=false:=by
    cases hb:((aQ ops l).fA e).testBit i with
    |false=>rfl
    |true=>exact absurd (hI.closed e I i hb) J
   have⟨u,k1,V,k3⟩:=R.cU.look A e p i h2 h3 hp (by omega) E N;have O:u<M:=by
    rcases m with m|⟨j,n⟩
    .grind
    .refine OE λ hlt=>?_;have⟨r',hr'⟩:=k3 M (by have:=hI.RW;omega) (by omega)
     grind
   have hsu:sts u=sts (A+1):=R.Gn (q:=A+1) (by omega) (by omega) (by grind);have⟨W,o',ca',Y,g2,Z,g4,g5,g6,g7,g8,hr⟩:=R.look V O;rw[ho]at Y;cases Y;rw[L]at Z;cases Z;have hgd:W.guard=s.guard:=by grind
   have hin:=R.cU.lt p i hp
   -- nothing that it names is written qT
   have k:=(R.cU.again u i V).2.1;have k:Bg ops l i=true:=k;have hda:gD ops i=o.dst:=by simp[gD,ho]
   have hwr:∀t∈fN ops l i,∀x j:Nat,p+1<=x->x<u->plan[x]? = B1 (B2,j)->gD ops j≠B1 t:=by
    intro t ht x j U z n B;have K:j≠i:=λ e=>by
     subst e;have:=R.cU.one _ _ _ hp n;omega
    have:=(R.cU.again u i V).2.2.2 j x n z K (Sc ht B);have⟨x',hx',y⟩:=R.cU.fA p i j hp this;have:=R.cU.one _ _ _ n y;omega
   have C:∀t∈hJ ops l i,(sts u).tm.get t=(sts p).tm.get t:=by
    intro t ht;have hnd:o.dst≠B1 t:=λ B=>by
     grind [Bg,TC]
    refine R.kept (by omega) (by omega) (λ x j U z n B=>?_)
    grind [fN]
   have hro:hJ ops l i=(match guardOf ops o.guard with|some (B1 g)=>[g.1]|_=>[])++tmpsOf ca.1:=by grind [hJ]
   have hw':cT W (sts u).tm=B1 true:=by
    grind [cT]
   have G:kS (sts u).tm W.args=B1 vs:=by
    grind [Wy]
   cases hr with
   |skip hc'=>grind
   |run hc'=>grind
   |look hc' d B h hl =>
    rcases hl with hl|⟨_,vs',c,hk⟩
    .grind
    .rw [G]at c;injection c with c;subst c
     rw[g8,hf]at hk;unfold pC at hk;simp only at hk;split at hk
     .rename_i v1 v2 Q r;have F:(sts u).tm.get d=B1 v:=by
       have hod:o.dst=B1 d:=by grind
       rw[R.kept (p:=p+1) (t:=d) (by omega) (by omega) (by grind [fN])];simp_all[dW,T.aH]
      rw[F]at r;cases r;have:=Q2 _ _ hk;subst this;exact⟨(sts u).H,λ x o hx=>hI.N0 x o (by grind),Q⟩
     grind
def Ny(a:Act)(d:Option Nat)(c:Hm):(a.put d c).tmps=(match d with|some d=>a.tmps.setIfInBounds d c|none=>a.tmps):=by
 cases d<;>rfl
theorem Zv(a:Act)(d:Option Nat)(c:Hm):(a.put d c).defers=a.defers:=by
 cases d<;>rfl
def Inv.step(R:RG P rt nt ops l plan sts M){rd:Option Nat}{S:List Nat}{q:Nat}{X:ar}{θ:Th}{a:Act}{w:J3}{cs:List Jj}(hI:Inv P base D0 θ0 w0 cs0 b nt rd ops l plan sts M S q X θ a w cs){i p:Nat}(hp:plan[p]? = B1 (B2,i))(L:p<M)(A:i∉S)
 (r:∀j,((aQ ops l).fA i).testBit j=B4->j∈S) {o:KW} (ho:ops[i]? = B1 o) (I:∃ca,l[i]? = B1 ca) (N:(aQ ops l).cls i≠ .fT) {θ':Th} {X':ar} {w':J3} {c:Hm}
 (n:HR P base (DS D0 plan sts M (S ++ [i])) θ' X' w') (m:bt D0 (sts 0).H θ0 w0 X' θ' w') (t:∀x o,(∃d,DS D0 plan sts M S x/\X.get x=B1 d)->X.get x=B1 o->X'.get x=B1 o) (g:Ag (DS D0 plan sts M S) θ θ')
 (U:(aQ ops l).cls i=.alloc->(sts p).H.au<(sts (p+1)).H.au -> ∀o,(sts (p+1)).H.get (sts p).H.au=B1 o->X'.get (sts p).H.au=B1 o)
 (u:∀d v,o.dst=B1 d->(sts (p+1)).tm.get d=B1 v->VR (DS D0 plan sts M (S ++ [i])) θ' v c) :
 Inv P base D0 θ0 w0 cs0 b nt rd ops l plan sts M (S ++ [i]) q X' θ' (a.put o.dst c) w' cs:=by
 have k:∀x,DS D0 plan sts M S x->DS D0 plan sts M (S ++ [i]) x:=λ x h=>h.app;have f:∀x o,X.get x=B1 o->X'.get x=B1 o:=λ x o y=>t x o ⟨o,(hI.heap.obj x o y).1,y⟩ y;refine⟨n,m,λ x o y=>f x o (hI.N0 x o y),λ j p' e s C E F G o' J=>?_,hI.RW,λ O p' K z=>?_,hI.last,?_,oU.up g k hI.up,hI.Je,hI.BO,?_,?_,vU.up g k hI.round,λ j e=>?_,λ j e Q B=>?_⟩
 .rcases zr.1 e with e|e
  .exact f _ _ (hI.vD j p' e s C E F G o' J)
  .simp at e;subst e;have:=R.cU.one _ _ _ hp s
   grind
 .rw [hI.u4 O p' K z]
  grind
 .rw [Zv];exact gA.up g k hI.aV
 .rw [Ny];exact hI.sj.put R g k hp L r A hI.closed ho I hI.size u
 .rw [Ny];have:=hI.size;grind
 .rcases zr.1 e with e|e
  .exact hI.OY j e
  grind
 .rcases zr.1 e with e|e
  .simp [hI.closed j e Q B]
  grind
def Inv.Ft(R:RG P rt nt ops l plan sts M){rd:Option Nat}{S:List Nat}{q:Nat}{X:ar}{θ:Th}{a:Act}{w:J3}{cs:List Jj}(hI:Inv P base D0 θ0 w0 cs0 b nt rd ops l plan sts M S q X θ a w cs){i p:Nat}(hp:plan[p]? = B1 (B2,i))(A:p<M)(z:i∉S)
 (g:∀j,((aQ ops l).fA i).testBit j=B4->j∈S) {o:KW} (ho:ops[i]? = B1 o) (I:∃ca,l[i]? = B1 ca) (y:(aQ ops l).cls i=.fT) {θ':Th} {X':ar} {w':J3} {cs':List Jj} {c:Hm} {ds:List Deferred}
 (m:HR P base (DS D0 plan sts M (S ++ [i])) θ' X' w') (k:bt D0 (sts 0).H θ0 w0 X' θ' w') (s:∀x o,(sts (p+1)).H.get x=B1 o->X'.get x=B1 o)
 (F:∀j p':Nat,j∈S->plan[p']? = B1 (B2,j)->(aQ ops l).cls j=.alloc->p+1<=p'->p'<M->(sts p').H.au<(sts (p'+1)).H.au -> ∀o,(sts (p'+1)).H.get (sts p').H.au=B1 o->X'.get (sts p').H.au=B1 o)
 (t:Ag (DS D0 plan sts M S) θ θ') (L:gA (DS D0 plan sts M (S ++ [i])) θ' (sts (p+1)).aV ds) (K:oU (DS D0 plan sts M (S ++ [i])) θ' b.kind (sts (p+1)).up cs') (E:(sts (p+1)).up.isSome=(sts 0).up.isSome) (r:eP (sts 0).up cs0 cs')
 (C:∀d v,o.dst=B1 d->(sts (p+1)).tm.get d=B1 v->VR (DS D0 plan sts M (S ++ [i])) θ' v c) :
 Inv P base D0 θ0 w0 cs0 b nt rd ops l plan sts M (S ++ [i]) (p+1) X' θ' (({a with defers:=ds}:Act).put o.dst c) w' cs':=by
 have B:∀x,DS D0 plan sts M S x->DS D0 plan sts M (S ++ [i]) x:=λ x h=>h.app;have Y:=L6 R hI hp z y;refine⟨m,k,s,λ j p' f N O Q U V o' W=>?_,A,λ J p' n u=>?_,(by grind),?_,K,E,r,?_,?_,vU.up t B hI.round,λ j f=>?_,λ j f Z G=>?_⟩
 .grind
 .constructor
  .intro h
   by_cases e:p'=p
   .grind
   .have:=g J (R.cU.made p i p' J hp (.inr y) n (by omega) (.inr u))
    grind
  .intro h;rcases zr.1 h with h|h
   .have:=(hI.u4 J p' n u).2 h;omega
   .simp at h;subst h;have:=R.cU.one _ _ _ hp n;omega
 .grind [Zv]
 .rw [Ny];exact hI.sj.put R t B hp A g z hI.closed ho I hI.size C
 .rw [Ny];have:=hI.size;grind
 .rcases zr.1 f with f|f
  .exact hI.OY j f
  grind
 .rcases zr.1 f with f|f
  .simp [hI.closed j f Z G]
  grind
def ZP(R:RG P rt nt ops l plan sts M){rd:Option Nat}{S:List Nat}{q:Nat}{X:ar}{θ:Th}{a:Act}{w:J3}{cs:List Jj}(hI:Inv P base D0 θ0 w0 cs0 b nt rd ops l plan sts M S q X θ a w cs){i p:Nat}(hp:plan[p]? = B1 (B2,i))(f:p<=M)(e:i∉S)
 (c:∀j,((aQ ops l).fA i).testBit j=B4->j∈S) {o:KW} {ca:List bE×eT} {s:aL} (ho:ops[i]? = B1 o) (r:l[i]? = B1 ca) (h:s.args=ca.1) (k:guardOf ops o.guard=B1 s.guard) :
 (∀{wd:Bool},cT s (sts p).tm=B1 wd->A1 o (yielded ops a.tmps)=wd) /\
 ∀{xs:List IY},mH P.globals.size xs=B1 ca.1 -> ∀{vs:List AV},kS (sts p).tm s.args=B1 vs->bH (DS D0 plan sts M S) θ vs (xs.map a.eval):=by
 have u:hJ ops l i=(match guardOf ops o.guard with|some (B1 g)=>[g.1]|_=>[])++tmpsOf ca.1:=by grind [hJ]
 have n:∀t∈hJ ops l i,t∈fN ops l i:=λ t y=>by grind [fN]
 refine⟨λ{wd}hw=>xhk (D:=DS D0 plan sts M S) (θ:=θ) k (λ g hg v x=>?_) hw,λ{xs}m{vs}d=>?_⟩
 .exact FM R hI hp f e c (by grind) v x
 .rw [h]at d;exact B8 hI.heap (by grind [FM]) m d
end
end Go.Am
namespace Go.Am
section
variable{P:Fv}{rt:RT}{nt:Nat}{ops:Array KW}{l:List (List bE×eT)}{plan:List (Bool×Nat)}{sts:Nat->St}{M:Nat}
 {base:Nat} {D0:Nat->Prop} {θ0:Th} {w0:J3} {cs0:List Jj} {b:Jj}
def RG.made(R:RG P rt nt ops l plan sts M){p j:Nat}(hp:plan[p]? = B1 (B2,j))(k:p<M)(c:(aQ ops l).cls j=.alloc)(r:(sts p).H.au<(sts (p+1)).H.au):∃n,(sts (p+1)).H.get (sts p).H.au=B1 n:=by
 have⟨s,o,ca,ho,q,i,z,x,y,t,m,h⟩:=R.at hp k;have g:(aQ ops l).cls j=oX ca.2:=by simp[aQ,mq,i]
 rw[g]at c;cases h with
 |look hc=>grind
 |skip hc hw hst=>grind
 |run hc hw vs v d u H' he hop hst =>
  rw[m]at hop;cases e:ca.2 with
  |alloc f =>
   rw[e]at hop;simp only[gO,qd,qe,ig.val.injEq]at hop;obtain⟨⟨n,mk⟩,_,_,rfl,rfl,rfl⟩:=hop;simp_all[ar.bG]
  |_=>rw[e]at c;cases c
set_option maxHeartbeats 1000000 in
def xfm(R:RG P rt nt ops l plan sts M)(hP:dB P)(hcall:yq P base rt.call)(hround:vz P base rt.round)(hAP:rt.AP=aU P){S:List Nat}{q:Nat}{X:ar}{θ:Th}{a:Act}{w:J3}{cs:List Jj}
 (hI:Inv P base D0 θ0 w0 cs0 b nt rt.ctx.round ops l plan sts M S q X θ a w cs) {i p:Nat} (hp:plan[p]? = B1 (B2,i)) (A:p<M) (y:i∉S) (t:∀j,((aQ ops l).fA i).testBit j=B4->j∈S) {n:Nat} (hfr:dL D0 (sts 0).H.au n)
 (hMn:(sts M).H.au<=n) (hend:M=plan.length \/ ∃j,plan[M]? = B1 (B2,j)) (h0:∀x o,(sts 0).H.get x=B1 o->D0 x) {k:List Item} {rest:List Nat} :
 ∃q' X' θ' a' w' cs',Steps P (lone (b.atR a (.inRegion ops (i::rest)::k)) cs w) (lone (b.atR a' (.inRegion ops rest::k)) cs' w')/\Inv P base D0 θ0 w0 cs0 b nt rt.ctx.round ops l plan sts M (S ++ [i]) q' X' θ' a' w' cs':=by
 have⟨s,o,ca,ho,hco,L,hsg,hsc,hsd,hsa,hso,hrel⟩:=R.at hp A;have⟨xs,hxs,W,hdef⟩:=Jm hP hco;have⟨hwant,hopd⟩:=ZP R hI hp (by omega) y t ho L hsa hsg;have hcls:(aQ ops l).cls i=oX ca.2:=by simp[aQ,mq,L]
 have hsn:=DS.snoc (D0:=D0) R (S:=S) hp A;have hnle:(sts (p+1)).H.au<=n:=xm (R.ext (p:=p+1) (p':=M) A (qg _)).1 hMn;have K:=DS.fresh R (S:=S) hp (by omega) y hfr (m:=(sts (p+1)).H.au) hnle (λ _=>qg _)
 -- no block bears a number that is to come
 have V:∀p1 p2:Nat,p1<=p2->p2<M->(sts p2).H.au<(sts (p2+1)).H.au->(sts p1).H.get (sts p2).H.au=none:=by
  intro p1 p2 I h2 h3;cases hg:(sts p1).H.get (sts p2).H.au with
  |none=>rfl
  |some o' =>
   exfalso;have e0:=(R.ext (p:=0) (p':=p2) (by omega) (by omega)).1;have e1:=(R.ext (p:=p1) (p':=p2) I (by omega)).1;have e2:=(R.ext (p:=p2+1) (p':=M) h2 (qg _)).1;rcases(R.ext (p:=0) (p':=p1) (by omega) (by omega)).2 _ _ hg with⟨o'',Y,_⟩|⟨_,h8,_⟩
   .exact hfr _ e0 (by omega) (h0 _ _ Y)
   .omega
 cases hrel with
 |look hc=>rw[hsc]at hc;cases hc
 |skip hc hw hst =>
  have hwf:=hwant hw;have hsk:=stepR_op_skip (P:=P) (b:=b) (a:=a) (k:=k) (cs:=cs) (w:=w) (ops:=ops) (i:=i) (rest:=rest) (by simp[ho,hwf]);rw[ho]at hsk;have g:DS D0 plan sts M (S ++ [i])=DS D0 plan sts M S:=by rw[hsn,hst];exact Up.none
  by_cases e:(aQ ops l).cls i=.fT
  .have ⟨k1,k2,k3⟩:=N5 R hI hp (by omega) y t (L6 R hI hp y e) (.inr e);have B:=hI.Ft R (cs':=cs) (ds:=a.defers) hp A y t ho ⟨ca,L⟩ e (θ':=θ) (X':=X) (w':=w) (c:=undef) (by rw[g];exact hI.heap) hI.grow (λ x o' z=>by rw[hst]at z;exact k3 x o' z)
    (λ j p' hj hj2 hj3 hj4 hj5 hj6 o' N=>hI.vD j p' hj hj2 hj3 (by have:=L6 R hI hp y e;omega) hj5 hj6 o' N) (Ag.refl _ _) (by rw[g,hst];simp only;rw[k1];exact hI.aV) (by rw[g,hst];simp only;rw[k2];exact hI.up)
    (by rw[hst];simp only;rw[k2];exact hI.Je) hI.BO (λ d v hd hv=>by
     rw[hst,hsd,hd]at hv;simp only[dW,T.aH,rR,qe]at hv;subst hv;exact .undef)
   exact⟨_,_,_,_,_,_,.one hsk,B⟩
  .have B:=hI.step R hp A y t ho ⟨ca,L⟩ e (θ':=θ) (X':=X) (w':=w) (c:=undef) (by rw[g];exact hI.heap) hI.grow (λ x o' _ z=>z) (Ag.refl _ _) (λ _ O=>by rw[hst]at O;exact absurd O (ES _))
    (λ d v hd hv=>by
     rw[hst,hsd,hd]at hv;simp only[dW,T.aH,rR,qe]at hv;subst hv;exact .undef)
   exact⟨_,_,_,_,_,_,.one hsk,B⟩
 |run hc hw vs v d u H' he hop hst =>
  have hwt:=hwant hw;have hv:=hopd hxs he;rw[hso]at hop;have Z:∀(x:AV),(∀dd v',o.dst=B1 dd->(sts (p+1)).tm.get dd=B1 v'->v'=v):=by
   intro _ dd v' hd G;rw[hst,hsd,hd]at G;simp only[dW,T.aH,rR,qe]at G;exact G.symm
  have hnd:ca.2≠ .defer->ca.2≠ .pure Op.fail->o.semAt b.roundOf a.eval=execOp a.eval o:=λ q1 q2=>Aa _ _ _ (by
   rcases hdef with h|h|h
   .exact h
   .exact absurd h q1
   .exact absurd h q2)
  by_cases e:oX ca.2=.fT
  .-- an effect
   have hce':(aQ ops l).cls i=.fT:=by rw[hcls];exact e
   have hqp:=L6 R hI hp y hce';have⟨k1,k2,k3⟩:=N5 R hI hp (by omega) y t hqp (.inr hce');have J:(sts (p+1)).H=H':=by rw[hst]
   have hout:=SA hP hcall hround hAP W hdef (rest:=rest) (k:=k) (st:=sts p) (cs:=cs) (r:=.val v d u H') ho hwt (hI.heap.sub k3) (by rw[k1];exact hI.aV) (by rw[k2];exact hI.up) hI.round hv hop (by rw[J]at K;exact K);have⟨θ',w',c,cs',ds,U,g2,g3,g4,g5,g6,g7,g8⟩:=hout;have hext:Ext (sts p).H H':=by rw[<-J];exact R.mono p A
   have g:DS D0 plan sts M (S ++ [i])=Up (DS D0 plan sts M S) (sts p).H.au H'.au:=by rw[hsn,J]
   -- what was made ahead of its time
   let Q:Nat->Prop:=λ p'=>p+1<=p' /\ ∃j,j∈S/\plan[p']? = B1 (B2,j)/\(aQ ops l).cls j=.alloc/\(sts p').H.au<(sts (p'+1)).H.au
   let E:List Nat:=((Ig M).filter (λ p'=>@decide (Q p') (Classical.propDecidable _))).map (λ p'=>(sts p').H.au)
   have hEm:∀x,x∈E↔ ∃p',p'<M/\Q p'/\x=(sts p').H.au:=by
    intro x;simp only[E,CD,List.mem_filter,List.mem_range,decide_eq_true_eq];constructor
    .rintro ⟨p',⟨I,h2⟩,rfl⟩;exact⟨p',I,h2,rfl⟩
    .rintro ⟨p',I,h2,rfl⟩;exact⟨p',⟨I,h2⟩,rfl⟩
   have hE:∀x∈E,(sts p).H.get x=B5 /\ ∀o,X.get x=B1 o->own o=true:=by
    intro x z;obtain⟨p',I,⟨h2,j,h3,h4,h5,h6⟩,rfl⟩:=(hEm x).1 z;refine⟨V p p' (by omega) I h6,λ o' N=>?_⟩;have⟨ob,hob⟩:=R.made h4 I h5 h6;have:=hI.vD j p' h3 h4 h5 (by omega) I h6 ob hob;rw[N]at this;cases this;rcases(R.mono p' I).2 _ _ hob with⟨o'',Y,_⟩|⟨_,_,h9⟩
    .rw [V p' p' (qg _) I h6]at Y;cases Y
    .exact h9
   have hn0:(sts 0).H.au<=H'.au:=by rw[<-J];exact(R.ext (p:=0) (p':=p+1) (by omega) A).1
   have⟨f1,f2⟩:=hI.heap.frame hI.grow (λ x z=>.inl z) k3 g2 g3 hext Up.of hn0 E hE;rw[<-g]at f1;have hnotE:∀x o',H'.get x=B1 o'->x∉E:=by
    intro x o' z hxE;obtain⟨p',I,⟨h2,j,h3,h4,h5,h6⟩,rfl⟩:=(hEm x).1 hxE;have:=V (p+1) p' h2 I h6;rw[J,z]at this;cases this
   have B:=hI.Ft R (cs':=cs') (ds:=ds) hp A y t ho ⟨ca,L⟩ hce' (θ':=θ') (X':=kA X E H') (w':=w') (c:=c) f1 f2
    (λ x o' z=>by
     rw[J]at z;rw[Lf,qn (λ q=>hnotE x o' z q.1)];exact z)
    (λ j p' hj hj2 hj3 hj4 hj5 hj6 o' N=>by
     have hX:=hI.vD j p' hj hj2 hj3 (by omega) hj5 hj6 o' N;rw[Lf,qv ⟨(hEm _).2 ⟨p',hj5,⟨hj4,j,hj,hj2,hj3,hj6⟩,rfl⟩,by rw[hX];rfl⟩];exact hX)
    g3.ag (by rw[g,hst];exact g5) (by rw[g,hst];exact g7) (by rw[hst];exact(g6.trans (by rw[k2])).trans hI.Je) (eP.trans hI.Je hI.BO (by rw[<-k2];exact g8))
    (λ dd v' hd G=>by rw[g,Z v dd v' hd G];exact g4)
   exact⟨_,_,_,_,_,_,U,B⟩
  .have hnce:(aQ ops l).cls i≠ .fT:=by rw[hcls];exact e
   cases C:ca.2 with
   |pure f =>
    rw[C]at hop W hnd;simp only[gO,qd,qe,ig.val.injEq]at hop;obtain⟨v',I,rfl,rfl,rfl,rfl⟩:=hop;have g:DS D0 plan sts M (S ++ [i])=DS D0 plan sts M S:=by rw[hsn,hst];exact Up.none
    have⟨c,U,g2⟩:=W (DS D0 plan sts M S) θ a.eval w vs v' (NX a) hv I;have F:=hnd (by intro q;cases q) (by intro q;cases q;cases I);have B:=hI.step R hp A y t ho ⟨ca,L⟩ hnce (θ':=θ) (X':=X) (w':=w) (c:=c) (by rw[g];exact hI.heap) hI.grow (λ x o' _ z=>z) (Ag.refl _ _) (λ _ O=>by rw[hst]at O;exact absurd O (ES _))
     (λ dd v'' hd G=>by rw[g,Z v' dd v'' hd G];exact g2)
    refine⟨_,_,_,_,_,_,.one ?_,B⟩;rcases U with U|⟨U,rfl⟩
    .exact GX ho hwt (by rw[F];exact U)
    .exact K4 ho hwt (by rw[F];exact U)
   |read f =>
    have hop0:=hop;rw[C]at hop W hnd;simp only[gO,qd,qe,ig.val.injEq]at hop;obtain⟨v',I,rfl,rfl,rfl,rfl⟩:=hop;have g:DS D0 plan sts M (S ++ [i])=DS D0 plan sts M S:=by rw[hsn,hst];exact Up.none
    have⟨Hr,r1,r2⟩:=af1 R hI hp A y t hend ho L hsd hsa hso hsg C hw he I hst;have⟨c,U,g2⟩:=W base (DS D0 plan sts M S) θ Hr a.eval w vs v' (hI.heap.sub r1) hv r2;have F:=hnd (by intro q;cases q) (by intro q;cases q);have B:=hI.step R hp A y t ho ⟨ca,L⟩ hnce (θ':=θ) (X':=X) (w':=w) (c:=c) (by rw[g];exact hI.heap) hI.grow (λ x o' _ z=>z) (Ag.refl _ _) (λ _ O=>by rw[hst]at O;exact absurd O (ES _))
     (λ dd v'' hd G=>by rw[g,Z v' dd v'' hd G];exact g2)
    refine⟨_,_,_,_,_,_,.one ?_,B⟩;rcases U with U|⟨U,rfl⟩
    .exact GX ho hwt (by rw[F];exact U)
    .exact K4 ho hwt (by rw[F];exact U)
   |alloc f =>
    rw[C]at hop W hnd;simp only[gO,qd,qe,ig.val.injEq]at hop;obtain⟨⟨ob,mk⟩,I,rfl,rfl,rfl,rfl⟩:=hop;have⟨hown,w1,co,ext,c,U,g2,g3⟩:=W.1 (DS D0 plan sts M S) θ a.eval w vs ob mk (NX a) hv I;have F:=hnd (by intro q;cases q) (by intro q;cases q);have g:DS D0 plan sts M (S ++ [i])=Up (DS D0 plan sts M S) (sts p).H.au ((sts p).H.au+1):=by rw[hsn,hst];rfl
    have hn:¬DS D0 plan sts M S (sts p).H.au:=K _ (qg _) (by rw[hst];exact zd _);have hag:=Th.gC θ (sts p).H.au w1.heap.size 0 ext hn;have⟨e1,e2,e3⟩:=Th.dY θ (sts p).H.au w1.heap.size 0 ext;have⟨k1,k2⟩:=g3 (Up (DS D0 plan sts M S) (sts p).H.au ((sts p).H.au+1)) (θ.add (sts p).H.au w1.heap.size 0 ext) (sts p).H.au hag Up.of (.inr ⟨qg _,zd _⟩) (by rw[e1,g2.heap]) e2 e3;have hX1:HR P base (DS D0 plan sts M S) θ {X with au:=(sts p).H.au} w1:=(HR.draw (w':=w1) hI.heap g2.heap).sub (λ x o z=>z);have hG1:bt D0 (sts 0).H θ0 w0 {X with au:=(sts p).H.au} θ w :=
     ⟨(R.ext (p:=0) (p':=p) (by omega) (by omega)).1,hI.grow.ag,hI.grow.size,hI.grow.os,hI.grow.tape,hI.grow.output,hI.grow.ah,hI.grow.news⟩
    have hA1:=hX1.alloc (w':=w1.alloc co) (co:=co) (k:=w1.heap.size) (off:=0) (ext:=ext) (o:=ob) hn (by rw[yP];simp) (λ j hj=>by rw[yP,qn (Im hj)]) (qg _) (by simp) k1;have hG2:=(hG1.trans (bt.draw (D:=DS D0 plan sts M S) (w:=w) (w':=w1) g2.heap g2.os g2.tape g2.output) (λ x z=>.inl z)).trans (bt.alloc (w:=w1) hX1 hn ob co 0 ext) (λ x z=>.inl z);have B:=hI.step R hp A y t ho ⟨ca,L⟩ hnce (θ':=θ.add (sts p).H.au w1.heap.size 0 ext) (X':=({X with au:=(sts p).H.au}:ar).alloc ob) (w':=w1.alloc co) (c:=c) (by rw[g];exact hA1) hG2
     (λ x o' hx1 z=>by
      have⟨_,hx1,_⟩:=hx1;rw[ar.bG,qn (λ q=>hn (by rw[show(sts p).H.au=x from q];exact hx1))];exact z)
     hag
     (λ _ _ o' N=>by
      rw[hst]at N;simp only[ar.bG,rR]at N⊢;exact N)
     (λ dd v'' hd G=>by rw[g,Z (mk (sts p).H.au) dd v'' hd G];exact k2)
    exact⟨_,_,_,_,_,_,.one (GX ho hwt (by rw[F];exact U)),B⟩
   |fT f=>rw[C]at e;exact absurd rfl e
   |gE f=>rw[C]at e;exact absurd rfl e
   |gF=>rw[C]at e;exact absurd rfl e
   |invoke m=>rw[C]at e;exact absurd rfl e
   |recover=>rw[C]at e;exact absurd rfl e
   |defer=>rw[C]at e;exact absurd rfl e
   |panic=>rw[C]at e;exact absurd rfl e
theorem DS.nil:DS D0 plan sts M []=D0:=by
 funext x;simp_all[DS]
def ZQ{i:Nat}:∀{l:List (Bool×Nat)}{x:Bool×Nat},x∈r9 i l -> ∃p':Nat,l[p']? = B1 x /\ ∀u:Nat,u<=p'->l[u]?≠B1 (B2,i)
 |[],x,h=>by grind [r9]
 |(c,j)::l,x,h=>by
  unfold r9 at h;cases hb:(!c && FW j i)with
  |true=>grind
  |false =>
   rw[hb]at h;simp only[ze,j8]at h;have f:(c,j)≠(B2,i):=by
    intro e;simp_all
   rcases h with rfl|h
   .exact ⟨0,rfl,λ u hu=>by
     grind⟩
   .have ⟨p',d,g⟩:=ZQ h;refine⟨p'+1,by simpa using d,λ u hu=>?_⟩
    grind
def DS.below(R:RG P rt nt ops l plan sts M){S:List Nat}{n:Nat}(hn:(sts M).H.au<=n):∀x,DS D0 plan sts M S x->Up D0 (sts 0).H.au n x:=by
 rintro x (h|⟨i,p,e,f,c,d,g⟩)
 .exact .inl h
 .refine .inr ⟨xm (R.ext (p:=0) (p':=p) (by omega) (by omega)).1 d,?_⟩;have:=(R.ext (p:=p+1) (p':=M) c (qg _)).1;omega
def bt.sub{D:Nat->Prop}{H:ar}{θ:Th}{w:J3}{X:ar}{θ':Th}{w':J3}(g:bt D H θ w X θ' w'){H':ar}(hn:H.au<=H'.au)(hs:∀b o,H'.get b=B1 o->X.get b=B1 o):bt D H θ w H' θ' w' :=
 ⟨hn,g.ag,g.size,g.os,g.tape,g.output,g.ah,λ b o hb=>g.news b o (hs b o hb)⟩
def WM(R:RG P rt nt ops l plan sts M){rd:Option Nat}{S:List Nat}{q:Nat}{X:ar}{θ:Th}{a:Act}{w:J3}{cs:List Jj}(hI:Inv P base D0 θ0 w0 cs0 b nt rd ops l plan sts M S q X θ a w cs){t:Nat}
 (d:∀j u:Nat,u<M->plan[u]? = B1 (B2,j)->gD ops j=B1 t->j∈S):∀v,(sts M).tm.get t=B1 v -> ∃c,a.tmps[t]? = B1 c/\VR (DS D0 plan sts M S) θ v c:=by
 have⟨k,e,f,h,i⟩:=hI.sj t;intro v g;refine f v ?_;rw[<-g];exact(R.kept e (qg _) (by grind)).symm
end
section
variable{P:Fv}{rt:RT}{nt:Nat}{ops:Array KW}{l:List (List bE×eT)}{plan:List (Bool×Nat)}{sts:Nat->St}{M:Nat}
 {base:Nat} {D0:Nat->Prop} {θ0:Th} {w0:J3} {cs0:List Jj} {b:Jj}
def xT(R:RG P rt nt ops l plan sts M){S:List Nat}{q:Nat}{X:ar}{θ:Th}{a:Act}{w:J3}{cs:List Jj}(hI:Inv P base D0 θ0 w0 cs0 b nt rt.ctx.round ops l plan sts M S q X θ a w cs)(d:∀i,i<ops.size->i∈S){k:List Item}{m:Machine}
 (hs:Steps P m (lone (b.atR a k) cs w)):Out P base D0 θ0 b nt rt.ctx.round k (sts 0) cs0 w0 m .normal (sts M):=by
 have f:=DS.below R (D0:=D0) (S:=S) (qg (sts M).H.au);have⟨z,s,A⟩:=R.qT hI.RW (qg M) (λ u j C E g B=>by
  have:=(hI.u4 j u g B).2 (d j (R.cU.lt u j g));omega)
 have e:∀x o,(sts M).H.get x=B1 o->X.get x=B1 o:=by
  intro x o h;rcases A x o h with h|⟨j,u,n,r,y,G,I,rfl,J⟩
  .exact hI.N0 x o h
  .exact hI.vD j u (d j (R.cU.lt u j y)) y G n r I o J
 refine⟨θ,a,w,cs,.normal,Ab hs,⟨(hI.heap.sub e).up f,λ t v F=>?_,hI.size,?_,?_,vU.up (Ag.refl _ _) f hI.round⟩,hI.grow.sub (R.ext (p:=0) (p':=M) (by omega) (qg _)).1 e,trivial,by rw[s];exact hI.Je,hI.BO⟩
 .have ⟨c,n,r⟩:=WM R hI (t:=t) (λ j u _ g _=>d j (R.cU.lt u j g)) v F;exact⟨c,n,r.up (Ag.refl _ _) f⟩
 .rw [z];exact gA.up (Ag.refl _ _) f hI.aV
 .rw [s];exact oU.up (Ag.refl _ _) f hI.up
set_option maxHeartbeats 1000000 in
def xfl(R:RG P rt nt ops l plan sts M)(hP:dB P)(C:yq P base rt.call)(A:vz P base rt.round)(hAP:rt.AP=aU P)(hcm:y9 rt.call)(hrm:vR rt.round){steps:List aL}(e:cS (plan.map (iE ops l (Jb ops (aQ ops l) plan)))=B1 steps)
 {r:aS×St} (y:th rt steps sts M r) (hfr:dL D0 (sts 0).H.au r.2.H.au) (hMn:(sts M).H.au<=r.2.H.au) (h0:∀x o,(sts 0).H.get x=B1 o->D0 x) {L:List Nat} (hL:Order (aQ ops l) L) {k:List Item} :
 ∀(rest S:List Nat),L=S++rest -> ∀{q:Nat}{X:ar}{θ:Th}{a:Act}{w:J3}{cs:List Jj}{m:Machine},Inv P base D0 θ0 w0 cs0 b nt rt.ctx.round ops l plan sts M S q X θ a w cs->Steps P m (lone (b.atR a (.inRegion ops rest::k)) cs w) ->
  Out P base D0 θ0 b nt rt.ctx.round k (sts 0) cs0 w0 m r.1 r.2:=by
 have hsl:steps.length=plan.length:=by have:=(wc e).1;simpa using this
 -- where the run ended
 have Q:M=plan.length \/ ∃j,plan[M]? = B1 (B2,j):=by
  rcases y with⟨G,_⟩|⟨s,vs,c,H',ds,G,I,_⟩
  .left;omega
  .right;have:=(wc e).2 _ s G;rw[xr,xh]at this;have⟨⟨ch,j⟩,h3,h4⟩:=this;obtain⟨o,ca,g,_,_,_,rfl⟩:=IZ h4;have I:ch=false:=I;subst I;exact⟨j,h3⟩
 intro rest
 induction rest with
 |nil =>
  intro S B q X θ a w cs m hI hs;rw[zu]at B;have O:∀i,i<ops.size->i∈S:=λ i hi=>B▸hL.all i hi;rcases y with⟨_,rfl⟩|⟨s,vs,c,H',ds,G,I,_⟩
  .exact xT R hI O (hs.trans (.one stepR_region_end))
  .exfalso;rcases Q with h|⟨j,hj⟩
   .rw [jf (by omega)]at G;cases G
   .have ⟨p,Z,hp2⟩:=hI.OY j (O j (R.cU.lt M j hj));have:=R.cU.one _ _ _ hj Z;omega
 |cons i rest ih =>
  intro S B q X θ a w cs m hI hs;have⟨F,z⟩:=hL.fA S i rest B;have hin:i<(aQ ops l).n:=hL.lt i (by rw[B];simp);have⟨p,hp⟩:=R.cU.all i hin
  by_cases hpM:p<M
  .have ⟨q',X',θ',a',w',cs',g1,g2⟩:=xfm R hP C A hAP hI hp hpM F z hfr hMn Q h0 (k:=k) (rest:=rest);exact ih (S ++ [i]) (by rw[B];simp) g2 (hs.trans g1)
  .-- the one that panics
   rcases y with⟨G,_⟩|⟨s,vs,c,H',ds,G,I,hw,he,hop,hps,rfl⟩
   .have:=(qo.1 hp).1;omega
   .have hsM:=(wc e).2 _ s G;rw[xr,xh]at hsM;have⟨⟨ch,i0⟩,h3,h4⟩:=hsM;obtain⟨o,ca,g,ho,Y,hsg,rfl⟩:=IZ h4;have I:ch=false:=I;subst I;have hi0S:i0∉S:=λ h=>by
     have⟨p',Z,hp2⟩:=hI.OY i0 h;have:=R.cU.one _ _ _ h3 Z;omega
    have U:Jb ops (aQ ops l) plan i0=B1 ds:=hps;unfold Jb at U;rcases ju U with⟨hsafe,E⟩|⟨_,E⟩
    .have hii:i=i0:=by
      have:=Ph hsafe i hin;simp only[wl,je]at this;rcases this with h|h|h
      .exact h
      .exfalso;rw[LM]at h;rcases h with h|h
       .simp at h
       .have ⟨p',k1,k2⟩:=ZQ h;have:=R.cU.one _ _ _ hp k1;subst this;exact k2 M (by omega) h3
      .exact absurd (z i0 h) hi0S
     subst hii;have hpe:=R.cU.one _ _ _ hp h3;subst hpe;have hco:fE P o=B1 ca:=by
      have:=(wc R.comp).2 _ ca Y;rw[xr,kz,ho]at this
      simpa using this
     have⟨xs,hxs,hok,hdef⟩:=Jm hP hco;have⟨hwant,hopd⟩:=ZP R (s:={gK:=B2,dst:=o.dst,guard:=g,args:=ca.1,op:=ca.2,cq:=Jb ops (aQ ops l) plan i}) hI hp (qg _) F z ho Y rfl hsg;have hce:(aQ ops l).cls i=.fT:=by
      have:(aQ ops l).cls i=oX ca.2:=by
       have hla':l[i]? = B1 ca:=Y;simp[aQ,mq,hla']
      rw[this];have d:gO rt (sts p) vs ca.2=B1 (.panic c H'):=hop;cases W:ca.2 with
      |pure f=>rw[W]at d;simp only[gO,qd,qe,reduceCtorEq,and_false,exists_false]at d
      |read f=>rw[W]at d;simp only[gO,qd,qe,reduceCtorEq,and_false,exists_false]at d
      |alloc f=>rw[W]at d;simp only[gO,qd,qe,reduceCtorEq,and_false,exists_false]at d
      |_=>rfl
     have hqp:=L6 R hI hp F hce;have⟨k1,k2,k3⟩:=N5 R hI hp (qg _) F z hqp (.inr hce);have N:(sts p).H.au<=H'.au:=hMn;have K:=DS.fresh R (S:=S) hp (qg _) F hfr (m:=H'.au) (qg _) (λ h=>absurd h (ES _));have hout:=SA hP C A hAP hok hdef (rest:=rest) (k:=k) (st:=sts p) (cs:=cs) (r:=.panic c H') ho (hwant hw) (hI.heap.sub k3) (by rw[k1];exact hI.aV) (by rw[k2];exact hI.up) hI.round (hopd hxs he) hop K;have⟨θ',w',ps,todo,g1,g2,g3,g4,g5⟩:=hout;have V:∀x,Up (DS D0 plan sts p S) (sts p).H.au H'.au x->Up D0 (sts 0).H.au H'.au x:=by
      rintro x (h|⟨G,I⟩)
      .exact DS.below R N x h
      .exact .inr ⟨xm (R.ext (p:=0) (p':=p) (by omega) (qg _)).1 G,I⟩
     have J:∀x,DS D0 plan sts p S x->Up D0 (sts 0).H.au H'.au x:=λ x hx=>V x (.inl hx);have hG:=(hI.grow.sub (R.ext (p:=0) (p':=p) (by omega) (qg _)).1 k3).trans g3 (λ x hx=>.inl hx);refine⟨θ',a,w',cs,.panic ps,⟨todo,Ab (hs.trans g1)⟩,⟨g2.up V,λ t v hv=>?_,hI.size,?_,?_,vU.up g3.ag J hI.round⟩,hG,⟨g4,fj.up (Ag.refl _ _) V g5⟩,?_,hI.BO⟩
     .have hv:(forget ds (sts p).tm).get t=B1 v:=hv;rw[T.pF]at hv;split at hv
      .cases hv
      .rename_i hnt;have⟨c',k4,k5⟩:=WM R hI (t:=t) (λ j u hu hj hd=>by
        exfalso;apply hnt;injection E with E
        rw[<-E];unfold gD at hd;rw[qd]at hd;have⟨oj,hoj,hd⟩:=hd;rw[List.mem_filterMap];exact⟨oj,by have:=Array.mem_of_getElem? hoj;simpa using this,hd⟩) v hv
       exact⟨c',k4,k5.up g3.ag J⟩
     .show gA _ θ' (sts p).aV a.defers;rw[k1];exact gA.up g3.ag J hI.aV
     .show oU _ θ' b.kind (sts p).up cs;rw[k2];exact oU.up g3.ag J hI.up
     .show (sts p).up.isSome=(sts 0).up.isSome;rw[k2];exact hI.Je
    .cases E
end
set_option maxHeartbeats 1000000 in
theorem YR{P:Fv}{base:Nat}(U:dB P){rt:RT}(X:rt.AP=aU P)(F:yq P base rt.call)(B:vz P base rt.round)(G:y9 rt.call)(L:vR rt.round):Jd P base rt:=by
 intro nt id ops c m D0 θ0 b k st a cs w r E hr hf;unfold gZ at m;split at m
 .rename_i O;simp only[qd,rR]at m;have⟨l,hl,m⟩:=m;rcases ju m with⟨f,m⟩|⟨_,m⟩
  .simp only[qd,qe]at m;obtain⟨steps,e,rfl⟩:=m;generalize lR (aQ ops l).cls (aQ ops l).fA ops.size (2*ops.size) 0 []=plan at f e;rw[xq]at f;have hF:ux (aQ ops l) plan:=zG rfl rfl f.1 f.2;have hr:(gh steps).run rt st=B1 r:=hr;have⟨sts,M,hs0,hM,Q,y⟩:=i1 hr;have hsl:steps.length=plan.length:=by have:=(wc e).1;simpa using this
   have z:∀p,p<M -> ∃q s o ca g,plan[p]? = B1 q/\ops[q.2]? = B1 o/\fE P o=B1 ca/\l[q.2]? = B1 ca/\guardOf ops o.guard=B1 g/\s.gK=q.1/\s.dst=o.dst/\s.guard=g/\s.args=ca.1/\s.op=ca.2/\i6 rt s (sts p) (sts (p+1)):=by
    intro p hp;have⟨s,V,h2⟩:=Q p hp;have:=(wc e).2 _ s V;rw[xr,xh]at this;have⟨q,h3,W⟩:=this;obtain⟨o,ca,g,ho,A,S,rfl⟩:=IZ W;have n:fE P o=B1 ca:=by
     have:=(wc hl).2 _ ca A;rw[xr,kz,ho]at this
     simpa using this
    exact⟨q,_,o,ca,g,h3,ho,n,A,S,rfl,rfl,rfl,rfl,rfl,h2⟩
   have J:∀p,p<M->Ext (sts p).H (sts (p+1)).H:=by
    intro p hp;have⟨q,s,o,ca,g,_,_,n,_,_,_,_,_,_,hso,h⟩:=z p hp;have⟨xs,_,K,_⟩:=Jm U n;cases h with
    |skip m hw h=>rw[h];exact Ext.refl _
    |look m d hd h hl=>rw[h];exact Ext.refl _
    |run m hw vs v d u H' he ho h =>
     rw[hso]at ho;have:=TT G L K.mono ho;rw[h];exact this
   have R:RG P rt nt ops l plan sts M:=⟨hl,O,hF,by omega,z,J⟩
   have Y:(sts M).H.au<=r.2.H.au:=by
    rcases y with⟨_,rfl⟩|⟨s,vs,c,H',ds,V,_,_,_,hop,_,rfl⟩
    .exact qg _
    .have:=(wc e).2 _ s V;rw[xr,xh]at this;have⟨q,h3,W⟩:=this;obtain⟨o,ca,g,ho,A,S,rfl⟩:=IZ W;have n:fE P o=B1 ca:=by
      have:=(wc hl).2 _ ca A;rw[xr,kz,ho]at this
      simpa using this
     have⟨xs,_,K,_⟩:=Jm U n;exact W4 G L K.mono hop
   have hL:=q0h (ops:=ops) (I:=aQ ops l) rfl (λ i=>rfl) hF (w.tape w.drawn (.order b.fn id));have C:Region.schedule (P.follows .mixedOrders) ops (w.tape w.drawn (.order b.fn id))=Aq .any ops (w.tape w.drawn (.order b.fn id)):=by
    rw[U.mixed];rfl
   subst hs0;have hI:Inv P base D0 θ0 w cs b nt rt.ctx.round ops l plan sts M [] 0 (sts 0).H θ0 a {w with drawn:=w.drawn+1} cs:=by
    have N:DS D0 plan sts M []=D0:=DS.nil;refine⟨by rw[N];exact E.heap.draw rfl,bt.draw rfl rfl rfl rfl,λ x o hx=>hx,λ j p hj=>by simp at hj,xu _,λ i p _ _=>by simp,.inl rfl,by rw[N];exact E.aV,by rw[N];exact E.up,rfl,eP.refl E.up,
     λ t=>⟨0,xu _,λ v hv=>by rw[N];exact E.sj t v hv,λ j p hj=>by simp at hj,.inl rfl⟩,E.size,by rw[N];exact E.round,λ i Z=>by simp at Z,λ i Z=>by simp at Z⟩
   refine xfl R U F B X G L e y hf Y (λ x o hx=>(E.heap.obj x o hx).1) hL _ [] rfl hI (.one ?_);rw[stepR_region_draw,C];rfl
  .cases m;cases hr
 .cases m
end Go.Am
namespace Go.Am
section
variable{P:Fv}{base:Nat}
def Xg:∀(vs:List AV)(i:Nat)(t:T AV)(j:Nat),(iP i vs t).get j=if i<=j/\j<i+vs.length then vs[j-i]? else t.get j
 |[],i,t,j=>by grind [iP]
 |v::vs,i,t,j=>by
  rw[iP,Xg vs (i+1),T.aH]
  grind
def Hg{D:Nat->Prop}{θ:Th}{vs:List AV}{args:Array Hm}(h:bH D θ vs args.toList)(n:Nat):om D θ (iP 0 vs .nil) (args++B9 n undef):=by
 intro t v d;rw[Xg,T.get_nil]at d;split at d
 .rename_i g;rw[Nat.sub_zero]at d;have⟨c,e,f⟩:=h.py d
  grind
 grind
def xE{D:Nat->Prop}{θ:Th}:∀{e:List Nat}{vs:List AV}{cs:List Hm}{tm d:T AV}{a:Array Hm},Io tm e vs=B1 d->bH D θ vs cs->(∀p∈e,p<a.size)->om D θ tm a ->
 cs.length=e.length/\om D θ d ((e.zip cs).foldl (λ tmps(t,x)=>tmps.setIfInBounds t x) a)/\((e.zip cs).foldl (λ tmps(t,x)=>tmps.setIfInBounds t x) a).size=a.size
 |[],[],cs,tm,d,a,h,hv,hp,ht=>by
  cases h;rw[hv.kP];simp_all
 |p::e,v::vs,cs,tm,d,a,h,hv,hp,ht=>by
  obtain⟨c,cs',rfl,f,g⟩:=hv.dR;have⟨i,j,k⟩:=xE (tm:=tm.set p v) (a:=a.setIfInBounds p c) h g (by grind) (ht.put (hp p (by simp)) f);simp_all
 |[],_::_,_,_,_,_,h,_,_,_=>by cases h
 |_::_,[],_,_,_,_,h,_,_,_=>by cases h
def vH(a:Array Hm):ResultVar->Sem Hm
 | .tmp t=>pure (a.getD t undef)
 | .cell x t=>do loadVar t (<-asAddr (a.getD x undef))
def O_(fn:Func)(a:Array Hm):results fn a=(do let vs <-fn.results.mapM (vH a);pure (if h:vs.size=1 then vs[0]else .tuple vs)):=rfl
def _m{D:Nat->Prop}{θ:Th}{H:ar}{w:J3}(q:HR P base D θ H w){tm:T AV}{a:Array Hm}(j:om D θ tm a){r:ResultVar}{rs:List ResultVar}{k:dM}{e:List dM}
 (g:pL P (r::rs)=B1 (k::e)) {v:AV} (d:Jq H tm k=B1 v):pL P rs=B1 e /\ ∃c,(vH a r).run P w=.ok c w/\VR D θ v c:=by
 cases r with
 |tmp t =>
  simp only[pL,qd,qe,zg]at g;obtain⟨l,hl,rfl,rfl⟩:=g;have⟨c,p,f⟩:=j t v d;simp_all[vH]
 |cell x t =>
  simp only[pL,qd,qe,zg]at g;obtain⟨n,hn,l,hl,rfl,rfl⟩:=g;refine⟨hl,?_⟩;have⟨z,A⟩:=O3 (w:=w) hn;cases n with
  |none =>
   simp only[Jq,qd]at d;have⟨u,hu,d⟩:=d;split at d
   .rename_i b o;have⟨c,p,f⟩:=j x _ hu;have⟨m,y,s⟩:=q.ae d;have h:a.getD x undef=.pointer (B1 ⟨θ.bQ b,θ.off b+o,B5⟩):=by
     have:=f.now;simp_all[aq]
    simp_all[vH,asAddr,loadVar]
   grind
  |some n =>
   simp only[Jq,qd]at d;have⟨u,hu,d⟩:=d;split at d
   .rename_i b o;have⟨c,p,f⟩:=j x _ hu;simp only[qd,qe]at d;obtain⟨B,i,rfl⟩:=d;have⟨m,y,s,_⟩:=q.av i;have h:a.getD x undef=.pointer (B1 ⟨θ.bQ b,θ.off b+o,B5⟩):=by
     have:=f.now;simp_all[aq]
    exact⟨.agg m.toArray,by simp_all[vH,asAddr,loadVar],.agg s⟩
   grind
def Y3{D:Nat->Prop}{θ:Th}{H:ar}{w:J3}(f:HR P base D θ H w){tm:T AV}{a:Array Hm}(g:om D θ tm a):∀{rs:List ResultVar}{d:List dM},pL P rs=B1 d -> ∀{vs:List AV},dD H tm d=B1 vs ->
 ∃cs:List Hm,(rs.mapM (vH a)).run P w=.ok cs w/\bH D θ vs cs
 |[],d,hc,vs,hv=>by
  cases hc;cases hv;exact⟨[],by simp,.nil⟩
 |r::rs,d,hc,vs,hv=>by
  obtain⟨n,e,rfl⟩:∃x l,d=x::l:=by
   cases r<;>(grind [pL,qd])<;>grind
  simp only[dD,qd,qe]at hv;obtain⟨v,h,m,i,rfl⟩:=hv;have⟨hl,c,o,j⟩:=_m f g hc h;have⟨cs,p,k⟩:=Y3 f g hl i;refine⟨c::cs,?_,.cons j k⟩;simp_all
def M_{D:Nat->Prop}{θ:Th}{H:ar}{w:J3}(g:HR P base D θ H w){tm:T AV}{a:Array Hm}(i:om D θ tm a){fn:Func}{d:List dM}(f:pL P fn.results.toList=B1 d){vs:List AV}(j:dD H tm d=B1 vs) :
 ∃c,(results fn a).run P w=.ok c w/\VR D θ (iF vs) c:=by
 have⟨cs,n,e⟩:=Y3 g i f j;have hl:=e.length;rw[O_,Array.mapM_eq_mapM_toList];simp only[map_eq_pure_bind,bind_assoc,JX];refine⟨if h:cs.toArray.size=1 then cs.toArray[0]else .tuple cs.toArray,?_,?_⟩
 .simp_all
 .cases vs with
  |nil=>rw[e.kP];exact .tuple .nil
  |cons v vs =>
   cases vs with
   |nil =>
    obtain⟨c,cs',rfl,k,m⟩:=e.dR;rw[m.kP];exact k
   |cons v' vs =>
    have:¬cs.toArray.size=1:=by grind
    rw[dif_neg this];exact .tuple e
def mR(D:Nat->Prop)(θ:Th):Option aA->FrameMode->Prop
 |none,.returning=>True
 |some c,.panicking ps=>c≠[]/\fj D θ c ps
 |_,_=>False
def q22{fr:Jj}{cs:List Jj}{w:J3}{r:Nat}{ds:List Deferred}(hm:fr.mode≠ .run)(d:fr.defers = {target:=.collected r,args:=#[]}::ds)(h:w.heap[r]? = B1 (.deferred (B1 []))) :
 step P (lone fr cs w)=.next (lone {fr with defers:=ds} cs (eO w r (.deferred B5))):=by
 refine step_lone_go ?_;have e:=run_takeDeferred (P:=P) h;cases c:fr.mode with
 |run=>grind
 |returning=>simp[stepG,unwind,c,d,Sem.runT_eq,e];rfl
 |panicking ch=>simp[stepG,unwind,c,d,Sem.runT_eq,e];rfl
def Bb{D:Nat->Prop}{θ:Th}{m:Option aA}{up:aA}{j:Option aA}(h:mi m up=B1 j){u:FrameMode}(hu:pq D θ up u):mR D θ j (settle u):=by
 have f:∀{c:aA}{d:List PanicEntry},fj D θ c d->d.dropWhile (!·.goexit)=[]:=by
  intro c
  induction c with
  |nil=>intro d h;cases d with
   |nil=>rfl
   |cons _ _=>exact h.elim
  |cons e es ih =>
   intro d h;cases d with
   |nil=>rfl
   |cons p d =>
    have⟨⟨_,_,g⟩,i⟩:=h;simp_all
 unfold mi at h;split at h
 .cases h;cases u with
  |run=>exact hu.elim
  |returning=>trivial
  |panicking d=>exact absurd rfl hu.1
 .cases h;cases u with
  |run=>exact hu.elim
  |returning=>cases hu
  |panicking d =>
   have⟨_,hu⟩:=hu;cases d with
   |nil=>exact hu.elim
   |cons p d =>
    have⟨⟨k,n,g⟩,i⟩:=hu;have⟨pv,s,r⟩:=p
    grind [settle,mR]
 .cases h;cases u with
  |run=>exact hu.elim
  |returning=>cases hu
  |panicking d =>
   have⟨o,hu⟩:=hu;cases d with
   |nil=>exact hu.elim
   |cons p d =>
    have q:=hu;have⟨⟨k,n,g⟩,i⟩:=hu;have⟨pv,s,r⟩:=p
    grind [settle,mR]
 grind
def Sj(R:dB P){call:bN}(i:yq P base call)(s:y9 call){fn:Func}{rs:List dM}(z:pL P fn.results.toList=B1 rs){tm:T AV} :
 ∀(ds:List aK){m:Option aA}{D:Nat->Prop}{θ:Th}{H:ar}{w:J3}{r:bF×ar}{fr:Jj}{cs:List Jj},bV call rs tm ds m H=B1 r->HR P base D θ H w->gA D θ ds fr.defers->mR D θ m fr.mode->om D θ tm fr.tmps ->
  P.funcs[fr.fn]? = B1 fn->dL D H.au r.2.au ->
  ∃θ' w' C1 e',Steps P (lone fr cs w) (lone C1 cs w')/\C1.fn=fr.fn/\C1.kind=fr.kind/\C1.going P w' e'/\Nj (Up D H.au r.2.au) θ' r.1 e'/\HR P base (Up D H.au r.2.au) θ' r.2 w'/\bt D H θ w r.2 θ' w'
 |[],m,D,θ,H,w,r,fr,cs,h,hh,d,hm,ht,hf,hfr=>by
  have C:fr.defers=[]:=by
   cases g:fr.defers with
   |nil=>rfl
   |cons _ _=>rw[g]at d;exact d.elim
  cases m with
  |none =>
   simp only[bV,qd,qe]at h;obtain⟨l,hl,rfl⟩:=h;obtain⟨c,h1,h2⟩:=M_ hh ht z hl;have j:fr.mode=.returning:=by
    cases g:fr.mode<;>rw[g]at hm<;>first|rfl|exact hm.elim
   exact⟨θ,w,fr,.returned c,.refl _ _,rfl,rfl,⟨j,C,fn,hf,h1⟩,by rw[Up.none];exact h2,by rw[Up.none];exact hh,.refl _ _ _ _⟩
  |some c =>
   injection h with h;subst h
   cases g:fr.mode with
   |run=>rw[g]at hm;exact hm.elim
   |returning=>rw[g]at hm;exact hm.elim
   |panicking ps =>
    rw[g]at hm;exact⟨θ,w,fr,.panicked ps,.refl _ _,rfl,rfl,⟨g,C,fn,hf⟩,by rw[Up.none];exact hm,by rw[Up.none];exact hh,.refl _ _ _ _⟩
 | .im b::ds,m,D,θ,H,w,r,fr,cs,h,hh,d,hm,ht,hf,hfr=>by
  simp only[bV]at h;split at h
  .rename_i k;obtain⟨hDb,co,J,G,rfl,E⟩:=hh.obj _ _ k;cases G with
   |none=>grind
   |some l' =>
    obtain⟨_,y⟩:=E;have y:l'=[]:=y;subst y;cases g:fr.defers with
    |nil=>rw[g]at d;exact d.elim
    |cons e es =>
     rw[g]at d;obtain⟨⟨_,he⟩,d⟩:=d;subst he;have p:fr.mode≠ .run:=by intro q;rw[q]at hm;cases m<;>exact hm.elim
     have A:=q22 (P:=P) (cs:=cs) p g J;have F:=hh.set (o':=.deferred B5) (co':=.deferred B5) k rfl rfl ⟨B5,rfl,trivial⟩;have B:bt D H θ w (H.set b (.deferred B5)) θ (eO w (θ.bQ b) (.deferred B5)):=bt.set k rfl (hh.lt k);obtain⟨θ',w',C1,e',U,V,k3,k4,k5,k6,k7⟩:=Sj R i s z ds (fr:={fr with defers:=es}) (cs:=cs) h F d hm ht hf hfr;exact⟨θ',w',C1,e',.head A U,V,k3,k4,k5,k6,B.trans k7 (λ _ h=>h)⟩
  grind
 | .fn (.func f) args::ds,m,D,θ,H,w,r,fr,cs,h,hh,d,hm,ht,hf,hfr=>by
  simp only[bV,qd]at h;obtain⟨⟨e,u,H1⟩,S,h⟩:=h;simp only at h;cases e with
  |panic _=>cases h
  |ret v =>
   cases u with
   |none=>cases h
   |some up' =>
    simp only[qd]at h;obtain⟨m',K,h⟩:=h;have o:=XO s h;have n:=(s _ _ _ _ _ _ _ S).1;cases g:fr.defers with
    |nil=>rw[g]at d;exact d.elim
    |cons dd es =>
     rw[g]at d;obtain⟨⟨c,cap,he,h4,h5⟩,d⟩:=d;subst he;have p:fr.mode≠ .run:=by intro q;rw[q]at hm;cases m<;>exact hm.elim
     have j:pq D θ (m.getD []) fr.mode:=by
      cases m with
      |none =>
       cases t:fr.mode with
       |run=>grind
       |returning=>rfl
       |panicking ps=>rw[t]at hm;exact hm.elim
      |some ch =>
       cases t:fr.mode with
       |run=>grind
       |returning=>rw[t]at hm;exact hm.elim
       |panicking ps=>rw[t]at hm;exact hm
     obtain⟨⟨fn2,c2,U,V⟩,θ',w',cs',fr2,e',s1,s2,s3,s4,Y,s6,O,s8,s9,N⟩:=i D θ H w f args (c++cap) (B1 (m.getD [])) H1 (.ret v) (B1 up') .deferred ({fr with defers:=es}::cs) hh h5 ⟨rfl,j⟩ S (hfr.left o);obtain⟨Q,rfl⟩:=s9;have A:=step_defer (P:=P) (cs:=cs) p g (f:=f) (args:=c++cap) rfl (by
      show(callFunc f (c++cap)).run P w=_
      grind [MT])
     cases e' with
     |panicked _=>exact Y.elim
     |outgrown=>exact Y.elim
     |returned cv =>
      have x:=step_going_returned (P:=P) (c:={{fr with defers:=es}with mode:=Q}) (cs:=cs) s2 s4;have L:=Bb K N.2;obtain⟨θ2,w2,I,Z,r1,r2,r3,r4,W,X,r7⟩:=Sj R i s z ds (fr:={{{fr with defers:=es}with mode:=Q}with mode:=settle Q}) (cs:=cs) h s6 (gA.up O.ag Up.of d) L (ht.up O.ag Up.of) hf (hfr.right n);rw[Up.up n o]at W X;exact⟨θ2,w2,I,Z,.head A (s1.trans (.head x r1)),r2,r3,r4,W,X,O.trans r7 Up.of⟩
 | .fn (.yield _) _::_,m,D,θ,H,w,r,fr,cs,h,_,_,_,_,_,_=>by grind [bV]
def xcq(N:dB P){call:bN}{n:Nat}(j:yq P base call)(o:y9 call)(r:vz P base (rounds (aU P) call n n))(F:vR (rounds (aU P) call n n))
 (O:∀rt:RT,rt.AP=aU P->yq P base rt.call->vz P base rt.round->y9 rt.call->vR rt.round->Jd P base rt):yq P base (EG (aU P) call n):=by
 intro D θ H w f vs args up H' e R kind cs hh hv hu h S;simp only[EG,qd]at h;have⟨af,i,⟨x,cQ⟩,U,h⟩:=h;simp only[aU,qd]at i;have⟨fn,E,i⟩:=i;have s:=i;simp only[rT,qd,qe]at s;obtain⟨body,y,⟨ac,L⟩,A,rs,Q,rfl⟩:=s;refine⟨(by grind),?_⟩;have C:∃m,(match x with| .normal=>m=B5| .ret=>m=B5| .panic c=>m=B1 c|_=>False) /\ ∃q,bV call rs cQ.tm cQ.aV m cQ.H=B1 q/\e=q.1/\R=cQ.up/\H'=q.2:=by
  grind [oK,qd]
 obtain⟨m,hm,⟨e1,H1⟩,G,rfl,rfl,rfl⟩:=C;have g:=XO o G;have B:=(sn N body A).1;have d:H.au<=cQ.H.au:=JA (rt:=⟨aU P,call,rounds (aU P) call n n,n,⟨B5,f⟩⟩) o F B U
 let b:Frame:={(default:Jj)with fn:=f,kind:=kind}
 have p:Frame.enter P f args kind=b.atR {tmps:=args++B9 (fn.ntmps-args.size) undef,defers:=[]} [.code body]:=by
  simp[Frame.enter,Ap,E,y,b];rfl
 have hS:SR P base D θ b fn.ntmps B5 {tm:=iP 0 vs .nil,aV:=[],up:=up,H:=H} {tmps:=args++B9 (fn.ntmps-args.size) undef,defers:=[]} cs w :=
  ⟨hh,Hg hv _,by grind,trivial,hu,rfl⟩
 have t:=vY (rt:=⟨aU P,call,rounds (aU P) call n n,n,⟨B5,f⟩⟩) N j r rfl o F (by grind) E i body A (by grind) (b:=b) (k:=[]) hS rfl U (S.left g);rw[<-p]at t;have⟨θ1,z,w1,u,v,K,I,Y,J,Z,h6⟩:=t
 -- the frame that unwinds
 obtain⟨fr,k1,k2,k3,k4,k5,k6⟩:∃fr:Jj,Steps P (lone (Frame.enter P f args kind) cs w) (lone fr u w1)/\fr.fn=f/\fr.kind=kind/\fr.defers=z.defers/\fr.tmps=z.tmps/\mR (Up D H.au cQ.H.au) θ1 m fr.mode:=by
  cases x with
  |normal =>
   have hm:m=none:=hm;subst hm;cases v<;>try exact J.elim
   exact⟨{b.atR z []with mode:=.returning},(AL K).trans (.one (stepR_end rfl)),rfl,rfl,rfl,rfl,trivial⟩
  |ret =>
   have hm:m=none:=hm;subst hm;cases v<;>try exact J.elim
   have⟨todo,hs⟩:=K.1 rfl;exact⟨{b.atR z todo with mode:=.returning},AL hs,rfl,rfl,rfl,rfl,trivial⟩
  |panic c =>
   have hm:m=B1 c:=hm;subst hm;cases v<;>try exact J.elim
   rename_i ps;have⟨todo,hs⟩:=K;exact⟨{b.atR z todo with mode:=.panicking ps},AL hs,rfl,rfl,rfl,rfl,J⟩
  |exit _=>grind
  |goto _=>grind
 have⟨θ',w',C1,e',r1,r2,r3,r4,V,W,X⟩:=Sj N j o Q cQ.aV (fr:=fr) (cs:=u) G I.heap (by rw[k4];exact I.aV) k6 (by rw[k5];exact I.sj) (by grind) (S.right d);rw[Up.up d g]at V W;refine⟨θ',w',u,C1,e',k1.trans r1,r3.trans k3,r2.trans k2,r4,V,W,Y.trans X Up.of,Z,h6,?_⟩;have:=oU.up (D':=Up (Up D H.au cQ.H.au) cQ.H.au H'.au) X.ag Up.of I.up
 grind [Up.up]
def xdy(hP:dB P){call:bN}{m n:Nat}(y:yq P base call)(E:y9 call)(s:vz P base (rounds (aU P) call m n))(F:vR (rounds (aU P) call m n))
 (S:∀rt:RT,rt.AP=aU P->yq P base rt.call->vz P base rt.round->y9 rt.call->vR rt.round->Jd P base rt):vz P base (rounds (aU P) call m (n+1)):=by
 intro D θ H w l vs args H' e c cs hh hv h hf;simp only[rounds,roundOf]at h;split at h
 .rename_i ls pd f k tm d hget;simp only[qd]at h;have⟨af,B,lp,hlp,tm1,K,⟨x,cQ⟩,hq,h⟩:=h;simp only[aU,qd]at B;have⟨fn,hfn,B⟩:=B;obtain⟨R,co,hco,r,rfl,r1,r2,r3,r4,⟨z,af',lp',ka,kb,L1,L2,q1,q2,q3,q4,q5,q6,q7,q8,q9,q10⟩,r6,r7⟩:=hh.obj _ _ hget;have:z=fn:=by grind
  subst this;have:af'=af:=by grind
  subst this;have:lp'=lp:=by grind
  subst this;rw[q4]at K;have⟨z1,z2,z3⟩:=xE K hv (λ p hp=>qj (q5 p hp) q6) r4;have hsz:args.size=r.params.size:=by simpa using z1
  have hzip:(r.params.zip args).foldl (λ tmps(t,x)=>tmps.setIfInBounds t x) r.tmps=(r.params.toList.zip args.toList).foldl (λ tmps(t,x)=>tmps.setIfInBounds t x) r.tmps:=by
   grind [Array.toList_zip]
  have hy:=run_yield (P:=P) (args:=args) hco hsz;refine⟨r.fn,_,r.assign,r.body,hy,?_⟩;rw[hzip];generalize(r.params.toList.zip args.toList).foldl (λ tmps(t,x)=>tmps.setIfInBounds t x) r.tmps=tmps at z2 z3;cases x with
  |exit _=>cases h
  |goto _=>cases h
  |ret=>cases h
  |panic _=>cases h
  |normal =>
  simp only[qd]at h;have⟨H2,hb,⟨x2,i⟩,hq2,h⟩:=h;rcases ju h with⟨hnd,h⟩|⟨_,h⟩
  .have hma:=(sn hP r.assign q7).1;have hmb:=(sn hP r.body q9).1;have hm1:H.au<=cQ.H.au:=JA (rt:=⟨aU P,call,rounds (aU P) call m n,m,⟨B1 l,f⟩⟩) E F hma hq;have hm2:H2.au<=i.H.au:=JA (rt:=⟨aU P,call,rounds (aU P) call m n,m,⟨B1 l,f⟩⟩) E F hmb hq2;have hbn:H2.au=cQ.H.au:=w_ hb;have hend:H'.au=i.H.au:=by
    grind [DZ,qd,q8i]
   let b:Frame:={(default:Jj)with fn:=r.fn,kind:=.normal,roundOf:=B1 (θ.bQ l)}
   have hb0:Frame.round (θ.bQ l) r.fn tmps r.assign r.body .normal=b.atR {tmps:=tmps,defers:=[]} [.code r.assign,.beginRound,.code r.body]:=by
    simp[Frame.round,Ap,b]
   have hS:SR P base D θ b z.ntmps (B1 l) {tm:=tm1,aV:=[],up:=B5,H:=H} {tmps:=tmps,defers:=[]} (c::cs) w :=
    ⟨hh,z2,by grind,trivial,rfl,R,rfl⟩
   have hdr:=S ⟨aU P,call,rounds (aU P) call m n,m,⟨B1 l,f⟩⟩ rfl y s E F;have⟨θ1,a1,w1,cs1,s1,s2,s3,s4,s5⟩:=(vY (rt:=⟨aU P,call,rounds (aU P) call m n,m,⟨B1 l,f⟩⟩) hP y s rfl E F hdr hfn B r.assign q7 q8 (b:=b) (k:=[.beginRound,.code r.body]) hS r3 hq (hf.left (by grind))).normal;rw[<-hb0]at s1;have hcs1:cs1=c::cs:=s5;subst hcs1
   -- the round iH
   have C:θ1.bQ l = θ.bQ l:=(s3.ag l R).1;unfold beginRound at hb;split at hb
   .rename_i I f1 U J d1 o;cases hb;obtain⟨hDl1,co1,Z,rl,rfl,y1,y2,y3,y4,y5,y6,y7⟩:=s2.heap.obj _ _ o;have hset:=s2.heap.set (o':=.loop .busy I f1 U J d1) (co':=.loop {rl with state:=.busy}) o rfl rfl ⟨_,rfl,rfl,y2,y3,y4,y5,y6,y7⟩;have X:bt (Up D H.au cQ.H.au) cQ.H θ1 w1 (cQ.H.set l (.loop .busy I f1 U J d1)) θ1 (eO w1 (θ1.bQ l) (.loop {rl with state:=.busy})):=bt.set o rfl (s2.heap.lt o);have Y:=run_beginRound (P:=P) Z y1;rw[C]at Y;have hst2:=stepR_beginRound (P:=P) (b:=b) (a:=a1) (k:=[.code r.body]) (cs:=c::cs) (w:=w1) rfl Y;have hS2:SR P base (Up D H.au cQ.H.au) θ1 b z.ntmps (B1 l) {cQ with H:=cQ.H.set l (.loop .busy I f1 U J d1)} a1 (c::cs) (eO w1 (θ1.bQ l) (.loop {rl with state:=.busy})) :=
     ⟨hset,s2.sj,s2.size,s2.aV,s2.up,s2.round⟩
    have hf2:dL (Up D H.au cQ.H.au) cQ.H.au i.H.au:=(hend▸hf).right hm1;have⟨θ2,a2,w2,cs2,W,v1,v2,v3,v4,v5,v6⟩:=vY (rt:=⟨aU P,call,rounds (aU P) call m n,m,⟨B1 l,f⟩⟩) hP y s rfl E F hdr hfn B r.body q9 q10 (b:=b) (k:=[]) hS2 r3 hq2 hf2;have hcs2:cs2=c::cs:=by
     simp_all[eP]
    subst hcs2;have hnx:({cQ with H:=cQ.H.set l (.loop .busy I f1 U J d1)}:St).H.au=cQ.H.au:=rfl;rw[hnx]at v2 v4;have hupp:Up (Up D H.au cQ.H.au) cQ.H.au i.H.au=Up D H.au H'.au:=by grind [Up.up]
    rw[hupp]at v2 v4;have A:bt D H θ w i.H θ2 w2:=(s3.trans X Up.of).trans v3 Up.of;have u:Steps P (lone (Frame.round (θ.bQ l) r.fn tmps r.assign r.body .normal) (c::cs) w) (lone (b.atR a1 [.code r.body]) (c::cs) (eO w1 (θ1.bQ l) (.loop {rl with state:=.busy}))):=by
     refine s1.trans (.one ?_);rw[hst2,C];rfl
    have hdfs:a2.defers=[]:=by
     have:=v2.aV;cases hq3:i.aV with
     |nil =>
      rw[hq3]at this;cases hq4:a2.defers with
      |nil=>rfl
      |cons _ _=>rw[hq4]at this;exact this.elim
     |cons _ _=>simp only[hq3]at hnd;cases hnd
    have g:∀(ls:lP)(p:Option gH),cA i.H l ls p=B1 H'->(UW ls=if(p.map lG).isNone then LoopState.ready else LoopState.done) ->
     ∃G,(Instr.endRound (θ.bQ l) (p.map lG)).run P w2=.ok (.bool (p.map lG).isNone) G/\HR P base (Up D H.au H'.au) θ2 H' G/\bt D H θ w H' θ2 G:=by
     intro ls p hs hls;unfold cA at hs;split at hs
     .rename_i ls2 pd2 f2 k2 V d2 q;cases hs;obtain⟨hDl2,co2,hco2,rl2,rfl,y1',y2',y3',y4',y5',y6',y7'⟩:=v2.heap.obj _ _ q;have v:θ2.bQ l = θ.bQ l:=(A.ag l R).1;have her:=run_endRound (P:=P) (p.map lG) hco2;rw[v]at her;refine⟨_,her,?_,?_⟩
      .have:=v2.heap.set (o':=.loop ls p f2 k2 V d2) (co':=.loop {rl2 with state:=if(p.map lG).isNone then .ready else .done,pending:=p.map lG}) q rfl rfl ⟨_,rfl,hls.symm,rfl,y3',y4',y5',y6',y7'⟩;rw[v]at this;exact this
      .have:bt (Up D H.au (i.H.set l (.loop ls p f2 k2 V d2)).au) i.H θ2 w2 (i.H.set l (.loop ls p f2 k2 V d2)) θ2 (eO w2 (θ2.bQ l) (.loop {rl2 with state:=if(p.map lG).isNone then .ready else .done,pending:=p.map lG})):=bt.set q rfl (v2.heap.lt q);rw[v]at this;exact A.trans this Up.of
     grind
    unfold DZ at h;cases x2 with
    |panic ch =>
     cases h;cases W<;>try exact v4.elim
     rename_i ps;have⟨todo,hs⟩:=v1;refine⟨θ2,w2,c.raise ps,u.trans ((AL hs).trans (.one ?_)),⟨ps,v4.1,v4.2,rfl⟩,v2.heap,A⟩;exact step_leave_panicked (fr:={b.atR a2 todo with mode:=.panicking ps}) ⟨rfl,hdfs,z,by show P.funcs[r.fn]? = B1 z;grind⟩
    |normal =>
     simp only[qd,qe,xx]at h;obtain⟨H3,Q,rfl,rfl⟩:=h;have⟨G,L,N,O⟩:=g _ _ Q rfl;cases W<;>try exact v4.elim
     exact⟨θ2,G,_,u.trans ((AL v1).trans (.one (stepR_round_end rfl rfl L))),⟨_,.bool _,rfl⟩,N,O⟩
    |ret =>
     simp only[qd,qe,xx]at h;obtain⟨H3,Q,rfl,rfl⟩:=h;have⟨G,L,N,O⟩:=g _ _ Q rfl;cases W<;>try exact v4.elim
     have⟨U,hs⟩:=v1.2 rfl;exact⟨θ2,G,_,u.trans ((AL hs).trans (.one (stepR_round_ret rfl rfl L))),⟨_,.bool _,rfl⟩,N,O⟩
    |exit id =>
     simp only[qd,qe,xx]at h;obtain⟨H3,Q,rfl,rfl⟩:=h;have⟨G,L,N,O⟩:=g _ _ Q rfl;cases W<;>try exact v4.elim
     rename_i j;have v4:j=id:=v4;subst v4;have⟨U,hx,hs⟩:=v1.2 rfl rfl;exact⟨θ2,G,_,u.trans ((AL hs).trans (.one (stepR_round_exit rfl rfl hx L))),⟨_,.bool _,rfl⟩,N,O⟩
    |goto t =>
     simp only[qd,qe,xx]at h;obtain⟨H3,Q,rfl,rfl⟩:=h;have⟨G,L,N,O⟩:=g _ _ Q rfl;cases W<;>try exact v4.elim
     rename_i j;have v4:j=t:=v4;subst v4;have⟨U,hx,hs⟩:=v1.2 rfl rfl;exact⟨θ2,G,_,u.trans ((AL hs).trans (.one (stepR_round_goto rfl rfl hx L))),⟨_,.bool _,rfl⟩,N,O⟩
   grind
  grind
 grind
def S2(i:dB P){call:bN}{m:Nat}(d:yq P base call)(g:y9 call)
 (f:∀rt:RT,rt.AP=aU P->yq P base rt.call->vz P base rt.round->y9 rt.call->vR rt.round->Jd P base rt):∀n,vz P base (rounds (aU P) call m n)
 |0=>by intro D θ H w l vs args H' e c cs _ _ h;cases h
 |n+1=>xdy i d g (S2 i d g f n) (NB (Sw i) g m n) f
def RP(d:dB P)(c:∀rt:RT,rt.AP=aU P->yq P base rt.call->vz P base rt.round->y9 rt.call->vR rt.round->Jd P base rt){told:bN}(i:yq P base told)(g:y9 told):∀n,yq P base (iZ (aU P) told n)
 |0=>i
 |n+1=>by
  have o:=RP d c i g n;have hm:=V8 (Sw d) g n;have hs:=xcq d o hm (S2 d o hm c n) (NB (Sw d) hm n n) c;intro D θ H w f vs args up H' e p kind cs k m hu h j;simp only[iZ]at h;split at h
  .rename_i r hr;cases h;exact i D θ H w f vs args up _ _ _ kind cs k m hu hr j
  .exact hs D θ H w f vs args up _ _ _ kind cs k m hu h j
end
end Go.Am
namespace Go.Am
open Go.RowKit
def ET(H:ar):Prop:=∀b o,H.get b=B1 o->own o=B2
def bt.below{D:Nat->Prop}{H H':ar}{θ θ':Th}{w w':J3}(g:bt D H θ w H' θ' w')(hg:ET H):Below w.heap.size w w' :=
 ⟨g.os,g.tape,g.output,g.size,λ k hk=>g.ah k hk λ b o hb ho=>by rw[hg b o hb]at ho;cases ho⟩
variable{P:Fv}
end Go.Am
namespace Go.Am
section
variable{H:Type}
def HK(P:Fv)(rec:IV->MC H->Option (List AV)):Nat->List (IV×Nat)->List (MC H)->Option (List AV)
 |_,[],[]=>B1 []
 |k,(t,off)::ts,d::ds=>if off=k then(rec t d).bind λ l=>if l.length=P.cellsOf t then(HK P rec (k+P.cellsOf t) ts ds).bind λ r=>B1 (l++r)else B5 else B5
 |_,_,_=>B5
def nK(P:Fv):Nat->IV->MC H->Option (List AV)
 |0,_,_=>B5
 |n+1,t,d=>match P.underlying t,d with
  |some .bool,.lit (.bool b)=>B1 [.bool b]
  |some (.int _),.lit (.int k i)=>B1 [.int k i]
  |some .string,.lit (.string s)=>B1 [.str s]
  |some (.pointer _),.nil=>B1 [.nilp]
  |some (.slice _),.nil=>B1 [.nils]
  |some (.map _ _),.nil=>B1 [.kT]
  |some (.struct fs),.agg ds=>(HK P (nK P n) 0 (fs.toList.map λ f=>(f.type,f.offset)) ds).bind λ l=>if l.length=P.cellsOf t then B1 l else B5
  |some (.array m e),.agg ds=>(HK P (nK P n) 0 ((Ig m).map λ i=>(e,i*P.cellsOf e)) ds).bind λ l=>if l.length=P.cellsOf t then B1 l else B5
  |_,_=>B5
variable{P:Fv}{enc:IV×Hm->H}{w:J3}{base:Nat}{sp:Nat->Bool}{held:Bool}
def Tp(θ:Th){rec:IV->MC H->Option (List AV)}{g:IV->List Hm->Option (MC H×List AA)}(c:∀t d l cs p,rec t d=B1 l->g t cs=B1 (d,p)->bO θ l=cs){cs:List Hm} :
 ∀{k:Nat}{ts:List (IV×Nat)}{ds:List (MC H)}{l:List AV}{xs:List (MC H×List AA)},HK P rec k ts ds=B1 l->ts.mapM (λ x=>g x.1 ((cs.drop x.2).take (P.cellsOf x.1)))=B1 xs->xs.map (·.1)=ds ->
  bO θ l=(cs.drop k).take l.length
 |k,[],ds,l,xs,h,hm,e=>by
  grind [HK,bO]
 |k,(t,off)::ts,ds,l,xs,h,hm,e=>by
  cases ds with
  |nil=>grind [HK]
  |cons d ds =>
   simp only[HK]at h;split at h
   .rename_i ho;subst ho;simp only[qd]at h;have⟨l0,i,h⟩:=h;split at h
    .rename_i hlen;simp only[qd,qe]at h;obtain⟨l1,j,rfl⟩:=h;simp only[List.mapM_cons,Option.bind_eq_bind,qd,Option.pure_def,qe]at hm;obtain⟨y,m,ys,f,rfl⟩:=hm;simp only[jm,zg]at e;obtain⟨rfl,e⟩:=e;have n:=c t y.1 l0 _ y.2 i m;have o:=Tp θ c j f e
     grind [vP,FU]
    grind
   grind
def tS{α:Type}{f:α->IV×Nat}{fuel:Nat}{l:List α}{cs:List Hm}{xs:List (MC H×List AA)}
 (h:l.mapM (λ a=>Jv enc P w base sp held fuel (f a).1 ((cs.drop (f a).2).take (P.cellsOf (f a).1)))=B1 xs) :
 (l.map f).mapM (λ x=>Jv enc P w base sp held fuel x.1 ((cs.drop x.2).take (P.cellsOf x.1)))=B1 xs:=by
 rw[List.mapM_map];exact h
theorem m0(θ:Th):∀(n:Nat){t:IV}{d:MC H}{l:List AV},nK P n t d=B1 l -> ∀{fuel:Nat}{cs:List Hm}{p:List AA},Jv enc P w base sp held fuel t cs=B1 (d,p)->bO θ l=cs
 |0,_,_,_,h,_,_,_,_=>by cases h
 |n+1,t,d,l,h,0,cs,p,ht=>by cases ht
 |n+1,t,d,l,h,fuel+1,cs,p,ht=>by
  have j:∀t d l cs p,nK P n t d=B1 l->Jv enc P w base sp held fuel t cs=B1 (d,p)->bO θ l=cs:=λ t d l cs p c o=>m0 θ n c o;simp only[nK]at h;split at h
  .rename_i b hu;cases h;simp only[Jv,hu]at ht
   grind [bO,aq]
  .rename_i k' k i hu;cases h;simp only[Jv,hu]at ht
   grind [bO,aq]
  .rename_i s hu;cases h;simp only[Jv,hu]at ht;split at ht<;>first|grind|skip
   all_goals first|(simp_all[bO,aq];done)|skip
   split at ht
   .simp only[qe,xx,MC.lit.injEq,Lit.string.injEq]at ht;obtain⟨rfl,_⟩:=ht;rfl
   grind
  .rename_i hu;cases h;simp only[Jv,hu]at ht
   grind [bO,aq,xh]
  .rename_i hu;cases h;simp only[Jv,hu]at ht
   grind [bO,aq,qd,xh]
  .rename_i hu;cases h;simp only[Jv,hu]at ht
   grind [bO,aq,qd]
  .rename_i fs ds hu;simp only[qd]at h;have⟨r,c,h⟩:=h;split at h
   .rename_i hlen;cases h;simp only[Jv,hu]at ht;split at ht
    .rename_i g;have⟨xs,hm,q⟩:=xh.1 ht;have e:=Tp θ j c (tS (f:=λ f:Field=>(f.type,f.offset)) hm) (by grind)
     grind
    grind
   grind
  .rename_i m e ds hu;simp only[qd]at h;have⟨r,c,h⟩:=h;split at h
   .rename_i hlen;cases h;simp only[Jv,hu]at ht;split at ht
    .rename_i g;have⟨xs,hm,q⟩:=xh.1 ht;have e:=Tp θ j c (tS (f:=λ i:Nat=>(e,i*P.cellsOf e)) hm) (by grind)
     grind
    grind
   grind
  grind
end
theorem Yj{P:Fv}{w:J3}:∀{laid:List (String×MC Unit)}{c:List AA},MC.LaidVars P w laid c -> ∀{n:String}{d:MC Unit},(n,d)∈laid ->
 ∃g t cs fuel p,P.globalNamed n=B1 g/\(P.globals[g]?).map (·.type)=B1 t/\w.var? P n=B1 cs/\Jv (λ _=>()) P w 0 (λ _=>B4) B2 fuel t cs.toList=B1 (d,p)
 |[],_,_,_,_,h=>by cases h
 |(n',d')::r,c,⟨g,t,cs,fuel,p,q,h1,h2,h3,h4,h5,h6⟩,n,d,h=>by
  rcases j8.1 h with e|h
  .grind
  .exact Yj h5 h
def Cv:List (Nat×List AV)->T bB->T bB
 |[],t=>t
 |(g,l)::r,t=>(Cv r t).set g (.row l 0 (0,0) B2)
def kn(gl:List (Nat×List AV))(n:Nat):ar:=⟨Cv gl .nil,n⟩
def Py:∀{c:List (Nat×List AV)}{b:Nat}{o:bB},(Cv c .nil).get b=B1 o -> ∃l,(b,l)∈c/\o=.row l 0 (0,0) B2
 |[],b,o,h=>by grind [Cv,T.get_nil]
 |(g,l)::r,b,o,h=>by
  rw[Cv,T.aH]at h;split at h
  .grind
  .have ⟨f,d,e⟩:=Py h
   grind
def JT(c:List (Nat×List AV))(n:Nat):ET (kn c n):=λ b o h=>by
 obtain⟨l,_,rfl⟩:=Py h;rfl
def θ0:Th:=⟨id,λ _=>0,λ _=>0⟩
def HR.given{P:Fv}{w:J3}{d:List (Nat×List AV)}{base:Nat}(hb:base<=w.heap.size)(h:∀g l,(g,l)∈d->g<P.globals.size /\ ∃cs e fz,w.heap[g]? = B1 (.cells cs e fz) /\ ∀θ,bO θ l=cs.toList) :
 HR P base (Lt P.globals.size) θ0 (kn d P.globals.size) w:=by
 refine⟨λ b o hg=>?_,λ b k o o' c _ i _=>?_,λ b o c f=>?_,λ g hg=>⟨hg,rfl,rfl⟩,hb⟩
 .obtain ⟨l,c,rfl⟩:=Py hg;have⟨j,cs,e,fz,f,i⟩:=h b l c;exact⟨j,_,f,[],cs.toList,[],fz,e,by simp,rfl,λ θ' _=>i θ',λ h=>by cases h⟩
 .rw [JT d _ b o c]at i;cases i
 .rw [JT d _ b o c]at f;cases f
def xC{P:Fv}{w:J3}{laid:List (String×MC Unit)}(h:laidMet P laid w){n:String}{d:MC Unit}(hm:(n,d)∈laid){g:Nat}{t:IV}{c:Nat}{l:List AV}(hg:P.globalNamed n=B1 g)
 (f:(P.globals[g]?).map (·.type)=B1 t) (hl:nK P c t d=B1 l):g<P.globals.size /\ ∃cs e fz,w.heap[g]? = B1 (.cells cs e fz) /\ ∀θ,bO θ l=cs.toList:=by
 have⟨j,i,_⟩:=h
 grind [Yj,J3.var?,m0]
end Go.Am
namespace Go.Am
open Go.RowKit Go.ChangeShapes
def HR.sO{P:Fv}{w:J3}{d:List (Nat×List AV)}{base n:Nat}{θ:Th}(hb:base<=w.heap.size)(hn:P.globals.size<=n)(m:∀g,g<P.globals.size -> θ.bQ g=g /\ θ.off g=0)
 (h:∀b l,(b,l)∈d->b<n /\ ∃pre cs post e fz,w.heap[θ.bQ b]? = B1 (.cells (pre++cs++post).toArray e fz)/\pre.length = θ.off b/\bH (Lt n) θ l cs) :
 HR P base (Lt n) θ (kn d n) w:=by
 refine⟨λ b o hg=>?_,λ b p o o' c _ i _=>?_,λ b o c f=>?_,λ g hg=>⟨qj hg hn,m g hg⟩,hb⟩
 .obtain ⟨l,c,rfl⟩:=Py hg;have⟨j,pre,cs,post,e,fz,f,i,k⟩:=h b l c;exact⟨j,_,f,pre,cs,post,fz,e,rfl,i,k,λ h=>by cases h⟩
 .rw [JT d _ b o c]at i;cases i
 .rw [JT d _ b o c]at f;cases f
def Bz(P:Fv)(tp:IV):Bool :=
 match P.underlying tp with
 |some (.pointer te)=>match P.underlying te with
  |some (.struct ⟨[f]⟩)=>FW f.offset 0 && (match P.underlying f.type with|some .string=>B4|_=>B2) && FW (P.cellsOf te) 1 && FW (P.cellsOf f.type) 1
  |_=>B2
 |_=>B2
structure M3(P:Fv)(tp:IV):Prop where
 row:∀u,P.typeName? 3 u=B1 "*errors.errorString" -> u=tp
 ok:Bz P tp=B4
def Jk:MC Unit->Option (List UInt8)
 | .iface nm (.ptr (.agg [.lit (.string text)]))=>if nm = "*errors.errorString" then B1 text else B5
 |_=>B5
def xaj{d:MC Unit}{s:List UInt8}(h:Jk d=B1 s):d=.iface "*errors.errorString" (.ptr (.agg [.lit (.string s)])):=by
 unfold Jk at h
 grind
def OO:Option TypeDesc->Bool
 |some (.interface _)=>B4
 |_=>B2
def u2(P:Fv)(x:String×MC Unit):Option (Nat×IV):=(P.globalNamed x.1).bind λ g=>((P.globals[g]?).map (·.type)).map λ t=>(g,t)
def rf(P:Fv)(tp:IV)(i:Nat)(x:String×MC Unit):List (Nat×List AV) :=
 match u2 P x with
 |none=>[]
 |some (g,t)=>match nK P 30 t x.2 with
  |some l=>[(g,l)]
  |none=>match OO (P.underlying t),Jk x.2 with
   |true,B1 s=>[(g,[.iface tp (.ptr i 0)]),(i,[.str s])]
   |_,_=>[]
def rowsOf(P:Fv)(tp:IV):Nat->List (String×MC Unit)->List (Nat×List AV)
 |_,[]=>[]
 |i,x::r=>rf P tp i x++rowsOf P tp (i+1) r
def SQ(P:Fv)(tp:IV)(laid:List (String×MC Unit)):ar:=kn (rowsOf P tp P.globals.size laid) (P.globals.size+laid.length)
def Wn{P:Fv}{tp:IV}:∀{laid:List (String×MC Unit)}{i b:Nat}{l:List AV},(b,l)∈rowsOf P tp i laid -> ∃j x,laid[j]? = B1 x/\(b,l)∈rf P tp (i+j) x
 |[],i,b,l,h=>by cases h
 |x::r,i,b,l,h=>by
  rcases zr.1 h with h|h
  .exact ⟨0,x,rfl,h⟩
  .have ⟨j,y,c,d⟩:=Wn h;exact⟨j+1,y,by simpa using c,by grind⟩
def Xw{P:Fv}{x:String×MC Unit}{g:Nat}{t:IV}(h:u2 P x=B1 (g,t)):P.globalNamed x.1=B1 g/\(P.globals[g]?).map (·.type)=B1 t:=by
 grind [u2,qd]
def qV(P:Fv)(tp:IV)(w:J3)(x:String×MC Unit)(a:Addr):Prop :=
 ∀g t s,u2 P x=B1 (g,t)->OO (P.underlying t)=B4->Jk x.2=B1 s ->
  a.spot=B5/\(∃e fz,w.heap[g]? = B1 (.cells #[.iface tp (.pointer (B1 a))] e fz)) /\ ∃cs e fz,w.heap[a.block]? = B1 (.cells cs e fz)/\cs[a.off]? = B1 (.string ⟨s.toArray⟩)
def EE{P:Fv}{tp:IV}(N:M3 P tp){w:J3}{laid:List (String×MC Unit)}(h:laidMet P laid w){x:String×MC Unit}(Z:x∈laid):∃a,qV P tp w x a:=by
 by_cases X:∃g t s,u2 P x=B1 (g,t)/\OO (P.underlying t)=B4/\Jk x.2=B1 s
 .obtain ⟨g,t,s,K,L,z⟩:=X;obtain⟨k1,k2⟩:=Xw K;have S:=xaj z;obtain⟨k,E,W,i⟩:=h;have key:∀{laid:List (String×MC Unit)}{k:List AA},MC.LaidVars P w laid k->x∈laid ->
   ∃g t cs fuel p,P.globalNamed x.1=B1 g/\(P.globals[g]?).map (·.type)=B1 t/\w.var? P x.1=B1 cs/\Jv (λ _=>()) P w 0 (λ _=>B4) B2 fuel t cs.toList=B1 (x.2,p) /\ ∀q∈AA.row ⟨g,0,B5⟩ cs.size,q∈k:=by
   intro laid
   induction laid with
   |nil=>grind
   |cons y r ih =>
    intro k E hm;obtain⟨g,t,cs,fuel,p,q,n,G,I,o,J,e6⟩:=E
    grind
  obtain⟨g',t',cs,fuel,p,n,G,I,o,J⟩:=key E Z;obtain rfl:=Aw (k1.symm.trans n);obtain rfl:=Aw (k2.symm.trans G);rw[S]at o;obtain⟨ms,V⟩:∃ms,P.underlying t=B1 (.interface ms):=by
   unfold OO at L
   grind
  obtain⟨j,f,hp,he,ho,hs,A,B⟩:∃j f,P.underlying tp=B1 (.pointer j)/\P.underlying j=B1 (.struct #[f])/\f.offset=0/\P.underlying f.type=B1 .string/\P.cellsOf j=1/\P.cellsOf f.type=1:=by
   have:=N.ok;unfold Bz at this;split at this
   .rename_i j Y;split at this
    .rename_i f hf;simp only[xq,je]at this
     grind
    grind
   grind
  have d:=I;unfold J3.var? at d;rw[n]at d;simp only[qm]at d;split at d
  .rename_i c e fz hc;injection d with d;subst d
   have ok:∀u v,c.toList=[.iface u v]->Ac P w .any 0 u v:=λ u v q=>by
    have C:c.size=1:=by simpa using congrArg List.length q
    refine(i g 0 (J _ (by rw[C];simp[AA.row]))).2 u v ?_;have R:c[0]? = B1 (.iface u v):=by rw[<-kz,q];rfl
    grind [World.cell?]
   obtain⟨a,sb,q1,m,q3,q4,_⟩:=errorString_of_trod V N.row hp he rfl ho hs A B o ok;refine⟨a,λ Q t2 s2 r1 r2 r3=>?_⟩;obtain⟨rfl,rfl⟩:g=Q/\t=t2:=by grind
   obtain rfl:=Aw (z.symm.trans r3);refine⟨J3.cell?_spot m,(by grind [Array.eq_one_of_toList]),?_⟩;unfold World.cell? at m;split at m
   .rename_i cs' e' O U;refine⟨_,_,_,U,?_⟩;rw[<-q3];have F:a.spot=B5/\cs'[a.off]? = B1 (.string sb):=by simpa using m
    rw[F.2]
   grind
  grind
 .exact ⟨default,λ g t s K L z=>(by grind)⟩
def rV{P:Fv}{tp:IV}{w:J3}{laid:List (String×MC Unit)}(h:laidMet P laid w)(r:∀x∈laid,∃a,qV P tp w x a) :
 ∃θ:Th,(∀g,g<P.globals.size -> θ.bQ g=g /\ θ.off g=0) /\ ∀b l,(b,l)∈rowsOf P tp P.globals.size laid->b<P.globals.size+laid.length /\ ∃pre cs post e fz,w.heap[θ.bQ b]? = B1 (.cells (pre++cs++post).toArray e fz)/\pre.length = θ.off b/\bH (Lt (P.globals.size+laid.length)) θ l cs:=by
 have c:∀j:Nat,∃a:Addr,∀x,laid[j]? = B1 x->qV P tp w x a:=λ j=>by
  cases f:laid[j]? with
  |none=>simp_all
  |some x =>
   have⟨a,ha⟩:=r x (xl f);exact⟨a,λ y J=>by grind⟩
 have⟨F,p⟩:=Classical.axiomOfChoice c
 let N:=P.globals.size
 refine⟨⟨λ b=>if b<N then b else(F (b-N)).block,λ b=>if b<N then 0 else(F (b-N)).off,λ _=>0⟩,λ g hg=>(by grind),λ b l hm=>?_⟩;have⟨j,x,f,hm⟩:=Wn hm;have v:=(qo.1 f).1;unfold rf at hm;split at hm
 .cases hm
 .rename_i g t k;have⟨A,B⟩:=Xw k;have hg:g<N:=by
   grind
  split at hm
  .rename_i K hl;simp only[z4,xx]at hm;obtain⟨rfl,rfl⟩:=hm;have⟨_,cs,e,fz,I,m⟩:=xC (d:=x.2) (n:=x.1) h (xl f) A B hl;refine⟨(by omega),[],cs.toList,[],e,fz,?_,by simp[hg],λ θ' _=>m θ'⟩;simp_all
  .split at hm
   .rename_i s u hs;have⟨C,⟨e,fz,L⟩,cs,e',i,E,G⟩:=p j x f g t s k u hs;rcases j8.1 hm with hm|hm
    .cases hm;refine⟨(by omega),[],[.iface tp (.pointer (B1 (F j)))],[],e,fz,?_,by grind,?_⟩
     .grind
     .refine .one (.iface ?_);have:=VR.ptr (D:=Lt (N+laid.length)) (θ:=⟨λ b=>if b<N then b else(F (b-N)).block,λ b=>if b<N then 0 else(F (b-N)).off,λ _=>0⟩) (b:=N+j) (o:=0) (by show N+j<_;omega);have hn:¬N+j<N:=by omega
      simp only[hn,y8,vj,zJ]at this;have q:(F j)=⟨(F j).block,(F j).off,B5⟩:=by rw[<-C]
      grind
    .simp only[z4,xx]at hm;obtain⟨rfl,rfl⟩:=hm;have hn:¬N+j<N:=by omega
     have z:=(Oa.1 G).1;refine⟨by omega,cs.toList.take (F j).off,[.string ⟨s.toArray⟩],cs.toList.drop ((F j).off+1),e',i,?_,?_,.one (.str s)⟩
     .show w.heap[if N+j<N then _ else(F (N+j-N)).block]? = _;rw[qn hn,vj,E];congr 2
      grind
     grind
   grind
def HR.rV{P:Fv}{tp:IV}{w:J3}{laid:List (String×MC Unit)}(h:laidMet P laid w)(e:∀x∈laid,∃a,qV P tp w x a){base:Nat}(hb:base<=w.heap.size) :
 ∃θ,HR P base (Lt (P.globals.size+laid.length)) θ (SQ P tp laid) w:=by
 have⟨θ,c,d⟩:=Go.Am.rV h e;exact⟨θ,HR.sO hb (by omega) c d⟩
def HR.laid{P:Fv}{tp:IV}(c:M3 P tp){w:J3}{laid:List (String×MC Unit)}(h:laidMet P laid w){base:Nat}(hb:base<=w.heap.size) :
 ∃θ,HR P base (Lt (P.globals.size+laid.length)) θ (SQ P tp laid) w:=HR.rV h (λ x d=>EE c h d) hb
def sW(laid:List (String×MC Unit)):Bool:=laid.all λ x=>(Jk x.2).isNone
def HR.F7{P:Fv}{tp:IV}{w:J3}{laid:List (String×MC Unit)}(hn:sW laid=B4)(h:laidMet P laid w){base:Nat}(hb:base<=w.heap.size) :
 ∃θ,HR P base (Lt (P.globals.size+laid.length)) θ (SQ P tp laid) w:=HR.rV h (λ x c=>⟨default,λ g t s d e f=>by
  have:=EZ.1 hn x c
  grind⟩) hb
end Go.Am
namespace Go.Am
open Go.ChangeShapes Go.WideShapes Go.ChangeAt Go.RowKit
section
variable{H:Type}{enc:IV×Hm->H}{P:Fv}
def q5u{f:Func}{s:ChangeSpec}{apart fresh handsOn again:Bool}{W W':J3}{args:Array Hm}{v:Hm}{ds gs:List (MC H)}{before pa pv:List AA}
 (h:MC.Whole enc P f.params.toList s.vars apart W args.toList ds gs before)
 (e:∀(b:Nat)(sp:Nat->Bool)(m:Bool),A_ enc P W' b sp m f.resultTypes.toList (v.resultList f.resultTypes.size) (s.fn H (ds++gs)).results [])
 (c:∀sp:Nat->Bool,(∀p∈before,sp p.block=B4)->A_ enc P W' 0 sp B4 f.params.toList args.toList (s.fn H (ds++gs)).args pa)
 (d:∀sp:Nat->Bool,(∀p∈before,sp p.block=B4)->MC.TrodVars enc P W' sp s.vars (s.fn H (ds++gs)).vars pv)
 (n:before=pa++pv) (hb:Below W.heap.size W W')
 (k:∀(j:Nat)(t:IV)(r:Hm),f.resultTypes[j]? = B1 t->(v.resultList f.resultTypes.size)[j]? = B1 r->Ac P W' .any 0 t r) :
 s.post enc P f apart fresh handsOn again W args v W':=by
 have i:∀p∈before,p.block<W.heap.size:=h.lt;have hold:∀p∈before,(λ b=>decide (b<W.heap.size)) p.block=true:=λ p hp=>by grind
 refine⟨ds,gs,before,[],pa,pv,h,e _ _ _,c _ hold,d _ hold,hb.frame _,λ _=>?_⟩;obtain⟨_,_,_,_,_,o,hn⟩:=h;refine⟨k,_,_,([]++pa)++pv,⟨[]++pa,pv,trodAll_append (c _ (λ _ _=>rfl)) (e _ _ _),d _ (λ _ _=>rfl),rfl,?_,?_⟩,?_⟩
 .intro b off hp;have g:AA.cell b off∈before:=by grind
  rw[hb.frozen (p:=⟨b,off,B5⟩) (i _ g)];exact o b off g
 .grind
 grind
end
def MF{P:Fv}(h:(P.funcs.all λ fn=>fn.name != "runtime.NumGoroutine")=B4) (c:P.follows .mixedOrders=B4):dB P:=by
 refine⟨λ f fn d e=>?_,c⟩
 grind
noncomputable def Tn(P:Fv)(w:J3)(xs:List (String×MC Unit)):World :=
 {w with heap:=xs.foldl (λ h x=>match u2 P x with
  |some (g,t)=>match nK P 30 t x.2 with
   |some l=>h.modify g fun
    | .cells _ t fz=>.cells (bO θ0 l).toArray t fz
    |o=>o
   |none=>h
  |none=>h) w.heap}
end Go.Am
namespace Go.Am
open Go.RowKit
mutual
def A9(n:Nat):AV->Bool
 | .ptr b _=>KI b n
 | .slice b _ _ _=>KI b n
 | .gslice b _ _ _ _ _=>KI b n
 | .eslice b=>KI b n
 | .map b=>KI b n
 | .fn _ _ _=>B2
 | .iface _ v=>A9 n v
 | .agg l=>Cf n l
 | .tuple l=>Cf n l
 |_=>B4
def Cf(n:Nat):List AV->Bool
 |[]=>B4
 |v::l=>A9 n v && Cf n l
end
mutual
def NN{n:Nat}{θ θ':Th}(h:Ag (Lt n) θ θ'):∀(v:AV),A9 n v=B4->aq θ' v=aq θ v
 | .ptr b o,hv=>by have⟨c,d,_⟩:=h b (by simpa[A9,Lt]using hv);grind [aq]
 | .slice b _ _ _,hv=>by have⟨c,d,_⟩:=h b (by simpa[A9,Lt]using hv);grind [aq]
 | .gslice b _ _ _ _ _,hv=>by have⟨c,d,e⟩:=h b (by simpa[A9,Lt]using hv);grind [aq]
 | .eslice b,hv=>by have⟨c,d,e⟩:=h b (by simpa[A9,Lt]using hv);grind [aq]
 | .map b,hv=>by have⟨c,_,_⟩:=h b (by simpa[A9,Lt]using hv);simp[aq,c]
 | .fn _ _ _,hv=>by grind [A9]
 | .iface _ v,hv=>by simp only[aq];rw[NN h v hv]
 | .agg l,hv=>by simp only[aq];rw[Lk h l hv]
 | .tuple l,hv=>by simp only[aq];rw[Lk h l hv]
 | .bool _,_=>rfl
 | .int _ _,_=>rfl
 | .str _,_=>rfl
 | .nilp,_=>rfl
 | .nils,_=>rfl
 | .kT,_=>rfl
 | .nilf,_=>rfl
 | .nili,_=>rfl
def Lk{n:Nat}{θ θ':Th}(h:Ag (Lt n) θ θ'):∀(l:List AV),Cf n l=B4->bO θ' l=bO θ l
 |[],_=>rfl
 |v::l,hv=>by
  simp only[Cf,xq]at hv;simp only[bO];rw[NN h v hv.1,Lk h l hv.2]
end
theorem Ag.none{θ θ':Th}:Ag (Lt 0) θ θ':=λ b hb=>by cases hb
mutual
def iR:AV->AV->Bool
 | .bool a,.bool b=>a == b
 | .int k a,.int k' b=>decide (k=k') && decide (a=b)
 | .str s,.str t=>decide (s=t)
 | .nilp,.nilp=>B4
 | .ptr b o,.ptr b' o'=>FW b b' && FW o o'
 | .nils,.nils=>B4
 | .kT,.kT=>B4
 | .nilf,.nilf=>B4
 | .nili,.nili=>B4
 | .iface t v,.iface t' v'=>FW t t' && iR v v'
 | .agg l,.agg l'=>kB l l'
 | .tuple l,.tuple l'=>kB l l'
 |_,_=>B2
def kB:List AV->List AV->Bool
 |[],[]=>B4
 |v::l,v'::l'=>iR v v' && kB l l'
 |_,_=>B2
end
mutual
theorem Sy:∀(v c:AV),iR v c=B4->v=c
 | .iface t v,x,h=>by
  cases x<;>simp only[iR,xq,je,za]at h;rw[h.1,Sy _ _ h.2]
 | .agg l,x,h=>by
  cases x<;>simp only[iR,za]at h;rw[Kj _ _ h]
 | .tuple l,x,h=>by
  cases x<;>simp only[iR,za]at h;rw[Kj _ _ h]
 | .bool _,x,h=>by cases x<;>simp_all[iR]
 | .int _ _,x,h=>by cases x<;>simp_all[iR]
 | .str _,x,h=>by cases x<;>simp_all[iR]
 | .nilp,x,h=>by grind [iR]
 | .ptr _ _,x,h=>by cases x<;>simp_all[iR]
 | .nils,x,h=>by grind [iR]
 | .slice _ _ _ _,x,h=>by grind [iR]
 | .gslice _ _ _ _ _ _,x,h=>by grind [iR]
 | .kT,x,h=>by grind [iR]
 | .map _,x,h=>by grind [iR]
 | .fn _ _ _,x,h=>by grind [iR]
 | .nilf,x,h=>by grind [iR]
 | .nili,x,h=>by grind [iR]
theorem Kj:∀(l c:List AV),kB l c=B4->l=c
 |[],[],_=>rfl
 |[],_::_,h=>by grind [kB]
 |_::_,[],h=>by grind [kB]
 |v::l,v'::c,h=>by
  simp only[kB,xq]at h;rw[Sy _ _ h.1,Kj _ _ h.2]
end
structure eV where
 f:Nat
 args:List AV
 res:AV
def dZ(H:ar):List (Nat×List AV)->Bool
 |[]=>B4
 |(b,l)::r=>(match H.get b with|some (.row l' _ _ _)=>kB l l'|_=>B2) && dZ H r
def iv(n:Nat):List (Nat×List AV)->Bool
 |[]=>B4
 |(b,l)::r=>KI b n && Cf n l && iv n r
def nI(gl:List (Nat×List AV))(H:ar)(f:Nat)(vs:List AV):List eV->Option (bF×Option aA×ar)
 |[]=>B5
 |e::r=>cond (FW f e.f && (kB vs e.args && dZ H gl)) (B1 (.ret e.res,B5,H)) (nI gl H f vs r)
def lM(gl:List (Nat×List AV))(L:List eV):bN:=λ f vs up H =>
 match up with
 |none=>nI gl H f vs L
 |some _=>B5
def Sg{c:List (Nat×List AV)}{H:ar}{f:Nat}{vs:List AV}:∀{L:List eV}{r:bF×Option aA×ar},nI c H f vs L=B1 r -> ∃e∈L,f=e.f/\vs=e.args/\dZ H c=B4/\r=(.ret e.res,B5,H)
 |[],_,h=>by cases h
 |e::L,r,h=>by
  simp only[nI]at h;cases d:(FW f e.f && (kB vs e.args && dZ H c))with
  |true =>
   rw[d]at h;simp only[xg,qe]at h;simp only[xq,je]at d
   grind [Kj]
  |false =>
   rw[d]at h;have⟨e',g,i⟩:=Sg (L:=L) h
   grind
def sq{c:List (Nat×List AV)}{L:List eV}:y9 (lM c L):=by
 intro f vs up H e d H' h;cases up with
 |some _=>cases h
 |none =>
  have⟨e',_,_,_,_,hr⟩:=Sg h
  grind [Ext.refl]
def Zq{H:ar}:∀{c:List (Nat×List AV)},dZ H c=B4 -> ∀{b:Nat}{l:List AV},(b,l)∈c -> ∃e fz ow,H.get b=B1 (.row l e fz ow)
 |[],_,b,l,h=>by cases h
 |(b',l')::r,hr,b,l,h=>by
  simp only[dZ,xq]at hr;rcases j8.1 h with e|h
  .grind [Kj]
  .exact Zq hr.2 h
def Xq{n:Nat}:∀{c:List (Nat×List AV)},iv n c=B4 -> ∀{b:Nat}{l:List AV},(b,l)∈c->b<n/\Cf n l=B4
 |[],_,b,l,h=>by cases h
 |(b',l')::r,hr,b,l,h=>by
  simp only[iv,xq,uv]at hr;rcases j8.1 h with e|h
  .grind
  .exact Xq hr.2 h
def HR.zR{P:Fv}{base n:Nat}{D:Nat->Prop}{θ:Th}{H:ar}{w:J3}{d:List (Nat×List AV)}(h:HR P base D θ H w)(hn:P.globals.size<=n)(f:iv n d=B4)(hr:dZ H d=B4) :
 HR P base (Lt n) θ (kn d n) w:=by
 refine HR.sO h.low hn (λ g hg=>(h.dV g hg).2) λ b l hm=>?_;have⟨i,j⟩:=Xq f hm;have⟨e,fz,ow,hg⟩:=Zq hr hm;obtain⟨_,co,k,pre,cs,post,c,e',rfl,m,o,_⟩:=h.obj _ _ hg;exact⟨i,pre,cs,post,e',c,k,m,λ θ' ha=>(Lk ha l j).trans o.now⟩
def HR.below{P:Fv}{base:Nat}{D:Nat->Prop}{θ:Th}{H:ar}{w w':J3}(h:HR P base D θ H w)(hb:Below w.heap.size w w'):HR P base D θ H w':=by
 refine⟨λ b o hg=>?_,h.inj,h.kJ,h.dV,xm h.low hb.size⟩;have⟨d,co,c,e⟩:=h.obj b o hg;exact⟨d,co,by rw[hb.block _ (Oa.1 c).1];exact c,e⟩
def xcn{D:Nat->Prop}{H:ar}{θ:Th}{w w':J3}(hb:Below w.heap.size w w'):bt D H θ w H θ w' :=
 ⟨qg _,Ag.refl _ _,hb.size,hb.os,hb.tape,hb.output,λ k hk _=>hb.block k hk,λ b o h ho _=>(by grind)⟩
def qG(P:Fv)(gl:List (Nat×List AV))(n:Nat)(e:eV):Prop :=
 A9 0 e.res=B4 /\ ∀base θ w(args:Array Hm),HR P base (Lt n) θ (kn gl n) w->bH (Lt n) θ e.args args.toList ->
  (∃fn c,P.funcs[e.f]? = B1 fn/\fn.body=B1 c)/\Calls P e.f args w λ en w'=>en=.returned (aq θ e.res)/\Below w.heap.size w w'
def WJ{P:Fv}{base n:Nat}{g:List (Nat×List AV)}{L:List eV}(hn:P.globals.size<=n)(k:iv n g=B4)(s:∀e∈L,Cf 0 e.args=B4/\qG P g n e):yq P base (lM g L):=by
 intro D θ H w f vs args up H' e x kind cs r v hu h y;cases up with
 |some _=>cases h
 |none =>
  have hk:kind=.normal:=hu;obtain⟨e',hm,rfl,rfl,c,hr⟩:=Sg h;injection hr with o hr
  injection hr with p q
  subst o;subst p;subst q;have⟨m,d,u⟩:=s e' hm;have⟨i,t⟩:=u base θ w args (r.zR hn k c) (λ θ' _=>(Lk Ag.none _ m).trans v.now);refine⟨i,?_⟩;obtain⟨en,w',fr,⟨rfl,hb⟩,hs,j,hl⟩:=t cs;have⟨l1,l2,l3,l4⟩:=hl;subst hk;refine⟨θ,w',cs,fr,.returned (aq θ e'.res),hs,l3,j,⟨l1,l2,l4⟩,λ θ' _=>NN Ag.none _ d,?_,xcn hb,rfl,rfl,rfl⟩;rw[Up.none];exact r.below hb
def ud(v:AV):Option (bF×Option aA×ar)->Bool
 |some (.ret u,_,_)=>iR u v
 |_=>B2
def ad5{v:AV}{o:Option (bF×Option aA×ar)}(h:ud v o=B4):∃u H',o=B1 (.ret v,u,H'):=by
 unfold ud at h
 grind [Sy]
def xaq{P:Fv}(x:dB P){d:List (Nat×List AV)}{L:List eV}{n:Nat}(hn:P.globals.size<=n)(i:iv n d=B4)(v:∀e∈L,Cf 0 e.args=B4/\qG P d n e)
 {e:eV} {m:Nat} (hp:A9 0 e.res=B4) (hr:ud e.res (iZ (aU P) (lM d L) m e.f e.args B5 (kn d n))=B4):qG P d n e:=by
 have⟨u,H',hr⟩:=ad5 hr;refine⟨hp,λ base θ w args y z=>?_⟩;have hs:=λ cs=>RP x (by grind [YR]) (WJ hn i v) sq m (Lt n) θ (kn d n) w e.f e.args args B5 H' (.ret e.res) u .normal cs y z rfl hr
  (λ b j C hb=>by have j:n<=b:=j;have hb:b<n:=hb;omega)
 refine⟨(hs []).1,λ cs=>?_⟩;have⟨_,θ',w',cs',fr,e',k,p,q,r,g,A,s,B,t,o⟩:=hs cs;have h:cs'=cs:=t;subst h;cases e' with
 |returned c =>
  refine⟨.returned c,w',fr,⟨?_,s.below (JT _ _)⟩,k,q,NP r p⟩;have g:VR _ θ' e.res c:=g;rw[<-g.now,NN Ag.none _ hp]
 |panicked _=>exact g.elim
 |outgrown=>exact g.elim
end Go.Am
