/- B3: Plan Draw Draw2 Draw3 Draw4 Calls Final Data Closed Post Told. -/
import Derived.Test.YtiibohocdbaekaaAmQB2
import Derived.Below
import GoSem.ClaimJoined
import Derived.ChangeSame
import Derived.LaidSub
import Derived.LaidLaws
import Derived.WalkKit
import Derived.ProofKit
import Derived.OpenShut
set_option linter.unusedVariables false
set_option linter.unusedSimpArgs false
namespace Go.Am
theorem qpv {a b:Nat} (h:subB a b=true) {j:Nat} (hj:a.testBit j=true):b.testBit j=true:=by
 unfold subB at h
 simp only [zz] at h
 have h2:(a &&& b).testBit j=a.testBit j:=by
  rw [show a &&& b=Nat.land a b from rfl,h]
 rw [Nat.testBit_and,hj] at h2
 simpa using h2
theorem qxw (a b j:Nat):(Nat.lor a b).testBit j=(a.testBit j || b.testBit j):=Nat.testBit_or a b j
theorem qxu (a b j:Nat):(Nat.land a b).testBit j=(a.testBit j && b.testBit j):=Nat.testBit_and a b j
theorem q1m (i j:Nat):(2 ^ i).testBit j=decide (i=j):=Nat.testBit_two_pow
theorem qkd:∀ (l:List (Bool × Nat)) (d j:Nat),(bitsOf l d).testBit j=true ↔ d.testBit j=true\/(false,j) ∈ l
 | [],d,j=>by simp [bitsOf]
 | (true,r)::l,d,j=>by rw [bitsOf,qkd l];simp
 | (false,i)::l,d,j=>by
  rw [bitsOf,qkd l,qxw,q1m]
  simp only [yn,qaz,zp,qr,true_and]
  constructor
  ·rintro ((h|h) | h)
   ·exact .inl h
   ·exact .inr (.inl h.symm)
   ·exact .inr (.inr h)
  ·rintro (h|h|h)
   ·exact .inl (.inl h)
   ·exact .inl (.inr h.symm)
   ·exact .inr h
theorem qub:∀ (l:List (Bool × Nat)) (d r:Nat),(looksOf l d).testBit r=true->d.testBit r=true \/ ∃ u:Nat,l[u]? = some (true,r) /\ ∀ v:Nat,v<=u -> ∃ r',l[v]? = some (true,r')
 | [],d,r,h=>.inl h
 | (false,i)::l,d,r,h=>.inl h
 | (true,r')::l,d,r,h=>by
  rw [looksOf] at h
  rcases qub l _ r h with h|⟨u,h1,h2⟩
  ·rw [qxw,q1m] at h
   simp only [yn,qaz] at h
   rcases h with h|h
   ·exact .inl h
   ·subst h
    refine .inr ⟨0,rfl,fun v hv=>⟨r',?_⟩⟩
    obtain rfl:v=0:=by omega
    rfl
  ·refine .inr ⟨u+1,by simpa using h1,fun v hv=>?_⟩
   cases v with
   | zero=>exact ⟨r',rfl⟩
   | succ v=>simpa using h2 v (by omega)
theorem qkr (p:Nat->Bool):∀ (n j:Nat),(maskOf p n).testBit j=true ↔ j<n/\p j=true
 | 0,j=>by simp [maskOf]
 | n+1,j=>by
  rw [maskOf]
  cases hp:p n with
  | true =>
   simp only [qz,qxw,q1m,yn,qaz,qkr p n]
   constructor
   ·rintro (⟨h1,h2⟩|h)
    ·exact ⟨by omega,h2⟩
    ·subst h;exact ⟨by omega,hp⟩
   ·rintro ⟨h1,h2⟩
    by_cases e:n=j
    ·exact .inr e
    ·exact .inl ⟨by omega,h2⟩
  | false =>
   simp only [xy,qkr p n]
   constructor
   ·rintro ⟨h1,h2⟩;exact ⟨by omega,h2⟩
   ·rintro ⟨h1,h2⟩
    refine ⟨?_,h2⟩
    by_cases e:n=j
    ·subst e;rw [hp] at h2;cases h2
    ·omega
theorem qoy {p:Nat->Bool}:∀ {n:Nat},allLt p n=true -> ∀ i,i<n->p i=true
 | 0,_,i,hi=>by omega
 | n+1,h,i,hi=>by
  rw [allLt,xb] at h
  by_cases e:i=n
  ·subst e;exact h.1
  ·exact qoy h.2 i (by omega)
theorem qxm (c d:Cls):isCls c d=true ↔ c=d:=by cases c<;>cases d<;>simp [isCls]
theorem qtm (t:Nat):∀ l,hasNat t l=true ↔ t ∈ l
 | []=>by simp [hasNat]
 | x::l=>by
  rw [hasNat,yn,qtm t l]
  simp only [zz,zp]
  constructor
  ·rintro (h|h)
   ·exact .inl h.symm
   ·exact .inr h
  ·rintro (h|h)
   ·exact .inl h.symm
   ·exact .inr h
theorem q1w {I:PlanI}:∀ {plan:List (Bool × Nat)} {d:Nat},qlf I plan d=true ->
 (∀ pre x post,plan=pre++x::post->qnv I (bitsOf pre d) post x=true)/\subB (2 ^ I.n-1) (bitsOf plan d)=true
 | [],d,h=>⟨fun pre x post e=>by simp at e,h⟩
 | (false,i)::l,d,h=>by
  rw [qlf,xb] at h
  obtain ⟨h1,h2⟩:=q1w h.2
  refine ⟨fun pre x post e=>?_,h2⟩
  cases pre with
  | nil =>
   simp only [jj,xl] at e
   obtain ⟨rfl,rfl⟩:=e
   exact h.1
  | cons y pre =>
   simp only [qci,xl] at e
   obtain ⟨rfl,e⟩:=e
   exact h1 pre x post e
 | (true,r)::l,d,h=>by
  rw [qlf,xb] at h
  obtain ⟨h1,h2⟩:=q1w h.2
  refine ⟨fun pre x post e=>?_,h2⟩
  cases pre with
  | nil =>
   simp only [jj,xl] at e
   obtain ⟨rfl,rfl⟩:=e
   exact h.1
  | cons y pre =>
   simp only [qci,xl] at e
   obtain ⟨rfl,e⟩:=e
   exact h1 pre x post e
structure PlanF (I:PlanI) (plan:List (Bool × Nat)):Prop where
 all:∀ i:Nat,i<I.n -> ∃ p:Nat,plan[p]? = some (false,i)
 lt:∀ p i:Nat,plan[p]? = some (false,i)->i<I.n
 one:∀ p p' i:Nat,plan[p]? = some (false,i)->plan[p']? = some (false,i)->p=p'
 anc:∀ p i j:Nat,plan[p]? = some (false,i)->(I.anc i).testBit j=true -> ∃ p':Nat,p'<p/\plan[p']? = some (false,j)
 made:∀ p i p' j:Nat,plan[p]? = some (false,i)->(I.cls i=.read\/I.cls i=.eff)->plan[p']? = some (false,j)->p'<p->(I.cls j=.alloc\/I.cls j=.eff)->(I.anc i).testBit j=true
 look:∀ p e p' r:Nat,plan[p]? = some (false,e)->I.cls e=.eff->plan[p']? = some (false,r)->p'<p->I.cls r=.read->(I.anc e).testBit r=false ->
  ∃ u:Nat,p<u/\plan[u]? = some (true,r) /\ ∀ v:Nat,p<v->v<=u -> ∃ r',plan[v]? = some (true,r')
 again:∀ p r:Nat,plan[p]? = some (true,r)->I.cls r=.read/\I.self r=true/\(∃ p':Nat,p'<p/\plan[p']? = some (false,r)) /\
  ∀ w p':Nat,plan[p']? = some (false,w)->p'<p->w ≠ r->I.ment r w=true->(I.anc r).testBit w=true
 temps:∀ r w:Nat,r<I.n->w<I.n->r ≠ w->I.ment r w=true->(I.anc r).testBit w=true\/(I.anc w).testBit r=true
theorem split_at {α:Type} {l:List α} {p:Nat} {x:α} (h:l[p]? = some x):l=l.take p++x::l.drop (p+1):=by
 obtain ⟨hp,hx⟩:=qi.1 h
 rw [<-hx]
 simp
theorem mem_take {α:Type} {l:List α} {p:Nat} {x:α}:x ∈ l.take p ↔ ∃ p':Nat,p'<p/\l[p']? = some x:=by
 rw [qay]
 constructor
 ·rintro ⟨i,hi⟩
  rw [j6] at hi
  split at hi
  ·exact ⟨i,by assumption,hi⟩
  ·cases hi
 ·rintro ⟨i,hi,h⟩
  exact ⟨i,by rw [j6,xc hi];exact h⟩
theorem planF_of {I:PlanI} {plan:List (Bool × Nat)} (hmade:I.made=maskOf (fun i=>isMade (I.cls i)) I.n) (hreads:I.reads=maskOf (fun i=>isCls (I.cls i) .read) I.n) (h:qlf I plan 0=true) (ht:tempsOk I=true):PlanF I plan:=by
 obtain ⟨hc,hall⟩:=q1w h
 have at_:∀ {p:Nat} {x:Bool × Nat},plan[p]? = some x->qnv I (bitsOf (plan.take p) 0) (plan.drop (p+1)) x=true:=fun hx=>hc _ _ _ (split_at hx)
 have done:∀ p j:Nat,(bitsOf (plan.take p) 0).testBit j=true ↔ ∃ p':Nat,p'<p/\plan[p']? = some (false,j):=fun p j=>by
  rw [qkd,mem_take];simp
 have run:∀ {p i:Nat},plan[p]? = some (false,i)->i<I.n/\(bitsOf (plan.take p) 0).testBit i=false/\subB (I.anc i) (bitsOf (plan.take p) 0)=true /\
  ((I.cls i=.read\/I.cls i=.eff)->subB (Nat.land (bitsOf (plan.take p) 0) I.made) (I.anc i)=true) /\
  (I.cls i=.eff->subB (Nat.land (bitsOf (plan.take p) 0) I.reads) (Nat.lor (I.anc i) (looksOf (plan.drop (p+1)) 0))=true):=fun {p i} hp=>by
  have:=at_ hp
  simp only [qnv,xb,we,qfq] at this
  obtain ⟨h1,h2,h3,h4⟩:=this
  refine ⟨h1,h2,h3,fun hh=>?_,fun hh=>?_⟩
  ·rcases hh with hh|hh
   ·rw [hh] at h4;exact h4
   ·rw [hh] at h4;simp only [xb] at h4;exact h4.1
  ·rw [hh] at h4;simp only [xb] at h4;exact h4.2
 have one:∀ p p' i:Nat,plan[p]? = some (false,i)->plan[p']? = some (false,i)->p=p':=by
  intro p p' i hp hp'
  rcases Nat.lt_trichotomy p p' with hlt|rfl|hlt
  ·have:=(run hp').2.1
   rw [(done p' i).2 ⟨p,hlt,hp⟩] at this;cases this
  ·rfl
  ·have:=(run hp).2.1
   rw [(done p i).2 ⟨p',hlt,hp'⟩] at this;cases this
 refine ⟨fun i hi=>?_,fun p i hp=>(run hp).1,one,fun p i j hp hj=>(done p j).1 (qpv (run hp).2.2.1 hj),fun p i p' j hp hcl hp' hlt hcj=>?_,fun p e p' r hp hce hp' hlt hcr hna=>?_,fun p r hp=>?_,fun r w hr hw hne hm=>?_⟩
 ·have:(2 ^ I.n-1).testBit i=true:=by rw [Nat.testBit_two_pow_sub_one];simpa using hi
  have:=qpv hall this
  rw [qkd] at this
  rcases this with h|h
  ·simp at h
  ·exact qay.1 h
 ·refine qpv ((run hp).2.2.2.1 hcl) ?_
  rw [qxu,(done p j).2 ⟨p',hlt,hp'⟩,hmade,(qkr _ _ _).2 ⟨(run hp').1,?_⟩]
  ·rfl
  ·simp only [isMade,yn,qxm];exact hcj
 ·have:=qpv ((run hp).2.2.2.2 hce) (j:=r) (by
   rw [qxu,(done p r).2 ⟨p',hlt,hp'⟩,hreads,(qkr _ _ _).2 ⟨(run hp').1,by rw [qxm];exact hcr⟩];rfl)
  rw [qxw,hna,Bool.false_or] at this
  rcases qub _ _ _ this with h|⟨u,h1,h2⟩
  ·simp at h
  ·rw [j5] at h1
   refine ⟨p+1+u,by omega,h1,fun v hv1 hv2=>?_⟩
   obtain ⟨r',hr'⟩:=h2 (v-(p+1)) (by omega)
   rw [j5,show p+1+(v-(p+1))=v from by omega] at hr'
   exact ⟨r',hr'⟩
 ·have:=at_ hp
  simp only [qnv,xb,qxm] at this
  obtain ⟨h1,h0,h2,h3⟩:=this
  refine ⟨h1,h0,(done p r).1 h2,fun w p' hp' hlt hne hm=>qpv h3 ?_⟩
  rw [qxu,(done p w).2 ⟨p',hlt,hp'⟩,(qkr _ _ _).2 ⟨(run hp').1,?_⟩]
  ·rfl
  ·simp only [xb,qfq,hm,vn]
   cases hb:Nat.beq w r with
   | false=>rfl
   | true=>simp only [zz] at hb;exact absurd hb hne
 ·have:=qoy (qoy ht r hr) w hw
  simp only [yn,zz,hm,Bool.not_true,or_false] at this
  rcases this with h|h|h|h
  ·exact absurd h hne
  ·exact .inl h
  ·exact .inr h
  ·cases h
theorem qy6 (acc:Array Nat) (j:Nat):∀ (l:List Edge) (s:Nat),(l.foldl (fun s e=>if Region.binds .any e then s ||| 2 ^ e.on ||| acc.getD e.on 0 else s) s).testBit j=true ->
 s.testBit j=true \/ ∃ e ∈ l,Region.binds .any e=true/\(e.on=j\/(acc.getD e.on 0).testBit j=true)
 | [],s,h=>.inl h
 | e::l,s,h=>by
  rw [qcz] at h
  rcases qy6 acc j l _ h with h|⟨e',h1,h2⟩
  ·split at h
   ·rename_i hb
    simp only [Nat.testBit_or,Nat.testBit_two_pow,yn,qaz] at h
    rcases h with (h|h) | h
    ·exact .inl h
    ·exact .inr ⟨e,by simp,hb,.inl h⟩
    ·exact .inr ⟨e,by simp,hb,.inr h⟩
   ·exact .inl h
  ·exact .inr ⟨e',by simp [h1],h2⟩
theorem qy5 (acc:Array Nat):∀ (l:List Edge) (s:Nat),(∀ j,s.testBit j=true->(l.foldl (fun s e=>if Region.binds .any e then s ||| 2 ^ e.on ||| acc.getD e.on 0 else s) s).testBit j=true) /\
 ∀ e ∈ l,Region.binds .any e=true->(l.foldl (fun s e=>if Region.binds .any e then s ||| 2 ^ e.on ||| acc.getD e.on 0 else s) s).testBit e.on=true
 | [],s=>⟨fun j h=>h,fun e he=>by simp at he⟩
 | e::l,s=>by
  obtain ⟨h1,h2⟩:=qy5 acc l (if Region.binds .any e then s ||| 2 ^ e.on ||| acc.getD e.on 0 else s)
  refine ⟨fun j hj=>?_,fun e' he' hb=>?_⟩
  ·rw [qcz]
   refine h1 j ?_
   split
   ·simp [Nat.testBit_or,hj]
   ·exact hj
  ·rw [qcz]
   rcases zp.1 he' with rfl|he'
   ·refine h1 _ ?_
    rw [xc hb]
    simp [Nat.testBit_or,Nat.testBit_two_pow]
   ·exact h2 e' he' hb
theorem qs5 (ops:Array Oper):∀ (i:Nat) (o:Oper),ops[i]? = some o ->
 (∀ e ∈ o.after.toList,Region.binds .any e=true->((Region.before ops).getD i 0).testBit e.on=true) /\
 (∀ j,((Region.before ops).getD i 0).testBit j=true -> ∃ e ∈ o.after.toList,Region.binds .any e=true/\(e.on=j\/(e.on<i/\((Region.before ops).getD e.on 0).testBit j=true))):=by
 have key:∀ (l:List Oper) (acc:Array Nat),let R:=l.foldl (fun acc o=>acc.push (o.after.foldl (fun s e=>if Region.binds .any e then s ||| 2 ^ e.on ||| acc.getD e.on 0 else s) 0)) acc
  (∀ i,i<acc.size->R.getD i 0=acc.getD i 0)/\acc.size<=R.size /\ ∀ (i:Nat) (o:Oper),l[i]? = some o ->
   (∀ e ∈ o.after.toList,Region.binds .any e=true->(R.getD (acc.size+i) 0).testBit e.on=true) /\
   (∀ j,(R.getD (acc.size+i) 0).testBit j=true -> ∃ e ∈ o.after.toList,Region.binds .any e=true/\(e.on=j\/(e.on<acc.size+i/\(R.getD e.on 0).testBit j=true))):=by
  intro l
  induction l with
  | nil=>intro acc;exact ⟨fun i hi=>rfl,qe _,fun i o h=>by simp at h⟩
  | cons o l ih =>
   intro acc
   simp only [qcz]
   generalize hv:o.after.foldl (fun s e=>if Region.binds .any e then s ||| 2 ^ e.on ||| acc.getD e.on 0 else s) 0=v
   rw [<-Array.foldl_toList] at hv
   obtain ⟨h1,h2,h3⟩:=ih (acc.push v)
   generalize (l.foldl (fun acc o=>acc.push (o.after.foldl (fun s e=>if Region.binds .any e then s ||| 2 ^ e.on ||| acc.getD e.on 0 else s) 0)) (acc.push v))=R at h1 h2 h3
   have hsz:(acc.push v).size=acc.size+1:=by simp
   have hlow:∀ i,i<acc.size->R.getD i 0=acc.getD i 0:=fun i hi=>by
    rw [h1 i (by omega)]
    simp [jx,Array.getElem?_push,qgg hi]
   have hat:R.getD acc.size 0=v:=by
    rw [h1 acc.size (by omega)]
    simp [jx,Array.getElem?_push]
   refine ⟨hlow,by omega,fun i o' ho'=>?_⟩
   cases i with
   | zero =>
    simp only [ke,qb] at ho'
    subst ho'
    rw [kz,hat,<-hv]
    obtain ⟨g1,g2⟩:=qy5 acc o.after.toList 0
    refine ⟨g2,fun j hj=>?_⟩
    rcases qy6 acc j _ _ hj with h|⟨e,he,hb,h⟩
    ·simp at h
    ·refine ⟨e,he,hb,?_⟩
     rcases h with h|h
     ·exact .inl h
     ·by_cases hlt:e.on<acc.size
      ·exact .inr ⟨hlt,by rw [hlow _ hlt];exact h⟩
      ·rw [jx,Array.getElem?_eq_none (by omega)] at h;simp at h
   | succ i =>
    have:=h3 i o' (by simpa using ho')
    rw [hsz,yj,Nat.add_comm 1 i] at this
    exact this
 intro i o ho
 obtain ⟨_,_,h3⟩:=key ops.toList #[]
 have:=h3 i o (by rw [jy];exact ho)
 unfold Region.before
 rw [<-Array.foldl_toList]
 simpa using this
structure Order (I:PlanI) (L:List Nat):Prop where
 all:∀ i,i<I.n->i ∈ L
 lt:∀ i ∈ L,i<I.n
 anc:∀ L1 i L2,L=L1++i::L2->i ∉ L1 /\ ∀ j,(I.anc i).testBit j=true->j ∈ L1
theorem qua {ops:Array Oper} {I:PlanI} (hn:I.n=ops.size) (hanc:∀ i,I.anc i=(Region.before ops).getD i 0) {plan:List (Bool × Nat)} (hp:PlanF I plan) (t:Nat):Order I (Region.linearise .any ops t):=by
 -- an operation that is ready
 let ready (listed:Array Bool) (i:Nat):Bool:=!listed.getD i true && ((ops[i]?).map (·.after.all fun e=>!Region.binds .any e || listed.getD e.on false)).getD false
 have hgo:∀ (fuel t:Nat) (listed:Array Bool) (acc:List Nat),listed.size=ops.size->(∀ i,listed[i]? = some true ↔ i ∈ acc/\i<ops.size)->(∀ i ∈ acc,i<ops.size)->acc.Nodup->acc.length+fuel=ops.size ->
  (∀ A i B,acc.reverse=A++i::B->i ∉ A /\ ∀ j,(I.anc i).testBit j=true->j ∈ A) ->
  Order I (Region.linearise.go .any ops fuel t listed acc):=by
  intro fuel
  induction fuel with
  | zero =>
   intro t listed acc hsz hl hlt hnd hlen hcl
   unfold Region.linearise.go
   refine ⟨fun i hi=>?_,fun i hi=>by rw [hn];exact hlt i (by simpa using hi),hcl⟩
   rw [List.mem_reverse]
   refine qaf fun hno=>?_
   have:(i::acc).length<=ops.size:=by
    have hnd':(i::acc).Nodup:=List.nodup_cons.2 ⟨hno,hnd⟩
    have hsub:(i::acc) ⊆ List.range ops.size:=fun x hx=>by
     rw [List.mem_range]
     rcases zp.1 hx with rfl|hx
     ·rw [<-hn];exact hi
     ·exact hlt x hx
    have:=hnd'.length_le_of_subset hsub
    simpa using this
   simp at this;omega
  | succ fuel ih =>
   intro t listed acc hsz hl hlt hnd hlen hcl
   unfold Region.linearise.go
   simp only
   -- something is ready
   have hready:∃ i,i<ops.size/\ready listed i=true:=by
    -- the first one of the plan that is not listed
    obtain ⟨x,hx1,hx2⟩:∃ x,x<ops.size/\x ∉ acc:=by
     refine qaf fun hno=>?_
     have hsub:List.range ops.size ⊆ acc:=fun x hx=>qaf fun h=>hno ⟨x,by simpa using hx,h⟩
     have:=List.nodup_range.length_le_of_subset hsub
     simp at this;omega
    have:∀ m p x:Nat,p<m->plan[p]? = some (false,x)->x ∉ acc -> ∃ p0 x0:Nat,plan[p0]? = some (false,x0)/\x0 ∉ acc /\ ∀ p' x':Nat,p'<p0->plan[p']? = some (false,x')->x' ∈ acc:=by
     intro m
     induction m with
     | zero=>intro p x hp;omega
     | succ m ihm =>
      intro p x hpm hpx hxa
      by_cases h:∃ p' x':Nat,p'<p/\plan[p']? = some (false,x')/\x' ∉ acc
      ·obtain ⟨p',x',h1,h2,h3⟩:=h
       exact ihm p' x' (by omega) h2 h3
      ·exact ⟨p,x,hpx,hxa,fun p' x' h1 h2=>qaf fun h3=>h ⟨p',x',h1,h2,h3⟩⟩
    obtain ⟨p,hp1⟩:=hp.all x (by rw [hn];exact hx1)
    obtain ⟨p0,x0,h1,h2,h3⟩:=this (p+1) p x (xp _) hp1 hx2
    have hx0:x0<ops.size:=by rw [<-hn];exact hp.lt _ _ h1
    refine ⟨x0,hx0,?_⟩
    obtain ⟨o,ho⟩:∃ o,ops[x0]? = some o:=⟨ops[x0],by simp [hx0]⟩
    have hnl:listed.getD x0 true=false:=by
     have h4:=hl x0
     rw [jx]
     cases hq:listed[x0]? with
     | none=>rw [Array.getElem?_eq_none_iff] at hq;omega
     | some v =>
      cases v with
      | false=>rfl
      | true=>rw [hq] at h4;exact absurd (h4.1 rfl).1 h2
    show (!listed.getD x0 true && _)=true
    rw [hnl,ho]
    simp only [Bool.not_false,qc3,qeq,Bool.true_and,Array.all_eq_true',yn,qfq]
    intro e he
    cases hb:Region.binds .any e with
    | false=>exact .inl rfl
    | true =>
     right
     have:=(qs5 ops x0 o ho).1 e (by simpa using he) hb
     rw [<-hanc] at this
     obtain ⟨p',hp',hp'2⟩:=hp.anc _ _ _ h1 this
     have h5:=h3 p' e.on hp' hp'2
     have:=(hl e.on).2 ⟨h5,hlt _ h5⟩
     rw [jx,this];rfl
   obtain ⟨i0,hi0,hi0r⟩:=hready
   have hne:0<((List.range ops.size).filter fun i=>ready listed i).length:=by
    rw [List.length_pos_iff_exists_mem]
    exact ⟨i0,by simp [hi0,hi0r]⟩
   have hrs:∃ i,((List.range ops.size).filter fun i=>ready listed i)[t % ((List.range ops.size).filter fun i=>ready listed i).length]? = some i:=⟨_,xu (qhc _ hne)⟩
   obtain ⟨i,hi⟩:=hrs
   have hmem:=jf hi
   rw [List.mem_filter,List.mem_range] at hmem
   obtain ⟨hi1,hi2⟩:=hmem
   rw [show ((List.range ops.size).filter fun i=>!listed.getD i true && ((ops[i]?).map (·.after.all fun e=>!Region.binds .any e || listed.getD e.on false)).getD false)=((List.range ops.size).filter fun i=>ready listed i) from rfl,hi]
   simp only
   have hi2':(!listed.getD i true && ((ops[i]?).map (·.after.all fun e=>!Region.binds .any e || listed.getD e.on false)).getD false)=true:=hi2
   rw [xb] at hi2'
   obtain ⟨hi3,hi4⟩:=hi2'
   obtain ⟨o,ho⟩:∃ o,ops[i]? = some o:=⟨ops[i],by simp [hi1]⟩
   have hia:i ∉ acc:=fun h=>by
    have:=(hl i).2 ⟨h,hi1⟩
    rw [jx,this] at hi3;simp at hi3
   rw [ho] at hi4
   simp only [qc3,qeq,Array.all_eq_true',yn,qfq] at hi4
   -- ancestors are listed
   have hancs:∀ j,(I.anc i).testBit j=true->j ∈ acc:=by
    intro j hj
    rw [hanc] at hj
    obtain ⟨e,he,hb,h⟩:=(qs5 ops i o ho).2 j hj
    have hon:e.on ∈ acc:=by
     rcases hi4 e (by simpa using he) with h'|h'
     ·rw [hb] at h';cases h'
     ·rw [jx] at h'
      cases hq:listed[e.on]? with
      | none=>rw [hq] at h';simp at h'
      | some v=>rw [hq] at h';simp at h';subst h';exact ((hl e.on).1 hq).1
    rcases h with h|⟨_,h⟩
    ·rw [<-h];exact hon
    ·rw [<-hanc] at h
     obtain ⟨A,B,hAB⟩:=List.append_of_mem (List.mem_reverse.2 hon)
     have:=(hcl A e.on B hAB).2 j h
     rw [<-List.mem_reverse,hAB];simp [this]
   refine ih _ _ _ (by simp [hsz]) (fun x=>?_) (fun x hx=>?_) (List.nodup_cons.2 ⟨hia,hnd⟩) (by simp;omega) (fun A x B hAB=>?_)
   ·rw [kx]
    by_cases hx:i=x
    ·subst hx;simp [hsz,hi1]
    ·rw [qo hx,hl x]
     simp only [zp]
     constructor
     ·rintro ⟨h1,h2⟩;exact ⟨.inr h1,h2⟩
     ·rintro ⟨h1|h1,h2⟩
      ·exact absurd h1.symm hx
      ·exact ⟨h1,h2⟩
   ·rcases zp.1 hx with rfl|hx
    ·exact hi1
    ·exact hlt x hx
   ·rw [List.reverse_cons] at hAB
    rcases List.append_eq_append_iff.1 hAB.symm with ⟨C,h1,h2⟩|⟨C,h1,h2⟩
    ·cases C with
     | nil =>
      simp only [jj,jb,xl] at h1 h2
      obtain ⟨rfl,_⟩:=h2
      subst h1
      exact ⟨by simpa using hia,fun j hj=>by simpa using hancs j hj⟩
     | cons y C =>
      simp only [qci,xl] at h2
      obtain ⟨rfl,rfl⟩:=h2
      exact hcl A _ C h1
    ·cases C with
     | nil =>
      simp only [jj,jb,xl] at h1 h2
      obtain ⟨rfl,_⟩:=h2
      subst h1
      exact ⟨by simpa using hia,fun j hj=>by simpa using hancs j hj⟩
     | cons y C =>
      simp at h2
 have:=hgo ops.size t (Array.replicate ops.size false) [] (by simp) (fun i=>by simp [Array.getElem?_replicate]) (fun i hi=>by simp at hi) (by simp) (by simp) (fun A i B h=>by simp at h)
 exact this
end Go.Am
namespace Go.Am
mutual
theorem qyn:∀ (a b:AV),Am.sameV a b=true->a=b
 | .bool a,b,h=>by cases b<;>simp_all [Am.sameV]
 | .int k a,b,h=>by cases b<;>simp_all [Am.sameV,qkh,q2j]
 | .str a,b,h=>by cases b<;>simp_all [Am.sameV,qtf]
 | .nilp,b,h=>by cases b<;>simp_all [Am.sameV]
 | .ptr a o,b,h=>by cases b<;>simp_all [Am.sameV]
 | .nils,b,h=>by cases b<;>simp_all [Am.sameV]
 | .slice a o n c,b,h=>by cases b<;>simp_all [Am.sameV]
 | .gslice a i m s al n,b,h=>by cases b<;>simp_all [Am.sameV]
 | .eslice a,b,h=>by cases b<;>simp_all [Am.sameV]
 | .nilm,b,h=>by cases b<;>simp_all [Am.sameV]
 | .map a,b,h=>by cases b<;>simp_all [Am.sameV]
 | .nilf,b,h=>by cases b<;>simp_all [Am.sameV]
 | .nili,b,h=>by cases b<;>simp_all [Am.sameV]
 | .fn (.func f) x y,b,h=>by
  cases b with
  | fn g x' y' =>
   cases g with
   | func g =>
    simp only [Am.sameV,xb,zz] at h
    obtain ⟨⟨h1,h2⟩,h3⟩:=h
    rw [h1,qli x x' h2,qli y y' h3]
   | yield g=>simp [Am.sameV] at h
  | _=>simp [Am.sameV] at h
 | .fn (.yield f) x y,b,h=>by
  cases b with
  | fn g x' y' =>
   cases g with
   | yield g =>
    simp only [Am.sameV,xb,zz] at h
    obtain ⟨⟨h1,h2⟩,h3⟩:=h
    rw [h1,qli x x' h2,qli y y' h3]
   | func g=>simp [Am.sameV] at h
  | _=>simp [Am.sameV] at h
 | .iface t v,b,h=>by
  cases b with
  | iface u w =>
   simp only [Am.sameV,xb,zz] at h
   rw [h.1,qyn v w h.2]
  | _=>simp [Am.sameV] at h
 | .agg x,b,h=>by
  cases b with
  | agg y=>simp only [Am.sameV] at h;rw [qli x y h]
  | _=>simp [Am.sameV] at h
 | .tuple x,b,h=>by
  cases b with
  | tuple y=>simp only [Am.sameV] at h;rw [qli x y h]
  | _=>simp [Am.sameV] at h
theorem qli:∀ (a b:List AV),Am.sameL a b=true->a=b
 | [],b,h=>by cases b<;>simp_all [Am.sameL]
 | x::xs,b,h=>by
  cases b with
  | nil=>simp [Am.sameL] at h
  | cons y ys =>
   simp only [Am.sameL,xb] at h
   rw [qyn x y h.1,qli xs ys h.2]
end
inductive StepRel (rt:RT) (s:AStep) (st st1:St):Prop
 | skip (hc:s.chk=false) (hw:wantedA s st.tm=some false) (h:st1=⟨putD s.dst .undef st.tm,st.dfs,st.up,st.H⟩)
 | run (hc:s.chk=false) (hw:wantedA s st.tm=some true) (vs:List AV) (v:AV) (d:List ADef) (u:Option Chain) (H':AHeap) (he:evL st.tm s.args=some vs) (ho:opR rt st vs s.op=some (.val v d u H')) (h:st1=⟨putD s.dst v st.tm,d,u,H'⟩)
 | look (hc:s.chk=true) (d:Nat) (hd:s.dst=some d) (h:st1=st) (hl:wantedA s st.tm=some false\/(wantedA s st.tm=some true /\ ∃ vs,evL st.tm s.args=some vs/\chkOp (fun t=>t.get d) st vs s.op=true))
def EndsAt (rt:RT) (steps:List AStep) (sts:Nat->St) (M:Nat) (r:AExit × St):Prop :=
 (M=steps.length/\r=(.normal,sts M)) \/
 ∃ s vs c H' ds,steps[M]? = some s/\s.chk=false/\wantedA s (sts M).tm=some true/\evL (sts M).tm s.args=some vs/\opR rt (sts M) vs s.op=some (.panic c H')/\s.psafe=some ds /\
  r=(.panic c,⟨forget ds (sts M).tm,(sts M).dfs,(sts M).up,H'⟩)
theorem qwx {rt:RT}:∀ {steps:List AStep} {st:St} {r:AExit × St},(stepsC steps).run rt st=some r ->
 ∃ (sts:Nat->St) (M:Nat),sts 0=st/\M<=steps.length/\(∀ p,p<M -> ∃ s,steps[p]? = some s/\StepRel rt s (sts p) (sts (p+1)))/\EndsAt rt steps sts M r
 | [],st,r,h=>by
  injection h with h;subst h
  exact ⟨fun _=>st,0,rfl,qe _,fun p hp=>by omega,.inl ⟨rfl,rfl⟩⟩
 | s::l,st,r,h=>by
  have h:(stepC s).run rt ((stepsC l).run rt) st=some r:=h
  have hcons:∀ st1,StepRel rt s st st1->(stepsC l).run rt st1=some r -> ∃ (sts:Nat->St) (M:Nat),sts 0=st/\M<=(s::l).length/\(∀ p,p<M -> ∃ s',(s::l)[p]? = some s'/\StepRel rt s' (sts p) (sts (p+1)))/\EndsAt rt (s::l) sts M r:=by
   intro st1 hr hl
   obtain ⟨sts,M,h1,h2,h3,h4⟩:=qwx hl
   refine ⟨fun p=>match p with|0=>st|p+1=>sts p,M+1,rfl,by simp;omega,fun p hp=>?_,?_⟩
   ·cases p with
    | zero=>exact ⟨s,rfl,by show StepRel rt s st (sts 0);rw [h1];exact hr⟩
    | succ p =>
     obtain ⟨s',k1,k2⟩:=h3 p (by omega)
     exact ⟨s',by simpa using k1,k2⟩
   ·rcases h4 with ⟨k1,k2⟩|⟨s',vs,c,H',ds,k1,k2⟩
    ·exact .inl ⟨by simp [k1],k2⟩
    ·exact .inr ⟨s',vs,c,H',ds,by simpa using k1,k2⟩
  cases hch:s.chk with
  | false =>
   rw [qvf s hch,qa] at h
   obtain ⟨w,hw,h⟩:=h
   cases w with
   | false =>
    simp only [xy] at h
    exact hcons _ (.skip hch hw rfl) h
   | true =>
    simp only [qz,qa] at h
    obtain ⟨vs,hvs,q,hq,h⟩:=h
    cases q with
    | val v d u H'=>exact hcons _ (.run hch hw vs v d u H' hvs hq rfl) h
    | panic c H' =>
     simp only [finR,qa,qb] at h
     obtain ⟨ds,hds,rfl⟩:=h
     exact ⟨fun _=>st,0,rfl,zl _,fun p hp=>by omega,.inr ⟨s,vs,c,H',ds,rfl,hch,hw,hvs,hq,hds,rfl⟩⟩
  | true =>
   cases hd:s.dst with
   | none=>rw [qoe s hch hd] at h;cases h
   | some d =>
    rw [qpu s hch hd,qa] at h
    obtain ⟨w,hw,h⟩:=h
    cases w with
    | false =>
     simp only [xy] at h
     exact hcons st (.look hch d hd rfl (.inl hw)) h
    | true =>
     simp only [qz,qa] at h
     obtain ⟨vs,hvs,h⟩:=h
     rcases z9 h with ⟨hk,h⟩|⟨_,h⟩
     ·exact hcons st (.look hch d hd rfl (.inr ⟨hw,vs,hvs,hk⟩)) h
     ·cases h
theorem qzc:∀ {ys:List AOpd} {tm tm':T AV},(∀ t ∈ tmpsOf ys,tm.get t=tm'.get t)->evL tm ys=evL tm' ys
 | [],_,_,_=>rfl
 | y::ys,tm,tm',h=>by
  have h1:evO tm y=evO tm' y:=by
   cases y with
   | tmp t=>exact h t (by simp [tmpsOf])
   | const v=>rfl
   | glob g=>rfl
   | func f=>rfl
  have h2:evL tm ys=evL tm' ys:=qzc (fun t ht=>h t (by cases y<;>simp [tmpsOf,ht]))
  simp only [evL,h1,h2]
section
variable {P:Program} {base:Nat} {D:Nat->Prop} {θ:Th} {H:AHeap} {w:World} {a:Act} {tm:T AV}
theorem evO_at (hh:HR P base D θ H w) {x:Operand} {y:AOpd} (ht:∀ t ∈ tmpsOf [y],∀ v,tm.get t=some v -> ∃ c,a.tmps[t]? = some c/\VR D θ v c) (hc:cOpd P.globals.size x=some y) {v:AV} (hv:evO tm y=some v):VR D θ v (a.eval x):=by
 cases x with
 | tmp t =>
  injection hc with hc;subst hc
  obtain ⟨c,h1,h2⟩:=ht t (by simp [tmpsOf]) v hv
  simpa [Act.eval,h1] using h2
 | const k =>
  simp only [cOpd,qa,qb] at hc
  obtain ⟨u,hu,rfl⟩:=hc
  injection hv with hv;subst hv
  exact qyt hu
 | global g =>
  simp only [cOpd] at hc
  split at hc
  ·rename_i hg
   injection hc with hc;subst hc
   injection hv with hv;subst hv
   obtain ⟨h1,h2,h3⟩:=hh.glob g (by simpa [we] using hg)
   have:=VR.ptr (θ:=θ) (o:=0) h1
   rw [h2,h3] at this;exact this
  ·cases hc
 | func f =>
  injection hc with hc;subst hc
  injection hv with hv;subst hv
  exact fun _ _=>rfl
theorem evL_at (hh:HR P base D θ H w):∀ {xs:List Operand} {ys:List AOpd},(∀ t ∈ tmpsOf ys,∀ v,tm.get t=some v -> ∃ c,a.tmps[t]? = some c/\VR D θ v c)->cOpds P.globals.size xs=some ys -> ∀ {vs:List AV},evL tm ys=some vs->VRL D θ vs (xs.map a.eval)
 | [],ys,ht,hc,vs,hv=>by
  injection hc with hc;subst hc
  injection hv with hv;subst hv
  exact .nil
 | x::xs,ys,ht,hc,vs,hv=>by
  simp only [cOpds,qa,qb] at hc
  obtain ⟨y,hy,ys',hys,rfl⟩:=hc
  simp only [evL,qa,qb] at hv
  obtain ⟨v,h1,vs',h2,rfl⟩:=hv
  refine .cons (evO_at hh (fun t htt=>ht t ?_) hy h1) (evL_at hh (fun t htt=>ht t ?_) hys h2)
  ·cases y<;>simp [tmpsOf] at htt ⊢;exact .inl htt
  ·cases y<;>simp [tmpsOf,htt]
theorem q6w {ops:Array Oper} {o:Oper} {s:AStep} (hg:guardOf ops o.guard=some s.guard) {tm:T AV} {a:Array Value} (ht:∀ g,s.guard=some g -> ∀ v,tm.get g.1=some v -> ∃ c,a[g.1]? = some c/\VR D θ v c) {q:Bool} (h:wantedA s tm=some q) :
 Region.wanted o (yielded ops a)=q:=by
 cases hsg:s.guard with
 | none =>
  exact qyv (D:=D) (θ:=θ) (tm:=T.nil) (a:=a) (q:=q) hg (fun t v hv=>by rw [T.get_nil] at hv;cases hv) (by unfold wantedA at h ⊢;rw [hsg] at h ⊢;exact h)
 | some g =>
  -- a table that holds the guard's slot alone
  refine qyv (D:=D) (θ:=θ) (tm:=(T.nil:T AV).put g.1 (tm.get g.1)) (a:=a) (q:=q) hg (fun t v hv=>?_) ?_
  ·rw [T.get_put] at hv
   split at hv
   ·rename_i e;subst e;exact ht g hsg v hv
   ·rw [T.get_nil] at hv;cases hv
  ·unfold wantedA at h ⊢
   rw [hsg] at h ⊢
   simp only [T.get_put,qbr]
   exact h
end
end Go.Am
namespace Go.Am
structure RG (P:Program) (rt:RT) (nt:Nat) (ops:Array Oper) (l:List (List AOpd × AOp)) (plan:List (Bool × Nat)) (sts:Nat->St) (M:Nat):Prop where
 comp:allSome (ops.toList.map (cOper P))=some l
 slots:ops.toList.all (dstOk nt)=true
 good:PlanF (planI ops l) plan
 len:M<=plan.length
 rel:∀ p,p<M -> ∃ q s o ca g,plan[p]? = some q/\ops[q.2]? = some o/\cOper P o=some ca/\l[q.2]? = some ca/\guardOf ops o.guard=some g/\s.chk=q.1/\s.dst=o.dst/\s.guard=g/\s.args=ca.1/\s.op=ca.2/\StepRel rt s (sts p) (sts (p+1))
 mono:∀ p,p<M->Ext (sts p).H (sts (p+1)).H
section
variable {P:Program} {rt:RT} {nt:Nat} {ops:Array Oper} {l:List (List AOpd × AOp)} {plan:List (Bool × Nat)} {sts:Nat->St} {M:Nat}
theorem RG.ext (R:RG P rt nt ops l plan sts M):∀ {p p':Nat},p<=p'->p'<=M->Ext (sts p).H (sts p').H:=by
 intro p p' h h'
 induction p' with
 | zero=>obtain rfl:p=0:=by omega
         exact Ext.refl _
 | succ k ih =>
  by_cases e:p=k+1
  ·subst e;exact Ext.refl _
  ·exact (ih (by omega) (by omega)).trans (R.mono k (by omega))
theorem RG.kept (R:RG P rt nt ops l plan sts M) {t:Nat}:∀ {p p':Nat},p<=p'->p'<=M->(∀ u j:Nat,p<=u->u<p'->plan[u]? = some (false,j)->dstAt ops j ≠ some t)->(sts p').tm.get t=(sts p).tm.get t:=by
 intro p p' h h' hw
 induction p' with
 | zero=>obtain rfl:p=0:=by omega
         rfl
 | succ k ih =>
  by_cases e:p=k+1
  ·subst e;rfl
  ·rw [<-ih (by omega) (by omega) (fun u j h1 h2=>hw u j h1 (by omega))]
   obtain ⟨⟨c,i⟩,s,o,ca,g,h1,h2,h3,h4,h5,h6,h7,h8,h9,h10,hr⟩:=R.rel k (by omega)
   have hput:∀ v,c=false->(putD s.dst v (sts k).tm).get t=(sts k).tm.get t:=fun v hc=>by
    subst hc
    have:=hw k i (by omega) (by omega) h1
    rw [h7]
    cases hd:o.dst with
    | none=>rfl
    | some d =>
     have hne:d ≠ t:=fun e=>by subst e;exact this (by simp [dstAt,h2,hd])
     simp only [putD,T.get_set,qo hne]
   cases hr with
   | skip hc hw' h=>rw [h];exact hput _ (h6.symm.trans hc)
   | run hc hw' vs v d u H' he ho h=>rw [h];exact hput _ (h6.symm.trans hc)
   | look hc d hd h hl=>rw [h]
theorem RG.between (R:RG P rt nt ops l plan sts M):∀ {p p':Nat},p<=p'->p'<=M->(∀ u j:Nat,p<=u->u<p'->plan[u]? = some (false,j)->(planI ops l).cls j ≠ .eff) ->
 (sts p').dfs=(sts p).dfs/\(sts p').up=(sts p).up /\ ∀ b o,(sts p').H.get b=some o->(sts p).H.get b=some o \/
  ∃ j u:Nat,p<=u/\u<p'/\plan[u]? = some (false,j)/\(planI ops l).cls j=.alloc/\(sts u).H.next<(sts (u+1)).H.next/\b=(sts u).H.next/\(sts (u+1)).H.get b=some o:=by
 intro p p' h h' hw
 induction p' with
 | zero=>obtain rfl:p=0:=by omega
         exact ⟨rfl,rfl,fun b o hb=>.inl hb⟩
 | succ k ih =>
  by_cases e:p=k+1
  ·subst e;exact ⟨rfl,rfl,fun b o hb=>.inl hb⟩
  ·obtain ⟨i1,i2,i3⟩:=ih (by omega) (by omega) (fun u j h1 h2=>hw u j h1 (by omega))
   obtain ⟨⟨c,i⟩,s,o,ca,g,h1,h2,h3,h4,h5,h6,h7,h8,h9,h10,hr⟩:=R.rel k (by omega)
   have hup:∀ b o,(sts k).H.get b=some o->(sts p).H.get b=some o \/ ∃ j u:Nat,p<=u/\u<k+1/\plan[u]? = some (false,j)/\(planI ops l).cls j=.alloc/\(sts u).H.next<(sts (u+1)).H.next/\b=(sts u).H.next/\(sts (u+1)).H.get b=some o:=fun b o hb=>by
    rcases i3 b o hb with hb|⟨j,u,k1,k2,k3⟩
    ·exact .inl hb
    ·exact .inr ⟨j,u,k1,by omega,k3⟩
   cases hr with
   | skip hc hw' h=>rw [h];exact ⟨i1,i2,hup⟩
   | look hc d hd h hl=>rw [h];exact ⟨i1,i2,hup⟩
   | run hc hw' vs v d u H' he ho h =>
    have hcf:c=false:=h6.symm.trans hc
    subst hcf
    have hcls:=hw k i (by omega) (by omega) h1
    have hcl:(planI ops l).cls i=clsOf ca.2:=by simp [planI,clsAt,h4]
    rw [hcl] at hcls
    rw [h10] at ho
    rw [h]
    cases hop:ca.2 with
    | pure f =>
     rw [hop] at ho
     simp only [opR,qa,qb,OpRes.val.injEq] at ho
     obtain ⟨_,_,_,rfl,rfl,rfl⟩:=ho
     exact ⟨i1,i2,hup⟩
    | read f =>
     rw [hop] at ho
     simp only [opR,qa,qb,OpRes.val.injEq] at ho
     obtain ⟨_,_,_,rfl,rfl,rfl⟩:=ho
     exact ⟨i1,i2,hup⟩
    | alloc f =>
     rw [hop] at ho
     simp only [opR,qa,qb,OpRes.val.injEq] at ho
     obtain ⟨⟨ob,mk⟩,_,_,rfl,rfl,rfl⟩:=ho
     refine ⟨i1,i2,fun b o hb=>?_⟩
     have hb0:=hb
     simp only [AHeap.get_alloc] at hb
     split at hb
     ·rename_i e2
      refine .inr ⟨i,k,by omega,by omega,h1,by rw [hcl,hop];rfl,by rw [h];exact xp _,e2.symm,by rw [h];exact hb0⟩
     ·exact hup b o hb
    | eff f=>rw [hop] at hcls;exact absurd rfl hcls
    | callF f=>rw [hop] at hcls;exact absurd rfl hcls
    | callV=>rw [hop] at hcls;exact absurd rfl hcls
    | invoke m=>rw [hop] at hcls;exact absurd rfl hcls
    | recover=>rw [hop] at hcls;exact absurd rfl hcls
    | defer=>rw [hop] at hcls;exact absurd rfl hcls
    | panic=>rw [hop] at hcls;exact absurd rfl hcls
theorem RG.at (R:RG P rt nt ops l plan sts M) {p i:Nat} (hp:plan[p]? = some (false,i)) (hM:p<M):∃ s o ca,ops[i]? = some o/\cOper P o=some ca/\l[i]? = some ca/\guardOf ops o.guard=some s.guard/\s.chk=false/\s.dst=o.dst/\s.args=ca.1/\s.op=ca.2/\StepRel rt s (sts p) (sts (p+1)):=by
 obtain ⟨q,s,o,ca,g,h1,h2,h3,h4,h5,h6,h7,h8,h9,h10,hr⟩:=R.rel p hM
 rw [hp] at h1;injection h1 with h1;subst h1
 exact ⟨s,o,ca,h2,h3,h4,by rw [h8];exact h5,h6,h7,h9,h10,hr⟩
theorem RG.look (R:RG P rt nt ops l plan sts M) {p i:Nat} (hp:plan[p]? = some (true,i)) (hM:p<M):∃ s o ca,ops[i]? = some o/\cOper P o=some ca/\l[i]? = some ca/\guardOf ops o.guard=some s.guard/\s.chk=true/\s.dst=o.dst/\s.args=ca.1/\s.op=ca.2/\StepRel rt s (sts p) (sts (p+1)):=by
 obtain ⟨q,s,o,ca,g,h1,h2,h3,h4,h5,h6,h7,h8,h9,h10,hr⟩:=R.rel p hM
 rw [hp] at h1;injection h1 with h1;subst h1
 exact ⟨s,o,ca,h2,h3,h4,by rw [h8];exact h5,h6,h7,h9,h10,hr⟩
theorem RG.still (R:RG P rt nt ops l plan sts M) {p i:Nat} (hp:plan[p]? = some (true,i)) (hM:p<M):sts (p+1)=sts p:=by
 obtain ⟨s,o,ca,_,_,_,_,hc,_,_,_,hr⟩:=R.look hp hM
 cases hr with
 | skip hc'=>rw [hc] at hc';cases hc'
 | run hc'=>rw [hc] at hc';cases hc'
 | look hc' d hd h hl=>exact h
theorem RG.stills (R:RG P rt nt ops l plan sts M) {q:Nat}:∀ {u:Nat},q<=u->u<=M->(∀ v:Nat,q<=v->v<u -> ∃ r,plan[v]? = some (true,r))->sts u=sts q:=by
 intro u h hM hv
 induction u with
 | zero=>obtain rfl:q=0:=by omega
         rfl
 | succ k ih =>
  by_cases e:q=k+1
  ·subst e;rfl
  ·obtain ⟨r,hr⟩:=hv k (by omega) (by omega)
   rw [R.still hr (by omega)]
   exact ih (by omega) (by omega) (fun v h1 h2=>hv v h1 (by omega))
end
def DS (D0:Nat->Prop) (plan:List (Bool × Nat)) (sts:Nat->St) (M:Nat) (S:List Nat):Nat->Prop:=fun b =>
 D0 b \/ ∃ i p:Nat,i ∈ S/\plan[p]? = some (false,i)/\p<M/\(sts p).H.next<=b/\b<(sts (p+1)).H.next
def TInv (ops:Array Oper) (plan:List (Bool × Nat)) (sts:Nat->St) (M:Nat) (S:List Nat) (D:Nat->Prop) (θ:Th) (a:Array Value):Prop :=
 ∀ t:Nat,∃ p0:Nat,p0<=M/\(∀ v,(sts p0).tm.get t=some v -> ∃ c,a[t]? = some c/\VR D θ v c) /\
  (∀ j p:Nat,j ∈ S->plan[p]? = some (false,j)->dstAt ops j=some t->p<p0) /\
  (p0=0 \/ ∃ i0 p1:Nat,i0 ∈ S/\plan[p1]? = some (false,i0)/\p0=p1+1/\dstAt ops i0=some t)
structure Inv (P:Program) (base:Nat) (D0:Nat->Prop) (θ0:Th) (w0:World) (cs0:List Frame) (b:Frame) (nt:Nat) (rd:Option Nat) (ops:Array Oper) (l:List (List AOpd × AOp)) (plan:List (Bool × Nat)) (sts:Nat->St) (M:Nat)
 (S:List Nat) (q:Nat) (X:AHeap) (θ:Th) (a:Act) (w:World) (cs:List Frame):Prop where
 heap:HR P base (DS D0 plan sts M S) θ X w
 grow:Grow D0 (sts 0).H θ0 w0 X θ w
 cov:∀ b o,(sts q).H.get b=some o->X.get b=some o
 covA:∀ j p:Nat,j ∈ S->plan[p]? = some (false,j)->(planI ops l).cls j=.alloc->q<=p->p<M->(sts p).H.next<(sts (p+1)).H.next -> ∀ o,(sts (p+1)).H.get (sts p).H.next=some o->X.get (sts p).H.next=some o
 qle:q<=M
 effs:∀ i p:Nat,plan[p]? = some (false,i)->(planI ops l).cls i=.eff->(p<q ↔ i ∈ S)
 last:q=0 \/ ∃ e p:Nat,q=p+1/\plan[p]? = some (false,e)/\(planI ops l).cls e=.eff
 dfs:dfsR (DS D0 plan sts M S) θ (sts q).dfs a.defers
 up:UpR (DS D0 plan sts M S) θ b.kind (sts q).up cs
 upS:(sts q).up.isSome=(sts 0).up.isSome
 upTo:UpTo (sts 0).up cs0 cs
 tms:TInv ops plan sts M S (DS D0 plan sts M S) θ a.tmps
 size:nt<=a.tmps.size
 round:RdR (DS D0 plan sts M S) θ b.roundOf rd
 ran:∀ i ∈ S,∃ p:Nat,plan[p]? = some (false,i)/\p<M
 closed:∀ i ∈ S,∀ j,((planI ops l).anc i).testBit j=true->j ∈ S
section
variable {P:Program} {rt:RT} {nt:Nat} {ops:Array Oper} {l:List (List AOpd × AOp)} {plan:List (Bool × Nat)} {sts:Nat->St} {M:Nat}
 {base:Nat} {D0:Nat->Prop} {θ0:Th} {w0:World} {cs0:List Frame} {b:Frame} {rd:Option Nat}
theorem qxz {i j t:Nat} (h1:t ∈ namesOf ops l i) (h2:dstAt ops j=some t):(planI ops l).ment i j=true:=by
 show mentB ops l i j=true
 unfold mentB
 rw [h2]
 exact (qtm _ _).2 h1
theorem DS.app {S:List Nat} {i:Nat} {x:Nat} (h:DS D0 plan sts M S x):DS D0 plan sts M (S ++ [i]) x:=by
 rcases h with h|⟨j,p,h1,h2⟩
 ·exact .inl h
 ·exact .inr ⟨j,p,by simp [h1],h2⟩
theorem agree (R:RG P rt nt ops l plan sts M) {S:List Nat} {q:Nat} {X:AHeap} {θ:Th} {a:Act} {w:World} {cs:List Frame} (hI:Inv P base D0 θ0 w0 cs0 b nt rd ops l plan sts M S q X θ a w cs) {i p:Nat} (hp:plan[p]? = some (false,i)) (hpM:p<=M) (hiS:i ∉ S)
 (hanc:∀ j,((planI ops l).anc i).testBit j=true->j ∈ S) {t:Nat} (ht:t ∈ namesOf ops l i):∀ v,(sts p).tm.get t=some v -> ∃ c,a.tmps[t]? = some c/\VR (DS D0 plan sts M S) θ v c:=by
 obtain ⟨p0,h1,h2,h3,h4⟩:=hI.tms t
 have hin:=R.good.lt p i hp
 -- a writer is an ancestor,or comes later
 have hcmp:∀ j p':Nat,plan[p']? = some (false,j)->dstAt ops j=some t->j ≠ i->((planI ops l).anc i).testBit j=true\/((planI ops l).anc j).testBit i=true:=fun j p' hj hd hne =>
  R.good.temps i j hin (R.good.lt p' j hj) (fun e=>hne e.symm) (qxz ht hd)
 have hle:p0<=p:=by
  rcases h4 with rfl|⟨i0,p1,k1,k2,rfl,k4⟩
  ·exact zl _
  ·have hne:i0 ≠ i:=fun e=>hiS (e ▸ k1)
   rcases hcmp i0 p1 k2 k4 hne with h|h
   ·obtain ⟨p',k5,k6⟩:=R.good.anc p i i0 hp h
    have:=R.good.one _ _ _ k2 k6
    omega
   ·exact absurd (hI.closed i0 k1 i h) hiS
 have hkept:=R.kept (t:=t) hle hpM (fun u j hu1 hu2 hj hd=>by
  have hne:j ≠ i:=fun e=>by
   subst e
   have:=R.good.one _ _ _ hp hj
   omega
  rcases hcmp j u hj hd hne with h|h
  ·have:=h3 j u (hanc j h) hj hd
   omega
  ·obtain ⟨p',k5,k6⟩:=R.good.anc u j i hj h
   have:=R.good.one _ _ _ hp k6
   omega)
 intro v hv
 rw [hkept] at hv
 exact h2 v hv
theorem TInv.put (R:RG P rt nt ops l plan sts M) {S:List Nat} {D D':Nat->Prop} {θ θ':Th} {a:Array Value} (h:TInv ops plan sts M S D θ a) (hag:Ag D θ θ') (hd:∀ x,D x->D' x) {i p:Nat} (hp:plan[p]? = some (false,i)) (hpM:p<M)
 (hanc:∀ j,((planI ops l).anc i).testBit j=true->j ∈ S) (hiS:i ∉ S) (hclosed:∀ i ∈ S,∀ j,((planI ops l).anc i).testBit j=true->j ∈ S) {o:Oper} (ho:ops[i]? = some o) (hla:∃ ca,l[i]? = some ca) {c:Value} (hs:nt<=a.size)
 (hv:∀ d v,o.dst=some d->(sts (p+1)).tm.get d=some v->VR D' θ' v c) :
 TInv ops plan sts M (S ++ [i]) D' θ' (match o.dst with|some d=>a.setIfInBounds d c|none=>a):=by
 have hda:dstAt ops i=o.dst:=by simp [dstAt,ho]
 intro t
 by_cases ht:o.dst=some t
 ·refine ⟨p+1,hpM,fun v hv'=>?_,fun j p' hj hj2 hj3=>?_,.inr ⟨i,p,by simp,hp,rfl,by rw [hda];exact ht⟩⟩
  ·rw [ht]
   have hlt:t<a.size:=by
    have:=R.slots
    rw [qdl] at this
    have:=this o (by have:=Array.mem_of_getElem? ho;simpa using this)
    unfold dstOk at this
    rw [ht] at this
    simp only [we] at this
    omega
   exact ⟨c,by simp [hlt],hv t v ht hv'⟩
  ·rcases jt.1 hj with hj|hj
   ·have hne:j ≠ i:=fun e=>hiS (e ▸ hj)
    have hin:=R.good.lt p i hp
    have htn:t ∈ namesOf ops l i:=by
     obtain ⟨ca,hca⟩:=hla
     unfold namesOf
     rw [hda,ht]
     simp
    rcases R.good.temps i j hin (R.good.lt p' j hj2) (fun e=>hne e.symm) (qxz htn hj3) with h|h
    ·obtain ⟨p2,k5,k6⟩:=R.good.anc p i j hp h
     have:=R.good.one _ _ _ hj2 k6
     omega
    ·exact absurd (hclosed j hj i h) hiS
   ·simp at hj;subst hj
    have:=R.good.one _ _ _ hp hj2
    omega
 ·obtain ⟨p0,h1,h2,h3,h4⟩:=h t
  refine ⟨p0,h1,fun v hv'=>?_,fun j p' hj hj2 hj3=>?_,?_⟩
  ·obtain ⟨c',k1,k2⟩:=h2 v hv'
   refine ⟨c',?_,k2.up hag hd⟩
   cases hd2:o.dst with
   | none=>exact k1
   | some d =>
    have hne:d ≠ t:=fun e=>ht (by rw [hd2,e])
    simp only [kx,qo hne];exact k1
  ·rcases jt.1 hj with hj|hj
   ·exact h3 j p' hj hj2 hj3
   ·simp at hj;subst hj
    rw [hda] at hj3;exact absurd hj3 ht
  ·rcases h4 with h4|⟨i0,p1,k1,k2⟩
   ·exact .inl h4
   ·exact .inr ⟨i0,p1,by simp [k1],k2⟩
end
end Go.Am
namespace Go.Am
def overH (X:AHeap):List Nat->AHeap->AHeap
 | [],H=>H
 | x::l,H=>match X.get x with
  | some o=>overH X l (H.set x o)
  | none=>overH X l H
theorem qq1 (X:AHeap):∀ (l:List Nat) (H:AHeap),(overH X l H).next=H.next
 | [],H=>rfl
 | x::l,H=>by
  unfold overH
  split
  ·rw [qq1 X l];rfl
  ·exact qq1 X l H
theorem qnh (X:AHeap):∀ (l:List Nat) (H:AHeap) (y:Nat),(overH X l H).get y=if y ∈ l/\(X.get y).isSome=true then X.get y else H.get y
 | [],H,y=>by simp [overH]
 | x::l,H,y=>by
  unfold overH
  split
  ·rename_i o ho
   rw [qnh X l,AHeap.get_set]
   by_cases h1:y ∈ l/\(X.get y).isSome=true
   ·rw [xc h1,xc ⟨by simp [h1.1],h1.2⟩]
   ·rw [qo h1]
    by_cases h2:x=y
    ·subst h2;rw [xc rfl,xc ⟨by simp,by rw [ho];rfl⟩,ho]
    ·rw [qo h2,qo]
     rintro ⟨h3,h4⟩
     rcases zp.1 h3 with h3|h3
     ·exact h2 h3.symm
     ·exact h1 ⟨h3,h4⟩
  ·rename_i ho
   rw [qnh X l]
   by_cases h1:y ∈ l/\(X.get y).isSome=true
   ·rw [xc h1,xc ⟨by simp [h1.1],h1.2⟩]
   ·rw [qo h1,qo]
    rintro ⟨h3,h4⟩
    rcases zp.1 h3 with h3|h3
    ·subst h3;rw [ho] at h4;cases h4
    ·exact h1 ⟨h3,h4⟩
theorem HR.frame {P:Program} {base:Nat} {D D0:Nat->Prop} {θ θ0:Th} {H0 H X:AHeap} {w w0:World} {D':Nat->Prop} {θ':Th} {H':AHeap} {w':World} (hX:HR P base D θ X w) (gX:Grow D0 H0 θ0 w0 X θ w) (h0D:∀ x,D0 x->D x)
 (hsub:∀ b o,H.get b=some o->X.get b=some o) (h':HR P base D' θ' H' w') (g:Grow D H θ w H' θ' w') (hext:Ext H H') (hD:∀ x,D x->D' x) (hn:H0.next<=H'.next) (E:List Nat)
 (hE:∀ x ∈ E,H.get x=none /\ ∀ o,X.get x=some o->own o=true):HR P base D' θ' (overH X E H') w'/\Grow D0 H0 θ0 w0 (overH X E H') θ' w':=by
 have hcase:∀ y o,(overH X E H').get y=some o->(y ∈ E/\X.get y=some o)\/(H'.get y=some o):=by
  intro y o hy
  rw [qnh] at hy
  split at hy
  ·rename_i h;exact .inl ⟨h.1,hy⟩
  ·exact .inr hy
 have hblk:∀ x o,X.get x=some o -> θ'.blk x = θ.blk x:=fun x o hx=>(g.ag x (hX.obj x o hx).1).1
 refine ⟨⟨fun x o hx=>?_,fun x y ox oy hx hy hox hne=>?_,fun x o hx ho=>?_,h'.glob,h'.low⟩,⟨by rw [qq1];exact hn,gX.ag.trans g.ag h0D,zn gX.size g.size,g.os.trans gX.os,g.tape.trans gX.tape,g.output.trans gX.output,fun k hk hno=>?_,fun x o hx ho hlt=>?_⟩⟩
 ·rcases hcase x o hx with ⟨hE1,hx1⟩|hx1
  ·obtain ⟨h1,co,h2,h3⟩:=hX.obj x o hx1
   refine ⟨hD x h1,co,?_,h3.up h1 g.ag hD⟩
   rw [hblk x o hx1,g.keep _ (hX.lt hx1)]
   ·exact h2
   ·intro y oy hy hoy e
    have hyX:=hsub y oy hy
    refine hX.inj y x oy o hyX hx1 hoy (fun q=>?_) e
    subst q
    rw [(hE y hE1).1] at hy;cases hy
  ·exact h'.obj x o hx1
 ·rcases hcase x ox hx with ⟨hE1,hx1⟩|hx1<;>rcases hcase y oy hy with ⟨hE2,hy1⟩|hy1
  ·rw [hblk x ox hx1,hblk y oy hy1];exact hX.inj x y ox oy hx1 hy1 hox hne
  ·rw [hblk x ox hx1]
   intro e
   rcases hext.2 y oy hy1 with ⟨o'',h1,_⟩|⟨h1,h2,h3⟩
   ·have hyX:=hsub y o'' h1
    rw [hblk y o'' hyX] at e
    exact hX.inj x y ox o'' hx1 hyX hox hne e
   ·obtain ⟨b',o',k1,k2,k3⟩:=g.news y oy hy1 h3 (by rw [<-e];exact hX.lt hx1)
    refine hX.inj b' x o' ox (hsub b' o' k1) hx1 k2 (fun q=>?_) (k3.trans e.symm)
    subst q
    rw [(hE b' hE1).1] at k1;cases k1
  ·rw [hblk y oy hy1]
   intro e
   obtain ⟨b',o',k1,k2,k3⟩:=g.news x ox hx1 hox (by rw [e];exact hX.lt hy1)
   refine hX.inj b' y o' oy (hsub b' o' k1) hy1 k2 (fun q=>?_) (k3.trans e)
   subst q
   rw [(hE b' hE2).1] at k1;cases k1
  ·exact h'.inj x y ox oy hx1 hy1 hox hne
 ·rcases hcase x o hx with ⟨hE1,hx1⟩|hx1
  ·rw [hblk x o hx1];exact hX.above x o hx1 ho
  ·exact h'.above x o hx1 ho
 ·rw [g.keep k (ql hk gX.size)]
  ·exact gX.keep k hk hno
  ·intro b ob hb hob e
   obtain ⟨b',o',k1,k2,k3⟩:=gX.news b ob (hsub b ob hb) hob (by rw [e];exact hk)
   exact hno b' o' k1 k2 (k3.trans e)
 ·rcases hcase x o hx with ⟨hE1,hx1⟩|hx1
  ·rw [hblk x o hx1] at hlt ⊢
   exact gX.news x o hx1 ho hlt
  ·obtain ⟨b',o',k1,k2,k3⟩:=g.news x o hx1 ho (ql hlt gX.size)
   obtain ⟨b2,o2,k4,k5,k6⟩:=gX.news b' o' (hsub b' o' k1) k2 (by rw [k3];exact hlt)
   exact ⟨b2,o2,k4,k5,k6.trans k3⟩
section
variable {P:Program} {rt:RT} {nt:Nat} {ops:Array Oper} {l:List (List AOpd × AOp)} {plan:List (Bool × Nat)} {sts:Nat->St} {M:Nat}
 {base:Nat} {D0:Nat->Prop} {θ0:Th} {w0:World} {cs0:List Frame} {b:Frame}
theorem DS.snoc (R:RG P rt nt ops l plan sts M) {S:List Nat} {i p:Nat} (hp:plan[p]? = some (false,i)) (hpM:p<M):DS D0 plan sts M (S ++ [i])=Up (DS D0 plan sts M S) (sts p).H.next (sts (p+1)).H.next:=by
 funext x
 simp only [eq_iff_iff]
 constructor
 ·rintro (h|⟨j,p',h1,h2,h3,h4⟩)
  ·exact .inl (.inl h)
  ·rcases jt.1 h1 with h1|h1
   ·exact .inl (.inr ⟨j,p',h1,h2,h3,h4⟩)
   ·simp at h1;subst h1
    have:=R.good.one _ _ _ hp h2
    subst this
    exact .inr h4
 ·rintro (h|h)
  ·exact h.app
  ·exact .inr ⟨i,p,by simp,hp,hpM,h⟩
theorem DS.fresh (R:RG P rt nt ops l plan sts M) {S:List Nat} {i p:Nat} (hp:plan[p]? = some (false,i)) (hpM:p<=M) (hiS:i ∉ S) {n:Nat} (hf:Fresh D0 (sts 0).H.next n) {m:Nat} (hm:m<=n)
 (hm2:p<M->m<=(sts (p+1)).H.next):Fresh (DS D0 plan sts M S) (sts p).H.next m:=by
 intro x h1 h2 h3
 rcases h3 with h3|⟨j,p',k1,k2,k3,k4,k5⟩
 ·exact hf x (zn (R.ext (zl p) hpM).1 h1) (by omega) h3
 ·rcases Nat.lt_trichotomy p p' with h|h|h
  ·have e1:=(R.ext (p:=p+1) (p':=p') h (by omega)).1
   have:=hm2 (by omega)
   omega
  ·subst h
   rw [hp] at k2;injection k2 with k2;injection k2 with _ k2
   exact hiS (k2 ▸ k1)
  ·have e1:=(R.ext (p:=p'+1) (p':=p) h hpM).1
   omega
theorem qsp (R:RG P rt nt ops l plan sts M) {rd:Option Nat} {S:List Nat} {q:Nat} {X:AHeap} {θ:Th} {a:Act} {w:World} {cs:List Frame} (hI:Inv P base D0 θ0 w0 cs0 b nt rd ops l plan sts M S q X θ a w cs) {i p:Nat} (hp:plan[p]? = some (false,i)) (hpM:p<=M) (hiS:i ∉ S)
 (hanc:∀ j,((planI ops l).anc i).testBit j=true->j ∈ S) (hqp:q<=p) (hcl:(planI ops l).cls i=.read\/(planI ops l).cls i=.eff) :
 (sts p).dfs=(sts q).dfs/\(sts p).up=(sts q).up /\ ∀ x o,(sts p).H.get x=some o->X.get x=some o:=by
 obtain ⟨h1,h2,h3⟩:=R.between hqp hpM (fun u j hu1 hu2 hj hc=>by
  have:=hanc j (R.good.made p i u j hp hcl hj hu2 (.inr hc))
  have:=(hI.effs j u hj hc).2 this
  omega)
 refine ⟨h1,h2,fun x o hx=>?_⟩
 rcases h3 x o hx with hx|⟨j,u,k1,k2,k3,k4,k5,rfl,k7⟩
 ·exact hI.cov x o hx
 ·exact hI.covA j u (hanc j (R.good.made p i u j hp hcl k3 k2 (.inl k4))) k3 k4 k1 (by omega) k5 o k7
theorem qo3 (R:RG P rt nt ops l plan sts M) {rd:Option Nat} {S:List Nat} {q:Nat} {X:AHeap} {θ:Th} {a:Act} {w:World} {cs:List Frame} (hI:Inv P base D0 θ0 w0 cs0 b nt rd ops l plan sts M S q X θ a w cs) {i p:Nat} (hp:plan[p]? = some (false,i)) (hiS:i ∉ S)
 (hcl:(planI ops l).cls i=.eff):q<=p:=by
 rcases hI.last with h|⟨e,p1,rfl,h2,h3⟩
 ·omega
 ·refine qaf fun hlt=>?_
  have heS:=(hI.effs e p1 h2 h3).1 (xp _)
  have hne:p ≠ p1:=fun q=>by
   subst q
   rw [hp] at h2;injection h2 with h2;injection h2 with _ h2
   exact hiS (h2 ▸ heS)
  have:=R.good.made p1 e p i h2 (.inr h3) hp (by omega) (.inr hcl)
  exact hiS (hI.closed e heS i this)
theorem read_now (R:RG P rt nt ops l plan sts M) {rd:Option Nat} {S:List Nat} {q:Nat} {X:AHeap} {θ:Th} {a:Act} {w:World} {cs:List Frame} (hI:Inv P base D0 θ0 w0 cs0 b nt rd ops l plan sts M S q X θ a w cs) {i p:Nat} (hp:plan[p]? = some (false,i)) (hpM:p<M) (hiS:i ∉ S)
 (hanc:∀ j,((planI ops l).anc i).testBit j=true->j ∈ S) (hend:M=plan.length \/ ∃ j,plan[M]? = some (false,j)) {o:Oper} {ca:List AOpd × AOp} {s:AStep} (ho:ops[i]? = some o) (hla:l[i]? = some ca) (hsd:s.dst=o.dst) (hsa:s.args=ca.1) (hso:s.op=ca.2) (hsg:guardOf ops o.guard=some s.guard)
 {f:List AV->AHeap->Option AV} (hf:ca.2=.read f) {vs:List AV} {v:AV} (hw:wantedA s (sts p).tm=some true) (he:evL (sts p).tm s.args=some vs) (hv:f vs (sts p).H=some v) (hst:sts (p+1)=⟨putD s.dst v (sts p).tm,(sts p).dfs,(sts p).up,(sts p).H⟩) :
 ∃ H,(∀ x o,H.get x=some o->X.get x=some o)/\f vs H=some v:=by
 have hcl:(planI ops l).cls i=.read:=by
  show clsAt l i=.read
  simp [clsAt,hla,hf,clsOf]
 by_cases hqp:q<=p
 ·exact ⟨(sts p).H,(qsp R hI hp (by omega) hiS hanc hqp (.inl hcl)).2.2,hv⟩
 ·rcases hI.last with h|⟨e,p1,rfl,h2,h3⟩
  ·omega
  ·have heS:=(hI.effs e p1 h2 h3).1 (xp _)
   have hne:p ≠ p1:=fun q=>by
    subst q
    rw [hp] at h2;injection h2 with h2;injection h2 with _ h2
    exact hiS (h2 ▸ heS)
   have hna:((planI ops l).anc e).testBit i=false:=by
    cases hb:((planI ops l).anc e).testBit i with
    | false=>rfl
    | true=>exact absurd (hI.closed e heS i hb) hiS
   obtain ⟨u,k1,k2,k3⟩:=R.good.look p1 e p i h2 h3 hp (by omega) hcl hna
   have huM:u<M:=by
    rcases hend with hend|⟨j,hj⟩
    ·have:=(qi.1 k2).1
     omega
    ·refine qaf fun hlt=>?_
     obtain ⟨r',hr'⟩:=k3 M (by have:=hI.qle;omega) (by omega)
     rw [hj] at hr';injection hr' with hr';injection hr' with hr' _;cases hr'
   have hsu:sts u=sts (p1+1):=R.stills (q:=p1+1) (by omega) (by omega) (fun v hv1 hv2=>k3 v (by omega) (by omega))
   obtain ⟨s',o',ca',g1,g2,g3,g4,g5,g6,g7,g8,hr⟩:=R.look k2 huM
   rw [ho] at g1;injection g1 with g1;subst g1
   rw [hla] at g3;injection g3 with g3;subst g3
   have hgd:s'.guard=s.guard:=by rw [hsg] at g4;injection g4 with g4;exact g4.symm
   have hin:=R.good.lt p i hp
   -- nothing that it names is written between
   have hself:=(R.good.again u i k2).2.1
   have hself:selfB ops l i=true:=hself
   have hda:dstAt ops i=o.dst:=by simp [dstAt,ho]
   have hwr:∀ t ∈ namesOf ops l i,∀ x j:Nat,p+1<=x->x<u->plan[x]? = some (false,j)->dstAt ops j ≠ some t:=by
    intro t ht x j hx1 hx2 hj hd
    have hji:j ≠ i:=fun e=>by
     subst e
     have:=R.good.one _ _ _ hp hj
     omega
    have:=(R.good.again u i k2).2.2.2 j x hj hx2 hji (qxz ht hd)
    obtain ⟨x',hx',hx'2⟩:=R.good.anc p i j hp this
    have:=R.good.one _ _ _ hj hx'2
    omega
   have hreads:∀ t ∈ readsOf ops l i,(sts u).tm.get t=(sts p).tm.get t:=by
    intro t ht
    have hnd:o.dst ≠ some t:=fun hd=>by
     unfold selfB at hself
     rw [hda,hd] at hself
     simp only [qfq] at hself
     rw [(qtm _ _).2 ht] at hself;cases hself
    refine R.kept (by omega) (by omega) (fun x j hx1 hx2 hj hd=>?_)
    by_cases hxp:x=p
    ·subst hxp
     rw [hp] at hj;injection hj with hj;injection hj with _ hj
     subst hj
     rw [hda] at hd;exact hnd hd
    ·exact hwr t (by unfold namesOf;simp [ht]) x j (by omega) hx2 hj hd
   have hro:readsOf ops l i=(match guardOf ops o.guard with|some (some g)=>[g.1] | _=>[])++tmpsOf ca.1:=by unfold readsOf;rw [ho,hla];rfl
   have hw':wantedA s' (sts u).tm=some true:=by
    rw [<-hw]
    unfold wantedA
    rw [hgd]
    cases hg:s.guard with
    | none=>rfl
    | some g =>
     simp only
     rw [hreads g.1 (by rw [hro,hsg,hg];simp)]
   have he':evL (sts u).tm s'.args=some vs:=by
    rw [<-he,hsa,g7]
    exact qzc (fun t ht=>hreads t (by rw [hro];simp [ht]))
   cases hr with
   | skip hc'=>rw [g5] at hc';cases hc'
   | run hc'=>rw [g5] at hc';cases hc'
   | look hc' d hd h hl =>
    rcases hl with hl|⟨_,vs',hvs',hk⟩
    ·rw [hw'] at hl;cases hl
    ·rw [he'] at hvs';injection hvs' with hvs';subst hvs'
     rw [g8,hf] at hk
     unfold chkOp at hk
     simp only at hk
     split at hk
     ·rename_i v1 v2 hv1 hv2
      have hdd:(sts u).tm.get d=some v:=by
       have hod:o.dst=some d:=by rw [<-g6];exact hd
       rw [R.kept (p:=p+1) (t:=d) (by omega) (by omega) (hwr d (by unfold namesOf;rw [hda,hod];simp))]
       rw [hst,hsd,hod]
       simp only [putD,T.get_set,qbr]
      rw [hdd] at hv2;injection hv2 with hv2;subst hv2
      have:=qyn _ _ hk
      subst this
      exact ⟨(sts u).H,fun x o hx=>hI.cov x o (by rw [hsu] at hx;exact hx),hv1⟩
     ·cases hk
theorem qsw (a:Act) (d:Option Nat) (c:Value):(a.put d c).tmps=(match d with|some d=>a.tmps.setIfInBounds d c|none=>a.tmps):=by
 cases d<;>rfl
theorem qwu (a:Act) (d:Option Nat) (c:Value):(a.put d c).defers=a.defers:=by
 cases d<;>rfl
theorem Inv.step (R:RG P rt nt ops l plan sts M) {rd:Option Nat} {S:List Nat} {q:Nat} {X:AHeap} {θ:Th} {a:Act} {w:World} {cs:List Frame} (hI:Inv P base D0 θ0 w0 cs0 b nt rd ops l plan sts M S q X θ a w cs) {i p:Nat} (hp:plan[p]? = some (false,i)) (hpM:p<M) (hiS:i ∉ S)
 (hanc:∀ j,((planI ops l).anc i).testBit j=true->j ∈ S) {o:Oper} (ho:ops[i]? = some o) (hla:∃ ca,l[i]? = some ca) (hcl:(planI ops l).cls i ≠ .eff) {θ':Th} {X':AHeap} {w':World} {c:Value}
 (heap':HR P base (DS D0 plan sts M (S ++ [i])) θ' X' w') (grow':Grow D0 (sts 0).H θ0 w0 X' θ' w') (hsub:∀ x o,(∃ d,DS D0 plan sts M S x/\X.get x=some d)->X.get x=some o->X'.get x=some o) (hag:Ag (DS D0 plan sts M S) θ θ')
 (hA:(planI ops l).cls i=.alloc->(sts p).H.next<(sts (p+1)).H.next -> ∀ o,(sts (p+1)).H.get (sts p).H.next=some o->X'.get (sts p).H.next=some o)
 (hval:∀ d v,o.dst=some d->(sts (p+1)).tm.get d=some v->VR (DS D0 plan sts M (S ++ [i])) θ' v c) :
 Inv P base D0 θ0 w0 cs0 b nt rd ops l plan sts M (S ++ [i]) q X' θ' (a.put o.dst c) w' cs:=by
 have hup:∀ x,DS D0 plan sts M S x->DS D0 plan sts M (S ++ [i]) x:=fun x h=>h.app
 have hsub':∀ x o,X.get x=some o->X'.get x=some o:=fun x o hx=>hsub x o ⟨o,(hI.heap.obj x o hx).1,hx⟩ hx
 refine ⟨heap',grow',fun x o hx=>hsub' x o (hI.cov x o hx),fun j p' hj hj2 hj3 hj4 hj5 hj6 o' ho'=>?_,hI.qle,fun i' p' hp' hc'=>?_,hI.last,?_,UpR.up hag hup hI.up,hI.upS,hI.upTo,?_,?_,RdR.up hag hup hI.round,fun j hj=>?_,fun j hj j' hj'=>?_⟩
 ·rcases jt.1 hj with hj|hj
  ·exact hsub' _ _ (hI.covA j p' hj hj2 hj3 hj4 hj5 hj6 o' ho')
  ·simp at hj;subst hj
   have:=R.good.one _ _ _ hp hj2
   subst this
   exact hA hj3 hj6 o' ho'
 ·rw [hI.effs i' p' hp' hc']
  constructor
  ·intro h;simp [h]
  ·intro h
   rcases jt.1 h with h|h
   ·exact h
   ·simp at h;subst h;exact absurd hc' hcl
 ·rw [qwu];exact dfsR.up hag hup hI.dfs
 ·rw [qsw]
  exact hI.tms.put R hag hup hp hpM hanc hiS hI.closed ho hla hI.size hval
 ·rw [qsw];have:=hI.size;split<;>simpa using this
 ·rcases jt.1 hj with hj|hj
  ·exact hI.ran j hj
  ·simp at hj;subst hj;exact ⟨p,hp,hpM⟩
 ·rcases jt.1 hj with hj|hj
  ·simp [hI.closed j hj j' hj']
  ·simp at hj;subst hj;simp [hanc j' hj']
theorem Inv.stepE (R:RG P rt nt ops l plan sts M) {rd:Option Nat} {S:List Nat} {q:Nat} {X:AHeap} {θ:Th} {a:Act} {w:World} {cs:List Frame} (hI:Inv P base D0 θ0 w0 cs0 b nt rd ops l plan sts M S q X θ a w cs) {i p:Nat} (hp:plan[p]? = some (false,i)) (hpM:p<M) (hiS:i ∉ S)
 (hanc:∀ j,((planI ops l).anc i).testBit j=true->j ∈ S) {o:Oper} (ho:ops[i]? = some o) (hla:∃ ca,l[i]? = some ca) (hcl:(planI ops l).cls i=.eff) {θ':Th} {X':AHeap} {w':World} {cs':List Frame} {c:Value} {ds:List Deferred}
 (heap':HR P base (DS D0 plan sts M (S ++ [i])) θ' X' w') (grow':Grow D0 (sts 0).H θ0 w0 X' θ' w') (cov':∀ x o,(sts (p+1)).H.get x=some o->X'.get x=some o)
 (covA':∀ j p':Nat,j ∈ S->plan[p']? = some (false,j)->(planI ops l).cls j=.alloc->p+1<=p'->p'<M->(sts p').H.next<(sts (p'+1)).H.next -> ∀ o,(sts (p'+1)).H.get (sts p').H.next=some o->X'.get (sts p').H.next=some o)
 (hag:Ag (DS D0 plan sts M S) θ θ') (dfs':dfsR (DS D0 plan sts M (S ++ [i])) θ' (sts (p+1)).dfs ds) (up':UpR (DS D0 plan sts M (S ++ [i])) θ' b.kind (sts (p+1)).up cs') (upS':(sts (p+1)).up.isSome=(sts 0).up.isSome) (upTo':UpTo (sts 0).up cs0 cs')
 (hval:∀ d v,o.dst=some d->(sts (p+1)).tm.get d=some v->VR (DS D0 plan sts M (S ++ [i])) θ' v c) :
 Inv P base D0 θ0 w0 cs0 b nt rd ops l plan sts M (S ++ [i]) (p+1) X' θ' (({ a with defers:=ds }:Act).put o.dst c) w' cs':=by
 have hup:∀ x,DS D0 plan sts M S x->DS D0 plan sts M (S ++ [i]) x:=fun x h=>h.app
 have hqp:=qo3 R hI hp hiS hcl
 refine ⟨heap',grow',cov',fun j p' hj hj2 hj3 hj4 hj5 hj6 o' ho'=>?_,hpM,fun i' p' hp' hc'=>?_,.inr ⟨i,p,rfl,hp,hcl⟩,?_,up',upS',upTo',?_,?_,RdR.up hag hup hI.round,fun j hj=>?_,fun j hj j' hj'=>?_⟩
 ·rcases jt.1 hj with hj|hj
  ·exact covA' j p' hj hj2 hj3 hj4 hj5 hj6 o' ho'
  ·simp at hj;subst hj
   have:=R.good.one _ _ _ hp hj2
   omega
 ·constructor
  ·intro h
   by_cases e:p'=p
   ·subst e
    rw [hp] at hp';injection hp' with hp';injection hp' with _ hp'
    simp [hp']
   ·have:=hanc i' (R.good.made p i p' i' hp (.inr hcl) hp' (by omega) (.inr hc'))
    simp [this]
  ·intro h
   rcases jt.1 h with h|h
   ·have:=(hI.effs i' p' hp' hc').2 h
    omega
   ·simp at h;subst h
    have:=R.good.one _ _ _ hp hp'
    omega
 ·rw [qwu];exact dfs'
 ·rw [qsw]
  exact hI.tms.put R hag hup hp hpM hanc hiS hI.closed ho hla hI.size hval
 ·rw [qsw];have:=hI.size;split<;>simpa using this
 ·rcases jt.1 hj with hj|hj
  ·exact hI.ran j hj
  ·simp at hj;subst hj;exact ⟨p,hp,hpM⟩
 ·rcases jt.1 hj with hj|hj
  ·simp [hI.closed j hj j' hj']
  ·simp at hj;subst hj;simp [hanc j' hj']
theorem q51 (R:RG P rt nt ops l plan sts M) {rd:Option Nat} {S:List Nat} {q:Nat} {X:AHeap} {θ:Th} {a:Act} {w:World} {cs:List Frame} (hI:Inv P base D0 θ0 w0 cs0 b nt rd ops l plan sts M S q X θ a w cs) {i p:Nat} (hp:plan[p]? = some (false,i)) (hpM:p<=M) (hiS:i ∉ S)
 (hanc:∀ j,((planI ops l).anc i).testBit j=true->j ∈ S) {o:Oper} {ca:List AOpd × AOp} {s:AStep} (ho:ops[i]? = some o) (hla:l[i]? = some ca) (hsa:s.args=ca.1) (hsg:guardOf ops o.guard=some s.guard) :
 (∀ {wd:Bool},wantedA s (sts p).tm=some wd->Region.wanted o (yielded ops a.tmps)=wd) /\
 ∀ {xs:List Operand},cOpds P.globals.size xs=some ca.1 -> ∀ {vs:List AV},evL (sts p).tm s.args=some vs->VRL (DS D0 plan sts M S) θ vs (xs.map a.eval):=by
 have hro:readsOf ops l i=(match guardOf ops o.guard with|some (some g)=>[g.1] | _=>[])++tmpsOf ca.1:=by unfold readsOf;rw [ho,hla];rfl
 have hin:∀ t ∈ readsOf ops l i,t ∈ namesOf ops l i:=fun t ht=>by unfold namesOf;simp [ht]
 refine ⟨fun {wd} hw=>q6w (D:=DS D0 plan sts M S) (θ:=θ) hsg (fun g hg v hv=>?_) hw,fun {xs} hxs {vs} hvs=>?_⟩
 ·exact agree R hI hp hpM hiS hanc (hin g.1 (by rw [hro,hsg,hg];simp)) v hv
 ·rw [hsa] at hvs
  exact evL_at hI.heap (fun t ht v hv=>agree R hI hp hpM hiS hanc (hin t (by rw [hro];simp [ht])) v hv) hxs hvs
end
end Go.Am
namespace Go.Am
section
variable {P:Program} {rt:RT} {nt:Nat} {ops:Array Oper} {l:List (List AOpd × AOp)} {plan:List (Bool × Nat)} {sts:Nat->St} {M:Nat}
 {base:Nat} {D0:Nat->Prop} {θ0:Th} {w0:World} {cs0:List Frame} {b:Frame}
theorem RG.made (R:RG P rt nt ops l plan sts M) {p j:Nat} (hp:plan[p]? = some (false,j)) (hpM:p<M) (hcl:(planI ops l).cls j=.alloc) (hlt:(sts p).H.next<(sts (p+1)).H.next):∃ ob,(sts (p+1)).H.get (sts p).H.next=some ob:=by
 obtain ⟨s,o,ca,ho,hco,hla,hsg,hsc,hsd,hsa,hso,hrel⟩:=R.at hp hpM
 have hcls:(planI ops l).cls j=clsOf ca.2:=by simp [planI,clsAt,hla]
 rw [hcls] at hcl
 cases hrel with
 | look hc=>rw [hsc] at hc;cases hc
 | skip hc hw hst=>rw [hst] at hlt;exact absurd hlt (qei _)
 | run hc hw vs v d u H' he hop hst =>
  rw [hso] at hop
  cases hca:ca.2 with
  | alloc f =>
   rw [hca] at hop
   simp only [opR,qa,qb,OpRes.val.injEq] at hop
   obtain ⟨⟨ob,mk⟩,_,_,rfl,rfl,rfl⟩:=hop
   exact ⟨ob,by rw [hst];simp only [AHeap.get_alloc,qbr]⟩
  | _=>rw [hca] at hcl;cases hcl
set_option maxHeartbeats 1000000 in
theorem q5i (R:RG P rt nt ops l plan sts M) (hP:PGood P) (hcall:wt P base rt.call) (hround:qbz P base rt.round) (hAP:rt.AP=cProg P) {S:List Nat} {q:Nat} {X:AHeap} {θ:Th} {a:Act} {w:World} {cs:List Frame}
 (hI:Inv P base D0 θ0 w0 cs0 b nt rt.ctx.round ops l plan sts M S q X θ a w cs) {i p:Nat} (hp:plan[p]? = some (false,i)) (hpM:p<M) (hiS:i ∉ S) (hanc:∀ j,((planI ops l).anc i).testBit j=true->j ∈ S) {n:Nat} (hfr:Fresh D0 (sts 0).H.next n)
 (hMn:(sts M).H.next<=n) (hend:M=plan.length \/ ∃ j,plan[M]? = some (false,j)) (h0:∀ x o,(sts 0).H.get x=some o->D0 x) {k:List Item} {rest:List Nat} :
 ∃ q' X' θ' a' w' cs',Steps P (lone (b.atR a (.inRegion ops (i::rest)::k)) cs w) (lone (b.atR a' (.inRegion ops rest::k)) cs' w')/\Inv P base D0 θ0 w0 cs0 b nt rt.ctx.round ops l plan sts M (S ++ [i]) q' X' θ' a' w' cs':=by
 obtain ⟨s,o,ca,ho,hco,hla,hsg,hsc,hsd,hsa,hso,hrel⟩:=R.at hp hpM
 obtain ⟨xs,hxs,hok,hdef⟩:=qq0 hP hco
 obtain ⟨hwant,hopd⟩:=q51 R hI hp (by omega) hiS hanc ho hla hsa hsg
 have hcls:(planI ops l).cls i=clsOf ca.2:=by simp [planI,clsAt,hla]
 have hsn:=DS.snoc (D0:=D0) R (S:=S) hp hpM
 have hnle:(sts (p+1)).H.next<=n:=zn (R.ext (p:=p+1) (p':=M) hpM (qe _)).1 hMn
 have hfresh:=DS.fresh R (S:=S) hp (by omega) hiS hfr (m:=(sts (p+1)).H.next) hnle (fun _=>qe _)
 -- no block bears a number that is to come
 have hnone:∀ p1 p2:Nat,p1<=p2->p2<M->(sts p2).H.next<(sts (p2+1)).H.next->(sts p1).H.get (sts p2).H.next=none:=by
  intro p1 p2 h1 h2 h3
  cases hg:(sts p1).H.get (sts p2).H.next with
  | none=>rfl
  | some o' =>
   exfalso
   have e0:=(R.ext (p:=0) (p':=p2) (by omega) (by omega)).1
   have e1:=(R.ext (p:=p1) (p':=p2) h1 (by omega)).1
   have e2:=(R.ext (p:=p2+1) (p':=M) h2 (qe _)).1
   rcases (R.ext (p:=0) (p':=p1) (by omega) (by omega)).2 _ _ hg with ⟨o'',ho'',_⟩|⟨_,h8,_⟩
   ·exact hfr _ e0 (by omega) (h0 _ _ ho'')
   ·omega
 cases hrel with
 | look hc=>rw [hsc] at hc;cases hc
 | skip hc hw hst =>
  have hwf:=hwant hw
  have hsk:=stepR_op_skip (P:=P) (b:=b) (a:=a) (k:=k) (cs:=cs) (w:=w) (ops:=ops) (i:=i) (rest:=rest) (by simp [ho,hwf])
  rw [ho] at hsk
  have hDS:DS D0 plan sts M (S ++ [i])=DS D0 plan sts M S:=by rw [hsn,hst];exact Up.none
  by_cases hce:(planI ops l).cls i=.eff
  ·obtain ⟨k1,k2,k3⟩:=qsp R hI hp (by omega) hiS hanc (qo3 R hI hp hiS hce) (.inr hce)
   have hI2:=hI.stepE R (cs':=cs) (ds:=a.defers) hp hpM hiS hanc ho ⟨ca,hla⟩ hce (θ':=θ) (X':=X) (w':=w) (c:=undef) (by rw [hDS];exact hI.heap) hI.grow (fun x o' hx=>by rw [hst] at hx;exact k3 x o' hx)
    (fun j p' hj hj2 hj3 hj4 hj5 hj6 o' ho'=>hI.covA j p' hj hj2 hj3 (by have:=qo3 R hI hp hiS hce;omega) hj5 hj6 o' ho') (Ag.refl _ _) (by rw [hDS,hst];simp only;rw [k1];exact hI.dfs) (by rw [hDS,hst];simp only;rw [k2];exact hI.up)
    (by rw [hst];simp only;rw [k2];exact hI.upS) hI.upTo (fun d v hd hv=>by
     rw [hst,hsd,hd] at hv
     simp only [putD,T.get_set,qbr,qb] at hv
     subst hv;exact .undef)
   exact ⟨_,_,_,_,_,_,.one hsk,hI2⟩
  ·have hI2:=hI.step R hp hpM hiS hanc ho ⟨ca,hla⟩ hce (θ':=θ) (X':=X) (w':=w) (c:=undef) (by rw [hDS];exact hI.heap) hI.grow (fun x o' _ hx=>hx) (Ag.refl _ _) (fun _ hlt=>by rw [hst] at hlt;exact absurd hlt (qei _))
    (fun d v hd hv=>by
     rw [hst,hsd,hd] at hv
     simp only [putD,T.get_set,qbr,qb] at hv
     subst hv;exact .undef)
   exact ⟨_,_,_,_,_,_,.one hsk,hI2⟩
 | run hc hw vs v d u H' he hop hst =>
  have hwt:=hwant hw
  have hv:=hopd hxs he
  rw [hso] at hop
  have hval:∀ (x:AV),(∀ dd v',o.dst=some dd->(sts (p+1)).tm.get dd=some v'->v'=v):=by
   intro _ dd v' hd hv'
   rw [hst,hsd,hd] at hv'
   simp only [putD,T.get_set,qbr,qb] at hv'
   exact hv'.symm
  have hnd:ca.2 ≠ .defer->ca.2 ≠ .pure Op.fail->o.semAt b.roundOf a.eval=execOp a.eval o:=fun q1 q2=>Oper.semAt_eq _ _ _ (by
   rcases hdef with h|h|h
   ·exact h
   ·exact absurd h q1
   ·exact absurd h q2)
  by_cases hce:clsOf ca.2=.eff
  ·-- an effect
   have hce':(planI ops l).cls i=.eff:=by rw [hcls];exact hce
   have hqp:=qo3 R hI hp hiS hce'
   obtain ⟨k1,k2,k3⟩:=qsp R hI hp (by omega) hiS hanc hqp (.inr hce')
   have hstH:(sts (p+1)).H=H':=by rw [hst]
   have hout:=qx7 hP hcall hround hAP hok hdef (rest:=rest) (k:=k) (st:=sts p) (cs:=cs) (r:=.val v d u H') ho hwt (hI.heap.sub k3) (by rw [k1];exact hI.dfs) (by rw [k2];exact hI.up) hI.round hv hop (by rw [hstH] at hfresh;exact hfresh)
   obtain ⟨θ',w',c,cs',ds,g1,g2,g3,g4,g5,g6,g7,g8⟩:=hout
   have hext:Ext (sts p).H H':=by rw [<-hstH];exact R.mono p hpM
   have hDS:DS D0 plan sts M (S ++ [i])=Up (DS D0 plan sts M S) (sts p).H.next H'.next:=by rw [hsn,hstH]
   -- what was made ahead of its time
   let Q:Nat->Prop:=fun p'=>p+1<=p' /\ ∃ j,j ∈ S/\plan[p']? = some (false,j)/\(planI ops l).cls j=.alloc/\(sts p').H.next<(sts (p'+1)).H.next
   let E:List Nat:=((List.range M).filter (fun p'=>@decide (Q p') (Classical.propDecidable _))).map (fun p'=>(sts p').H.next)
   have hEm:∀ x,x ∈ E ↔ ∃ p',p'<M/\Q p'/\x=(sts p').H.next:=by
    intro x
    simp only [E,List.mem_map,List.mem_filter,List.mem_range,qaz]
    constructor
    ·rintro ⟨p',⟨h1,h2⟩,rfl⟩;exact ⟨p',h1,h2,rfl⟩
    ·rintro ⟨p',h1,h2,rfl⟩;exact ⟨p',⟨h1,h2⟩,rfl⟩
   have hE:∀ x ∈ E,(sts p).H.get x=none /\ ∀ o,X.get x=some o->own o=true:=by
    intro x hx
    obtain ⟨p',h1,⟨h2,j,h3,h4,h5,h6⟩,rfl⟩:=(hEm x).1 hx
    refine ⟨hnone p p' (by omega) h1 h6,fun o' ho'=>?_⟩
    obtain ⟨ob,hob⟩:=R.made h4 h1 h5 h6
    have:=hI.covA j p' h3 h4 h5 (by omega) h1 h6 ob hob
    rw [ho'] at this;injection this with this;subst this
    rcases (R.mono p' h1).2 _ _ hob with ⟨o'',ho'',_⟩|⟨_,_,h9⟩
    ·rw [hnone p' p' (qe _) h1 h6] at ho'';cases ho''
    ·exact h9
   have hn0:(sts 0).H.next<=H'.next:=by rw [<-hstH];exact (R.ext (p:=0) (p':=p+1) (by omega) hpM).1
   obtain ⟨f1,f2⟩:=hI.heap.frame hI.grow (fun x hx=>.inl hx) k3 g2 g3 hext Up.of hn0 E hE
   rw [<-hDS] at f1
   have hnotE:∀ x o',H'.get x=some o'->x ∉ E:=by
    intro x o' hx hxE
    obtain ⟨p',h1,⟨h2,j,h3,h4,h5,h6⟩,rfl⟩:=(hEm x).1 hxE
    have:=hnone (p+1) p' h2 h1 h6
    rw [hstH,hx] at this;cases this
   have hI2:=hI.stepE R (cs':=cs') (ds:=ds) hp hpM hiS hanc ho ⟨ca,hla⟩ hce' (θ':=θ') (X':=overH X E H') (w':=w') (c:=c) f1 f2
    (fun x o' hx=>by
     rw [hstH] at hx
     rw [qnh,qo (fun q=>hnotE x o' hx q.1)];exact hx)
    (fun j p' hj hj2 hj3 hj4 hj5 hj6 o' ho'=>by
     have hX:=hI.covA j p' hj hj2 hj3 (by omega) hj5 hj6 o' ho'
     rw [qnh,xc ⟨(hEm _).2 ⟨p',hj5,⟨hj4,j,hj,hj2,hj3,hj6⟩,rfl⟩,by rw [hX];rfl⟩]
     exact hX)
    g3.ag (by rw [hDS,hst];exact g5) (by rw [hDS,hst];exact g7) (by rw [hst];exact (g6.trans (by rw [k2])).trans hI.upS) (UpTo.trans hI.upS hI.upTo (by rw [<-k2];exact g8))
    (fun dd v' hd hv'=>by rw [hDS,hval v dd v' hd hv'];exact g4)
   exact ⟨_,_,_,_,_,_,g1,hI2⟩
  ·have hnce:(planI ops l).cls i ≠ .eff:=by rw [hcls];exact hce
   cases hca:ca.2 with
   | pure f =>
    rw [hca] at hop hok hnd
    simp only [opR,qa,qb,OpRes.val.injEq] at hop
    obtain ⟨v',h1,rfl,rfl,rfl,rfl⟩:=hop
    have hDS:DS D0 plan sts M (S ++ [i])=DS D0 plan sts M S:=by rw [hsn,hst];exact Up.none
    obtain ⟨c,g1,g2⟩:=hok (DS D0 plan sts M S) θ a.eval w vs v' (qym a) hv h1
    have hsem:=hnd (by intro q;cases q) (by intro q;injection q with q;subst q;cases h1)
    have hI2:=hI.step R hp hpM hiS hanc ho ⟨ca,hla⟩ hnce (θ':=θ) (X':=X) (w':=w) (c:=c) (by rw [hDS];exact hI.heap) hI.grow (fun x o' _ hx=>hx) (Ag.refl _ _) (fun _ hlt=>by rw [hst] at hlt;exact absurd hlt (qei _))
     (fun dd v'' hd hv'=>by rw [hDS,hval v' dd v'' hd hv'];exact g2)
    refine ⟨_,_,_,_,_,_,.one ?_,hI2⟩
    rcases g1 with g1|⟨g1,rfl⟩
    ·exact qk4 ho hwt (by rw [hsem];exact g1)
    ·exact qs2 ho hwt (by rw [hsem];exact g1)
   | read f =>
    have hop0:=hop
    rw [hca] at hop hok hnd
    simp only [opR,qa,qb,OpRes.val.injEq] at hop
    obtain ⟨v',h1,rfl,rfl,rfl,rfl⟩:=hop
    have hDS:DS D0 plan sts M (S ++ [i])=DS D0 plan sts M S:=by rw [hsn,hst];exact Up.none
    obtain ⟨Hr,r1,r2⟩:=read_now R hI hp hpM hiS hanc hend ho hla hsd hsa hso hsg hca hw he h1 hst
    obtain ⟨c,g1,g2⟩:=hok base (DS D0 plan sts M S) θ Hr a.eval w vs v' (hI.heap.sub r1) hv r2
    have hsem:=hnd (by intro q;cases q) (by intro q;cases q)
    have hI2:=hI.step R hp hpM hiS hanc ho ⟨ca,hla⟩ hnce (θ':=θ) (X':=X) (w':=w) (c:=c) (by rw [hDS];exact hI.heap) hI.grow (fun x o' _ hx=>hx) (Ag.refl _ _) (fun _ hlt=>by rw [hst] at hlt;exact absurd hlt (qei _))
     (fun dd v'' hd hv'=>by rw [hDS,hval v' dd v'' hd hv'];exact g2)
    refine ⟨_,_,_,_,_,_,.one ?_,hI2⟩
    rcases g1 with g1|⟨g1,rfl⟩
    ·exact qk4 ho hwt (by rw [hsem];exact g1)
    ·exact qs2 ho hwt (by rw [hsem];exact g1)
   | alloc f =>
    rw [hca] at hop hok hnd
    simp only [opR,qa,qb,OpRes.val.injEq] at hop
    obtain ⟨⟨ob,mk⟩,h1,rfl,rfl,rfl,rfl⟩:=hop
    obtain ⟨hown,w1,co,ext,c,g1,g2,g3⟩:=hok.1 (DS D0 plan sts M S) θ a.eval w vs ob mk (qym a) hv h1
    have hsem:=hnd (by intro q;cases q) (by intro q;cases q)
    have hDS:DS D0 plan sts M (S ++ [i])=Up (DS D0 plan sts M S) (sts p).H.next ((sts p).H.next+1):=by rw [hsn,hst];rfl
    have hn:¬ DS D0 plan sts M S (sts p).H.next:=hfresh _ (qe _) (by rw [hst];exact xp _)
    have hag:=Th.add_ag θ (sts p).H.next w1.heap.size 0 ext hn
    obtain ⟨e1,e2,e3⟩:=Th.add_new θ (sts p).H.next w1.heap.size 0 ext
    obtain ⟨k1,k2⟩:=g3 (Up (DS D0 plan sts M S) (sts p).H.next ((sts p).H.next+1)) (θ.add (sts p).H.next w1.heap.size 0 ext) (sts p).H.next hag Up.of (.inr ⟨qe _,xp _⟩) (by rw [e1,g2.heap]) e2 e3
    have hX1:HR P base (DS D0 plan sts M S) θ { X with next:=(sts p).H.next } w1:=(HR.draw (w':=w1) hI.heap g2.heap).sub (fun x o hx=>hx)
    have hG1:Grow D0 (sts 0).H θ0 w0 { X with next:=(sts p).H.next } θ w :=
     ⟨(R.ext (p:=0) (p':=p) (by omega) (by omega)).1,hI.grow.ag,hI.grow.size,hI.grow.os,hI.grow.tape,hI.grow.output,hI.grow.keep,hI.grow.news⟩
    have hA1:=hX1.alloc (w':=w1.alloc co) (co:=co) (k:=w1.heap.size) (off:=0) (ext:=ext) (o:=ob) hn (by rw [qe9];simp) (fun j hj=>by rw [qe9,qo (qgg hj)]) (qe _) (by simp) k1
    have hG2:=(hG1.trans (Grow.draw (D:=DS D0 plan sts M S) (w:=w) (w':=w1) g2.heap g2.os g2.tape g2.output) (fun x hx=>.inl hx)).trans (Grow.alloc (w:=w1) hX1 hn ob co 0 ext) (fun x hx=>.inl hx)
    have hI2:=hI.step R hp hpM hiS hanc ho ⟨ca,hla⟩ hnce (θ':=θ.add (sts p).H.next w1.heap.size 0 ext) (X':=({ X with next:=(sts p).H.next }:AHeap).alloc ob) (w':=w1.alloc co) (c:=c) (by rw [hDS];exact hA1) hG2
     (fun x o' hx1 hx=>by
      obtain ⟨_,hx1,_⟩:=hx1
      rw [AHeap.get_alloc,qo (fun q=>hn (by rw [show (sts p).H.next=x from q];exact hx1))]
      exact hx)
     hag
     (fun _ _ o' ho'=>by
      rw [hst] at ho'
      simp only [AHeap.get_alloc,qbr] at ho' ⊢
      exact ho')
     (fun dd v'' hd hv'=>by rw [hDS,hval (mk (sts p).H.next) dd v'' hd hv'];exact k2)
    exact ⟨_,_,_,_,_,_,.one (qk4 ho hwt (by rw [hsem];exact g1)),hI2⟩
   | eff f=>rw [hca] at hce;exact absurd rfl hce
   | callF f=>rw [hca] at hce;exact absurd rfl hce
   | callV=>rw [hca] at hce;exact absurd rfl hce
   | invoke m=>rw [hca] at hce;exact absurd rfl hce
   | recover=>rw [hca] at hce;exact absurd rfl hce
   | defer=>rw [hca] at hce;exact absurd rfl hce
   | panic=>rw [hca] at hce;exact absurd rfl hce
theorem DS.nil:DS D0 plan sts M []=D0:=by
 funext x
 simp only [DS,eq_iff_iff]
 constructor
 ·rintro (h|⟨i,p,h,_⟩)
  ·exact h
  ·simp at h
 ·exact .inl
theorem q0p {i:Nat}:∀ {l:List (Bool × Nat)} {x:Bool × Nat},x ∈ upToB i l -> ∃ p':Nat,l[p']? = some x /\ ∀ u:Nat,u<=p'->l[u]? ≠ some (false,i)
 | [],x,h=>by simp [upToB] at h
 | (c,j)::l,x,h=>by
  unfold upToB at h
  cases hb:(!c && Nat.beq j i) with
  | true=>rw [hb] at h;simp at h
  | false =>
   rw [hb] at h
   simp only [xy,zp] at h
   have hne:(c,j) ≠ (false,i):=by
    intro e
    injection e with e1 e2
    subst e1;subst e2
    simp at hb
   rcases h with rfl|h
   ·exact ⟨0,rfl,fun u hu=>by
     obtain rfl:u=0:=by omega
     simpa using hne⟩
   ·obtain ⟨p',h1,h2⟩:=q0p h
    refine ⟨p'+1,by simpa using h1,fun u hu=>?_⟩
    cases u with
    | zero=>simpa using hne
    | succ u=>simpa using h2 u (by omega)
theorem DS.below (R:RG P rt nt ops l plan sts M) {S:List Nat} {n:Nat} (hn:(sts M).H.next<=n):∀ x,DS D0 plan sts M S x->Up D0 (sts 0).H.next n x:=by
 rintro x (h|⟨i,p,h1,h2,h3,h4,h5⟩)
 ·exact .inl h
 ·refine .inr ⟨zn (R.ext (p:=0) (p':=p) (by omega) (by omega)).1 h4,?_⟩
  have:=(R.ext (p:=p+1) (p':=M) h3 (qe _)).1
  omega
theorem Grow.sub {D:Nat->Prop} {H:AHeap} {θ:Th} {w:World} {X:AHeap} {θ':Th} {w':World} (g:Grow D H θ w X θ' w') {H':AHeap} (hn:H.next<=H'.next) (hs:∀ b o,H'.get b=some o->X.get b=some o):Grow D H θ w H' θ' w' :=
 ⟨hn,g.ag,g.size,g.os,g.tape,g.output,g.keep,fun b o hb=>g.news b o (hs b o hb)⟩
theorem q6s (R:RG P rt nt ops l plan sts M) {rd:Option Nat} {S:List Nat} {q:Nat} {X:AHeap} {θ:Th} {a:Act} {w:World} {cs:List Frame} (hI:Inv P base D0 θ0 w0 cs0 b nt rd ops l plan sts M S q X θ a w cs) {t:Nat}
 (hall:∀ j u:Nat,u<M->plan[u]? = some (false,j)->dstAt ops j=some t->j ∈ S):∀ v,(sts M).tm.get t=some v -> ∃ c,a.tmps[t]? = some c/\VR (DS D0 plan sts M S) θ v c:=by
 obtain ⟨p0,h1,h2,h3,h4⟩:=hI.tms t
 intro v hv
 refine h2 v ?_
 rw [<-hv]
 exact (R.kept h1 (qe _) (fun u j hu1 hu2 hj hd=>by
  have:=h3 j u (hall j u hu2 hj hd) hj hd
  omega)).symm
end
section
variable {P:Program} {rt:RT} {nt:Nat} {ops:Array Oper} {l:List (List AOpd × AOp)} {plan:List (Bool × Nat)} {sts:Nat->St} {M:Nat}
 {base:Nat} {D0:Nat->Prop} {θ0:Th} {w0:World} {cs0:List Frame} {b:Frame}
theorem draw_end (R:RG P rt nt ops l plan sts M) {S:List Nat} {q:Nat} {X:AHeap} {θ:Th} {a:Act} {w:World} {cs:List Frame} (hI:Inv P base D0 θ0 w0 cs0 b nt rt.ctx.round ops l plan sts M S q X θ a w cs) (hall:∀ i,i<ops.size->i ∈ S) {k:List Item} {m:Machine}
 (hs:Steps P m (lone (b.atR a k) cs w)):Out P base D0 θ0 b nt rt.ctx.round k (sts 0) cs0 w0 m .normal (sts M):=by
 have hD:=DS.below R (D0:=D0) (S:=S) (qe (sts M).H.next)
 obtain ⟨h1,h2,h3⟩:=R.between hI.qle (qe M) (fun u j hu1 hu2 hj hc=>by
  have:=(hI.effs j u hj hc).2 (hall j (R.good.lt u j hj))
  omega)
 have hsub:∀ x o,(sts M).H.get x=some o->X.get x=some o:=by
  intro x o hx
  rcases h3 x o hx with hx|⟨j,u,k1,k2,k3,k4,k5,rfl,k7⟩
  ·exact hI.cov x o hx
  ·exact hI.covA j u (hall j (R.good.lt u j k3)) k3 k4 k1 k2 k5 o k7
 refine ⟨θ,a,w,cs,.normal,StepsIn.of_steps hs,⟨(hI.heap.sub hsub).up hD,fun t v hv=>?_,hI.size,?_,?_,RdR.up (Ag.refl _ _) hD hI.round⟩,hI.grow.sub (R.ext (p:=0) (p':=M) (by omega) (qe _)).1 hsub,trivial,by rw [h2];exact hI.upS,hI.upTo⟩
 ·obtain ⟨c,k1,k2⟩:=q6s R hI (t:=t) (fun j u _ hj _=>hall j (R.good.lt u j hj)) v hv
  exact ⟨c,k1,k2.up (Ag.refl _ _) hD⟩
 ·rw [h1];exact dfsR.up (Ag.refl _ _) hD hI.dfs
 ·rw [h2];exact UpR.up (Ag.refl _ _) hD hI.up
set_option maxHeartbeats 1000000 in
theorem q5h (R:RG P rt nt ops l plan sts M) (hP:PGood P) (hcall:wt P base rt.call) (hround:qbz P base rt.round) (hAP:rt.AP=cProg P) (hcm:qak rt.call) (hrm:qd8 rt.round) {steps:List AStep} (hsteps:allSome (plan.map (mkStep ops l (qpo ops (planI ops l) plan)))=some steps)
 {r:AExit × St} (hends:EndsAt rt steps sts M r) (hfr:Fresh D0 (sts 0).H.next r.2.H.next) (hMn:(sts M).H.next<=r.2.H.next) (h0:∀ x o,(sts 0).H.get x=some o->D0 x) {L:List Nat} (hL:Order (planI ops l) L) {k:List Item} :
 ∀ (rest S:List Nat),L=S++rest -> ∀ {q:Nat} {X:AHeap} {θ:Th} {a:Act} {w:World} {cs:List Frame} {m:Machine},Inv P base D0 θ0 w0 cs0 b nt rt.ctx.round ops l plan sts M S q X θ a w cs->Steps P m (lone (b.atR a (.inRegion ops rest::k)) cs w) ->
  Out P base D0 θ0 b nt rt.ctx.round k (sts 0) cs0 w0 m r.1 r.2:=by
 have hsl:steps.length=plan.length:=by have:=(qb0 hsteps).1;simpa using this
 -- where the run ended
 have hend:M=plan.length \/ ∃ j,plan[M]? = some (false,j):=by
  rcases hends with ⟨h1,_⟩|⟨s,vs,c,H',ds,h1,h2,_⟩
  ·left;omega
  ·right
   have:=(qb0 hsteps).2 _ s h1
   rw [xf,qv] at this
   obtain ⟨⟨ch,j⟩,h3,h4⟩:=this
   obtain ⟨o,ca,g,_,_,_,rfl⟩:=qis h4
   have h2:ch=false:=h2
   subst h2
   exact ⟨j,h3⟩
 intro rest
 induction rest with
 | nil =>
  intro S hLS q X θ a w cs m hI hs
  rw [jb] at hLS
  have hall:∀ i,i<ops.size->i ∈ S:=fun i hi=>hLS ▸ hL.all i hi
  rcases hends with ⟨_,rfl⟩|⟨s,vs,c,H',ds,h1,h2,_⟩
  ·exact draw_end R hI hall (hs.trans (.one stepR_region_end))
  ·exfalso
   rcases hend with h|⟨j,hj⟩
   ·rw [zr (by omega)] at h1;cases h1
   ·obtain ⟨p,hp1,hp2⟩:=hI.ran j (hall j (R.good.lt M j hj))
    have:=R.good.one _ _ _ hj hp1
    omega
 | cons i rest ih =>
  intro S hLS q X θ a w cs m hI hs
  obtain ⟨hiS,hanc⟩:=hL.anc S i rest hLS
  have hin:i<(planI ops l).n:=hL.lt i (by rw [hLS];simp)
  obtain ⟨p,hp⟩:=R.good.all i hin
  by_cases hpM:p<M
  ·obtain ⟨q',X',θ',a',w',cs',g1,g2⟩:=q5i R hP hcall hround hAP hI hp hpM hiS hanc hfr hMn hend h0 (k:=k) (rest:=rest)
   exact ih (S ++ [i]) (by rw [hLS];simp) g2 (hs.trans g1)
  ·-- the one that panics
   rcases hends with ⟨h1,_⟩|⟨s,vs,c,H',ds,h1,h2,hw,he,hop,hps,rfl⟩
   ·have:=(qi.1 hp).1
    omega
   ·have hsM:=(qb0 hsteps).2 _ s h1
    rw [xf,qv] at hsM
    obtain ⟨⟨ch,i0⟩,h3,h4⟩:=hsM
    obtain ⟨o,ca,g,ho,hla,hsg,rfl⟩:=qis h4
    have h2:ch=false:=h2
    subst h2
    have hi0S:i0 ∉ S:=fun h=>by
     obtain ⟨p',hp1,hp2⟩:=hI.ran i0 h
     have:=R.good.one _ _ _ h3 hp1
     omega
    have hps':qpo ops (planI ops l) plan i0=some ds:=hps
    unfold qpo at hps'
    rcases z9 hps' with ⟨hsafe,hds⟩|⟨_,hds⟩
    ·have hii:i=i0:=by
      have:=qoy hsafe i hin
      simp only [yn,zz] at this
      rcases this with h|h|h
      ·exact h
      ·exfalso
       rw [qkd] at h
       rcases h with h|h
       ·simp at h
       ·obtain ⟨p',k1,k2⟩:=q0p h
        have:=R.good.one _ _ _ hp k1
        subst this
        exact k2 M (by omega) h3
      ·exact absurd (hanc i0 h) hi0S
     subst hii
     have hpe:=R.good.one _ _ _ hp h3
     subst hpe
     have hco:cOper P o=some ca:=by
      have:=(qb0 R.comp).2 _ ca hla
      rw [xf,jy,ho] at this
      simpa using this
     obtain ⟨xs,hxs,hok,hdef⟩:=qq0 hP hco
     obtain ⟨hwant,hopd⟩:=q51 R (s:={ chk:=false,dst:=o.dst,guard:=g,args:=ca.1,op:=ca.2,psafe:=qpo ops (planI ops l) plan i }) hI hp (qe _) hiS hanc ho hla rfl hsg
     have hce:(planI ops l).cls i=.eff:=by
      have:(planI ops l).cls i=clsOf ca.2:=by
       have hla':l[i]? = some ca:=hla
       simp [planI,clsAt,hla']
      rw [this]
      have hop':opR rt (sts p) vs ca.2=some (.panic c H'):=hop
      cases hca:ca.2 with
      | pure f=>rw [hca] at hop';simp only [opR,qa,qb,reduceCtorEq,and_false,exists_false] at hop'
      | read f=>rw [hca] at hop';simp only [opR,qa,qb,reduceCtorEq,and_false,exists_false] at hop'
      | alloc f=>rw [hca] at hop';simp only [opR,qa,qb,reduceCtorEq,and_false,exists_false] at hop'
      | _=>rfl
     have hqp:=qo3 R hI hp hiS hce
     obtain ⟨k1,k2,k3⟩:=qsp R hI hp (qe _) hiS hanc hqp (.inr hce)
     have hmonoM:(sts p).H.next<=H'.next:=hMn
     have hfresh:=DS.fresh R (S:=S) hp (qe _) hiS hfr (m:=H'.next) (qe _) (fun h=>absurd h (qei _))
     have hout:=qx7 hP hcall hround hAP hok hdef (rest:=rest) (k:=k) (st:=sts p) (cs:=cs) (r:=.panic c H') ho (hwant hw) (hI.heap.sub k3) (by rw [k1];exact hI.dfs) (by rw [k2];exact hI.up) hI.round (hopd hxs he) hop hfresh
     obtain ⟨θ',w',ps,todo,g1,g2,g3,g4,g5⟩:=hout
     have hDD:∀ x,Up (DS D0 plan sts p S) (sts p).H.next H'.next x->Up D0 (sts 0).H.next H'.next x:=by
      rintro x (h|⟨h1,h2⟩)
      ·exact DS.below R hmonoM x h
      ·exact .inr ⟨zn (R.ext (p:=0) (p':=p) (by omega) (qe _)).1 h1,h2⟩
     have hDS:∀ x,DS D0 plan sts p S x->Up D0 (sts 0).H.next H'.next x:=fun x hx=>hDD x (.inl hx)
     have hG:=(hI.grow.sub (R.ext (p:=0) (p':=p) (by omega) (qe _)).1 k3).trans g3 (fun x hx=>.inl hx)
     refine ⟨θ',a,w',cs,.panic ps,⟨todo,StepsIn.of_steps (hs.trans g1)⟩,⟨g2.up hDD,fun t v hv=>?_,hI.size,?_,?_,RdR.up g3.ag hDS hI.round⟩,hG,⟨g4,chainR.up (Ag.refl _ _) hDD g5⟩,?_,hI.upTo⟩
     ·have hv:(forget ds (sts p).tm).get t=some v:=hv
      rw [T.get_forget] at hv
      split at hv
      ·cases hv
      ·rename_i hnt
       obtain ⟨c',k4,k5⟩:=q6s R hI (t:=t) (fun j u hu hj hd=>by
        exfalso
        apply hnt
        injection hds with hds
        rw [<-hds]
        unfold dstAt at hd
        rw [qa] at hd
        obtain ⟨oj,hoj,hd⟩:=hd
        rw [List.mem_filterMap]
        exact ⟨oj,by have:=Array.mem_of_getElem? hoj;simpa using this,hd⟩) v hv
       exact ⟨c',k4,k5.up g3.ag hDS⟩
     ·show dfsR _ θ' (sts p).dfs a.defers
      rw [k1];exact dfsR.up g3.ag hDS hI.dfs
     ·show UpR _ θ' b.kind (sts p).up cs
      rw [k2];exact UpR.up g3.ag hDS hI.up
     ·show (sts p).up.isSome=(sts 0).up.isSome
      rw [k2];exact hI.upS
    ·cases hds
end
set_option maxHeartbeats 1000000 in
theorem qwe {P:Program} {base:Nat} (hP:PGood P) {rt:RT} (hAP:rt.AP=cProg P) (hcall:wt P base rt.call) (hround:qbz P base rt.round) (hcm:qak rt.call) (hrm:qd8 rt.round):qka P base rt:=by
 intro nt id ops c hc D0 θ0 b k st a cs w r hS hr hf
 unfold cRegion at hc
 split at hc
 ·rename_i hdst
  simp only [qa,qbr] at hc
  obtain ⟨l,hl,hc⟩:=hc
  rcases z9 hc with ⟨hscan,hc⟩|⟨_,hc⟩
  ·simp only [qa,qb] at hc
   obtain ⟨steps,hsteps,rfl⟩:=hc
   generalize planGo (planI ops l).cls (planI ops l).anc ops.size (2*ops.size) 0 []=plan at hscan hsteps
   rw [xb] at hscan
   have hF:PlanF (planI ops l) plan:=planF_of rfl rfl hscan.1 hscan.2
   have hr:(stepsC steps).run rt st=some r:=hr
   obtain ⟨sts,M,hs0,hM,hrel,hends⟩:=qwx hr
   have hsl:steps.length=plan.length:=by have:=(qb0 hsteps).1;simpa using this
   have hrel':∀ p,p<M -> ∃ q s o ca g,plan[p]? = some q/\ops[q.2]? = some o/\cOper P o=some ca/\l[q.2]? = some ca/\guardOf ops o.guard=some g/\s.chk=q.1/\s.dst=o.dst/\s.guard=g/\s.args=ca.1/\s.op=ca.2/\StepRel rt s (sts p) (sts (p+1)):=by
    intro p hp
    obtain ⟨s,h1,h2⟩:=hrel p hp
    have:=(qb0 hsteps).2 _ s h1
    rw [xf,qv] at this
    obtain ⟨q,h3,h4⟩:=this
    obtain ⟨o,ca,g,ho,hla,hsg,rfl⟩:=qis h4
    have hco:cOper P o=some ca:=by
     have:=(qb0 hl).2 _ ca hla
     rw [xf,jy,ho] at this
     simpa using this
    exact ⟨q,_,o,ca,g,h3,ho,hco,hla,hsg,rfl,rfl,rfl,rfl,rfl,h2⟩
   have hmono:∀ p,p<M->Ext (sts p).H (sts (p+1)).H:=by
    intro p hp
    obtain ⟨q,s,o,ca,g,_,_,hco,_,_,_,_,_,_,hso,h⟩:=hrel' p hp
    obtain ⟨xs,_,hok,_⟩:=qq0 hP hco
    cases h with
    | skip hc hw h=>rw [h];exact Ext.refl _
    | look hc d hd h hl=>rw [h];exact Ext.refl _
    | run hc hw vs v d u H' he ho h =>
     rw [hso] at ho
     have:=q1l hcm hrm hok.mono ho
     rw [h];exact this
   have R:RG P rt nt ops l plan sts M:=⟨hl,hdst,hF,by omega,hrel',hmono⟩
   have hMn:(sts M).H.next<=r.2.H.next:=by
    rcases hends with ⟨_,rfl⟩|⟨s,vs,c,H',ds,h1,_,_,_,hop,_,rfl⟩
    ·exact qe _
    ·have:=(qb0 hsteps).2 _ s h1
     rw [xf,qv] at this
     obtain ⟨q,h3,h4⟩:=this
     obtain ⟨o,ca,g,ho,hla,hsg,rfl⟩:=qis h4
     have hco:cOper P o=some ca:=by
      have:=(qb0 hl).2 _ ca hla
      rw [xf,jy,ho] at this
      simpa using this
     obtain ⟨xs,_,hok,_⟩:=qq0 hP hco
     exact q2w hcm hrm hok.mono hop
   have hL:=qua (ops:=ops) (I:=planI ops l) rfl (fun i=>rfl) hF (w.tape w.drawn (.order b.fn id))
   have hsched:Region.schedule (P.follows .mixedOrders) ops (w.tape w.drawn (.order b.fn id))=Region.linearise .any ops (w.tape w.drawn (.order b.fn id)):=by
    rw [hP.mixed];rfl
   subst hs0
   have hI:Inv P base D0 θ0 w cs b nt rt.ctx.round ops l plan sts M [] 0 (sts 0).H θ0 a { w with drawn:=w.drawn+1 } cs:=by
    have hD:DS D0 plan sts M []=D0:=DS.nil
    refine ⟨by rw [hD];exact hS.heap.draw rfl,Grow.draw rfl rfl rfl rfl,fun x o hx=>hx,fun j p hj=>by simp at hj,zl _,fun i p _ _=>by simp,.inl rfl,by rw [hD];exact hS.dfs,by rw [hD];exact hS.up,rfl,UpTo.refl hS.up,
     fun t=>⟨0,zl _,fun v hv=>by rw [hD];exact hS.tms t v hv,fun j p hj=>by simp at hj,.inl rfl⟩,hS.size,by rw [hD];exact hS.round,fun i hi=>by simp at hi,fun i hi=>by simp at hi⟩
   refine q5h R hP hcall hround hAP hcm hrm hsteps hends hf hMn (fun x o hx=>(hS.heap.obj x o hx).1) hL _ [] rfl hI (.one ?_)
   rw [stepR_region_draw,hsched];rfl
  ·injection hc with hc;subst hc;cases hr
 ·cases hc
end Go.Am
namespace Go.Am
section
variable {P:Program} {base:Nat}
theorem qy1:∀ (vs:List AV) (i:Nat) (t:T AV) (j:Nat),(argsT i vs t).get j=if i<=j/\j<i+vs.length then vs[j-i]? else t.get j
 | [],i,t,j=>by simp [argsT];omega
 | v::vs,i,t,j=>by
  rw [argsT,qy1 vs (i+1),T.get_set]
  by_cases h1:i=j
  ·subst h1;rw [qo (by omega),xc rfl,xc (by simp)];simp
  ·simp only [h1,yl,jn]
   by_cases h2:i+1<=j/\j<i+1+vs.length
   ·rw [xc h2,xc (by omega)]
    obtain ⟨k,rfl⟩:∃ k,j=i+1+k:=⟨j-(i+1),by omega⟩
    rw [show i+1+k-(i+1)=k from by omega,show i+1+k-i=k+1 from by omega]
    simp
   ·rw [qo h2,qo (by omega)]
theorem args_R {D:Nat->Prop} {θ:Th} {vs:List AV} {args:Array Value} (h:VRL D θ vs args.toList) (n:Nat):tmR D θ (argsT 0 vs .nil) (args++Array.replicate n undef):=by
 intro t v hv
 rw [qy1,T.get_nil] at hv
 split at hv
 ·rename_i ht
  rw [qef] at hv
  obtain ⟨c,h1,h2⟩:=h.of_get hv
  refine ⟨c,?_,h2⟩
  rw [jy] at h1
  rw [Array.getElem?_append_left]
  ·exact h1
  ·exact (jr.1 h1).1
 ·cases hv
theorem bind_R {D:Nat->Prop} {θ:Th}:∀ {ps:List Nat} {vs:List AV} {cs:List Value} {tm tm1:T AV} {a:Array Value},qhh tm ps vs=some tm1->VRL D θ vs cs->(∀ p ∈ ps,p<a.size)->tmR D θ tm a ->
 cs.length=ps.length/\tmR D θ tm1 ((ps.zip cs).foldl (fun tmps (t,x)=>tmps.setIfInBounds t x) a)/\((ps.zip cs).foldl (fun tmps (t,x)=>tmps.setIfInBounds t x) a).size=a.size
 | [],[],cs,tm,tm1,a,h,hv,hp,ht=>by
  injection h with h;subst h
  rw [hv.nil_inv];exact ⟨rfl,ht,rfl⟩
 | p::ps,v::vs,cs,tm,tm1,a,h,hv,hp,ht=>by
  obtain ⟨c,cs',rfl,h1,h2⟩:=hv.uncons
  obtain ⟨k1,k2,k3⟩:=bind_R (tm:=tm.set p v) (a:=a.setIfInBounds p c) h h2 (fun q hq=>by simpa using hp q (by simp [hq])) (ht.put (hp p (by simp)) h1)
  refine ⟨by simp [k1],by simpa using k2,?_⟩
  simp only [wz,qcz]
  rw [k3];simp
 | [],_::_,_,_,_,_,h,_,_,_=>by cases h
 | _::_,[],_,_,_,_,h,_,_,_=>by cases h
def resF (a:Array Value):ResultVar->Sem Value
 | .tmp t=>pure (a.getD t undef)
 | .cell x t=>do loadVar t (<-asAddr (a.getD x undef))
theorem q4l (fn:Func) (a:Array Value):results fn a=(do let vs <-fn.results.mapM (resF a);pure (if h:vs.size=1 then vs[0] else .tuple vs)):=rfl
theorem q0h {D:Nat->Prop} {θ:Th} {H:AHeap} {w:World} (hh:HR P base D θ H w) {tm:T AV} {a:Array Value} (ht:tmR D θ tm a) {r:ResultVar} {rs:List ResultVar} {ar:ARes} {ars:List ARes}
 (hc:cRes P (r::rs)=some (ar::ars)) {v:AV} (hv:qnw H tm ar=some v):cRes P rs=some ars /\ ∃ c,(resF a r).run P w=.ok c w/\VR D θ v c:=by
 cases r with
 | tmp t =>
  simp only [cRes,qa,qb,xl] at hc
  obtain ⟨l,hl,rfl,rfl⟩:=hc
  obtain ⟨c,h1,h2⟩:=ht t v hv
  exact ⟨hl,c,by simp [resF,h1],h2⟩
 | cell x t =>
  simp only [cRes,qa,qb,xl] at hc
  obtain ⟨n,hn,l,hl,rfl,rfl⟩:=hc
  refine ⟨hl,?_⟩
  obtain ⟨g1,g2⟩:=qsq (w:=w) hn
  cases n with
  | none =>
   simp only [qnw,qa] at hv
   obtain ⟨u,hu,hv⟩:=hv
   split at hv
   ·rename_i b o
    obtain ⟨c,h1,h2⟩:=ht x _ hu
    obtain ⟨c',k1,k2⟩:=hh.load1 hv
    have hc1:a.getD x undef=.pointer (some ⟨θ.blk b,θ.off b+o,none⟩):=by
     have:=h2.now;simp only [conc] at this
     simp [jx,h1,<-this]
    exact ⟨c',by simp only [resF,hc1,asAddr,Sem.run_bind,Sem.run_pure,Result.andThen_ok,loadVar,g1,qe3,je,yl,k1],k2⟩
   ·cases hv
  | some n =>
   simp only [qnw,qa] at hv
   obtain ⟨u,hu,hv⟩:=hv
   split at hv
   ·rename_i b o
    obtain ⟨c,h1,h2⟩:=ht x _ hu
    simp only [qa,qb] at hv
    obtain ⟨l',hl',rfl⟩:=hv
    obtain ⟨c',k1,k2,_⟩:=hh.loadN hl'
    have hc1:a.getD x undef=.pointer (some ⟨θ.blk b,θ.off b+o,none⟩):=by
     have:=h2.now;simp only [conc] at this
     simp [jx,h1,<-this]
    exact ⟨.agg c'.toArray,by simp only [resF,hc1,asAddr,Sem.run_bind,Sem.run_pure,Result.andThen_ok,loadVar,g1,qcg,qbr,g2 n rfl,k1],.agg k2⟩
   ·cases hv
theorem qu8 {D:Nat->Prop} {θ:Th} {H:AHeap} {w:World} (hh:HR P base D θ H w) {tm:T AV} {a:Array Value} (ht:tmR D θ tm a):∀ {rs:List ResultVar} {ars:List ARes},cRes P rs=some ars -> ∀ {vs:List AV},readRes H tm ars=some vs ->
 ∃ cs:List Value,(rs.mapM (resF a)).run P w=.ok cs w/\VRL D θ vs cs
 | [],ars,hc,vs,hv=>by
  injection hc with hc;subst hc
  injection hv with hv;subst hv
  exact ⟨[],by simp,.nil⟩
 | r::rs,ars,hc,vs,hv=>by
  obtain ⟨ar,ars',rfl⟩:∃ x l,ars=x::l:=by
   cases r<;>(simp only [cRes,qa,qb] at hc)<;>grind
  simp only [readRes,qa,qb] at hv
  obtain ⟨v,h1,vs',h2,rfl⟩:=hv
  obtain ⟨hl,c,k1,k2⟩:=q0h hh ht hc h1
  obtain ⟨cs,k3,k4⟩:=qu8 hh ht hl h2
  refine ⟨c::cs,?_,.cons k2 k4⟩
  rw [qeu]
  simp only [Sem.run_bind,k1,Result.andThen_ok,k3,Sem.run_pure]
theorem q1t {D:Nat->Prop} {θ:Th} {H:AHeap} {w:World} (hh:HR P base D θ H w) {tm:T AV} {a:Array Value} (ht:tmR D θ tm a) {fn:Func} {ars:List ARes} (hc:cRes P fn.results.toList=some ars) {vs:List AV} (hv:readRes H tm ars=some vs) :
 ∃ c,(results fn a).run P w=.ok c w/\VR D θ (tupled vs) c:=by
 obtain ⟨cs,h1,h2⟩:=qu8 hh ht hc hv
 have hl:=h2.length
 rw [q4l,Array.mapM_eq_mapM_toList]
 simp only [map_eq_pure_bind,bind_assoc,Sem.run_bind]
 refine ⟨if h:cs.toArray.size=1 then cs.toArray[0] else .tuple cs.toArray,?_,?_⟩
 ·rw [h1]
  simp
 ·cases vs with
  | nil=>rw [h2.nil_inv];exact .tuple .nil
  | cons v vs =>
   cases vs with
   | nil =>
    obtain ⟨c,cs',rfl,k1,k2⟩:=h2.uncons
    rw [k2.nil_inv]
    exact k1
   | cons v' vs =>
    have:¬ cs.toArray.size=1:=by simp at hl ⊢;omega
    rw [dif_neg this]
    exact .tuple h2
def mR (D:Nat->Prop) (θ:Th):Option Chain->FrameMode->Prop
 | none,.returning=>True
 | some c,.panicking ps=>c ≠ []/\chainR D θ c ps
 | _,_=>False
theorem qv7 {fr:Frame} {cs:List Frame} {w:World} {r:Nat} {ds:List Deferred} (hm:fr.mode ≠ .run) (hd:fr.defers = { target:=.collected r,args:=#[] }::ds) (h:w.heap[r]? = some (.deferred (some []))) :
 step P (lone fr cs w)=.next (lone { fr with defers:=ds } cs (wset w r (.deferred none))):=by
 refine step_lone_go ?_
 have ht:=run_takeDeferred (P:=P) h
 cases hmode:fr.mode with
 | run=>exact absurd hmode hm
 | returning=>simp [stepG,unwind,hmode,hd,Sem.runT_eq,ht];rfl
 | panicking ch=>simp [stepG,unwind,hmode,hd,Sem.runT_eq,ht];rfl
theorem settle_R {D:Nat->Prop} {θ:Th} {m:Option Chain} {up:Chain} {m':Option Chain} (h:settleA m up=some m') {u:FrameMode} (hu:modeR D θ up u):mR D θ m' (settle u):=by
 have hdrop:∀ {c:Chain} {ps:List PanicEntry},chainR D θ c ps->ps.dropWhile (!·.goexit)=[]:=by
  intro c
  induction c with
  | nil=>intro ps h;cases ps with
   | nil=>rfl
   | cons _ _=>exact h.elim
  | cons e es ih =>
   intro ps h
   cases ps with
   | nil=>rfl
   | cons p ps =>
    obtain ⟨⟨_,_,h3⟩,h4⟩:=h
    simp [List.dropWhile_cons,h3,ih h4]
 unfold settleA at h
 split at h
 ·injection h with h;subst h
  cases u with
  | run=>exact hu.elim
  | returning=>trivial
  | panicking ps=>exact absurd rfl hu.1
 ·injection h with h;subst h
  cases u with
  | run=>exact hu.elim
  | returning=>cases hu
  | panicking ps =>
   obtain ⟨_,hu⟩:=hu
   cases ps with
   | nil=>exact hu.elim
   | cons p ps =>
    obtain ⟨⟨h1,h2,h3⟩,h4⟩:=hu
    obtain ⟨pv,pr,pg⟩:=p
    simp only at h2 h3
    subst h2;subst h3
    simp only [settle,hdrop h4,mR]
 ·injection h with h;subst h
  cases u with
  | run=>exact hu.elim
  | returning=>cases hu
  | panicking ps =>
   obtain ⟨hne,hu⟩:=hu
   cases ps with
   | nil=>exact hu.elim
   | cons p ps =>
    have hu':=hu
    obtain ⟨⟨h1,h2,h3⟩,h4⟩:=hu
    obtain ⟨pv,pr,pg⟩:=p
    simp only at h2 h3
    subst h2;subst h3
    simp only [settle,mR]
    exact ⟨hne,hu'⟩
 ·cases h
theorem qnm (hP:PGood P) {call:CallFn} (hcall:wt P base call) (hcm:qak call) {fn:Func} {rs:List ARes} (hrs:cRes P fn.results.toList=some rs) {tm:T AV} :
 ∀ (ds:List ADef) {m:Option Chain} {D:Nat->Prop} {θ:Th} {H:AHeap} {w:World} {r:AEnd × AHeap} {fr:Frame} {cs:List Frame},unwindA call rs tm ds m H=some r->HR P base D θ H w->dfsR D θ ds fr.defers->mR D θ m fr.mode->tmR D θ tm fr.tmps ->
  P.funcs[fr.fn]? = some fn->Fresh D H.next r.2.next ->
  ∃ θ' w' fr' e',Steps P (lone fr cs w) (lone fr' cs w')/\fr'.fn=fr.fn/\fr'.kind=fr.kind/\fr'.going P w' e'/\endR (Up D H.next r.2.next) θ' r.1 e'/\HR P base (Up D H.next r.2.next) θ' r.2 w'/\Grow D H θ w r.2 θ' w'
 | [],m,D,θ,H,w,r,fr,cs,h,hh,hd,hm,ht,hf,hfr=>by
  have hds:fr.defers=[]:=by
   cases hq:fr.defers with
   | nil=>rfl
   | cons _ _=>rw [hq] at hd;exact hd.elim
  cases m with
  | none =>
   simp only [unwindA,qa,qb] at h
   obtain ⟨l,hl,rfl⟩:=h
   obtain ⟨c,h1,h2⟩:=q1t hh ht hrs hl
   have hmode:fr.mode=.returning:=by
    cases hq:fr.mode<;>rw [hq] at hm<;>first|rfl|exact hm.elim
   exact ⟨θ,w,fr,.returned c,.refl _ _,rfl,rfl,⟨hmode,hds,fn,hf,h1⟩,by rw [Up.none];exact h2,by rw [Up.none];exact hh,.refl _ _ _ _⟩
  | some c =>
   injection h with h;subst h
   cases hq:fr.mode with
   | run=>rw [hq] at hm;exact hm.elim
   | returning=>rw [hq] at hm;exact hm.elim
   | panicking ps =>
    rw [hq] at hm
    exact ⟨θ,w,fr,.panicked ps,.refl _ _,rfl,rfl,⟨hq,hds,fn,hf⟩,by rw [Up.none];exact hm,by rw [Up.none];exact hh,.refl _ _ _ _⟩
 | .coll b::ds,m,D,θ,H,w,r,fr,cs,h,hh,hd,hm,ht,hf,hfr=>by
  simp only [unwindA] at h
  split at h
  ·rename_i hget
   obtain ⟨hDb,co,hco,ds0,rfl,hds0⟩:=hh.obj _ _ hget
   cases ds0 with
   | none=>exact hds0.elim
   | some l' =>
    obtain ⟨_,hl'⟩:=hds0
    have hl':l'=[]:=hl'
    subst hl'
    cases hq:fr.defers with
    | nil=>rw [hq] at hd;exact hd.elim
    | cons e es =>
     rw [hq] at hd
     obtain ⟨⟨_,he⟩,hd⟩:=hd
     subst he
     have hrun:fr.mode ≠ .run:=by intro q;rw [q] at hm;cases m<;>exact hm.elim
     have hst:=qv7 (P:=P) (cs:=cs) hrun hq hco
     have hset:=hh.set (o':=.deferred none) (co':=.deferred none) hget rfl rfl ⟨none,rfl,trivial⟩
     have gset:Grow D H θ w (H.set b (.deferred none)) θ (wset w (θ.blk b) (.deferred none)):=Grow.set hget rfl (hh.lt hget)
     obtain ⟨θ',w',fr',e',k1,k2,k3,k4,k5,k6,k7⟩:=qnm hP hcall hcm hrs ds (fr:={ fr with defers:=es }) (cs:=cs) h hset hd hm ht hf hfr
     exact ⟨θ',w',fr',e',.head hst k1,k2,k3,k4,k5,k6,gset.trans k7 (fun _ h=>h)⟩
  ·cases h
 | .fn (.func f) args::ds,m,D,θ,H,w,r,fr,cs,h,hh,hd,hm,ht,hf,hfr=>by
  simp only [unwindA,qa] at h
  obtain ⟨⟨e,u,H1⟩,hc,h⟩:=h
  simp only at h
  cases e with
  | panic _=>cases h
  | ret v =>
   cases u with
   | none=>cases h
   | some up' =>
    simp only [qa] at h
    obtain ⟨m',hm',h⟩:=h
    have hmono:=qrh hcm h
    have hmono1:=(hcm _ _ _ _ _ _ _ hc).1
    cases hq:fr.defers with
    | nil=>rw [hq] at hd;exact hd.elim
    | cons dd es =>
     rw [hq] at hd
     obtain ⟨⟨c,cap,he,h4,h5⟩,hd⟩:=hd
     subst he
     have hrun:fr.mode ≠ .run:=by intro q;rw [q] at hm;cases m<;>exact hm.elim
     have hmode:modeR D θ (m.getD []) fr.mode:=by
      cases m with
      | none =>
       cases hq2:fr.mode with
       | run=>exact absurd hq2 hrun
       | returning=>rfl
       | panicking ps=>rw [hq2] at hm;exact hm.elim
      | some ch =>
       cases hq2:fr.mode with
       | run=>exact absurd hq2 hrun
       | returning=>rw [hq2] at hm;exact hm.elim
       | panicking ps=>rw [hq2] at hm;exact hm
     obtain ⟨⟨fn2,c2,k1,k2⟩,θ',w',cs',fr2,e',s1,s2,s3,s4,s5,s6,s7,s8,s9,s10⟩:=hcall D θ H w f args (c++cap) (some (m.getD [])) H1 (.ret v) (some up') .deferred ({ fr with defers:=es }::cs) hh h5 ⟨rfl,hmode⟩ hc (hfr.left hmono)
     obtain ⟨um,rfl⟩:=s9
     have hst:=step_defer (P:=P) (cs:=cs) hrun hq (f:=f) (args:=c++cap) rfl (by
      show (callFunc f (c++cap)).run P w=_
      exact qh3 hP k1 k2)
     cases e' with
     | panicked _=>exact s5.elim
     | outgrown=>exact s5.elim
     | returned cv =>
      have hback:=step_going_returned (P:=P) (c:={ { fr with defers:=es } with mode:=um }) (cs:=cs) s2 s4
      have hm2:=settle_R hm' s10.2
      obtain ⟨θ2,w2,fr3,e3,r1,r2,r3,r4,r5,r6,r7⟩:=qnm hP hcall hcm hrs ds (fr:={ { { fr with defers:=es } with mode:=um } with mode:=settle um }) (cs:=cs) h s6 (dfsR.up s7.ag Up.of hd) hm2 (ht.up s7.ag Up.of) hf (hfr.right hmono1)
      rw [Up.up hmono1 hmono] at r5 r6
      exact ⟨θ2,w2,fr3,e3,.head hst (s1.trans (.head hback r1)),r2,r3,r4,r5,r6,s7.trans r7 Up.of⟩
 | .fn (.yield _) _::_,m,D,θ,H,w,r,fr,cs,h,_,_,_,_,_,_=>by simp [unwindA] at h
theorem q3r (hP:PGood P) {call:CallFn} {n:Nat} (hcall:wt P base call) (hcm:qak call) (hround:qbz P base (rounds (cProg P) call n n)) (hrm:qd8 (rounds (cProg P) call n n))
 (hdraw:∀ rt:RT,rt.AP=cProg P->wt P base rt.call->qbz P base rt.round->qak rt.call->qd8 rt.round->qka P base rt):wt P base (qim (cProg P) call n):=by
 intro D θ H w f vs args up H' e up' kind cs hh hv hu h hf
 simp only [qim,qa] at h
 obtain ⟨af,haf,⟨x,st1⟩,hq,h⟩:=h
 simp only [cProg,qa] at haf
 obtain ⟨fn,hfn,haf⟩:=haf
 have haf':=haf
 simp only [cFunc,qa,qb] at haf'
 obtain ⟨body,hbody,⟨ac,L⟩,hac,rs,hrs,rfl⟩:=haf'
 refine ⟨⟨fn,body,hfn,hbody⟩,?_⟩
 have hfin:∃ m,(match x with | .normal=>m=none | .ret=>m=none | .panic c=>m=some c|_=>False) /\ ∃ q,unwindA call rs st1.tm st1.dfs m st1.H=some q/\e=q.1/\up'=st1.up/\H'=q.2:=by
  unfold endCall at h
  cases x with
  | normal =>
   simp only [qa,qb,qr] at h
   obtain ⟨q,h1,h2,h3,h4⟩:=h
   exact ⟨none,rfl,q,h1,h2.symm,h3.symm,h4.symm⟩
  | ret =>
   simp only [qa,qb,qr] at h
   obtain ⟨q,h1,h2,h3,h4⟩:=h
   exact ⟨none,rfl,q,h1,h2.symm,h3.symm,h4.symm⟩
  | panic c =>
   simp only [qa,qb,qr] at h
   obtain ⟨q,h1,h2,h3,h4⟩:=h
   exact ⟨some c,rfl,q,h1,h2.symm,h3.symm,h4.symm⟩
  | exit _=>cases h
  | goto _=>cases h
 obtain ⟨m,hm,⟨e1,H1⟩,hun,rfl,rfl,rfl⟩:=hfin
 have hmono2:=qrh hcm hun
 have hcmn:=(qco hP body hac).1
 have hmono1:H.next<=st1.H.next:=qir (rt:=⟨cProg P,call,rounds (cProg P) call n n,n,⟨none,f⟩⟩) hcm hrm hcmn hq
 let b:Frame:={ (default:Frame) with fn:=f,kind:=kind }
 have henter:Frame.enter P f args kind=b.atR { tmps:=args++Array.replicate (fn.ntmps-args.size) undef,defers:=[] } [.code body]:=by
  simp [Frame.enter,Frame.atR,hfn,hbody,b]
  rfl
 have hS:SR P base D θ b fn.ntmps none { tm:=argsT 0 vs .nil,dfs:=[],up:=up,H:=H } { tmps:=args++Array.replicate (fn.ntmps-args.size) undef,defers:=[] } cs w :=
  ⟨hh,args_R hv _,by simp;omega,trivial,hu,rfl⟩
 have hout:=qdn (rt:=⟨cProg P,call,rounds (cProg P) call n n,n,⟨none,f⟩⟩) hP hcall hround rfl hcm hrm (hdraw _ rfl hcall hround hcm hrm) hfn haf body hac (fun i l hl=>by rw [yv];exact hl) (b:=b) (k:=[]) hS rfl hq (hf.left hmono2)
 rw [<-henter] at hout
 obtain ⟨θ1,a1,w1,cs1,e1',h1,h2,h3,h4,h5,h6⟩:=hout
 -- the frame that unwinds
 obtain ⟨fr,k1,k2,k3,k4,k5,k6⟩:∃ fr:Frame,Steps P (lone (Frame.enter P f args kind) cs w) (lone fr cs1 w1)/\fr.fn=f/\fr.kind=kind/\fr.defers=a1.defers/\fr.tmps=a1.tmps/\mR (Up D H.next st1.H.next) θ1 m fr.mode:=by
  cases x with
  | normal =>
   have hm:m=none:=hm
   subst hm
   cases e1'<;>try exact h4.elim
   exact ⟨{ b.atR a1 [] with mode:=.returning },(StepsIn.steps h1).trans (.one (stepR_end rfl)),rfl,rfl,rfl,rfl,trivial⟩
  | ret =>
   have hm:m=none:=hm
   subst hm
   cases e1'<;>try exact h4.elim
   obtain ⟨todo,hs⟩:=h1.1 rfl
   exact ⟨{ b.atR a1 todo with mode:=.returning },StepsIn.steps hs,rfl,rfl,rfl,rfl,trivial⟩
  | panic c =>
   have hm:m=some c:=hm
   subst hm
   cases e1'<;>try exact h4.elim
   rename_i ps
   obtain ⟨todo,hs⟩:=h1
   exact ⟨{ b.atR a1 todo with mode:=.panicking ps },StepsIn.steps hs,rfl,rfl,rfl,rfl,h4⟩
  | exit _=>exact hm.elim
  | goto _=>exact hm.elim
 obtain ⟨θ',w',fr',e',r1,r2,r3,r4,r5,r6,r7⟩:=qnm hP hcall hcm hrs st1.dfs (fr:=fr) (cs:=cs1) hun h2.heap (by rw [k4];exact h2.dfs) k6 (by rw [k5];exact h2.tms) (by rw [k2];exact hfn) (hf.right hmono1)
 rw [Up.up hmono1 hmono2] at r5 r6
 refine ⟨θ',w',cs1,fr',e',k1.trans r1,r3.trans k3,r2.trans k2,r4,r5,r6,h3.trans r7 Up.of,h5,h6,?_⟩
 have:=UpR.up (D':=Up (Up D H.next st1.H.next) st1.H.next H'.next) r7.ag Up.of h2.up
 rw [Up.up hmono1 hmono2] at this
 exact this
theorem q4m (hP:PGood P) {call:CallFn} {m n:Nat} (hcall:wt P base call) (hcm:qak call) (hround:qbz P base (rounds (cProg P) call m n)) (hrm:qd8 (rounds (cProg P) call m n))
 (hdraw:∀ rt:RT,rt.AP=cProg P->wt P base rt.call->qbz P base rt.round->qak rt.call->qd8 rt.round->qka P base rt):qbz P base (rounds (cProg P) call m (n+1)):=by
 intro D θ H w l vs args H' e c cs hh hv h hf
 simp only [rounds,roundOf] at h
 split at h
 ·rename_i ls pd f k tm d hget
  simp only [qa] at h
  obtain ⟨af,haf,lp,hlp,tm1,htm1,⟨x,st1⟩,hq,h⟩:=h
  simp only [cProg,qa] at haf
  obtain ⟨fn,hfn,haf⟩:=haf
  obtain ⟨hDl,co,hco,r,rfl,r1,r2,r3,r4,⟨fn',af',lp',ka,kb,L1,L2,q1,q2,q3,q4,q5,q6,q7,q8,q9,q10⟩,r6,r7⟩:=hh.obj _ _ hget
  have:fn'=fn:=by rw [hfn] at q1;injection q1 with q1;exact q1.symm
  subst this
  have:af'=af:=by rw [haf] at q2;injection q2 with q2;exact q2.symm
  subst this
  have:lp'=lp:=by rw [hlp] at q3;injection q3 with q3;exact q3.symm
  subst this
  rw [q4] at htm1
  obtain ⟨z1,z2,z3⟩:=bind_R htm1 hv (fun p hp=>ql (q5 p hp) q6) r4
  have hsz:args.size=r.params.size:=by simpa using z1
  have hzip:(r.params.zip args).foldl (fun tmps (t,x)=>tmps.setIfInBounds t x) r.tmps=(r.params.toList.zip args.toList).foldl (fun tmps (t,x)=>tmps.setIfInBounds t x) r.tmps:=by
   rw [<-Array.foldl_toList,Array.toList_zip]
  have hy:=run_yield (P:=P) (args:=args) hco hsz
  refine ⟨r.fn,_,r.assign,r.body,hy,?_⟩
  rw [hzip]
  generalize (r.params.toList.zip args.toList).foldl (fun tmps (t,x)=>tmps.setIfInBounds t x) r.tmps=tmps at z2 z3
  cases x with
  | exit _=>cases h
  | goto _=>cases h
  | ret=>cases h
  | panic _=>cases h
  | normal =>
  simp only [qa] at h
  obtain ⟨H2,hb,⟨x2,st2⟩,hq2,h⟩:=h
  rcases z9 h with ⟨hnd,h⟩|⟨_,h⟩
  ·have hma:=(qco hP r.assign q7).1
   have hmb:=(qco hP r.body q9).1
   have hm1:H.next<=st1.H.next:=qir (rt:=⟨cProg P,call,rounds (cProg P) call m n,m,⟨some l,f⟩⟩) hcm hrm hma hq
   have hm2:H2.next<=st2.H.next:=qir (rt:=⟨cProg P,call,rounds (cProg P) call m n,m,⟨some l,f⟩⟩) hcm hrm hmb hq2
   have hbn:H2.next=st1.H.next:=qs6 hb
   have hend:H'.next=st2.H.next:=by
    unfold qik at h
    split at h
    ·injection h with h;injection h with _ h;subst h;rfl
    ·simp only [qa,qb,qr] at h
     obtain ⟨H3,h3,_,rfl⟩:=h
     exact q0l h3
   let b:Frame:={ (default:Frame) with fn:=r.fn,kind:=.normal,roundOf:=some (θ.blk l) }
   have hb0:Frame.round (θ.blk l) r.fn tmps r.assign r.body .normal=b.atR { tmps:=tmps,defers:=[] } [.code r.assign,.beginRound,.code r.body]:=by
    simp [Frame.round,Frame.atR,b]
   have hS:SR P base D θ b fn'.ntmps (some l) { tm:=tm1,dfs:=[],up:=none,H:=H } { tmps:=tmps,defers:=[] } (c::cs) w :=
    ⟨hh,z2,by show fn'.ntmps<=tmps.size;omega,trivial,rfl,hDl,rfl⟩
   have hdr:=hdraw ⟨cProg P,call,rounds (cProg P) call m n,m,⟨some l,f⟩⟩ rfl hcall hround hcm hrm
   obtain ⟨θ1,a1,w1,cs1,s1,s2,s3,s4,s5⟩:=(qdn (rt:=⟨cProg P,call,rounds (cProg P) call m n,m,⟨some l,f⟩⟩) hP hcall hround rfl hcm hrm hdr hfn haf r.assign q7 q8 (b:=b) (k:=[.beginRound,.code r.body]) hS r3 hq (hf.left (by show st1.H.next<=H'.next;omega))).normal
   rw [<-hb0] at s1
   have hcs1:cs1=c::cs:=s5
   subst hcs1
   -- the round begins
   have hblk1:θ1.blk l = θ.blk l:=(s3.ag l hDl).1
   unfold beginRound at hb
   split at hb
   ·rename_i pd1 f1 k1 tm2 d1 hget1
    injection hb with hb;subst hb
    obtain ⟨hDl1,co1,hco1,rl,rfl,y1,y2,y3,y4,y5,y6,y7⟩:=s2.heap.obj _ _ hget1
    have hset:=s2.heap.set (o':=.loop .busy pd1 f1 k1 tm2 d1) (co':=.loop { rl with state:=.busy }) hget1 rfl rfl ⟨_,rfl,rfl,y2,y3,y4,y5,y6,y7⟩
    have gset:Grow (Up D H.next st1.H.next) st1.H θ1 w1 (st1.H.set l (.loop .busy pd1 f1 k1 tm2 d1)) θ1 (wset w1 (θ1.blk l) (.loop { rl with state:=.busy })):=Grow.set hget1 rfl (s2.heap.lt hget1)
    have hbr:=run_beginRound (P:=P) hco1 y1
    rw [hblk1] at hbr
    have hst2:=stepR_beginRound (P:=P) (b:=b) (a:=a1) (k:=[.code r.body]) (cs:=c::cs) (w:=w1) rfl hbr
    have hS2:SR P base (Up D H.next st1.H.next) θ1 b fn'.ntmps (some l) { st1 with H:=st1.H.set l (.loop .busy pd1 f1 k1 tm2 d1) } a1 (c::cs) (wset w1 (θ1.blk l) (.loop { rl with state:=.busy })) :=
     ⟨hset,s2.tms,s2.size,s2.dfs,s2.up,s2.round⟩
    have hf2:Fresh (Up D H.next st1.H.next) st1.H.next st2.H.next:=(hend ▸ hf).right hm1
    obtain ⟨θ2,a2,w2,cs2,e2,v1,v2,v3,v4,v5,v6⟩:=qdn (rt:=⟨cProg P,call,rounds (cProg P) call m n,m,⟨some l,f⟩⟩) hP hcall hround rfl hcm hrm hdr hfn haf r.body q9 q10 (b:=b) (k:=[]) hS2 r3 hq2 hf2
    have hcs2:cs2=c::cs:=by
     have hu1:st1.up=none:=by
      cases hq3:st1.up with
      | none=>rfl
      | some _=>rw [hq3] at s4;cases s4
     have v6':UpTo st1.up (c::cs) cs2:=v6
     rw [hu1] at v6';exact v6'
    subst hcs2
    have hnx:({ st1 with H:=st1.H.set l (.loop .busy pd1 f1 k1 tm2 d1) }:St).H.next=st1.H.next:=rfl
    rw [hnx] at v2 v4
    have hupp:Up (Up D H.next st1.H.next) st1.H.next st2.H.next=Up D H.next H'.next:=by rw [Up.up hm1 hm2,hend]
    rw [hupp] at v2 v4
    have gall:Grow D H θ w st2.H θ2 w2:=(s3.trans gset Up.of).trans v3 Up.of
    have hpre:Steps P (lone (Frame.round (θ.blk l) r.fn tmps r.assign r.body .normal) (c::cs) w) (lone (b.atR a1 [.code r.body]) (c::cs) (wset w1 (θ1.blk l) (.loop { rl with state:=.busy }))):=by
     refine s1.trans (.one ?_)
     rw [hst2,hblk1];rfl
    have hdfs:a2.defers=[]:=by
     have:=v2.dfs
     cases hq3:st2.dfs with
     | nil =>
      rw [hq3] at this
      cases hq4:a2.defers with
      | nil=>rfl
      | cons _ _=>rw [hq4] at this;exact this.elim
     | cons _ _=>simp only [hq3] at hnd;cases hnd
    have hfinish:∀ (ls:LState) (p:Option AJump),setLoop st2.H l ls p=some H'->(stR ls=if (p.map jumpR).isNone then LoopState.ready else LoopState.done) ->
     ∃ w3,(Instr.endRound (θ.blk l) (p.map jumpR)).run P w2=.ok (.bool (p.map jumpR).isNone) w3/\HR P base (Up D H.next H'.next) θ2 H' w3/\Grow D H θ w H' θ2 w3:=by
     intro ls p hs hls
     unfold setLoop at hs
     split at hs
     ·rename_i ls2 pd2 f2 k2 tm3 d2 hget2
      injection hs with hs;subst hs
      obtain ⟨hDl2,co2,hco2,rl2,rfl,y1',y2',y3',y4',y5',y6',y7'⟩:=v2.heap.obj _ _ hget2
      have hblk2:θ2.blk l = θ.blk l:=(gall.ag l hDl).1
      have her:=run_endRound (P:=P) (p.map jumpR) hco2
      rw [hblk2] at her
      refine ⟨_,her,?_,?_⟩
      ·have:=v2.heap.set (o':=.loop ls p f2 k2 tm3 d2) (co':=.loop { rl2 with state:=if (p.map jumpR).isNone then .ready else .done,pending:=p.map jumpR }) hget2 rfl rfl ⟨_,rfl,hls.symm,rfl,y3',y4',y5',y6',y7'⟩
       rw [hblk2] at this;exact this
      ·have:Grow (Up D H.next (st2.H.set l (.loop ls p f2 k2 tm3 d2)).next) st2.H θ2 w2 (st2.H.set l (.loop ls p f2 k2 tm3 d2)) θ2 (wset w2 (θ2.blk l) (.loop { rl2 with state:=if (p.map jumpR).isNone then .ready else .done,pending:=p.map jumpR })):=Grow.set hget2 rfl (v2.heap.lt hget2)
       rw [hblk2] at this
       exact gall.trans this Up.of
     ·cases hs
    unfold qik at h
    cases x2 with
    | panic ch =>
     injection h with h;injection h with h1 h2;subst h1;subst h2
     cases e2<;>try exact v4.elim
     rename_i ps
     obtain ⟨todo,hs⟩:=v1
     refine ⟨θ2,w2,c.raise ps,hpre.trans ((StepsIn.steps hs).trans (.one ?_)),⟨ps,v4.1,v4.2,rfl⟩,v2.heap,gall⟩
     exact step_leave_panicked (fr:={ b.atR a2 todo with mode:=.panicking ps }) ⟨rfl,hdfs,fn',by show P.funcs[r.fn]? = some fn';rw [r3];exact hfn⟩
    | normal =>
     simp only [qa,qb,qr] at h
     obtain ⟨H3,h3,rfl,rfl⟩:=h
     obtain ⟨w3,g1,g2,g3⟩:=hfinish _ _ h3 rfl
     cases e2<;>try exact v4.elim
     exact ⟨θ2,w3,_,hpre.trans ((StepsIn.steps v1).trans (.one (stepR_round_end rfl rfl g1))),⟨_,.bool _,rfl⟩,g2,g3⟩
    | ret =>
     simp only [qa,qb,qr] at h
     obtain ⟨H3,h3,rfl,rfl⟩:=h
     obtain ⟨w3,g1,g2,g3⟩:=hfinish _ _ h3 rfl
     cases e2<;>try exact v4.elim
     obtain ⟨k1,hs⟩:=v1.2 rfl
     exact ⟨θ2,w3,_,hpre.trans ((StepsIn.steps hs).trans (.one (stepR_round_ret rfl rfl g1))),⟨_,.bool _,rfl⟩,g2,g3⟩
    | exit id =>
     simp only [qa,qb,qr] at h
     obtain ⟨H3,h3,rfl,rfl⟩:=h
     obtain ⟨w3,g1,g2,g3⟩:=hfinish _ _ h3 rfl
     cases e2<;>try exact v4.elim
     rename_i j
     have v4:j=id:=v4
     subst v4
     obtain ⟨k1,hx,hs⟩:=v1.2 rfl rfl
     exact ⟨θ2,w3,_,hpre.trans ((StepsIn.steps hs).trans (.one (stepR_round_exit rfl rfl hx g1))),⟨_,.bool _,rfl⟩,g2,g3⟩
    | goto t =>
     simp only [qa,qb,qr] at h
     obtain ⟨H3,h3,rfl,rfl⟩:=h
     obtain ⟨w3,g1,g2,g3⟩:=hfinish _ _ h3 rfl
     cases e2<;>try exact v4.elim
     rename_i j
     have v4:j=t:=v4
     subst v4
     obtain ⟨k1,hx,hs⟩:=v1.2 rfl rfl
     exact ⟨θ2,w3,_,hpre.trans ((StepsIn.steps hs).trans (.one (stepR_round_goto rfl rfl hx g1))),⟨_,.bool _,rfl⟩,g2,g3⟩
   ·cases hb
  ·cases h
 ·cases h
theorem qrf (hP:PGood P) {call:CallFn} {m:Nat} (hcall:wt P base call) (hcm:qak call)
 (hdraw:∀ rt:RT,rt.AP=cProg P->wt P base rt.call->qbz P base rt.round->qak rt.call->qd8 rt.round->qka P base rt):∀ n,qbz P base (rounds (cProg P) call m n)
 | 0=>by intro D θ H w l vs args H' e c cs _ _ h;cases h
 | n+1=>q4m hP hcall hcm (qrf hP hcall hcm hdraw n) (qlh (qu3 hP) hcm m n) hdraw
theorem qmk (hP:PGood P) (hdraw:∀ rt:RT,rt.AP=cProg P->wt P base rt.call->qbz P base rt.round->qak rt.call->qd8 rt.round->qka P base rt) {told:CallFn} (ht:wt P base told) (htm:qak told):∀ n,wt P base (acallT (cProg P) told n)
 | 0=>ht
 | n+1=>by
  have ih:=qmk hP hdraw ht htm n
  have hm:=qsx (qu3 hP) htm n
  have hs:=q3r hP ih hm (qrf hP ih hm hdraw n) (qlh (qu3 hP) hm n n) hdraw
  intro D θ H w f vs args up H' e up' kind cs hh hv hu h hf
  simp only [acallT] at h
  split at h
  ·rename_i r hr
   injection h with h;subst h
   exact ht D θ H w f vs args up _ _ _ kind cs hh hv hu hr hf
  ·exact hs D θ H w f vs args up _ _ _ kind cs hh hv hu h hf
end
end Go.Am
namespace Go.Am
open Go.RowKit
def Given (H:AHeap):Prop:=∀ b o,H.get b=some o->own o=false
theorem Grow.below {D:Nat->Prop} {H H':AHeap} {θ θ':Th} {w w':World} (g:Grow D H θ w H' θ' w') (hg:Given H):Below w.heap.size w w' :=
 ⟨g.os,g.tape,g.output,g.size,fun k hk=>g.keep k hk fun b o hb ho=>by rw [hg b o hb] at ho;cases ho⟩
variable {P:Program}
end Go.Am
namespace Go.Am
section
variable {H:Type}
def qh2 (P:Program) (rec:TypeId->DataW H->Option (List AV)):Nat->List (TypeId × Nat)->List (DataW H)->Option (List AV)
 | _,[],[]=>some []
 | k,(t,off)::ts,d::ds=>if off=k then (rec t d).bind fun l=>if l.length=P.cellsOf t then (qh2 P rec (k+P.cellsOf t) ts ds).bind fun r=>some (l++r) else none else none
 | _,_,_=>none
def flatA (P:Program):Nat->TypeId->DataW H->Option (List AV)
 | 0,_,_=>none
 | n+1,t,d=>match P.underlying t,d with
  | some .bool,.lit (.bool b)=>some [.bool b]
  | some (.int _),.lit (.int k i)=>some [.int k i]
  | some .string,.lit (.string s)=>some [.str s]
  | some (.pointer _),.nil=>some [.nilp]
  | some (.slice _),.nil=>some [.nils]
  | some (.map _ _),.nil=>some [.nilm]
  | some (.struct fs),.agg ds=>(qh2 P (flatA P n) 0 (fs.toList.map fun f=>(f.type,f.offset)) ds).bind fun l=>if l.length=P.cellsOf t then some l else none
  | some (.array m e),.agg ds=>(qh2 P (flatA P n) 0 ((List.range m).map fun i=>(e,i*P.cellsOf e)) ds).bind fun l=>if l.length=P.cellsOf t then some l else none
  | _,_=>none
variable {P:Program} {enc:TypeId × Value->H} {w:World} {base:Nat} {sp:Nat->Bool} {held:Bool}
theorem qix (θ:Th) {rec:TypeId->DataW H->Option (List AV)} {g:TypeId->List Value->Option (DataW H × List MemPlace)} (hrec:∀ t d l cs p,rec t d=some l->g t cs=some (d,p)->concL θ l=cs) {cs:List Value} :
 ∀ {k:Nat} {ts:List (TypeId × Nat)} {ds:List (DataW H)} {l:List AV} {xs:List (DataW H × List MemPlace)},qh2 P rec k ts ds=some l->ts.mapM (fun x=>g x.1 ((cs.drop x.2).take (P.cellsOf x.1)))=some xs->xs.map (·.1)=ds ->
  concL θ l=(cs.drop k).take l.length
 | k,[],ds,l,xs,h,hm,hx=>by
  cases ds with
  | nil=>simp only [qh2,qb] at h;subst h;simp [concL]
  | cons d ds=>simp [qh2] at h
 | k,(t,off)::ts,ds,l,xs,h,hm,hx=>by
  cases ds with
  | nil=>simp [qh2] at h
  | cons d ds =>
   simp only [qh2] at h
   split at h
   ·rename_i ho
    subst ho
    simp only [qa] at h
    obtain ⟨l0,h0,h⟩:=h
    split at h
    ·rename_i hlen
     simp only [qa,qb] at h
     obtain ⟨l1,h1,rfl⟩:=h
     simp only [qeu,Option.bind_eq_bind,qa,Option.pure_def,qb] at hm
     obtain ⟨y,hy,ys,hys,rfl⟩:=hm
     simp only [xw,xl] at hx
     obtain ⟨rfl,hx⟩:=hx
     have e0:=hrec t y.1 l0 _ y.2 h0 hy
     have e1:=qix θ hrec h1 hys hx
     rw [qbf,qc0,<-qbf,<-qbf,e0,e1,qu,hlen,List.take_add,qa5]
    ·cases h
   ·cases h
theorem qw3 {α:Type} {f:α->TypeId × Nat} {fuel:Nat} {l:List α} {cs:List Value} {xs:List (DataW H × List MemPlace)}
 (h:l.mapM (fun a=>DataW.trod enc P w base sp held fuel (f a).1 ((cs.drop (f a).2).take (P.cellsOf (f a).1)))=some xs) :
 (l.map f).mapM (fun x=>DataW.trod enc P w base sp held fuel x.1 ((cs.drop x.2).take (P.cellsOf x.1)))=some xs:=by
 rw [List.mapM_map];exact h
theorem qrb (θ:Th):∀ (n:Nat) {t:TypeId} {d:DataW H} {l:List AV},flatA P n t d=some l -> ∀ {fuel:Nat} {cs:List Value} {p:List MemPlace},DataW.trod enc P w base sp held fuel t cs=some (d,p)->concL θ l=cs
 | 0,_,_,_,h,_,_,_,_=>by cases h
 | n+1,t,d,l,h,0,cs,p,ht=>by cases ht
 | n+1,t,d,l,h,fuel+1,cs,p,ht=>by
  have ih:∀ t d l cs p,flatA P n t d=some l->DataW.trod enc P w base sp held fuel t cs=some (d,p)->concL θ l=cs:=fun t d l cs p h1 h2=>qrb θ n h1 h2
  simp only [flatA] at h
  split at h
  ·rename_i b hu
   injection h with h;subst h
   simp only [DataW.trod,hu] at ht
   split at ht<;>first|(cases ht;done) | skip
   all_goals first|(simp_all [concL,conc];done) | skip
   all_goals (repeat' (split at ht))
   all_goals first|(cases ht;done) | skip
   all_goals simp [qa,qv] at ht
  ·rename_i k' k i hu
   injection h with h;subst h
   simp only [DataW.trod,hu] at ht
   split at ht<;>first|(cases ht;done) | skip
   all_goals first|(simp_all [concL,conc];done) | skip
   all_goals (repeat' (split at ht))
   all_goals first|(cases ht;done) | skip
   all_goals simp [qa,qv] at ht
  ·rename_i s hu
   injection h with h;subst h
   simp only [DataW.trod,hu] at ht
   split at ht<;>first|(cases ht;done) | skip
   all_goals first|(simp_all [concL,conc];done) | skip
   split at ht
   ·simp only [qb,qr,DataW.lit.injEq,Lit.string.injEq] at ht
    obtain ⟨rfl,_⟩:=ht
    rfl
   ·cases ht
  ·rename_i hu
   injection h with h;subst h
   simp only [DataW.trod,hu] at ht
   split at ht<;>first|(cases ht;done) | skip
   all_goals first|(simp_all [concL,conc];done) | skip
   all_goals (repeat' (split at ht))
   all_goals first|(cases ht;done) | skip
   all_goals simp [qa,qv] at ht
  ·rename_i hu
   injection h with h;subst h
   simp only [DataW.trod,hu] at ht
   split at ht<;>first|(cases ht;done) | skip
   all_goals first|(simp_all [concL,conc];done) | skip
   all_goals (repeat' (split at ht))
   all_goals first|(cases ht;done) | skip
   all_goals simp [qa,qv] at ht
  ·rename_i hu
   injection h with h;subst h
   simp only [DataW.trod,hu] at ht
   split at ht<;>first|(cases ht;done) | skip
   all_goals first|(simp_all [concL,conc];done) | skip
   all_goals (repeat' (split at ht))
   all_goals first|(cases ht;done) | skip
   all_goals simp [qa] at ht
  ·rename_i fs ds hu
   simp only [qa] at h
   obtain ⟨l',h1,h⟩:=h
   split at h
   ·rename_i hlen
    injection h with h;subst h
    simp only [DataW.trod,hu] at ht
    split at ht
    ·rename_i hcs
     obtain ⟨xs,hm,hx⟩:=qv.1 ht
     have e:=qix θ ih h1 (qw3 (f:=fun f:Field=>(f.type,f.offset)) hm) (by simpa using congrArg Prod.fst hx)
     rw [e,hlen,<-hcs];simp
    ·cases ht
   ·cases h
  ·rename_i m e ds hu
   simp only [qa] at h
   obtain ⟨l',h1,h⟩:=h
   split at h
   ·rename_i hlen
    injection h with h;subst h
    simp only [DataW.trod,hu] at ht
    split at ht
    ·rename_i hcs
     obtain ⟨xs,hm,hx⟩:=qv.1 ht
     have e:=qix θ ih h1 (qw3 (f:=fun i:Nat=>(e,i*P.cellsOf e)) hm) (by simpa using congrArg Prod.fst hx)
     rw [e,hlen,<-hcs];simp
    ·cases ht
   ·cases h
  ·cases h
end
theorem qwm {P:Program} {w:World}:∀ {laid:List (String × DataW Unit)} {ps:List MemPlace},DataW.LaidVars P w laid ps -> ∀ {n:String} {d:DataW Unit},(n,d) ∈ laid ->
 ∃ g t cs fuel p,P.globalNamed n=some g/\(P.globals[g]?).map (·.type)=some t/\w.var? P n=some cs/\DataW.trod (fun _=>()) P w 0 (fun _=>true) false fuel t cs.toList=some (d,p)
 | [],_,_,_,_,h=>by cases h
 | (n',d')::r,ps,⟨g,t,cs,fuel,p,q,h1,h2,h3,h4,h5,h6⟩,n,d,h=>by
  rcases zp.1 h with e|h
  ·injection e with e1 e2;subst e1;subst e2
   exact ⟨g,t,cs,fuel,p,h1,h2,h3,h4⟩
  ·exact qwm h5 h
def qet:List (Nat × List AV)->T AObj->T AObj
 | [],t=>t
 | (g,l)::r,t=>(qet r t).set g (.row l 0 (0,0) false)
def vd (gl:List (Nat × List AV)) (n:Nat):AHeap:=⟨qet gl .nil,n⟩
theorem qk9:∀ {gl:List (Nat × List AV)} {b:Nat} {o:AObj},(qet gl .nil).get b=some o -> ∃ l,(b,l) ∈ gl/\o=.row l 0 (0,0) false
 | [],b,o,h=>by rw [qet,T.get_nil] at h;cases h
 | (g,l)::r,b,o,h=>by
  rw [qet,T.get_set] at h
  split at h
  ·rename_i he
   subst he
   injection h with h
   exact ⟨l,by simp,h.symm⟩
  ·obtain ⟨l',h1,h2⟩:=qk9 h
   exact ⟨l',by simp [h1],h2⟩
theorem qnu (gl:List (Nat × List AV)) (n:Nat):Given (vd gl n):=fun b o h=>by
 obtain ⟨l,_,rfl⟩:=qk9 h
 rfl
def θ0:Th:=⟨id,fun _=>0,fun _=>0⟩
theorem laid_row {P:Program} {w:World} {laid:List (String × DataW Unit)} (h:laidMet P laid w) {n:String} {d:DataW Unit} (hm:(n,d) ∈ laid) {g:Nat} {t:TypeId} {fu:Nat} {l:List AV} (hg:P.globalNamed n=some g)
 (ht:(P.globals[g]?).map (·.type)=some t) (hl:flatA P fu t d=some l):g<P.globals.size /\ ∃ cs e fz,w.heap[g]? = some (.cells cs e fz) /\ ∀ θ,concL θ l=cs.toList:=by
 obtain ⟨ps,hv,_⟩:=h
 obtain ⟨g',t',cs,fuel,p,h1,h2,h3,h4⟩:=qwm hv hm
 obtain rfl:=qag (hg.symm.trans h1)
 obtain rfl:=qag (ht.symm.trans h2)
 refine ⟨?_,cs,?_⟩
 ·rcases z8 g P.globals.size with q|q
  ·exact q
  ·rw [Array.getElem?_eq_none q] at ht;cases ht
 ·unfold World.var? at h3
  rw [h1] at h3
  simp only [qf] at h3
  split at h3
  ·rename_i c e fz hc
   injection h3 with h3;subst h3
   exact ⟨e,fz,hc,fun θ=>qrb θ fu hl h4⟩
  ·cases h3
end Go.Am
namespace Go.Am
open Go.RowKit Go.ChangeShapes
theorem HR.givenD {P:Program} {w:World} {gl:List (Nat × List AV)} {base n:Nat} {θ:Th} (hb:base<=w.heap.size) (hn:P.globals.size<=n) (hθ:∀ g,g<P.globals.size -> θ.blk g=g /\ θ.off g=0)
 (h:∀ b l,(b,l) ∈ gl->b<n /\ ∃ pre cs post e fz,w.heap[θ.blk b]? = some (.cells (pre++cs++post).toArray e fz)/\pre.length = θ.off b/\VRL (Lt n) θ l cs) :
 HR P base (Lt n) θ (vd gl n) w:=by
 refine ⟨fun b o hg=>?_,fun b b' o o' h1 _ h3 _=>?_,fun b o h1 h2=>?_,fun g hg=>⟨ql hg hn,hθ g hg⟩,hb⟩
 ·obtain ⟨l,h1,rfl⟩:=qk9 hg
  obtain ⟨hlt,pre,cs,post,e,fz,h2,h3,h4⟩:=h b l h1
  exact ⟨hlt,_,h2,pre,cs,post,fz,e,rfl,h3,h4,fun h=>by cases h⟩
 ·rw [qnu gl _ b o h1] at h3;cases h3
 ·rw [qnu gl _ b o h1] at h2;cases h2
def errOkB (P:Program) (tp:TypeId):Bool :=
 match P.underlying tp with
 | some (.pointer te)=>match P.underlying te with
  | some (.struct ⟨[f]⟩)=>Nat.beq f.offset 0 && (match P.underlying f.type with|some .string=>true|_=>false) && Nat.beq (P.cellsOf te) 1 && Nat.beq (P.cellsOf f.type) 1
  | _=>false
 | _=>false
structure ErrT (P:Program) (tp:TypeId):Prop where
 row:∀ u,P.typeName? 3 u=some "*errors.errorString" -> u=tp
 ok:errOkB P tp=true
def qny:DataW Unit->Option (List UInt8)
 | .iface nm (.ptr (.agg [.lit (.string text)]))=>if nm = "*errors.errorString" then some text else none
 | _=>none
theorem q1x {d:DataW Unit} {s:List UInt8} (h:qny d=some s):d=.iface "*errors.errorString" (.ptr (.agg [.lit (.string s)])):=by
 unfold qny at h
 split at h
 ·split at h
  ·rename_i e;subst e;injection h with h;subst h;rfl
  ·cases h
 ·cases h
def qsr:Option TypeDesc->Bool
 | some (.interface _)=>true
 | _=>false
def varT (P:Program) (x:String × DataW Unit):Option (Nat × TypeId):=(P.globalNamed x.1).bind fun g=>((P.globals[g]?).map (·.type)).map fun t=>(g,t)
def rowsOf1 (P:Program) (tp:TypeId) (i:Nat) (x:String × DataW Unit):List (Nat × List AV) :=
 match varT P x with
 | none=>[]
 | some (g,t)=>match flatA P 30 t x.2 with
  | some l=>[(g,l)]
  | none=>match qsr (P.underlying t),qny x.2 with
   | true,some s=>[(g,[.iface tp (.ptr i 0)]),(i,[.str s])]
   | _,_=>[]
def rowsOf (P:Program) (tp:TypeId):Nat->List (String × DataW Unit)->List (Nat × List AV)
 | _,[]=>[]
 | i,x::r=>rowsOf1 P tp i x++rowsOf P tp (i+1) r
def qxt (P:Program) (tp:TypeId) (laid:List (String × DataW Unit)):AHeap:=vd (rowsOf P tp P.globals.size laid) (P.globals.size+laid.length)
theorem qwv {P:Program} {tp:TypeId}:∀ {laid:List (String × DataW Unit)} {i b:Nat} {l:List AV},(b,l) ∈ rowsOf P tp i laid -> ∃ j x,laid[j]? = some x/\(b,l) ∈ rowsOf1 P tp (i+j) x
 | [],i,b,l,h=>by cases h
 | x::r,i,b,l,h=>by
  rcases jt.1 h with h|h
  ·exact ⟨0,x,rfl,h⟩
  ·obtain ⟨j,y,h1,h2⟩:=qwv h
   exact ⟨j+1,y,by simpa using h1,by rw [show i+(j+1)=i+1+j from by omega];exact h2⟩
theorem q6v {P:Program} {x:String × DataW Unit} {g:Nat} {t:TypeId} (h:varT P x=some (g,t)):P.globalNamed x.1=some g/\(P.globals[g]?).map (·.type)=some t:=by
 simp only [varT,qa,qv,qr] at h
 obtain ⟨g',h1,t',h2,rfl,rfl⟩:=h
 exact ⟨h1,by simpa [qv] using h2⟩
def SentAt (P:Program) (tp:TypeId) (w:World) (x:String × DataW Unit) (a:Addr):Prop :=
 ∀ g t s,varT P x=some (g,t)->qsr (P.underlying t)=true->qny x.2=some s ->
  a.spot=none/\(∃ e fz,w.heap[g]? = some (.cells #[.iface tp (.pointer (some a))] e fz)) /\ ∃ cs e fz,w.heap[a.block]? = some (.cells cs e fz)/\cs[a.off]? = some (.string ⟨s.toArray⟩)
theorem sent_at {P:Program} {tp:TypeId} (hT:ErrT P tp) {w:World} {laid:List (String × DataW Unit)} (h:laidMet P laid w) {x:String × DataW Unit} (hx:x ∈ laid):∃ a,SentAt P tp w x a:=by
 by_cases hq:∃ g t s,varT P x=some (g,t)/\qsr (P.underlying t)=true/\qny x.2=some s
 ·obtain ⟨g,t,s,h1,h2,h3⟩:=hq
  obtain ⟨k1,k2⟩:=q6v h1
  have hd:=q1x h3
  obtain ⟨ps,hv,hnd,hrows⟩:=h
  have key:∀ {laid:List (String × DataW Unit)} {ps:List MemPlace},DataW.LaidVars P w laid ps->x ∈ laid ->
   ∃ g t cs fuel p,P.globalNamed x.1=some g/\(P.globals[g]?).map (·.type)=some t/\w.var? P x.1=some cs/\DataW.trod (fun _=>()) P w 0 (fun _=>true) false fuel t cs.toList=some (x.2,p) /\ ∀ q ∈ MemPlace.row ⟨g,0,none⟩ cs.size,q ∈ ps:=by
   intro laid
   induction laid with
   | nil=>intro _ _ hm;cases hm
   | cons y r ih =>
    intro ps hv hm
    obtain ⟨g,t,cs,fuel,p,q,e1,e2,e3,e4,e5,e6⟩:=hv
    rcases zp.1 hm with rfl|hm
    ·exact ⟨g,t,cs,fuel,p,e1,e2,e3,e4,fun z hz=>by rw [e6];simp [hz]⟩
    ·obtain ⟨g',t',cs',fuel',p',f1,f2,f3,f4,f5⟩:=ih e5 hm
     exact ⟨g',t',cs',fuel',p',f1,f2,f3,f4,fun z hz=>by rw [e6];simp [f5 z hz]⟩
  obtain ⟨g',t',cs,fuel,p,e1,e2,e3,e4,e5⟩:=key hv hx
  obtain rfl:=qag (k1.symm.trans e1)
  obtain rfl:=qag (k2.symm.trans e2)
  rw [hd] at e4
  obtain ⟨ms,hi⟩:∃ ms,P.underlying t=some (.interface ms):=by
   unfold qsr at h2
   split at h2
   ·rename_i ms hu;exact ⟨ms,hu⟩
   ·cases h2
  obtain ⟨te,f,hp,he,ho,hs,hc1,hc2⟩:∃ te f,P.underlying tp=some (.pointer te)/\P.underlying te=some (.struct #[f])/\f.offset=0/\P.underlying f.type=some .string/\P.cellsOf te=1/\P.cellsOf f.type=1:=by
   have:=hT.ok
   unfold errOkB at this
   split at this
   ·rename_i te hte
    split at this
    ·rename_i f hf
     simp only [xb,zz] at this
     obtain ⟨⟨⟨a1,a2⟩,a3⟩,a4⟩:=this
     split at a2
     ·rename_i hs;exact ⟨te,f,hte,hf,a1,hs,a3,a4⟩
     ·cases a2
    ·cases this
   ·cases this
  have hvar:=e3
  unfold World.var? at hvar
  rw [e1] at hvar
  simp only [qf] at hvar
  split at hvar
  ·rename_i c e fz hc
   injection hvar with hvar;subst hvar
   have ok:∀ u v,c.toList=[.iface u v]->Value.okWide P w .any 0 u v:=fun u v q=>by
    have hsz:c.size=1:=by simpa using congrArg List.length q
    refine (hrows g 0 (e5 _ (by rw [hsz];simp [MemPlace.row]))).2 u v ?_
    have hc0:c[0]? = some (.iface u v):=by rw [<-jy,q];rfl
    simp [World.cell?,hc,hc0]
   obtain ⟨a,sb,q1,q2,q3,q4,_⟩:=errorString_of_trod hi hT.row hp he rfl ho hs hc1 hc2 e4 ok
   refine ⟨a,fun g2 t2 s2 r1 r2 r3=>?_⟩
   obtain ⟨rfl,rfl⟩:g=g2/\t=t2:=by have:=h1.symm.trans r1;simpa using this
   obtain rfl:=qag (h3.symm.trans r3)
   refine ⟨World.cell?_spot q2,⟨e,fz,by rw [hc,Array.eq_one_of_toList q1]⟩,?_⟩
   unfold World.cell? at q2
   split at q2
   ·rename_i cs' e' fz' hh
    refine ⟨_,_,_,hh,?_⟩
    rw [<-q3]
    have q2':a.spot=none/\cs'[a.off]? = some (.string sb):=by simpa using q2
    rw [q2'.2]
   ·cases q2
  ·cases hvar
 ·exact ⟨default,fun g t s h1 h2 h3=>(hq ⟨g,t,s,h1,h2,h3⟩).elim⟩
theorem laidS {P:Program} {tp:TypeId} {w:World} {laid:List (String × DataW Unit)} (h:laidMet P laid w) (hS:∀ x ∈ laid,∃ a,SentAt P tp w x a) :
 ∃ θ:Th,(∀ g,g<P.globals.size -> θ.blk g=g /\ θ.off g=0) /\ ∀ b l,(b,l) ∈ rowsOf P tp P.globals.size laid->b<P.globals.size+laid.length /\ ∃ pre cs post e fz,w.heap[θ.blk b]? = some (.cells (pre++cs++post).toArray e fz)/\pre.length = θ.off b/\VRL (Lt (P.globals.size+laid.length)) θ l cs:=by
 have hall:∀ j:Nat,∃ a:Addr,∀ x,laid[j]? = some x->SentAt P tp w x a:=fun j=>by
  cases hj:laid[j]? with
  | none=>exact ⟨default,fun x hx=>by cases hx⟩
  | some x =>
   obtain ⟨a,ha⟩:=hS x (jf hj)
   exact ⟨a,fun y hy=>by injection hy with hy;subst hy;exact ha⟩
 obtain ⟨F,hF⟩:=Classical.axiomOfChoice hall
 let N:=P.globals.size
 refine ⟨⟨fun b=>if b<N then b else (F (b-N)).block,fun b=>if b<N then 0 else (F (b-N)).off,fun _=>0⟩,fun g hg=>⟨xc hg,xc hg⟩,fun b l hm=>?_⟩
 obtain ⟨j,x,hj,hm⟩:=qwv hm
 have hjl:=(qi.1 hj).1
 unfold rowsOf1 at hm
 split at hm
 ·cases hm
 ·rename_i g t hv
  obtain ⟨k1,k2⟩:=q6v hv
  have hg:g<N:=by
   rcases z8 g N with q|q
   ·exact q
   ·rw [Array.getElem?_eq_none q] at k2;cases k2
  split at hm
  ·rename_i l' hl
   simp only [List.mem_singleton,qr] at hm
   obtain ⟨rfl,rfl⟩:=hm
   obtain ⟨_,cs,e,fz,h1,h2⟩:=laid_row (d:=x.2) (n:=x.1) h (jf hj) k1 k2 hl
   refine ⟨ql hg (by omega),[],cs.toList,[],e,fz,?_,by simp [hg],fun θ' _=>h2 θ'⟩
   simp [hg,h1]
  ·split at hm
   ·rename_i s hi hs
    obtain ⟨q1,⟨e,fz,q2⟩,cs,e',fz',q3,q4⟩:=hF j x hj g t s hv hi hs
    rcases zp.1 hm with hm|hm
    ·injection hm with hm1 hm2;subst hm1;subst hm2
     refine ⟨ql hg (by omega),[],[.iface tp (.pointer (some (F j)))],[],e,fz,?_,by simp [hg],?_⟩
     ·simp [hg,q2]
     ·refine .one (.iface ?_)
      have:=VR.ptr (D:=Lt (N+laid.length)) (θ:=⟨fun b=>if b<N then b else (F (b-N)).block,fun b=>if b<N then 0 else (F (b-N)).off,fun _=>0⟩) (b:=N+j) (o:=0) (by show N+j<_;omega)
      have hn:¬ N+j<N:=by omega
      simp only [hn,yl,kr,kz] at this
      have hF1:(F j)=⟨(F j).block,(F j).off,none⟩:=by rw [<-q1]
      rw [hF1];exact this
    ·simp only [List.mem_singleton,qr] at hm
     obtain ⟨rfl,rfl⟩:=hm
     have hn:¬ N+j<N:=by omega
     have hlt:=(jr.1 q4).1
     refine ⟨by omega,cs.toList.take (F j).off,[.string ⟨s.toArray⟩],cs.toList.drop ((F j).off+1),e',fz',?_,?_,.one (.str s)⟩
     ·show w.heap[if N+j<N then _ else (F (N+j-N)).block]? = _
      rw [qo hn,kr,q3]
      congr 2
      apply qfp
      have hq:cs.toList[(F j).off]? = some (.string ⟨s.toArray⟩):=by rw [jy];exact q4
      have:=kq (F j).off cs.toList
      rw [List.drop_eq_getElem?_toList_append,hq] at this
      simpa using this.symm
     ·show _=if N+j<N then 0 else (F (N+j-N)).off
      rw [qo hn,kr]
      simp;omega
   ·cases hm
theorem HR.laidS {P:Program} {tp:TypeId} {w:World} {laid:List (String × DataW Unit)} (h:laidMet P laid w) (hS:∀ x ∈ laid,∃ a,SentAt P tp w x a) {base:Nat} (hb:base<=w.heap.size) :
 ∃ θ,HR P base (Lt (P.globals.size+laid.length)) θ (qxt P tp laid) w:=by
 obtain ⟨θ,h1,h2⟩:=Go.Am.laidS h hS
 exact ⟨θ,HR.givenD hb (by omega) h1 h2⟩
theorem HR.laid {P:Program} {tp:TypeId} (hT:ErrT P tp) {w:World} {laid:List (String × DataW Unit)} (h:laidMet P laid w) {base:Nat} (hb:base<=w.heap.size) :
 ∃ θ,HR P base (Lt (P.globals.size+laid.length)) θ (qxt P tp laid) w:=HR.laidS h (fun x hx=>sent_at hT h hx) hb
def noSent (laid:List (String × DataW Unit)):Bool:=laid.all fun x=>(qny x.2).isNone
theorem HR.laidN {P:Program} {tp:TypeId} {w:World} {laid:List (String × DataW Unit)} (hn:noSent laid=true) (h:laidMet P laid w) {base:Nat} (hb:base<=w.heap.size) :
 ∃ θ,HR P base (Lt (P.globals.size+laid.length)) θ (qxt P tp laid) w:=HR.laidS h (fun x hx=>⟨default,fun g t s h1 h2 h3=>by
  have:=qdl.1 hn x hx
  rw [h3] at this;cases this⟩) hb
end Go.Am
namespace Go.Am
open Go.ChangeShapes Go.WideShapes Go.ChangeAt Go.RowKit
section
variable {H:Type} {enc:TypeId × Value->H} {P:Program}
theorem qx9 {f:Func} {s:ChangeSpec} {apart fresh handsOn again:Bool} {W W':World} {args:Array Value} {v:Value} {ds gs:List (DataW H)} {before pa pv:List MemPlace}
 (hW:DataW.Whole enc P f.params.toList s.vars apart W args.toList ds gs before)
 (hres:∀ (b:Nat) (sp:Nat->Bool) (hd:Bool),DataW.TrodAll enc P W' b sp hd f.resultTypes.toList (v.resultList f.resultTypes.size) (s.fn H (ds++gs)).results [])
 (hargs:∀ sp:Nat->Bool,(∀ p ∈ before,sp p.block=true)->DataW.TrodAll enc P W' 0 sp true f.params.toList args.toList (s.fn H (ds++gs)).args pa)
 (hvars:∀ sp:Nat->Bool,(∀ p ∈ before,sp p.block=true)->DataW.TrodVars enc P W' sp s.vars (s.fn H (ds++gs)).vars pv)
 (hps:before=pa++pv) (hb:Below W.heap.size W W')
 (hok:∀ (j:Nat) (t:TypeId) (r:Value),f.resultTypes[j]? = some t->(v.resultList f.resultTypes.size)[j]? = some r->Value.okWide P W' .any 0 t r) :
 s.post enc P f apart fresh handsOn again W args v W':=by
 have hlt:∀ p ∈ before,p.block<W.heap.size:=hW.lt
 have hold:∀ p ∈ before,(fun b=>decide (b<W.heap.size)) p.block=true:=fun p hp=>by simpa using hlt p hp
 refine ⟨ds,gs,before,[],pa,pv,hW,hres _ _ _,hargs _ hold,hvars _ hold,hb.frame _,fun _=>?_⟩
 obtain ⟨_,_,_,_,_,hz,hn⟩:=hW
 refine ⟨hok,_,_,([]++pa)++pv,⟨[]++pa,pv,trodAll_append (hargs _ (fun _ _=>rfl)) (hres _ _ _),hvars _ (fun _ _=>rfl),rfl,?_,?_⟩,?_⟩
 ·intro b off hp
  have hp':MemPlace.cell b off ∈ before:=by rw [hps];simpa using hp
  rw [hb.frozen (p:=⟨b,off,none⟩) (hlt _ hp')]
  exact hz b off hp'
 ·intro ha
  have:=hn ha
  rw [hps] at this
  simpa using this
 ·intro p hp _
  rw [hps]
  simpa using hp
end
theorem pgood {P:Program} (h:(P.funcs.all fun fn=>fn.name != "runtime.NumGoroutine")=true) (h':P.follows .mixedOrders=true):PGood P:=by
 refine ⟨fun f fn hf e=>?_,h'⟩
 obtain ⟨hlt,rfl⟩:=jr.1 hf
 have:=(Array.all_eq_true.1 h) f hlt
 simp [e] at this
end Go.Am
namespace Go.Am
open Go.RowKit
mutual
def qfe (n:Nat):AV->Bool
 | .ptr b _=>Nat.blt b n
 | .slice b _ _ _=>Nat.blt b n
 | .gslice b _ _ _ _ _=>Nat.blt b n
 | .eslice b=>Nat.blt b n
 | .map b=>Nat.blt b n
 | .fn _ _ _=>false
 | .iface _ v=>qfe n v
 | .agg l=>qec n l
 | .tuple l=>qec n l
 | _=>true
def qec (n:Nat):List AV->Bool
 | []=>true
 | v::l=>qfe n v && qec n l
end
mutual
theorem qo0 {n:Nat} {θ θ':Th} (h:Ag (Lt n) θ θ'):∀ (v:AV),qfe n v=true->conc θ' v=conc θ v
 | .ptr b o,hv=>by obtain ⟨h1,h2,_⟩:=h b (by simpa [qfe,Lt] using hv);simp [conc,h1,h2]
 | .slice b _ _ _,hv=>by obtain ⟨h1,h2,_⟩:=h b (by simpa [qfe,Lt] using hv);simp [conc,h1,h2]
 | .gslice b _ _ _ _ _,hv=>by obtain ⟨h1,h2,h3⟩:=h b (by simpa [qfe,Lt] using hv);simp [conc,h1,h2,h3]
 | .eslice b,hv=>by obtain ⟨h1,h2,h3⟩:=h b (by simpa [qfe,Lt] using hv);simp [conc,h1,h2,h3]
 | .map b,hv=>by obtain ⟨h1,_,_⟩:=h b (by simpa [qfe,Lt] using hv);simp [conc,h1]
 | .fn _ _ _,hv=>by simp [qfe] at hv
 | .iface _ v,hv=>by simp only [conc];rw [qo0 h v hv]
 | .agg l,hv=>by simp only [conc];rw [qkf h l hv]
 | .tuple l,hv=>by simp only [conc];rw [qkf h l hv]
 | .bool _,_=>rfl
 | .int _ _,_=>rfl
 | .str _,_=>rfl
 | .nilp,_=>rfl
 | .nils,_=>rfl
 | .nilm,_=>rfl
 | .nilf,_=>rfl
 | .nili,_=>rfl
theorem qkf {n:Nat} {θ θ':Th} (h:Ag (Lt n) θ θ'):∀ (l:List AV),qec n l=true->concL θ' l=concL θ l
 | [],_=>rfl
 | v::l,hv=>by
  simp only [qec,xb] at hv
  simp only [concL]
  rw [qo0 h v hv.1,qkf h l hv.2]
end
theorem Ag.none {θ θ':Th}:Ag (Lt 0) θ θ':=fun b hb=>by cases hb
mutual
def eqAV:AV->AV->Bool
 | .bool a,.bool b=>a == b
 | .int k a,.int k' b=>decide (k=k') && decide (a=b)
 | .str s,.str t=>decide (s=t)
 | .nilp,.nilp=>true
 | .ptr b o,.ptr b' o'=>Nat.beq b b' && Nat.beq o o'
 | .nils,.nils=>true
 | .nilm,.nilm=>true
 | .nilf,.nilf=>true
 | .nili,.nili=>true
 | .iface t v,.iface t' v'=>Nat.beq t t' && eqAV v v'
 | .agg l,.agg l'=>eqAVL l l'
 | .tuple l,.tuple l'=>eqAVL l l'
 | _,_=>false
def eqAVL:List AV->List AV->Bool
 | [],[]=>true
 | v::l,v'::l'=>eqAV v v' && eqAVL l l'
 | _,_=>false
end
mutual
theorem q06:∀ (v v':AV),eqAV v v'=true->v=v'
 | .iface t v,x,h=>by
  cases x<;>simp only [eqAV,xb,zz,je] at h
  rw [h.1,q06 _ _ h.2]
 | .agg l,x,h=>by
  cases x<;>simp only [eqAV,je] at h
  rw [qo5 _ _ h]
 | .tuple l,x,h=>by
  cases x<;>simp only [eqAV,je] at h
  rw [qo5 _ _ h]
 | .bool _,x,h=>by cases x<;>simp_all [eqAV]
 | .int _ _,x,h=>by cases x<;>simp_all [eqAV]
 | .str _,x,h=>by cases x<;>simp_all [eqAV]
 | .nilp,x,h=>by cases x<;>simp_all [eqAV]
 | .ptr _ _,x,h=>by cases x<;>simp_all [eqAV]
 | .nils,x,h=>by cases x<;>simp_all [eqAV]
 | .slice _ _ _ _,x,h=>by cases x<;>simp_all [eqAV]
 | .gslice _ _ _ _ _ _,x,h=>by cases x<;>simp_all [eqAV]
 | .nilm,x,h=>by cases x<;>simp_all [eqAV]
 | .map _,x,h=>by cases x<;>simp_all [eqAV]
 | .fn _ _ _,x,h=>by cases x<;>simp_all [eqAV]
 | .nilf,x,h=>by cases x<;>simp_all [eqAV]
 | .nili,x,h=>by cases x<;>simp_all [eqAV]
theorem qo5:∀ (l l':List AV),eqAVL l l'=true->l=l'
 | [],[],_=>rfl
 | [],_::_,h=>by simp [eqAVL] at h
 | _::_,[],h=>by simp [eqAVL] at h
 | v::l,v'::l',h=>by
  simp only [eqAVL,xb] at h
  rw [q06 _ _ h.1,qo5 _ _ h.2]
end
structure TEntry where
 f:Nat
 args:List AV
 res:AV
def hasRows (H:AHeap):List (Nat × List AV)->Bool
 | []=>true
 | (b,l)::r=>(match H.get b with|some (.row l' _ _ _)=>eqAVL l l'|_=>false) && hasRows H r
def rowsOk (n:Nat):List (Nat × List AV)->Bool
 | []=>true
 | (b,l)::r=>Nat.blt b n && qec n l && rowsOk n r
def findT (gl:List (Nat × List AV)) (H:AHeap) (f:Nat) (vs:List AV):List TEntry->Option (AEnd × Option Chain × AHeap)
 | []=>none
 | e::r=>cond (Nat.beq f e.f && (eqAVL vs e.args && hasRows H gl)) (some (.ret e.res,none,H)) (findT gl H f vs r)
def toldOf (gl:List (Nat × List AV)) (L:List TEntry):CallFn:=fun f vs up H =>
 match up with
 | none=>findT gl H f vs L
 | some _=>none
theorem qxl {gl:List (Nat × List AV)} {H:AHeap} {f:Nat} {vs:List AV}:∀ {L:List TEntry} {r:AEnd × Option Chain × AHeap},findT gl H f vs L=some r -> ∃ e ∈ L,f=e.f/\vs=e.args/\hasRows H gl=true/\r=(.ret e.res,none,H)
 | [],_,h=>by cases h
 | e::L,r,h=>by
  simp only [findT] at h
  cases hc:(Nat.beq f e.f && (eqAVL vs e.args && hasRows H gl)) with
  | true =>
   rw [hc] at h
   simp only [qz,qb] at h
   simp only [xb,zz] at hc
   exact ⟨e,by simp,hc.1,qo5 _ _ hc.2.1,hc.2.2,h.symm⟩
  | false =>
   rw [hc] at h
   obtain ⟨e',h1,h2⟩:=qxl (L:=L) h
   exact ⟨e',by simp [h1],h2⟩
theorem qvi {gl:List (Nat × List AV)} {L:List TEntry}:qak (toldOf gl L):=by
 intro f vs up H e up' H' h
 cases up with
 | some _=>cases h
 | none =>
  obtain ⟨e',_,_,_,_,hr⟩:=qxl h
  injection hr with _ hr
  injection hr with _ hr
  subst hr
  exact Ext.refl _
theorem qtn {H:AHeap}:∀ {gl:List (Nat × List AV)},hasRows H gl=true -> ∀ {b:Nat} {l:List AV},(b,l) ∈ gl -> ∃ e fz ow,H.get b=some (.row l e fz ow)
 | [],_,b,l,h=>by cases h
 | (b',l')::r,hr,b,l,h=>by
  simp only [hasRows,xb] at hr
  rcases zp.1 h with e|h
  ·injection e with e1 e2;subst e1;subst e2
   have h1:=hr.1
   split at h1
   ·rename_i l2 e fz ow hg
    rw [qo5 _ _ h1]
    exact ⟨e,fz,ow,hg⟩
   ·cases h1
  ·exact qtn hr.2 h
theorem qww {n:Nat}:∀ {gl:List (Nat × List AV)},rowsOk n gl=true -> ∀ {b:Nat} {l:List AV},(b,l) ∈ gl->b<n/\qec n l=true
 | [],_,b,l,h=>by cases h
 | (b',l')::r,hr,b,l,h=>by
  simp only [rowsOk,xb,we] at hr
  rcases zp.1 h with e|h
  ·injection e with e1 e2;subst e1;subst e2;exact hr.1
  ·exact qww hr.2 h
theorem HR.given_of {P:Program} {base n:Nat} {D:Nat->Prop} {θ:Th} {H:AHeap} {w:World} {gl:List (Nat × List AV)} (h:HR P base D θ H w) (hn:P.globals.size<=n) (hok:rowsOk n gl=true) (hr:hasRows H gl=true) :
 HR P base (Lt n) θ (vd gl n) w:=by
 refine HR.givenD h.low hn (fun g hg=>(h.glob g hg).2) fun b l hm=>?_
 obtain ⟨h1,h2⟩:=qww hok hm
 obtain ⟨e,fz,ow,hg⟩:=qtn hr hm
 obtain ⟨_,co,hc,pre,cs,post,cfz,e',rfl,k1,k2,_⟩:=h.obj _ _ hg
 exact ⟨h1,pre,cs,post,e',cfz,hc,k1,fun θ' ha=>(qkf ha l h2).trans k2.now⟩
theorem HR.below {P:Program} {base:Nat} {D:Nat->Prop} {θ:Th} {H:AHeap} {w w':World} (h:HR P base D θ H w) (hb:Below w.heap.size w w'):HR P base D θ H w':=by
 refine ⟨fun b o hg=>?_,h.inj,h.above,h.glob,zn h.low hb.size⟩
 obtain ⟨h1,co,h2,h3⟩:=h.obj b o hg
 exact ⟨h1,co,by rw [hb.block _ (jr.1 h2).1];exact h2,h3⟩
theorem q3m {D:Nat->Prop} {H:AHeap} {θ:Th} {w w':World} (hb:Below w.heap.size w w'):Grow D H θ w H θ w' :=
 ⟨qe _,Ag.refl _ _,hb.size,hb.os,hb.tape,hb.output,fun k hk _=>hb.block k hk,fun b o h ho _=>⟨b,o,h,ho,rfl⟩⟩
def ToldP (P:Program) (gl:List (Nat × List AV)) (n:Nat) (e:TEntry):Prop :=
 qfe 0 e.res=true /\ ∀ base θ w (args:Array Value),HR P base (Lt n) θ (vd gl n) w->VRL (Lt n) θ e.args args.toList ->
  (∃ fn c,P.funcs[e.f]? = some fn/\fn.body=some c)/\Calls P e.f args w fun en w'=>en=.returned (conc θ e.res)/\Below w.heap.size w w'
theorem qrg {P:Program} {base n:Nat} {gl:List (Nat × List AV)} {L:List TEntry} (hn:P.globals.size<=n) (hok:rowsOk n gl=true) (hL:∀ e ∈ L,qec 0 e.args=true/\ToldP P gl n e):wt P base (toldOf gl L):=by
 intro D θ H w f vs args up H' e up' kind cs hh hv hu h hf
 cases up with
 | some _=>cases h
 | none =>
  have hk:kind=.normal:=hu
  obtain ⟨e',hm,rfl,rfl,hrows,hr⟩:=qxl h
  injection hr with hr1 hr
  injection hr with hr2 hr3
  subst hr1;subst hr2;subst hr3
  obtain ⟨hpl,hres,ht⟩:=hL e' hm
  obtain ⟨hfn,hc⟩:=ht base θ w args (hh.given_of hn hok hrows) (fun θ' _=>(qkf Ag.none _ hpl).trans hv.now)
  refine ⟨hfn,?_⟩
  obtain ⟨en,w',fr,⟨rfl,hb⟩,hs,hfr,hl⟩:=hc cs
  obtain ⟨l1,l2,l3,l4⟩:=hl
  subst hk
  refine ⟨θ,w',cs,fr,.returned (conc θ e'.res),hs,l3,hfr,⟨l1,l2,l4⟩,fun θ' _=>qo0 Ag.none _ hres,?_,q3m hb,rfl,rfl,rfl⟩
  rw [Up.none];exact hh.below hb
def retIs (v:AV):Option (AEnd × Option Chain × AHeap)->Bool
 | some (.ret u,_,_)=>eqAV u v
 | _=>false
theorem retIs_eq {v:AV} {o:Option (AEnd × Option Chain × AHeap)} (h:retIs v o=true):∃ u H',o=some (.ret v,u,H'):=by
 unfold retIs at h
 split at h
 ·rw [q06 _ _ h];exact ⟨_,_,rfl⟩
 ·cases h
theorem q17 {P:Program} (hP:PGood P) {gl:List (Nat × List AV)} {L:List TEntry} {n:Nat} (hn:P.globals.size<=n) (hok:rowsOk n gl=true) (hL:∀ e ∈ L,qec 0 e.args=true/\ToldP P gl n e)
 {e:TEntry} {m:Nat} (hp:qfe 0 e.res=true) (hr:retIs e.res (acallT (cProg P) (toldOf gl L) m e.f e.args none (vd gl n))=true):ToldP P gl n e:=by
 obtain ⟨u,H',hr⟩:=retIs_eq hr
 refine ⟨hp,fun base θ w args hh hv=>?_⟩
 have hs:=fun cs=>qmk hP (fun rt hAP hc hr' hcm hrm=>qwe hP hAP hc hr' hcm hrm) (qrg hn hok hL) qvi m (Lt n) θ (vd gl n) w e.f e.args args none H' (.ret e.res) u .normal cs hh hv rfl hr
  (fun b h1 h2 hb=>by have h1:n<=b:=h1;have hb:b<n:=hb;omega)
 refine ⟨(hs []).1,fun cs=>?_⟩
 obtain ⟨_,θ',w',cs',fr,e',g1,g2,g3,g4,g5,g6,g7,g8,g9,g10⟩:=hs cs
 have hcs:cs'=cs:=g9
 subst hcs
 cases e' with
 | returned c =>
  refine ⟨.returned c,w',fr,⟨?_,g7.below (qnu _ _)⟩,g1,g3,qii g4 g2⟩
  have g5:VR _ θ' e.res c:=g5
  rw [<-g5.now,qo0 Ag.none _ hp]
 | panicked _=>exact g5.elim
 | outgrown=>exact g5.elim
end Go.Am
