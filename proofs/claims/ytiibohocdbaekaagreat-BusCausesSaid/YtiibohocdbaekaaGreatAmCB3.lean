/- B3: Plan Draw Draw2 Draw3 Draw4 Calls Final Data Closed bP Told. -/
import Derived.Test.YtiibohocdbaekaaGreatAmCB2
import Derived.Below
import GoSem.ClaimJoined
import Derived.ChangeSame
import Derived.LaidSub
import Derived.LaidLaws
import Derived.WalkKit
import Derived.ProofKit
import Derived.OpenShut
set_option linter.unusedVariables false
set_option linter.unusedSimpArgs false
namespace Go.Am
theorem Iu {a b:Nat} (h:lS a b=true) {j:Nat} (hj:a.testBit j=true):b.testBit j=true:=by
 unfold lS at h;simp only [zp] at h;have h2:(a &&& b).testBit j=a.testBit j:=by
  rw [show a &&& b=Nat.land a b from rfl,h]
 rw [Nat.testBit_and,hj] at h2
 simpa using h2
theorem Lu (a b j:Nat):(Nat.lor a b).testBit j=(a.testBit j || b.testBit j):=Nat.testBit_or a b j
theorem O1 (a b j:Nat):(Nat.land a b).testBit j=(a.testBit j && b.testBit j):=Nat.testBit_and a b j
theorem Mx (i j:Nat):(2 ^ i).testBit j=decide (i=j):=Nat.testBit_two_pow
theorem HI:∀ (l:List (Bool × Nat)) (d j:Nat),(bitsOf l d).testBit j=true ↔ d.testBit j=true\/(false,j) ∈ l
 | [],d,j=>by simp [bitsOf]
 | (true,r)::l,d,j=>by rw [bitsOf,HI l];simp
 | (false,i)::l,d,j=>by
  rw [bitsOf,HI l,Lu,Mx];simp only [yj,GS,zr,xn,sy];constructor
  ·rintro ((h|h) | h)
   ·exact .inl h
   ·exact .inr (.inl h.symm)
   ·exact .inr (.inr h)
  ·rintro (h|h|h)
   ·exact .inl (.inl h)
   ·exact .inl (.inr h.symm)
   ·exact .inr h
theorem qs5:∀ (l:List (Bool × Nat)) (d r:Nat),(kC l d).testBit r=true->d.testBit r=true \/ ∃ u:Nat,l[u]? = some (true,r) /\ ∀ v:Nat,v<=u -> ∃ r',l[v]? = some (true,r')
 | [],d,r,h=>.inl h
 | (false,i)::l,d,r,h=>.inl h
 | (true,r')::l,d,r,h=>by
  rw [kC] at h;rcases qs5 l _ r h with h|⟨u,h1,h2⟩
  ·rw [Lu,Mx] at h;simp only [yj,GS] at h;rcases h with h|h
   ·exact .inl h
   ·subst h;refine .inr ⟨0,rfl,λ v hv=>⟨r',?_⟩⟩;obtain rfl:v=0:=by omega
    rfl
  ·refine .inr ⟨u+1,by simpa using h1,λ v hv=>?_⟩;cases v with
   | zero=>exact ⟨r',rfl⟩
   | succ v=>simpa using h2 v (by omega)
theorem JG (p:Nat->Bool):∀ (n j:Nat),(fR p n).testBit j=true ↔ j<n/\p j=true
 | 0,j=>by simp [fR]
 | n+1,j=>by
  rw [fR];cases hp:p n with
  | true =>
   simp only [xf,Lu,Mx,yj,GS,JG p n];constructor
   ·rintro (⟨h1,h2⟩|h)
    ·exact ⟨by omega,h2⟩
    ·subst h;exact ⟨by omega,hp⟩
   ·rintro ⟨h1,h2⟩
    by_cases e:n=j
    ·exact .inr e
    ·exact .inl ⟨by omega,h2⟩
  | false =>
   simp only [za,JG p n];constructor
   ·rintro ⟨h1,h2⟩;exact ⟨by omega,h2⟩
   ·rintro ⟨h1,h2⟩;refine ⟨?_,h2⟩
    by_cases e:n=j
    ·subst e;rw [hp] at h2;cases h2
    ·omega
theorem KV {p:Nat->Bool}:∀ {n:Nat},nK p n=true -> ∀ i,i<n->p i=true
 | 0,_,i,hi=>by omega
 | n+1,h,i,hi=>by
  rw [nK,xh] at h
  by_cases e:i=n
  ·subst e;exact h.1
  ·exact KV h.2 i (by omega)
theorem Ps (c d:EC):mo c d=true ↔ c=d:=by cases c<;>cases d<;>simp [mo]
theorem NT (t:Nat):∀ l,kP t l=true ↔ t ∈ l
 | []=>by simp [kP]
 | x::l=>by
  rw [kP,yj,NT t l];simp only [zp,zr];constructor
  ·rintro (h|h)
   ·exact .inl h.symm
   ·exact .inr h
  ·rintro (h|h)
   ·exact .inl h.symm
   ·exact .inr h
theorem Nu {I:iQ}:∀ {plan:List (Bool × Nat)} {d:Nat},Fu I plan d=true ->
 (∀ pre x post,plan=pre++x::post->Gx I (bitsOf pre d) post x=true)/\lS (2 ^ I.n-1) (bitsOf plan d)=true
 | [],d,h=>⟨λ pre x post e=>by simp at e,h⟩
 | (false,i)::l,d,h=>by
  rw [Fu,xh] at h;obtain ⟨h1,h2⟩:=Nu h.2;refine ⟨λ pre x post e=>?_,h2⟩;cases pre with
  | nil =>
   simp only [zn,zi] at e;obtain ⟨rfl,rfl⟩:=e;exact h.1
  | cons y pre =>
   simp only [Ep,zi] at e;obtain ⟨rfl,e⟩:=e;exact h1 pre x post e
 | (true,r)::l,d,h=>by
  rw [Fu,xh] at h;obtain ⟨h1,h2⟩:=Nu h.2;refine ⟨λ pre x post e=>?_,h2⟩;cases pre with
  | nil =>
   simp only [zn,zi] at e;obtain ⟨rfl,rfl⟩:=e;exact h.1
  | cons y pre =>
   simp only [Ep,zi] at e;obtain ⟨rfl,e⟩:=e;exact h1 pre x post e
structure rK (I:iQ) (plan:List (Bool × Nat)):Prop where
 all:∀ i:Nat,i<I.n -> ∃ p:Nat,plan[p]? = some (false,i)
 lt:∀ p i:Nat,plan[p]? = some (false,i)->i<I.n
 one:∀ p p' i:Nat,plan[p]? = some (false,i)->plan[p']? = some (false,i)->p=p'
 dS:∀ p i j:Nat,plan[p]? = some (false,i)->(I.dS i).testBit j=true -> ∃ p':Nat,p'<p/\plan[p']? = some (false,j)
 made:∀ p i p' j:Nat,plan[p]? = some (false,i)->(I.cls i=.read\/I.cls i=.eQ)->plan[p']? = some (false,j)->p'<p->(I.cls j=.alloc\/I.cls j=.eQ)->(I.dS i).testBit j=true
 look:∀ p e p' r:Nat,plan[p]? = some (false,e)->I.cls e=.eQ->plan[p']? = some (false,r)->p'<p->I.cls r=.read->(I.dS e).testBit r=false ->
  ∃ u:Nat,p<u/\plan[u]? = some (true,r) /\ ∀ v:Nat,p<v->v<=u -> ∃ r',plan[v]? = some (true,r')
 again:∀ p r:Nat,plan[p]? = some (true,r)->I.cls r=.read/\I.self r=true/\(∃ p':Nat,p'<p/\plan[p']? = some (false,r)) /\
  ∀ w p':Nat,plan[p']? = some (false,w)->p'<p->w ≠ r->I.sL r w=true->(I.dS r).testBit w=true
 CH:∀ r w:Nat,r<I.n->w<I.n->r ≠ w->I.sL r w=true->(I.dS r).testBit w=true\/(I.dS w).testBit r=true
theorem uN {α:Type} {l:List α} {p:Nat} {x:α} (h:l[p]? = some x):l=l.take p++x::l.drop (p+1):=by
 obtain ⟨hp,hx⟩:=qe.1 h;rw [<-hx];simp
theorem vR {α:Type} {l:List α} {p:Nat} {x:α}:x ∈ l.take p ↔ ∃ p':Nat,p'<p/\l[p']? = some x:=by
 rw [List.mem_iff_getElem?];constructor
 ·rintro ⟨i,hi⟩;rw [kc] at hi;split at hi
  ·exact ⟨i,by assumption,hi⟩
  ·cases hi
 ·rintro ⟨i,hi,h⟩;exact ⟨i,by rw [kc,ql hi];exact h⟩
theorem u7 {I:iQ} {plan:List (Bool × Nat)} (hmade:I.made=fR (λ i=>qA (I.cls i)) I.n) (hreads:I.reads=fR (λ i=>mo (I.cls i) .read) I.n) (h:Fu I plan 0=true) (ht:rV I=true):rK I plan:=by
 obtain ⟨hc,hall⟩:=Nu h;have at_:∀ {p:Nat} {x:Bool × Nat},plan[p]? = some x->Gx I (bitsOf (plan.take p) 0) (plan.drop (p+1)) x=true:=λ hx=>hc _ _ _ (uN hx);have done:∀ p j:Nat,(bitsOf (plan.take p) 0).testBit j=true ↔ ∃ p':Nat,p'<p/\plan[p']? = some (false,j):=λ p j=>by
  rw [HI,vR];simp
 have run:∀ {p i:Nat},plan[p]? = some (false,i)->i<I.n/\(bitsOf (plan.take p) 0).testBit i=false/\lS (I.dS i) (bitsOf (plan.take p) 0)=true /\
  ((I.cls i=.read\/I.cls i=.eQ)->lS (Nat.land (bitsOf (plan.take p) 0) I.made) (I.dS i)=true) /\
  (I.cls i=.eQ->lS (Nat.land (bitsOf (plan.take p) 0) I.reads) (Nat.lor (I.dS i) (kC (plan.drop (p+1)) 0))=true):=λ {p i} hp=>by
  have:=at_ hp;simp only [Gx,xh,we,Gr] at this;obtain ⟨h1,h2,h3,h4⟩:=this;refine ⟨h1,h2,h3,λ hh=>?_,λ hh=>?_⟩
  ·rcases hh with hh|hh
   ·rw [hh] at h4;exact h4
   ·rw [hh] at h4;simp only [xh] at h4;exact h4.1
  ·rw [hh] at h4;simp only [xh] at h4;exact h4.2
 have one:∀ p p' i:Nat,plan[p]? = some (false,i)->plan[p']? = some (false,i)->p=p':=by
  intro p p' i hp hp';rcases Nat.lt_trichotomy p p' with hlt|rfl|hlt
  ·have:=(run hp').2.1;rw [(done p' i).2 ⟨p,hlt,hp⟩] at this;cases this
  ·rfl
  ·have:=(run hp).2.1;rw [(done p i).2 ⟨p',hlt,hp'⟩] at this;cases this
 refine ⟨λ i hi=>?_,λ p i hp=>(run hp).1,one,λ p i j hp hj=>(done p j).1 (Iu (run hp).2.2.1 hj),λ p i p' j hp hcl hp' hlt hcj=>?_,λ p e p' r hp hce hp' hlt hcr hna=>?_,λ p r hp=>?_,λ r w hr hw hne hm=>?_⟩
 ·have:(2 ^ I.n-1).testBit i=true:=by rw [Nat.testBit_two_pow_sub_one];simpa using hi
  have:=Iu hall this;rw [HI] at this;rcases this with h|h
  ·simp at h
  ·exact List.mem_iff_getElem?.1 h
 ·refine Iu ((run hp).2.2.2.1 hcl) ?_;rw [O1,(done p j).2 ⟨p',hlt,hp'⟩,hmade,(JG _ _ _).2 ⟨(run hp').1,?_⟩]
  ·rfl
  ·simp only [qA,yj,Ps];exact hcj
 ·have:=Iu ((run hp).2.2.2.2 hce) (j:=r) (by
   rw [O1,(done p r).2 ⟨p',hlt,hp'⟩,hreads,(JG _ _ _).2 ⟨(run hp').1,by rw [Ps];exact hcr⟩];rfl)
  rw [Lu,hna,Bool.false_or] at this;rcases qs5 _ _ _ this with h|⟨u,h1,h2⟩
  ·simp at h
  ·rw [kq] at h1;refine ⟨p+1+u,by omega,h1,λ v hv1 hv2=>?_⟩;obtain ⟨r',hr'⟩:=h2 (v-(p+1)) (by omega);rw [kq,show p+1+(v-(p+1))=v from by omega] at hr';exact ⟨r',hr'⟩
 ·have:=at_ hp;simp only [Gx,xh,Ps] at this;obtain ⟨h1,h0,h2,h3⟩:=this;refine ⟨h1,h0,(done p r).1 h2,λ w p' hp' hlt hne hm=>Iu h3 ?_⟩;rw [O1,(done p w).2 ⟨p',hlt,hp'⟩,(JG _ _ _).2 ⟨(run hp').1,?_⟩]
  ·rfl
  ·simp only [xh,Gr,hm,od];cases hb:Nat.beq w r with
   | false=>rfl
   | true=>simp only [zp] at hb;exact absurd hb hne
 ·have:=KV (KV ht r hr) w hw;simp only [yj,zp,hm,Bool.not_true,sr] at this;rcases this with h|h|h|h
  ·exact absurd h hne
  ·exact .inl h
  ·exact .inr h
  ·cases h
theorem qx6 (acc:Array Nat) (j:Nat):∀ (l:List Edge) (s:Nat),(l.foldl (λ s e=>if Region.binds .any e then s ||| 2 ^ e.on ||| acc.getD e.on 0 else s) s).testBit j=true ->
 s.testBit j=true \/ ∃ e ∈ l,Region.binds .any e=true/\(e.on=j\/(acc.getD e.on 0).testBit j=true)
 | [],s,h=>.inl h
 | e::l,s,h=>by
  rw [Fj] at h;rcases qx6 acc j l _ h with h|⟨e',h1,h2⟩
  ·split at h
   ·rename_i hb;simp only [Nat.testBit_or,Nat.testBit_two_pow,yj,GS] at h;rcases h with (h|h) | h
    ·exact .inl h
    ·exact .inr ⟨e,by simp,hb,.inl h⟩
    ·exact .inr ⟨e,by simp,hb,.inr h⟩
   ·exact .inl h
  ·exact .inr ⟨e',by simp [h1],h2⟩
theorem qx5 (acc:Array Nat):∀ (l:List Edge) (s:Nat),(∀ j,s.testBit j=true->(l.foldl (λ s e=>if Region.binds .any e then s ||| 2 ^ e.on ||| acc.getD e.on 0 else s) s).testBit j=true) /\
 ∀ e ∈ l,Region.binds .any e=true->(l.foldl (λ s e=>if Region.binds .any e then s ||| 2 ^ e.on ||| acc.getD e.on 0 else s) s).testBit e.on=true
 | [],s=>⟨λ j h=>h,λ e he=>by simp at he⟩
 | e::l,s=>by
  obtain ⟨h1,h2⟩:=qx5 acc l (if Region.binds .any e then s ||| 2 ^ e.on ||| acc.getD e.on 0 else s);refine ⟨λ j hj=>?_,λ e' he' hb=>?_⟩
  ·rw [Fj];refine h1 j ?_;split
   ·simp [Nat.testBit_or,hj]
   ·exact hj
  ·rw [Fj];rcases zr.1 he' with rfl|he'
   ·refine h1 _ ?_;rw [ql hb];simp [Nat.testBit_or,Nat.testBit_two_pow]
   ·exact h2 e' he' hb
theorem qry (ops:Array Oper):∀ (i:Nat) (o:Oper),ops[i]? = some o ->
 (∀ e ∈ o.after.toList,Region.binds .any e=true->((Region.before ops).getD i 0).testBit e.on=true) /\
 (∀ j,((Region.before ops).getD i 0).testBit j=true -> ∃ e ∈ o.after.toList,Region.binds .any e=true/\(e.on=j\/(e.on<i/\((Region.before ops).getD e.on 0).testBit j=true))):=by
 have key:∀ (l:List Oper) (acc:Array Nat),let R:=l.foldl (λ acc o=>acc.push (o.after.foldl (λ s e=>if Region.binds .any e then s ||| 2 ^ e.on ||| acc.getD e.on 0 else s) 0)) acc
  (∀ i,i<acc.size->R.getD i 0=acc.getD i 0)/\acc.size<=R.size /\ ∀ (i:Nat) (o:Oper),l[i]? = some o ->
   (∀ e ∈ o.after.toList,Region.binds .any e=true->(R.getD (acc.size+i) 0).testBit e.on=true) /\
   (∀ j,(R.getD (acc.size+i) 0).testBit j=true -> ∃ e ∈ o.after.toList,Region.binds .any e=true/\(e.on=j\/(e.on<acc.size+i/\(R.getD e.on 0).testBit j=true))):=by
  intro l
  induction l with
  | nil=>intro acc;exact ⟨λ i hi=>rfl,qf _,λ i o h=>by simp at h⟩
  | cons o l ih =>
   intro acc;simp only [Fj];generalize hv:o.after.foldl (λ s e=>if Region.binds .any e then s ||| 2 ^ e.on ||| acc.getD e.on 0 else s) 0=v;rw [<-Array.foldl_toList] at hv;obtain ⟨h1,h2,h3⟩:=ih (acc.push v);generalize (l.foldl (λ acc o=>acc.push (o.after.foldl (λ s e=>if Region.binds .any e then s ||| 2 ^ e.on ||| acc.getD e.on 0 else s) 0)) (acc.push v))=R at h1 h2 h3;have hsz:(acc.push v).size=acc.size+1:=by simp
   have hlow:∀ i,i<acc.size->R.getD i 0=acc.getD i 0:=λ i hi=>by
    rw [h1 i (by omega)];simp [jo,Array.getElem?_push,D5 hi]
   have hat:R.getD acc.size 0=v:=by
    rw [h1 acc.size (by omega)];simp [jo,Array.getElem?_push]
   refine ⟨hlow,by omega,λ i o' ho'=>?_⟩;cases i with
   | zero =>
    simp only [je,qc] at ho';subst ho';rw [qh,hat,<-hv];obtain ⟨g1,g2⟩:=qx5 acc o.after.toList 0;refine ⟨g2,λ j hj=>?_⟩;rcases qx6 acc j _ _ hj with h|⟨e,he,hb,h⟩
    ·simp at h
    ·refine ⟨e,he,hb,?_⟩;rcases h with h|h
     ·exact .inl h
     ·by_cases hlt:e.on<acc.size
      ·exact .inr ⟨hlt,by rw [hlow _ hlt];exact h⟩
      ·rw [jo,Array.getElem?_eq_none (by omega)] at h;simp at h
   | succ i =>
    have:=h3 i o' (by simpa using ho');rw [hsz,kx,Nat.add_comm 1 i] at this;exact this
 intro i o ho;obtain ⟨_,_,h3⟩:=key ops.toList #[];have:=h3 i o (by rw [j6];exact ho);unfold Region.before;rw [<-Array.foldl_toList]
 simpa using this
structure Order (I:iQ) (L:List Nat):Prop where
 all:∀ i,i<I.n->i ∈ L
 lt:∀ i ∈ L,i<I.n
 dS:∀ L1 i L2,L=L1++i::L2->i ∉ L1 /\ ∀ j,(I.dS i).testBit j=true->j ∈ L1
theorem qs4 {ops:Array Oper} {I:iQ} (hn:I.n=ops.size) (hanc:∀ i,I.dS i=(Region.before ops).getD i 0) {plan:List (Bool × Nat)} (hp:rK I plan) (t:Nat):Order I (Region.linearise .any ops t):=by
 -- an operation that is ready
 let ready (listed:Array Bool) (i:Nat):Bool:=!listed.getD i true && ((ops[i]?).map (·.after.all λ e=>!Region.binds .any e || listed.getD e.on false)).getD false
 have hgo:∀ (fuel t:Nat) (listed:Array Bool) (acc:List Nat),listed.size=ops.size->(∀ i,listed[i]? = some true ↔ i ∈ acc/\i<ops.size)->(∀ i ∈ acc,i<ops.size)->acc.Nodup->acc.length+fuel=ops.size ->
  (∀ A i B,acc.reverse=A++i::B->i ∉ A /\ ∀ j,(I.dS i).testBit j=true->j ∈ A) ->
  Order I (Region.linearise.go .any ops fuel t listed acc):=by
  intro fuel
  induction fuel with
  | zero =>
   intro t listed acc hsz hl hlt hnd hlen hcl;unfold Region.linearise.go;refine ⟨λ i hi=>?_,λ i hi=>by rw [hn];exact hlt i (by simpa using hi),hcl⟩;rw [List.mem_reverse];refine y9 λ hno=>?_;have:(i::acc).length<=ops.size:=by
    have hnd':(i::acc).Nodup:=List.nodup_cons.2 ⟨hno,hnd⟩;have hsub:(i::acc) ⊆ List.range ops.size:=λ x hx=>by
     rw [FC];rcases zr.1 hx with rfl|hx
     ·rw [<-hn];exact hi
     ·exact hlt x hx
    have:=hnd'.length_le_of_subset hsub
    simpa using this
   simp at this;omega
  | succ fuel ih =>
   intro t listed acc hsz hl hlt hnd hlen hcl;unfold Region.linearise.go;simp only
   -- something is ready
   have hready:∃ i,i<ops.size/\ready listed i=true:=by
    -- the first one of the plan that is not listed
    obtain ⟨x,hx1,hx2⟩:∃ x,x<ops.size/\x ∉ acc:=by
     refine y9 λ hno=>?_;have hsub:List.range ops.size ⊆ acc:=λ x hx=>y9 λ h=>hno ⟨x,by simpa using hx,h⟩;have:=List.nodup_range.length_le_of_subset hsub;simp at this;omega
    have:∀ m p x:Nat,p<m->plan[p]? = some (false,x)->x ∉ acc -> ∃ p0 x0:Nat,plan[p0]? = some (false,x0)/\x0 ∉ acc /\ ∀ p' x':Nat,p'<p0->plan[p']? = some (false,x')->x' ∈ acc:=by
     intro m
     induction m with
     | zero=>intro p x hp;omega
     | succ m ihm =>
      intro p x hpm hpx hxa
      by_cases h:∃ p' x':Nat,p'<p/\plan[p']? = some (false,x')/\x' ∉ acc
      ·obtain ⟨p',x',h1,h2,h3⟩:=h;exact ihm p' x' (by omega) h2 h3
      ·exact ⟨p,x,hpx,hxa,λ p' x' h1 h2=>y9 λ h3=>h ⟨p',x',h1,h2,h3⟩⟩
    obtain ⟨p,hp1⟩:=hp.all x (by rw [hn];exact hx1);obtain ⟨p0,x0,h1,h2,h3⟩:=this (p+1) p x (ze _) hp1 hx2;have hx0:x0<ops.size:=by rw [<-hn];exact hp.lt _ _ h1
    refine ⟨x0,hx0,?_⟩;obtain ⟨o,ho⟩:∃ o,ops[x0]? = some o:=⟨ops[x0],by simp [hx0]⟩
    have hnl:listed.getD x0 true=false:=by
     have h4:=hl x0;rw [jo];cases hq:listed[x0]? with
     | none=>rw [Array.getElem?_eq_none_iff] at hq;omega
     | some v =>
      cases v with
      | false=>rfl
      | true=>rw [hq] at h4;exact absurd (h4.1 rfl).1 h2
    show (!listed.getD x0 true && _)=true;rw [hnl,ho];simp only [Bool.not_false,GR,wq,Bool.true_and,Array.all_eq_true',yj,Gr];intro e he;cases hb:Region.binds .any e with
    | false=>exact .inl rfl
    | true =>
     right;have:=(qry ops x0 o ho).1 e (by simpa using he) hb;rw [<-hanc] at this;obtain ⟨p',hp',hp'2⟩:=hp.dS _ _ _ h1 this;have h5:=h3 p' e.on hp' hp'2;have:=(hl e.on).2 ⟨h5,hlt _ h5⟩;rw [jo,this];rfl
   obtain ⟨i0,hi0,hi0r⟩:=hready;have hne:0<((List.range ops.size).filter λ i=>ready listed i).length:=by
    rw [List.length_pos_iff_exists_mem];exact ⟨i0,by simp [hi0,hi0r]⟩
   have hrs:∃ i,((List.range ops.size).filter λ i=>ready listed i)[t % ((List.range ops.size).filter λ i=>ready listed i).length]? = some i:=⟨_,qy (Nat.mod_lt _ hne)⟩
   obtain ⟨i,hi⟩:=hrs;have hmem:=zg hi;rw [va,FC] at hmem;obtain ⟨hi1,hi2⟩:=hmem;rw [show ((List.range ops.size).filter λ i=>!listed.getD i true && ((ops[i]?).map (·.after.all λ e=>!Region.binds .any e || listed.getD e.on false)).getD false)=((List.range ops.size).filter λ i=>ready listed i) from rfl,hi];simp only;have hi2':(!listed.getD i true && ((ops[i]?).map (·.after.all λ e=>!Region.binds .any e || listed.getD e.on false)).getD false)=true:=hi2;rw [xh] at hi2';obtain ⟨hi3,hi4⟩:=hi2';obtain ⟨o,ho⟩:∃ o,ops[i]? = some o:=⟨ops[i],by simp [hi1]⟩
   have hia:i ∉ acc:=λ h=>by
    have:=(hl i).2 ⟨h,hi1⟩;rw [jo,this] at hi3;simp at hi3
   rw [ho] at hi4;simp only [GR,wq,Array.all_eq_true',yj,Gr] at hi4
   -- ancestors are listed
   have hancs:∀ j,(I.dS i).testBit j=true->j ∈ acc:=by
    intro j hj;rw [hanc] at hj;obtain ⟨e,he,hb,h⟩:=(qry ops i o ho).2 j hj;have hon:e.on ∈ acc:=by
     rcases hi4 e (by simpa using he) with h'|h'
     ·rw [hb] at h';cases h'
     ·rw [jo] at h';cases hq:listed[e.on]? with
      | none=>rw [hq] at h';simp at h'
      | some v=>rw [hq] at h';simp at h';subst h';exact ((hl e.on).1 hq).1
    rcases h with h|⟨_,h⟩
    ·rw [<-h];exact hon
    ·rw [<-hanc] at h;obtain ⟨A,B,hAB⟩:=List.append_of_mem (List.mem_reverse.2 hon);have:=(hcl A e.on B hAB).2 j h;rw [<-List.mem_reverse,hAB];simp [this]
   refine ih _ _ _ (by simp [hsz]) (λ x=>?_) (λ x hx=>?_) (List.nodup_cons.2 ⟨hia,hnd⟩) (by simp;omega) (λ A x B hAB=>?_)
   ·rw [yg]
    by_cases hx:i=x
    ·subst hx;simp [hsz,hi1]
    ·rw [qg hx,hl x];simp only [zr];constructor
     ·rintro ⟨h1,h2⟩;exact ⟨.inr h1,h2⟩
     ·rintro ⟨h1|h1,h2⟩
      ·exact absurd h1.symm hx
      ·exact ⟨h1,h2⟩
   ·rcases zr.1 hx with rfl|hx
    ·exact hi1
    ·exact hlt x hx
   ·rw [List.reverse_cons] at hAB;rcases List.append_eq_append_iff.1 hAB.symm with ⟨C,h1,h2⟩|⟨C,h1,h2⟩
    ·cases C with
     | nil =>
      simp only [zn,xt,zi] at h1 h2;obtain ⟨rfl,_⟩:=h2;subst h1;exact ⟨by simpa using hia,λ j hj=>by simpa using hancs j hj⟩
     | cons y C =>
      simp only [Ep,zi] at h2;obtain ⟨rfl,rfl⟩:=h2;exact hcl A _ C h1
    ·cases C with
     | nil =>
      simp only [zn,xt,zi] at h1 h2;obtain ⟨rfl,_⟩:=h2;subst h1;exact ⟨by simpa using hia,λ j hj=>by simpa using hancs j hj⟩
     | cons y C =>
      simp at h2
 have:=hgo ops.size t (Array.replicate ops.size false) [] (by simp) (λ i=>by simp [Array.getElem?_replicate]) (λ i hi=>by simp at hi) (by simp) (by simp) (λ A i B h=>by simp at h);exact this
end Go.Am
namespace Go.Am
mutual
theorem L7:∀ (a b:AV),Am.bB a b=true->a=b
 | .bool a,b,h=>by cases b<;>simp_all [Am.bB]
 | .int k a,b,h=>by cases b<;>simp_all [Am.bB,BT,Ox]
 | .str a,b,h=>by cases b<;>simp_all [Am.bB,FJ]
 | .nilp,b,h=>by cases b<;>simp_all [Am.bB]
 | .ptr a o,b,h=>by cases b<;>simp_all [Am.bB]
 | .nils,b,h=>by cases b<;>simp_all [Am.bB]
 | .slice a o n c,b,h=>by cases b<;>simp_all [Am.bB]
 | .gslice a i m s al n,b,h=>by cases b<;>simp_all [Am.bB]
 | .eslice a,b,h=>by cases b<;>simp_all [Am.bB]
 | .jI,b,h=>by cases b<;>simp_all [Am.bB]
 | .map a,b,h=>by cases b<;>simp_all [Am.bB]
 | .nilf,b,h=>by cases b<;>simp_all [Am.bB]
 | .nili,b,h=>by cases b<;>simp_all [Am.bB]
 | .fn (.func f) x y,b,h=>by
  cases b with
  | fn g x' y' =>
   cases g with
   | func g =>
    simp only [Am.bB,xh,zp] at h;obtain ⟨⟨h1,h2⟩,h3⟩:=h;rw [h1,DJ x x' h2,DJ y y' h3]
   | yield g=>simp [Am.bB] at h
  | _=>simp [Am.bB] at h
 | .fn (.yield f) x y,b,h=>by
  cases b with
  | fn g x' y' =>
   cases g with
   | yield g =>
    simp only [Am.bB,xh,zp] at h;obtain ⟨⟨h1,h2⟩,h3⟩:=h;rw [h1,DJ x x' h2,DJ y y' h3]
   | func g=>simp [Am.bB] at h
  | _=>simp [Am.bB] at h
 | .iface t v,b,h=>by
  cases b with
  | iface u w =>
   simp only [Am.bB,xh,zp] at h;rw [h.1,L7 v w h.2]
  | _=>simp [Am.bB] at h
 | .agg x,b,h=>by
  cases b with
  | agg y=>simp only [Am.bB] at h;rw [DJ x y h]
  | _=>simp [Am.bB] at h
 | .tuple x,b,h=>by
  cases b with
  | tuple y=>simp only [Am.bB] at h;rw [DJ x y h]
  | _=>simp [Am.bB] at h
theorem DJ:∀ (a b:List AV),Am.dh a b=true->a=b
 | [],b,h=>by cases b<;>simp_all [Am.dh]
 | x::xs,b,h=>by
  cases b with
  | nil=>simp [Am.dh] at h
  | cons y ys =>
   simp only [Am.dh,xh] at h;rw [L7 x y h.1,DJ xs ys h.2]
end
inductive fI (rt:RT) (s:aL) (st bS:St):Prop
 | skip (hc:s.eO=false) (hw:bY s st.tm=some false) (h:bS=⟨c5 s.dst .undef st.tm,st.aM,st.up,st.H⟩)
 | run (hc:s.eO=false) (hw:bY s st.tm=some true) (vs:List AV) (v:AV) (d:List aD) (u:Option aw) (H':AHeap) (he:iI st.tm s.args=some vs) (ho:eP rt st vs s.op=some (.val v d u H')) (h:bS=⟨c5 s.dst v st.tm,d,u,H'⟩)
 | look (hc:s.eO=true) (d:Nat) (hd:s.dst=some d) (h:bS=st) (hl:bY s st.tm=some false\/(bY s st.tm=some true /\ ∃ vs,iI st.tm s.args=some vs/\mE (λ t=>t.get d) st vs s.op=true))
def qD (rt:RT) (steps:List aL) (sts:Nat->St) (M:Nat) (r:aC × St):Prop :=
 (M=steps.length/\r=(.normal,sts M)) \/
 ∃ s vs c H' ds,steps[M]? = some s/\s.eO=false/\bY s (sts M).tm=some true/\iI (sts M).tm s.args=some vs/\eP rt (sts M) vs s.op=some (.panic c H')/\s.bG=some ds /\
  r=(.panic c,⟨forget ds (sts M).tm,(sts M).aM,(sts M).up,H'⟩)
theorem qvi {rt:RT}:∀ {steps:List aL} {st:St} {r:aC × St},(eG steps).run rt st=some r ->
 ∃ (sts:Nat->St) (M:Nat),sts 0=st/\M<=steps.length/\(∀ p,p<M -> ∃ s,steps[p]? = some s/\fI rt s (sts p) (sts (p+1)))/\qD rt steps sts M r
 | [],st,r,h=>by
  injection h with h;subst h
  exact ⟨λ _=>st,0,rfl,qf _,λ p hp=>by omega,.inl ⟨rfl,rfl⟩⟩
 | s::l,st,r,h=>by
  have h:(ep s).run rt ((eG l).run rt) st=some r:=h;have hcons:∀ bS,fI rt s st bS->(eG l).run rt bS=some r -> ∃ (sts:Nat->St) (M:Nat),sts 0=st/\M<=(s::l).length/\(∀ p,p<M -> ∃ s',(s::l)[p]? = some s'/\fI rt s' (sts p) (sts (p+1)))/\qD rt (s::l) sts M r:=by
   intro bS hr hl;obtain ⟨sts,M,h1,h2,h3,h4⟩:=qvi hl;refine ⟨λ p=>match p with|0=>st|p+1=>sts p,M+1,rfl,by simp;omega,λ p hp=>?_,?_⟩
   ·cases p with
    | zero=>exact ⟨s,rfl,by show fI rt s st (sts 0);rw [h1];exact hr⟩
    | succ p =>
     obtain ⟨s',k1,k2⟩:=h3 p (by omega);exact ⟨s',by simpa using k1,k2⟩
   ·rcases h4 with ⟨k1,k2⟩|⟨s',vs,c,H',ds,k1,k2⟩
    ·exact .inl ⟨by simp [k1],k2⟩
    ·exact .inr ⟨s',vs,c,H',ds,by simpa using k1,k2⟩
  cases hch:s.eO with
  | false =>
   rw [Np s hch,qb] at h;obtain ⟨w,hw,h⟩:=h;cases w with
   | false =>
    simp only [za] at h;exact hcons _ (.skip hch hw rfl) h
   | true =>
    simp only [xf,qb] at h;obtain ⟨vs,hvs,q,hq,h⟩:=h;cases q with
    | val v d u H'=>exact hcons _ (.run hch hw vs v d u H' hvs hq rfl) h
    | panic c H' =>
     simp only [po,qb,qc] at h;obtain ⟨ds,hds,rfl⟩:=h;exact ⟨λ _=>st,0,rfl,xx _,λ p hp=>by omega,.inr ⟨s,vs,c,H',ds,rfl,hch,hw,hvs,hq,hds,rfl⟩⟩
  | true =>
   cases hd:s.dst with
   | none=>rw [ql5 s hch hd] at h;cases h
   | some d =>
    rw [qns s hch hd,qb] at h;obtain ⟨w,hw,h⟩:=h;cases w with
    | false =>
     simp only [za] at h;exact hcons st (.look hch d hd rfl (.inl hw)) h
    | true =>
     simp only [xf,qb] at h;obtain ⟨vs,hvs,h⟩:=h;rcases j8 h with ⟨hk,h⟩|⟨_,h⟩
     ·exact hcons st (.look hch d hd rfl (.inr ⟨hw,vs,hvs,hk⟩)) h
     ·cases h
theorem qx9:∀ {ys:List ba} {tm tm':T AV},(∀ t ∈ tmpsOf ys,tm.get t=tm'.get t)->iI tm ys=iI tm' ys
 | [],_,_,_=>rfl
 | y::ys,tm,tm',h=>by
  have h1:mY tm y=mY tm' y:=by
   cases y with
   | tmp t=>exact h t (by simp [tmpsOf])
   | const v=>rfl
   | cU g=>rfl
   | func f=>rfl
  have h2:iI tm ys=iI tm' ys:=qx9 (λ t ht=>h t (by cases y<;>simp [tmpsOf,ht]));simp only [iI,h1,h2]
section
variable {P:Program} {base:Nat} {D:Nat->Prop} {θ:Th} {H:AHeap} {w:World} {a:Act} {tm:T AV}
theorem DT (hh:HR P base D θ H w) {x:Operand} {y:ba} (ht:∀ t ∈ tmpsOf [y],∀ v,tm.get t=some v -> ∃ c,a.tmps[t]? = some c/\VR D θ v c) (hc:mP P.globals.size x=some y) {v:AV} (hv:mY tm y=some v):VR D θ v (a.eval x):=by
 cases x with
 | tmp t =>
  injection hc with hc;subst hc
  obtain ⟨c,h1,h2⟩:=ht t (by simp [tmpsOf]) v hv
  simpa [Act.eval,h1] using h2
 | const k =>
  simp only [mP,qb,qc] at hc;obtain ⟨u,hu,rfl⟩:=hc;injection hv with hv;subst hv
  exact KM hu
 | global g =>
  simp only [mP] at hc;split at hc
  ·rename_i hg;injection hc with hc;subst hc
   injection hv with hv;subst hv
   obtain ⟨h1,h2,h3⟩:=hh.cU g (by simpa [we] using hg);have:=VR.ptr (θ:=θ) (o:=0) h1;rw [h2,h3] at this;exact this
  ·cases hc
 | func f =>
  injection hc with hc;subst hc
  injection hv with hv;subst hv
  exact λ _ _=>rfl
theorem uJ (hh:HR P base D θ H w):∀ {xs:List Operand} {ys:List ba},(∀ t ∈ tmpsOf ys,∀ v,tm.get t=some v -> ∃ c,a.tmps[t]? = some c/\VR D θ v c)->jZ P.globals.size xs=some ys -> ∀ {vs:List AV},iI tm ys=some vs->bt D θ vs (xs.map a.eval)
 | [],ys,ht,hc,vs,hv=>by
  injection hc with hc;subst hc
  injection hv with hv;subst hv
  exact .nil
 | x::xs,ys,ht,hc,vs,hv=>by
  simp only [jZ,qb,qc] at hc;obtain ⟨y,hy,ys',hys,rfl⟩:=hc;simp only [iI,qb,qc] at hv;obtain ⟨v,h1,vs',h2,rfl⟩:=hv;refine .cons (DT hh (λ t htt=>ht t ?_) hy h1) (uJ hh (λ t htt=>ht t ?_) hys h2)
  ·cases y<;>simp [tmpsOf] at htt ⊢;exact .inl htt
  ·cases y<;>simp [tmpsOf,htt]
theorem q7v {ops:Array Oper} {o:Oper} {s:aL} (hg:guardOf ops o.guard=some s.guard) {tm:T AV} {a:Array Value} (ht:∀ g,s.guard=some g -> ∀ v,tm.get g.1=some v -> ∃ c,a[g.1]? = some c/\VR D θ v c) {q:Bool} (h:bY s tm=some q) :
 Region.wanted o (yielded ops a)=q:=by
 cases hsg:s.guard with
 | none =>
  exact ND (D:=D) (θ:=θ) (tm:=T.nil) (a:=a) (q:=q) hg (λ t v hv=>by rw [T.get_nil] at hv;cases hv) (by unfold bY at h ⊢;rw [hsg] at h ⊢;exact h)
 | some g =>
  -- a table that holds the guard's slot alone
  refine ND (D:=D) (θ:=θ) (tm:=(T.nil:T AV).put g.1 (tm.get g.1)) (a:=a) (q:=q) hg (λ t v hv=>?_) ?_
  ·rw [T.gJ] at hv;split at hv
   ·rename_i e;subst e;exact ht g hsg v hv
   ·rw [T.get_nil] at hv;cases hv
  ·unfold bY at h ⊢;rw [hsg] at h ⊢;simp only [T.gJ,xa];exact h
end
end Go.Am
namespace Go.Am
structure RG (P:Program) (rt:RT) (nt:Nat) (ops:Array Oper) (l:List (List ba × dN)) (plan:List (Bool × Nat)) (sts:Nat->St) (M:Nat):Prop where
 comp:bX (ops.toList.map (dT P))=some l
 IC:ops.toList.all (kY nt)=true
 bZ:rK (aK ops l) plan
 len:M<=plan.length
 rel:∀ p,p<M -> ∃ q s o ca g,plan[p]? = some q/\ops[q.2]? = some o/\dT P o=some ca/\l[q.2]? = some ca/\guardOf ops o.guard=some g/\s.eO=q.1/\s.dst=o.dst/\s.guard=g/\s.args=ca.1/\s.op=ca.2/\fI rt s (sts p) (sts (p+1))
 mono:∀ p,p<M->Ext (sts p).H (sts (p+1)).H
section
variable {P:Program} {rt:RT} {nt:Nat} {ops:Array Oper} {l:List (List ba × dN)} {plan:List (Bool × Nat)} {sts:Nat->St} {M:Nat}
theorem RG.ext (R:RG P rt nt ops l plan sts M):∀ {p p':Nat},p<=p'->p'<=M->Ext (sts p).H (sts p').H:=by
 intro p p' h h'
 induction p' with
 | zero=>obtain rfl:p=0:=by omega
         exact Ext.refl _
 | succ k ih =>
  by_cases e:p=k+1
  ·subst e;exact Ext.refl _
  ·exact (ih (by omega) (by omega)).trans (R.mono k (by omega))
theorem RG.kept (R:RG P rt nt ops l plan sts M) {t:Nat}:∀ {p p':Nat},p<=p'->p'<=M->(∀ u j:Nat,p<=u->u<p'->plan[u]? = some (false,j)->eJ ops j ≠ some t)->(sts p').tm.get t=(sts p).tm.get t:=by
 intro p p' h h' hw
 induction p' with
 | zero=>obtain rfl:p=0:=by omega
         rfl
 | succ k ih =>
  by_cases e:p=k+1
  ·subst e;rfl
  ·rw [<-ih (by omega) (by omega) (λ u j h1 h2=>hw u j h1 (by omega))];obtain ⟨⟨c,i⟩,s,o,ca,g,h1,h2,h3,h4,h5,h6,h7,h8,h9,h10,hr⟩:=R.rel k (by omega);have hput:∀ v,c=false->(c5 s.dst v (sts k).tm).get t=(sts k).tm.get t:=λ v hc=>by
    subst hc;have:=hw k i (by omega) (by omega) h1;rw [h7];cases hd:o.dst with
    | none=>rfl
    | some d =>
     have hne:d ≠ t:=λ e=>by subst e;exact this (by simp [eJ,h2,hd])
     simp only [c5,T.aE,qg hne]
   cases hr with
   | skip hc hw' h=>rw [h];exact hput _ (h6.symm.trans hc)
   | run hc hw' vs v d u H' he ho h=>rw [h];exact hput _ (h6.symm.trans hc)
   | look hc d hd h hl=>rw [h]
theorem RG.nX (R:RG P rt nt ops l plan sts M):∀ {p p':Nat},p<=p'->p'<=M->(∀ u j:Nat,p<=u->u<p'->plan[u]? = some (false,j)->(aK ops l).cls j ≠ .eQ) ->
 (sts p').aM=(sts p).aM/\(sts p').up=(sts p).up /\ ∀ b o,(sts p').H.get b=some o->(sts p).H.get b=some o \/
  ∃ j u:Nat,p<=u/\u<p'/\plan[u]? = some (false,j)/\(aK ops l).cls j=.alloc/\(sts u).H.next<(sts (u+1)).H.next/\b=(sts u).H.next/\(sts (u+1)).H.get b=some o:=by
 intro p p' h h' hw
 induction p' with
 | zero=>obtain rfl:p=0:=by omega
         exact ⟨rfl,rfl,λ b o hb=>.inl hb⟩
 | succ k ih =>
  by_cases e:p=k+1
  ·subst e;exact ⟨rfl,rfl,λ b o hb=>.inl hb⟩
  ·obtain ⟨i1,i2,i3⟩:=ih (by omega) (by omega) (λ u j h1 h2=>hw u j h1 (by omega));obtain ⟨⟨c,i⟩,s,o,ca,g,h1,h2,h3,h4,h5,h6,h7,h8,h9,h10,hr⟩:=R.rel k (by omega);have hup:∀ b o,(sts k).H.get b=some o->(sts p).H.get b=some o \/ ∃ j u:Nat,p<=u/\u<k+1/\plan[u]? = some (false,j)/\(aK ops l).cls j=.alloc/\(sts u).H.next<(sts (u+1)).H.next/\b=(sts u).H.next/\(sts (u+1)).H.get b=some o:=λ b o hb=>by
    rcases i3 b o hb with hb|⟨j,u,k1,k2,k3⟩
    ·exact .inl hb
    ·exact .inr ⟨j,u,k1,by omega,k3⟩
   cases hr with
   | skip hc hw' h=>rw [h];exact ⟨i1,i2,hup⟩
   | look hc d hd h hl=>rw [h];exact ⟨i1,i2,hup⟩
   | run hc hw' vs v d u H' he ho h =>
    have hcf:c=false:=h6.symm.trans hc;subst hcf;have hcls:=hw k i (by omega) (by omega) h1;have hcl:(aK ops l).cls i=mz ca.2:=by simp [aK,kE,h4]
    rw [hcl] at hcls;rw [h10] at ho;rw [h];cases hop:ca.2 with
    | pure f =>
     rw [hop] at ho;simp only [eP,qb,qc,eL.val.injEq] at ho;obtain ⟨_,_,_,rfl,rfl,rfl⟩:=ho;exact ⟨i1,i2,hup⟩
    | read f =>
     rw [hop] at ho;simp only [eP,qb,qc,eL.val.injEq] at ho;obtain ⟨_,_,_,rfl,rfl,rfl⟩:=ho;exact ⟨i1,i2,hup⟩
    | alloc f =>
     rw [hop] at ho;simp only [eP,qb,qc,eL.val.injEq] at ho;obtain ⟨⟨ob,mk⟩,_,_,rfl,rfl,rfl⟩:=ho;refine ⟨i1,i2,λ b o hb=>?_⟩;have hb0:=hb;simp only [AHeap.bc] at hb;split at hb
     ·rename_i e2;refine .inr ⟨i,k,by omega,by omega,h1,by rw [hcl,hop];rfl,by rw [h];exact ze _,e2.symm,by rw [h];exact hb0⟩
     ·exact hup b o hb
    | eQ f=>rw [hop] at hcls;exact absurd rfl hcls
    | eH f=>rw [hop] at hcls;exact absurd rfl hcls
    | eK=>rw [hop] at hcls;exact absurd rfl hcls
    | invoke m=>rw [hop] at hcls;exact absurd rfl hcls
    | recover=>rw [hop] at hcls;exact absurd rfl hcls
    | defer=>rw [hop] at hcls;exact absurd rfl hcls
    | panic=>rw [hop] at hcls;exact absurd rfl hcls
theorem RG.at (R:RG P rt nt ops l plan sts M) {p i:Nat} (hp:plan[p]? = some (false,i)) (hM:p<M):∃ s o ca,ops[i]? = some o/\dT P o=some ca/\l[i]? = some ca/\guardOf ops o.guard=some s.guard/\s.eO=false/\s.dst=o.dst/\s.args=ca.1/\s.op=ca.2/\fI rt s (sts p) (sts (p+1)):=by
 obtain ⟨q,s,o,ca,g,h1,h2,h3,h4,h5,h6,h7,h8,h9,h10,hr⟩:=R.rel p hM;rw [hp] at h1;injection h1 with h1;subst h1
 exact ⟨s,o,ca,h2,h3,h4,by rw [h8];exact h5,h6,h7,h9,h10,hr⟩
theorem RG.look (R:RG P rt nt ops l plan sts M) {p i:Nat} (hp:plan[p]? = some (true,i)) (hM:p<M):∃ s o ca,ops[i]? = some o/\dT P o=some ca/\l[i]? = some ca/\guardOf ops o.guard=some s.guard/\s.eO=true/\s.dst=o.dst/\s.args=ca.1/\s.op=ca.2/\fI rt s (sts p) (sts (p+1)):=by
 obtain ⟨q,s,o,ca,g,h1,h2,h3,h4,h5,h6,h7,h8,h9,h10,hr⟩:=R.rel p hM;rw [hp] at h1;injection h1 with h1;subst h1
 exact ⟨s,o,ca,h2,h3,h4,by rw [h8];exact h5,h6,h7,h9,h10,hr⟩
theorem RG.still (R:RG P rt nt ops l plan sts M) {p i:Nat} (hp:plan[p]? = some (true,i)) (hM:p<M):sts (p+1)=sts p:=by
 obtain ⟨s,o,ca,_,_,_,_,hc,_,_,_,hr⟩:=R.look hp hM;cases hr with
 | skip hc'=>rw [hc] at hc';cases hc'
 | run hc'=>rw [hc] at hc';cases hc'
 | look hc' d hd h hl=>exact h
theorem RG.DI (R:RG P rt nt ops l plan sts M) {q:Nat}:∀ {u:Nat},q<=u->u<=M->(∀ v:Nat,q<=v->v<u -> ∃ r,plan[v]? = some (true,r))->sts u=sts q:=by
 intro u h hM hv
 induction u with
 | zero=>obtain rfl:q=0:=by omega
         rfl
 | succ k ih =>
  by_cases e:q=k+1
  ·subst e;rfl
  ·obtain ⟨r,hr⟩:=hv k (by omega) (by omega);rw [R.still hr (by omega)];exact ih (by omega) (by omega) (λ v h1 h2=>hv v h1 (by omega))
end
def DS (D0:Nat->Prop) (plan:List (Bool × Nat)) (sts:Nat->St) (M:Nat) (S:List Nat):Nat->Prop:=λ b =>
 D0 b \/ ∃ i p:Nat,i ∈ S/\plan[p]? = some (false,i)/\p<M/\(sts p).H.next<=b/\b<(sts (p+1)).H.next
def Ap (ops:Array Oper) (plan:List (Bool × Nat)) (sts:Nat->St) (M:Nat) (S:List Nat) (D:Nat->Prop) (θ:Th) (a:Array Value):Prop :=
 ∀ t:Nat,∃ p0:Nat,p0<=M/\(∀ v,(sts p0).tm.get t=some v -> ∃ c,a[t]? = some c/\VR D θ v c) /\
  (∀ j p:Nat,j ∈ S->plan[p]? = some (false,j)->eJ ops j=some t->p<p0) /\
  (p0=0 \/ ∃ i0 p1:Nat,i0 ∈ S/\plan[p1]? = some (false,i0)/\p0=p1+1/\eJ ops i0=some t)
structure Inv (P:Program) (base:Nat) (D0:Nat->Prop) (θ0:Th) (w0:World) (cs0:List Frame) (b:Frame) (nt:Nat) (rd:Option Nat) (ops:Array Oper) (l:List (List ba × dN)) (plan:List (Bool × Nat)) (sts:Nat->St) (M:Nat)
 (S:List Nat) (q:Nat) (X:AHeap) (θ:Th) (a:Act) (w:World) (cs:List Frame):Prop where
 heap:HR P base (DS D0 plan sts M S) θ X w
 grow:aX D0 (sts 0).H θ0 w0 X θ w
 J7:∀ b o,(sts q).H.get b=some o->X.get b=some o
 sk:∀ j p:Nat,j ∈ S->plan[p]? = some (false,j)->(aK ops l).cls j=.alloc->q<=p->p<M->(sts p).H.next<(sts (p+1)).H.next -> ∀ o,(sts (p+1)).H.get (sts p).H.next=some o->X.get (sts p).H.next=some o
 OK:q<=M
 sA:∀ i p:Nat,plan[p]? = some (false,i)->(aK ops l).cls i=.eQ->(p<q ↔ i ∈ S)
 last:q=0 \/ ∃ e p:Nat,q=p+1/\plan[p]? = some (false,e)/\(aK ops l).cls e=.eQ
 aM:eC (DS D0 plan sts M S) θ (sts q).aM a.defers
 up:mQ (DS D0 plan sts M S) θ b.kind (sts q).up cs
 Gv:(sts q).up.isSome=(sts 0).up.isSome
 vN:dp (sts 0).up cs0 cs
 oY:Ap ops plan sts M S (DS D0 plan sts M S) θ a.tmps
 size:nt<=a.tmps.size
 round:sg (DS D0 plan sts M S) θ b.roundOf rd
 Ku:∀ i ∈ S,∃ p:Nat,plan[p]? = some (false,i)/\p<M
 closed:∀ i ∈ S,∀ j,((aK ops l).dS i).testBit j=true->j ∈ S
section
variable {P:Program} {rt:RT} {nt:Nat} {ops:Array Oper} {l:List (List ba × dN)} {plan:List (Bool × Nat)} {sts:Nat->St} {M:Nat}
 {base:Nat} {D0:Nat->Prop} {θ0:Th} {w0:World} {cs0:List Frame} {b:Frame} {rd:Option Nat}
theorem Pd {i j t:Nat} (h1:t ∈ d9 ops l i) (h2:eJ ops j=some t):(aK ops l).sL i j=true:=by
 show tA ops l i j=true;unfold tA;rw [h2];exact (NT _ _).2 h1
theorem DS.app {S:List Nat} {i:Nat} {x:Nat} (h:DS D0 plan sts M S x):DS D0 plan sts M (S ++ [i]) x:=by
 rcases h with h|⟨j,p,h1,h2⟩
 ·exact .inl h
 ·exact .inr ⟨j,p,by simp [h1],h2⟩
theorem CD (R:RG P rt nt ops l plan sts M) {S:List Nat} {q:Nat} {X:AHeap} {θ:Th} {a:Act} {w:World} {cs:List Frame} (hI:Inv P base D0 θ0 w0 cs0 b nt rd ops l plan sts M S q X θ a w cs) {i p:Nat} (hp:plan[p]? = some (false,i)) (hpM:p<=M) (hiS:i ∉ S)
 (hanc:∀ j,((aK ops l).dS i).testBit j=true->j ∈ S) {t:Nat} (ht:t ∈ d9 ops l i):∀ v,(sts p).tm.get t=some v -> ∃ c,a.tmps[t]? = some c/\VR (DS D0 plan sts M S) θ v c:=by
 obtain ⟨p0,h1,h2,h3,h4⟩:=hI.oY t;have hin:=R.bZ.lt p i hp
 -- a writer is an ancestor,or comes later
 have hcmp:∀ j p':Nat,plan[p']? = some (false,j)->eJ ops j=some t->j ≠ i->((aK ops l).dS i).testBit j=true\/((aK ops l).dS j).testBit i=true:=λ j p' hj hd hne =>
  R.bZ.CH i j hin (R.bZ.lt p' j hj) (λ e=>hne e.symm) (Pd ht hd)
 have hle:p0<=p:=by
  rcases h4 with rfl|⟨i0,p1,k1,k2,rfl,k4⟩
  ·exact xx _
  ·have hne:i0 ≠ i:=λ e=>hiS (e ▸ k1);rcases hcmp i0 p1 k2 k4 hne with h|h
   ·obtain ⟨p',k5,k6⟩:=R.bZ.dS p i i0 hp h;have:=R.bZ.one _ _ _ k2 k6;omega
   ·exact absurd (hI.closed i0 k1 i h) hiS
 have hkept:=R.kept (t:=t) hle hpM (λ u j hu1 hu2 hj hd=>by
  have hne:j ≠ i:=λ e=>by
   subst e;have:=R.bZ.one _ _ _ hp hj;omega
  rcases hcmp j u hj hd hne with h|h
  ·have:=h3 j u (hanc j h) hj hd;omega
  ·obtain ⟨p',k5,k6⟩:=R.bZ.dS u j i hj h;have:=R.bZ.one _ _ _ hp k6;omega)
 intro v hv;rw [hkept] at hv;exact h2 v hv
theorem Ap.put (R:RG P rt nt ops l plan sts M) {S:List Nat} {D D':Nat->Prop} {θ θ':Th} {a:Array Value} (h:Ap ops plan sts M S D θ a) (hag:Ag D θ θ') (hd:∀ x,D x->D' x) {i p:Nat} (hp:plan[p]? = some (false,i)) (hpM:p<M)
 (hanc:∀ j,((aK ops l).dS i).testBit j=true->j ∈ S) (hiS:i ∉ S) (hclosed:∀ i ∈ S,∀ j,((aK ops l).dS i).testBit j=true->j ∈ S) {o:Oper} (ho:ops[i]? = some o) (hla:∃ ca,l[i]? = some ca) {c:Value} (hs:nt<=a.size)
 (hv:∀ d v,o.dst=some d->(sts (p+1)).tm.get d=some v->VR D' θ' v c) :
 Ap ops plan sts M (S ++ [i]) D' θ' (match o.dst with|some d=>a.setIfInBounds d c|none=>a):=by
 have hda:eJ ops i=o.dst:=by simp [eJ,ho]
 intro t
 by_cases ht:o.dst=some t
 ·refine ⟨p+1,hpM,λ v hv'=>?_,λ j p' hj hj2 hj3=>?_,.inr ⟨i,p,by simp,hp,rfl,by rw [hda];exact ht⟩⟩
  ·rw [ht];have hlt:t<a.size:=by
    have:=R.IC;rw [wg] at this;have:=this o (by have:=Array.mem_of_getElem? ho;simpa using this);unfold kY at this;rw [ht] at this;simp only [we] at this;omega
   exact ⟨c,by simp [hlt],hv t v ht hv'⟩
  ·rcases xw.1 hj with hj|hj
   ·have hne:j ≠ i:=λ e=>hiS (e ▸ hj);have hin:=R.bZ.lt p i hp;have htn:t ∈ d9 ops l i:=by
     obtain ⟨ca,hca⟩:=hla;unfold d9;rw [hda,ht];simp
    rcases R.bZ.CH i j hin (R.bZ.lt p' j hj2) (λ e=>hne e.symm) (Pd htn hj3) with h|h
    ·obtain ⟨p2,k5,k6⟩:=R.bZ.dS p i j hp h;have:=R.bZ.one _ _ _ hj2 k6;omega
    ·exact absurd (hclosed j hj i h) hiS
   ·simp at hj;subst hj;have:=R.bZ.one _ _ _ hp hj2;omega
 ·obtain ⟨p0,h1,h2,h3,h4⟩:=h t;refine ⟨p0,h1,λ v hv'=>?_,λ j p' hj hj2 hj3=>?_,?_⟩
  ·obtain ⟨c',k1,k2⟩:=h2 v hv';refine ⟨c',?_,k2.up hag hd⟩;cases hd2:o.dst with
   | none=>exact k1
   | some d =>
    have hne:d ≠ t:=λ e=>ht (by rw [hd2,e]);simp only [yg,qg hne];exact k1
  ·rcases xw.1 hj with hj|hj
   ·exact h3 j p' hj hj2 hj3
   ·simp at hj;subst hj;rw [hda] at hj3;exact absurd hj3 ht
  ·rcases h4 with h4|⟨i0,p1,k1,k2⟩
   ·exact .inl h4
   ·exact .inr ⟨i0,p1,by simp [k1],k2⟩
end
end Go.Am
namespace Go.Am
def iq (X:AHeap):List Nat->AHeap->AHeap
 | [],H=>H
 | x::l,H=>match X.get x with
  | some o=>iq X l (H.set x o)
  | none=>iq X l H
theorem Oa (X:AHeap):∀ (l:List Nat) (H:AHeap),(iq X l H).next=H.next
 | [],H=>rfl
 | x::l,H=>by
  unfold iq;split
  ·rw [Oa X l];rfl
  ·exact Oa X l H
theorem Ij (X:AHeap):∀ (l:List Nat) (H:AHeap) (y:Nat),(iq X l H).get y=if y ∈ l/\(X.get y).isSome=true then X.get y else H.get y
 | [],H,y=>by simp [iq]
 | x::l,H,y=>by
  unfold iq;split
  ·rename_i o ho;rw [Ij X l,AHeap.aE]
   by_cases h1:y ∈ l/\(X.get y).isSome=true
   ·rw [ql h1,ql ⟨by simp [h1.1],h1.2⟩]
   ·rw [qg h1]
    by_cases h2:x=y
    ·subst h2;rw [ql rfl,ql ⟨by simp,by rw [ho];rfl⟩,ho]
    ·rw [qg h2,qg];rintro ⟨h3,h4⟩;rcases zr.1 h3 with h3|h3
     ·exact h2 h3.symm
     ·exact h1 ⟨h3,h4⟩
  ·rename_i ho;rw [Ij X l]
   by_cases h1:y ∈ l/\(X.get y).isSome=true
   ·rw [ql h1,ql ⟨by simp [h1.1],h1.2⟩]
   ·rw [qg h1,qg];rintro ⟨h3,h4⟩;rcases zr.1 h3 with h3|h3
    ·subst h3;rw [ho] at h4;cases h4
    ·exact h1 ⟨h3,h4⟩
theorem HR.frame {P:Program} {base:Nat} {D D0:Nat->Prop} {θ θ0:Th} {H0 H X:AHeap} {w w0:World} {D':Nat->Prop} {θ':Th} {H':AHeap} {w':World} (hX:HR P base D θ X w) (gX:aX D0 H0 θ0 w0 X θ w) (h0D:∀ x,D0 x->D x)
 (hsub:∀ b o,H.get b=some o->X.get b=some o) (h':HR P base D' θ' H' w') (g:aX D H θ w H' θ' w') (hext:Ext H H') (hD:∀ x,D x->D' x) (hn:H0.next<=H'.next) (E:List Nat)
 (hE:∀ x ∈ E,H.get x=none /\ ∀ o,X.get x=some o->own o=true):HR P base D' θ' (iq X E H') w'/\aX D0 H0 θ0 w0 (iq X E H') θ' w':=by
 have hcase:∀ y o,(iq X E H').get y=some o->(y ∈ E/\X.get y=some o)\/(H'.get y=some o):=by
  intro y o hy;rw [Ij] at hy;split at hy
  ·rename_i h;exact .inl ⟨h.1,hy⟩
  ·exact .inr hy
 have hblk:∀ x o,X.get x=some o -> θ'.bz x = θ.bz x:=λ x o hx=>(g.ag x (hX.obj x o hx).1).1;refine ⟨⟨λ x o hx=>?_,λ x y ox oy hx hy hox hne=>?_,λ x o hx ho=>?_,h'.cU,h'.low⟩,⟨by rw [Oa];exact hn,gX.ag.trans g.ag h0D,xj gX.size g.size,g.os.trans gX.os,g.tape.trans gX.tape,g.output.trans gX.output,λ k hk hno=>?_,λ x o hx ho hlt=>?_⟩⟩
 ·rcases hcase x o hx with ⟨hE1,hx1⟩|hx1
  ·obtain ⟨h1,co,h2,h3⟩:=hX.obj x o hx1;refine ⟨hD x h1,co,?_,h3.up h1 g.ag hD⟩;rw [hblk x o hx1,g.ah _ (hX.lt hx1)]
   ·exact h2
   ·intro y oy hy hoy e;have hyX:=hsub y oy hy;refine hX.inj y x oy o hyX hx1 hoy (λ q=>?_) e;subst q;rw [(hE y hE1).1] at hy;cases hy
  ·exact h'.obj x o hx1
 ·rcases hcase x ox hx with ⟨hE1,hx1⟩|hx1<;>rcases hcase y oy hy with ⟨hE2,hy1⟩|hy1
  ·rw [hblk x ox hx1,hblk y oy hy1];exact hX.inj x y ox oy hx1 hy1 hox hne
  ·rw [hblk x ox hx1];intro e;rcases hext.2 y oy hy1 with ⟨o'',h1,_⟩|⟨h1,h2,h3⟩
   ·have hyX:=hsub y o'' h1;rw [hblk y o'' hyX] at e;exact hX.inj x y ox o'' hx1 hyX hox hne e
   ·obtain ⟨b',o',k1,k2,k3⟩:=g.news y oy hy1 h3 (by rw [<-e];exact hX.lt hx1);refine hX.inj b' x o' ox (hsub b' o' k1) hx1 k2 (λ q=>?_) (k3.trans e.symm);subst q;rw [(hE b' hE1).1] at k1;cases k1
  ·rw [hblk y oy hy1];intro e;obtain ⟨b',o',k1,k2,k3⟩:=g.news x ox hx1 hox (by rw [e];exact hX.lt hy1);refine hX.inj b' y o' oy (hsub b' o' k1) hy1 k2 (λ q=>?_) (k3.trans e);subst q;rw [(hE b' hE2).1] at k1;cases k1
  ·exact h'.inj x y ox oy hx1 hy1 hox hne
 ·rcases hcase x o hx with ⟨hE1,hx1⟩|hx1
  ·rw [hblk x o hx1];exact hX.ir x o hx1 ho
  ·exact h'.ir x o hx1 ho
 ·rw [g.ah k (qk hk gX.size)]
  ·exact gX.ah k hk hno
  ·intro b ob hb hob e;obtain ⟨b',o',k1,k2,k3⟩:=gX.news b ob (hsub b ob hb) hob (by rw [e];exact hk);exact hno b' o' k1 k2 (k3.trans e)
 ·rcases hcase x o hx with ⟨hE1,hx1⟩|hx1
  ·rw [hblk x o hx1] at hlt ⊢;exact gX.news x o hx1 ho hlt
  ·obtain ⟨b',o',k1,k2,k3⟩:=g.news x o hx1 ho (qk hlt gX.size);obtain ⟨b2,o2,k4,k5,k6⟩:=gX.news b' o' (hsub b' o' k1) k2 (by rw [k3];exact hlt);exact ⟨b2,o2,k4,k5,k6.trans k3⟩
section
variable {P:Program} {rt:RT} {nt:Nat} {ops:Array Oper} {l:List (List ba × dN)} {plan:List (Bool × Nat)} {sts:Nat->St} {M:Nat}
 {base:Nat} {D0:Nat->Prop} {θ0:Th} {w0:World} {cs0:List Frame} {b:Frame}
theorem DS.snoc (R:RG P rt nt ops l plan sts M) {S:List Nat} {i p:Nat} (hp:plan[p]? = some (false,i)) (hpM:p<M):DS D0 plan sts M (S ++ [i])=Up (DS D0 plan sts M S) (sts p).H.next (sts (p+1)).H.next:=by
 funext x;simp only [eq_iff_iff];constructor
 ·rintro (h|⟨j,p',h1,h2,h3,h4⟩)
  ·exact .inl (.inl h)
  ·rcases xw.1 h1 with h1|h1
   ·exact .inl (.inr ⟨j,p',h1,h2,h3,h4⟩)
   ·simp at h1;subst h1;have:=R.bZ.one _ _ _ hp h2;subst this;exact .inr h4
 ·rintro (h|h)
  ·exact h.app
  ·exact .inr ⟨i,p,by simp,hp,hpM,h⟩
theorem DS.fresh (R:RG P rt nt ops l plan sts M) {S:List Nat} {i p:Nat} (hp:plan[p]? = some (false,i)) (hpM:p<=M) (hiS:i ∉ S) {n:Nat} (hf:cK D0 (sts 0).H.next n) {m:Nat} (hm:m<=n)
 (hm2:p<M->m<=(sts (p+1)).H.next):cK (DS D0 plan sts M S) (sts p).H.next m:=by
 intro x h1 h2 h3;rcases h3 with h3|⟨j,p',k1,k2,k3,k4,k5⟩
 ·exact hf x (xj (R.ext (xx p) hpM).1 h1) (by omega) h3
 ·rcases Nat.lt_trichotomy p p' with h|h|h
  ·have e1:=(R.ext (p:=p+1) (p':=p') h (by omega)).1;have:=hm2 (by omega);omega
  ·subst h;rw [hp] at k2;injection k2 with k2;injection k2 with _ k2
   exact hiS (k2 ▸ k1)
  ·have e1:=(R.ext (p:=p'+1) (p':=p) h hpM).1;omega
theorem Ke (R:RG P rt nt ops l plan sts M) {rd:Option Nat} {S:List Nat} {q:Nat} {X:AHeap} {θ:Th} {a:Act} {w:World} {cs:List Frame} (hI:Inv P base D0 θ0 w0 cs0 b nt rd ops l plan sts M S q X θ a w cs) {i p:Nat} (hp:plan[p]? = some (false,i)) (hpM:p<=M) (hiS:i ∉ S)
 (hanc:∀ j,((aK ops l).dS i).testBit j=true->j ∈ S) (hqp:q<=p) (hcl:(aK ops l).cls i=.read\/(aK ops l).cls i=.eQ) :
 (sts p).aM=(sts q).aM/\(sts p).up=(sts q).up /\ ∀ x o,(sts p).H.get x=some o->X.get x=some o:=by
 obtain ⟨h1,h2,h3⟩:=R.nX hqp hpM (λ u j hu1 hu2 hj hc=>by
  have:=hanc j (R.bZ.made p i u j hp hcl hj hu2 (.inr hc));have:=(hI.sA j u hj hc).2 this;omega)
 refine ⟨h1,h2,λ x o hx=>?_⟩;rcases h3 x o hx with hx|⟨j,u,k1,k2,k3,k4,k5,rfl,k7⟩
 ·exact hI.J7 x o hx
 ·exact hI.sk j u (hanc j (R.bZ.made p i u j hp hcl k3 k2 (.inl k4))) k3 k4 k1 (by omega) k5 o k7
theorem Hj (R:RG P rt nt ops l plan sts M) {rd:Option Nat} {S:List Nat} {q:Nat} {X:AHeap} {θ:Th} {a:Act} {w:World} {cs:List Frame} (hI:Inv P base D0 θ0 w0 cs0 b nt rd ops l plan sts M S q X θ a w cs) {i p:Nat} (hp:plan[p]? = some (false,i)) (hiS:i ∉ S)
 (hcl:(aK ops l).cls i=.eQ):q<=p:=by
 rcases hI.last with h|⟨e,p1,rfl,h2,h3⟩
 ·omega
 ·refine y9 λ hlt=>?_;have heS:=(hI.sA e p1 h2 h3).1 (ze _);have hne:p ≠ p1:=λ q=>by
   subst q;rw [hp] at h2;injection h2 with h2;injection h2 with _ h2
   exact hiS (h2 ▸ heS)
  have:=R.bZ.made p1 e p i h2 (.inr h3) hp (by omega) (.inr hcl);exact hiS (hI.closed e heS i this)
theorem xJ (R:RG P rt nt ops l plan sts M) {rd:Option Nat} {S:List Nat} {q:Nat} {X:AHeap} {θ:Th} {a:Act} {w:World} {cs:List Frame} (hI:Inv P base D0 θ0 w0 cs0 b nt rd ops l plan sts M S q X θ a w cs) {i p:Nat} (hp:plan[p]? = some (false,i)) (hpM:p<M) (hiS:i ∉ S)
 (hanc:∀ j,((aK ops l).dS i).testBit j=true->j ∈ S) (hend:M=plan.length \/ ∃ j,plan[M]? = some (false,j)) {o:Oper} {ca:List ba × dN} {s:aL} (ho:ops[i]? = some o) (hla:l[i]? = some ca) (hsd:s.dst=o.dst) (hsa:s.args=ca.1) (hso:s.op=ca.2) (hsg:guardOf ops o.guard=some s.guard)
 {f:List AV->AHeap->Option AV} (hf:ca.2=.read f) {vs:List AV} {v:AV} (hw:bY s (sts p).tm=some true) (he:iI (sts p).tm s.args=some vs) (hv:f vs (sts p).H=some v) (hst:sts (p+1)=⟨c5 s.dst v (sts p).tm,(sts p).aM,(sts p).up,(sts p).H⟩) :
 ∃ H,(∀ x o,H.get x=some o->X.get x=some o)/\f vs H=some v:=by
 have hcl:(aK ops l).cls i=.read:=by
  show kE l i=.read;simp [kE,hla,hf,mz]
 by_cases hqp:q<=p
 ·exact ⟨(sts p).H,(Ke R hI hp (by omega) hiS hanc hqp (.inl hcl)).2.2,hv⟩
 ·rcases hI.last with h|⟨e,p1,rfl,h2,h3⟩
  ·omega
  ·have heS:=(hI.sA e p1 h2 h3).1 (ze _);have hne:p ≠ p1:=λ q=>by
    subst q;rw [hp] at h2;injection h2 with h2;injection h2 with _ h2
    exact hiS (h2 ▸ heS)
   have hna:((aK ops l).dS e).testBit i=false:=by
    cases hb:((aK ops l).dS e).testBit i with
    | false=>rfl
    | true=>exact absurd (hI.closed e heS i hb) hiS
   obtain ⟨u,k1,k2,k3⟩:=R.bZ.look p1 e p i h2 h3 hp (by omega) hcl hna;have huM:u<M:=by
    rcases hend with hend|⟨j,hj⟩
    ·have:=(qe.1 k2).1;omega
    ·refine y9 λ hlt=>?_;obtain ⟨r',hr'⟩:=k3 M (by have:=hI.OK;omega) (by omega);rw [hj] at hr';injection hr' with hr';injection hr' with hr' _;cases hr'
   have hsu:sts u=sts (p1+1):=R.DI (q:=p1+1) (by omega) (by omega) (λ v hv1 hv2=>k3 v (by omega) (by omega));obtain ⟨s',o',ca',g1,g2,g3,g4,g5,g6,g7,g8,hr⟩:=R.look k2 huM;rw [ho] at g1;injection g1 with g1;subst g1
   rw [hla] at g3;injection g3 with g3;subst g3
   have hgd:s'.guard=s.guard:=by rw [hsg] at g4;injection g4 with g4;exact g4.symm
   have hin:=R.bZ.lt p i hp
   -- nothing that it names is written nX
   have hself:=(R.bZ.again u i k2).2.1;have hself:uL ops l i=true:=hself;have hda:eJ ops i=o.dst:=by simp [eJ,ho]
   have hwr:∀ t ∈ d9 ops l i,∀ x j:Nat,p+1<=x->x<u->plan[x]? = some (false,j)->eJ ops j ≠ some t:=by
    intro t ht x j hx1 hx2 hj hd;have hji:j ≠ i:=λ e=>by
     subst e;have:=R.bZ.one _ _ _ hp hj;omega
    have:=(R.bZ.again u i k2).2.2.2 j x hj hx2 hji (Pd ht hd);obtain ⟨x',hx',hx'2⟩:=R.bZ.dS p i j hp this;have:=R.bZ.one _ _ _ hj hx'2;omega
   have hreads:∀ t ∈ fF ops l i,(sts u).tm.get t=(sts p).tm.get t:=by
    intro t ht;have hnd:o.dst ≠ some t:=λ hd=>by
     unfold uL at hself;rw [hda,hd] at hself;simp only [Gr] at hself;rw [(NT _ _).2 ht] at hself;cases hself
    refine R.kept (by omega) (by omega) (λ x j hx1 hx2 hj hd=>?_)
    by_cases hxp:x=p
    ·subst hxp;rw [hp] at hj;injection hj with hj;injection hj with _ hj
     subst hj;rw [hda] at hd;exact hnd hd
    ·exact hwr t (by unfold d9;simp [ht]) x j (by omega) hx2 hj hd
   have hro:fF ops l i=(match guardOf ops o.guard with|some (some g)=>[g.1] | _=>[])++tmpsOf ca.1:=by unfold fF;rw [ho,hla];rfl
   have hw':bY s' (sts u).tm=some true:=by
    rw [<-hw];unfold bY;rw [hgd];cases hg:s.guard with
    | none=>rfl
    | some g =>
     simp only;rw [hreads g.1 (by rw [hro,hsg,hg];simp)]
   have he':iI (sts u).tm s'.args=some vs:=by
    rw [<-he,hsa,g7];exact qx9 (λ t ht=>hreads t (by rw [hro];simp [ht]))
   cases hr with
   | skip hc'=>rw [g5] at hc';cases hc'
   | run hc'=>rw [g5] at hc';cases hc'
   | look hc' d hd h hl =>
    rcases hl with hl|⟨_,vs',hvs',hk⟩
    ·rw [hw'] at hl;cases hl
    ·rw [he'] at hvs';injection hvs' with hvs';subst hvs'
     rw [g8,hf] at hk;unfold mE at hk;simp only at hk;split at hk
     ·rename_i v1 v2 hv1 hv2;have hdd:(sts u).tm.get d=some v:=by
       have hod:o.dst=some d:=by rw [<-g6];exact hd
       rw [R.kept (p:=p+1) (t:=d) (by omega) (by omega) (hwr d (by unfold d9;rw [hda,hod];simp))];rw [hst,hsd,hod];simp only [c5,T.aE,xa]
      rw [hdd] at hv2;injection hv2 with hv2;subst hv2
      have:=L7 _ _ hk;subst this;exact ⟨(sts u).H,λ x o hx=>hI.J7 x o (by rw [hsu] at hx;exact hx),hv1⟩
     ·cases hk
theorem K3 (a:Act) (d:Option Nat) (c:Value):(a.put d c).tmps=(match d with|some d=>a.tmps.setIfInBounds d c|none=>a.tmps):=by
 cases d<;>rfl
theorem qve (a:Act) (d:Option Nat) (c:Value):(a.put d c).defers=a.defers:=by
 cases d<;>rfl
theorem Inv.step (R:RG P rt nt ops l plan sts M) {rd:Option Nat} {S:List Nat} {q:Nat} {X:AHeap} {θ:Th} {a:Act} {w:World} {cs:List Frame} (hI:Inv P base D0 θ0 w0 cs0 b nt rd ops l plan sts M S q X θ a w cs) {i p:Nat} (hp:plan[p]? = some (false,i)) (hpM:p<M) (hiS:i ∉ S)
 (hanc:∀ j,((aK ops l).dS i).testBit j=true->j ∈ S) {o:Oper} (ho:ops[i]? = some o) (hla:∃ ca,l[i]? = some ca) (hcl:(aK ops l).cls i ≠ .eQ) {θ':Th} {X':AHeap} {w':World} {c:Value}
 (heap':HR P base (DS D0 plan sts M (S ++ [i])) θ' X' w') (grow':aX D0 (sts 0).H θ0 w0 X' θ' w') (hsub:∀ x o,(∃ d,DS D0 plan sts M S x/\X.get x=some d)->X.get x=some o->X'.get x=some o) (hag:Ag (DS D0 plan sts M S) θ θ')
 (hA:(aK ops l).cls i=.alloc->(sts p).H.next<(sts (p+1)).H.next -> ∀ o,(sts (p+1)).H.get (sts p).H.next=some o->X'.get (sts p).H.next=some o)
 (hval:∀ d v,o.dst=some d->(sts (p+1)).tm.get d=some v->VR (DS D0 plan sts M (S ++ [i])) θ' v c) :
 Inv P base D0 θ0 w0 cs0 b nt rd ops l plan sts M (S ++ [i]) q X' θ' (a.put o.dst c) w' cs:=by
 have hup:∀ x,DS D0 plan sts M S x->DS D0 plan sts M (S ++ [i]) x:=λ x h=>h.app;have hsub':∀ x o,X.get x=some o->X'.get x=some o:=λ x o hx=>hsub x o ⟨o,(hI.heap.obj x o hx).1,hx⟩ hx;refine ⟨heap',grow',λ x o hx=>hsub' x o (hI.J7 x o hx),λ j p' hj hj2 hj3 hj4 hj5 hj6 o' ho'=>?_,hI.OK,λ i' p' hp' hc'=>?_,hI.last,?_,mQ.up hag hup hI.up,hI.Gv,hI.vN,?_,?_,sg.up hag hup hI.round,λ j hj=>?_,λ j hj j' hj'=>?_⟩
 ·rcases xw.1 hj with hj|hj
  ·exact hsub' _ _ (hI.sk j p' hj hj2 hj3 hj4 hj5 hj6 o' ho')
  ·simp at hj;subst hj;have:=R.bZ.one _ _ _ hp hj2;subst this;exact hA hj3 hj6 o' ho'
 ·rw [hI.sA i' p' hp' hc'];constructor
  ·intro h;simp [h]
  ·intro h;rcases xw.1 h with h|h
   ·exact h
   ·simp at h;subst h;exact absurd hc' hcl
 ·rw [qve];exact eC.up hag hup hI.aM
 ·rw [K3];exact hI.oY.put R hag hup hp hpM hanc hiS hI.closed ho hla hI.size hval
 ·rw [K3];have:=hI.size;split<;>simpa using this
 ·rcases xw.1 hj with hj|hj
  ·exact hI.Ku j hj
  ·simp at hj;subst hj;exact ⟨p,hp,hpM⟩
 ·rcases xw.1 hj with hj|hj
  ·simp [hI.closed j hj j' hj']
  ·simp at hj;subst hj;simp [hanc j' hj']
theorem Inv.CO (R:RG P rt nt ops l plan sts M) {rd:Option Nat} {S:List Nat} {q:Nat} {X:AHeap} {θ:Th} {a:Act} {w:World} {cs:List Frame} (hI:Inv P base D0 θ0 w0 cs0 b nt rd ops l plan sts M S q X θ a w cs) {i p:Nat} (hp:plan[p]? = some (false,i)) (hpM:p<M) (hiS:i ∉ S)
 (hanc:∀ j,((aK ops l).dS i).testBit j=true->j ∈ S) {o:Oper} (ho:ops[i]? = some o) (hla:∃ ca,l[i]? = some ca) (hcl:(aK ops l).cls i=.eQ) {θ':Th} {X':AHeap} {w':World} {cs':List Frame} {c:Value} {ds:List Deferred}
 (heap':HR P base (DS D0 plan sts M (S ++ [i])) θ' X' w') (grow':aX D0 (sts 0).H θ0 w0 X' θ' w') (cov':∀ x o,(sts (p+1)).H.get x=some o->X'.get x=some o)
 (covA':∀ j p':Nat,j ∈ S->plan[p']? = some (false,j)->(aK ops l).cls j=.alloc->p+1<=p'->p'<M->(sts p').H.next<(sts (p'+1)).H.next -> ∀ o,(sts (p'+1)).H.get (sts p').H.next=some o->X'.get (sts p').H.next=some o)
 (hag:Ag (DS D0 plan sts M S) θ θ') (dfs':eC (DS D0 plan sts M (S ++ [i])) θ' (sts (p+1)).aM ds) (up':mQ (DS D0 plan sts M (S ++ [i])) θ' b.kind (sts (p+1)).up cs') (upS':(sts (p+1)).up.isSome=(sts 0).up.isSome) (upTo':dp (sts 0).up cs0 cs')
 (hval:∀ d v,o.dst=some d->(sts (p+1)).tm.get d=some v->VR (DS D0 plan sts M (S ++ [i])) θ' v c) :
 Inv P base D0 θ0 w0 cs0 b nt rd ops l plan sts M (S ++ [i]) (p+1) X' θ' (({ a with defers:=ds }:Act).put o.dst c) w' cs':=by
 have hup:∀ x,DS D0 plan sts M S x->DS D0 plan sts M (S ++ [i]) x:=λ x h=>h.app;have hqp:=Hj R hI hp hiS hcl;refine ⟨heap',grow',cov',λ j p' hj hj2 hj3 hj4 hj5 hj6 o' ho'=>?_,hpM,λ i' p' hp' hc'=>?_,.inr ⟨i,p,rfl,hp,hcl⟩,?_,up',upS',upTo',?_,?_,sg.up hag hup hI.round,λ j hj=>?_,λ j hj j' hj'=>?_⟩
 ·rcases xw.1 hj with hj|hj
  ·exact covA' j p' hj hj2 hj3 hj4 hj5 hj6 o' ho'
  ·simp at hj;subst hj;have:=R.bZ.one _ _ _ hp hj2;omega
 ·constructor
  ·intro h
   by_cases e:p'=p
   ·subst e;rw [hp] at hp';injection hp' with hp';injection hp' with _ hp'
    simp [hp']
   ·have:=hanc i' (R.bZ.made p i p' i' hp (.inr hcl) hp' (by omega) (.inr hc'));simp [this]
  ·intro h;rcases xw.1 h with h|h
   ·have:=(hI.sA i' p' hp' hc').2 h;omega
   ·simp at h;subst h;have:=R.bZ.one _ _ _ hp hp';omega
 ·rw [qve];exact dfs'
 ·rw [K3];exact hI.oY.put R hag hup hp hpM hanc hiS hI.closed ho hla hI.size hval
 ·rw [K3];have:=hI.size;split<;>simpa using this
 ·rcases xw.1 hj with hj|hj
  ·exact hI.Ku j hj
  ·simp at hj;subst hj;exact ⟨p,hp,hpM⟩
 ·rcases xw.1 hj with hj|hj
  ·simp [hI.closed j hj j' hj']
  ·simp at hj;subst hj;simp [hanc j' hj']
theorem q6m (R:RG P rt nt ops l plan sts M) {rd:Option Nat} {S:List Nat} {q:Nat} {X:AHeap} {θ:Th} {a:Act} {w:World} {cs:List Frame} (hI:Inv P base D0 θ0 w0 cs0 b nt rd ops l plan sts M S q X θ a w cs) {i p:Nat} (hp:plan[p]? = some (false,i)) (hpM:p<=M) (hiS:i ∉ S)
 (hanc:∀ j,((aK ops l).dS i).testBit j=true->j ∈ S) {o:Oper} {ca:List ba × dN} {s:aL} (ho:ops[i]? = some o) (hla:l[i]? = some ca) (hsa:s.args=ca.1) (hsg:guardOf ops o.guard=some s.guard) :
 (∀ {wd:Bool},bY s (sts p).tm=some wd->Region.wanted o (yielded ops a.tmps)=wd) /\
 ∀ {xs:List Operand},jZ P.globals.size xs=some ca.1 -> ∀ {vs:List AV},iI (sts p).tm s.args=some vs->bt (DS D0 plan sts M S) θ vs (xs.map a.eval):=by
 have hro:fF ops l i=(match guardOf ops o.guard with|some (some g)=>[g.1] | _=>[])++tmpsOf ca.1:=by unfold fF;rw [ho,hla];rfl
 have hin:∀ t ∈ fF ops l i,t ∈ d9 ops l i:=λ t ht=>by unfold d9;simp [ht]
 refine ⟨λ {wd} hw=>q7v (D:=DS D0 plan sts M S) (θ:=θ) hsg (λ g hg v hv=>?_) hw,λ {xs} hxs {vs} hvs=>?_⟩
 ·exact CD R hI hp hpM hiS hanc (hin g.1 (by rw [hro,hsg,hg];simp)) v hv
 ·rw [hsa] at hvs;exact uJ hI.heap (λ t ht v hv=>CD R hI hp hpM hiS hanc (hin t (by rw [hro];simp [ht])) v hv) hxs hvs
end
end Go.Am
namespace Go.Am
section
variable {P:Program} {rt:RT} {nt:Nat} {ops:Array Oper} {l:List (List ba × dN)} {plan:List (Bool × Nat)} {sts:Nat->St} {M:Nat}
 {base:Nat} {D0:Nat->Prop} {θ0:Th} {w0:World} {cs0:List Frame} {b:Frame}
theorem RG.made (R:RG P rt nt ops l plan sts M) {p j:Nat} (hp:plan[p]? = some (false,j)) (hpM:p<M) (hcl:(aK ops l).cls j=.alloc) (hlt:(sts p).H.next<(sts (p+1)).H.next):∃ ob,(sts (p+1)).H.get (sts p).H.next=some ob:=by
 obtain ⟨s,o,ca,ho,hco,hla,hsg,hsc,hsd,hsa,hso,hrel⟩:=R.at hp hpM;have hcls:(aK ops l).cls j=mz ca.2:=by simp [aK,kE,hla]
 rw [hcls] at hcl;cases hrel with
 | look hc=>rw [hsc] at hc;cases hc
 | skip hc hw hst=>rw [hst] at hlt;exact absurd hlt (Ai _)
 | run hc hw vs v d u H' he hop hst =>
  rw [hso] at hop;cases hca:ca.2 with
  | alloc f =>
   rw [hca] at hop;simp only [eP,qb,qc,eL.val.injEq] at hop;obtain ⟨⟨ob,mk⟩,_,_,rfl,rfl,rfl⟩:=hop;exact ⟨ob,by rw [hst];simp only [AHeap.bc,xa]⟩
  | _=>rw [hca] at hcl;cases hcl
set_option maxHeartbeats 1000000 in
theorem q5n (R:RG P rt nt ops l plan sts M) (hP:cF P) (hcall:yw P base rt.call) (hround:qZ P base rt.round) (hAP:rt.AP=aP P) {S:List Nat} {q:Nat} {X:AHeap} {θ:Th} {a:Act} {w:World} {cs:List Frame}
 (hI:Inv P base D0 θ0 w0 cs0 b nt rt.ctx.round ops l plan sts M S q X θ a w cs) {i p:Nat} (hp:plan[p]? = some (false,i)) (hpM:p<M) (hiS:i ∉ S) (hanc:∀ j,((aK ops l).dS i).testBit j=true->j ∈ S) {n:Nat} (hfr:cK D0 (sts 0).H.next n)
 (hMn:(sts M).H.next<=n) (hend:M=plan.length \/ ∃ j,plan[M]? = some (false,j)) (h0:∀ x o,(sts 0).H.get x=some o->D0 x) {k:List Item} {rest:List Nat} :
 ∃ q' X' θ' a' w' cs',Steps P (lone (b.atR a (.inRegion ops (i::rest)::k)) cs w) (lone (b.atR a' (.inRegion ops rest::k)) cs' w')/\Inv P base D0 θ0 w0 cs0 b nt rt.ctx.round ops l plan sts M (S ++ [i]) q' X' θ' a' w' cs':=by
 obtain ⟨s,o,ca,ho,hco,hla,hsg,hsc,hsd,hsa,hso,hrel⟩:=R.at hp hpM;obtain ⟨xs,hxs,hok,hdef⟩:=FM hP hco;obtain ⟨hwant,hopd⟩:=q6m R hI hp (by omega) hiS hanc ho hla hsa hsg;have hcls:(aK ops l).cls i=mz ca.2:=by simp [aK,kE,hla]
 have hsn:=DS.snoc (D0:=D0) R (S:=S) hp hpM;have hnle:(sts (p+1)).H.next<=n:=xj (R.ext (p:=p+1) (p':=M) hpM (qf _)).1 hMn
 have hfresh:=DS.fresh R (S:=S) hp (by omega) hiS hfr (m:=(sts (p+1)).H.next) hnle (λ _=>qf _)
 -- no block bears a number that is to come
 have hnone:∀ p1 p2:Nat,p1<=p2->p2<M->(sts p2).H.next<(sts (p2+1)).H.next->(sts p1).H.get (sts p2).H.next=none:=by
  intro p1 p2 h1 h2 h3;cases hg:(sts p1).H.get (sts p2).H.next with
  | none=>rfl
  | some o' =>
   exfalso;have e0:=(R.ext (p:=0) (p':=p2) (by omega) (by omega)).1;have e1:=(R.ext (p:=p1) (p':=p2) h1 (by omega)).1;have e2:=(R.ext (p:=p2+1) (p':=M) h2 (qf _)).1;rcases (R.ext (p:=0) (p':=p1) (by omega) (by omega)).2 _ _ hg with ⟨o'',ho'',_⟩|⟨_,h8,_⟩
   ·exact hfr _ e0 (by omega) (h0 _ _ ho'')
   ·omega
 cases hrel with
 | look hc=>rw [hsc] at hc;cases hc
 | skip hc hw hst =>
  have hwf:=hwant hw;have hsk:=stepR_op_skip (P:=P) (b:=b) (a:=a) (k:=k) (cs:=cs) (w:=w) (ops:=ops) (i:=i) (rest:=rest) (by simp [ho,hwf]);rw [ho] at hsk;have hDS:DS D0 plan sts M (S ++ [i])=DS D0 plan sts M S:=by rw [hsn,hst];exact Up.none
  by_cases hce:(aK ops l).cls i=.eQ
  ·obtain ⟨k1,k2,k3⟩:=Ke R hI hp (by omega) hiS hanc (Hj R hI hp hiS hce) (.inr hce);have hI2:=hI.CO R (cs':=cs) (ds:=a.defers) hp hpM hiS hanc ho ⟨ca,hla⟩ hce (θ':=θ) (X':=X) (w':=w) (c:=undef) (by rw [hDS];exact hI.heap) hI.grow (λ x o' hx=>by rw [hst] at hx;exact k3 x o' hx)
    (λ j p' hj hj2 hj3 hj4 hj5 hj6 o' ho'=>hI.sk j p' hj hj2 hj3 (by have:=Hj R hI hp hiS hce;omega) hj5 hj6 o' ho') (Ag.refl _ _) (by rw [hDS,hst];simp only;rw [k1];exact hI.aM) (by rw [hDS,hst];simp only;rw [k2];exact hI.up)
    (by rw [hst];simp only;rw [k2];exact hI.Gv) hI.vN (λ d v hd hv=>by
     rw [hst,hsd,hd] at hv;simp only [c5,T.aE,xa,qc] at hv;subst hv;exact .undef)
   exact ⟨_,_,_,_,_,_,.one hsk,hI2⟩
  ·have hI2:=hI.step R hp hpM hiS hanc ho ⟨ca,hla⟩ hce (θ':=θ) (X':=X) (w':=w) (c:=undef) (by rw [hDS];exact hI.heap) hI.grow (λ x o' _ hx=>hx) (Ag.refl _ _) (λ _ hlt=>by rw [hst] at hlt;exact absurd hlt (Ai _))
    (λ d v hd hv=>by
     rw [hst,hsd,hd] at hv;simp only [c5,T.aE,xa,qc] at hv;subst hv;exact .undef)
   exact ⟨_,_,_,_,_,_,.one hsk,hI2⟩
 | run hc hw vs v d u H' he hop hst =>
  have hwt:=hwant hw;have hv:=hopd hxs he;rw [hso] at hop;have hval:∀ (x:AV),(∀ dd v',o.dst=some dd->(sts (p+1)).tm.get dd=some v'->v'=v):=by
   intro _ dd v' hd hv';rw [hst,hsd,hd] at hv';simp only [c5,T.aE,xa,qc] at hv';exact hv'.symm
  have hnd:ca.2 ≠ .defer->ca.2 ≠ .pure Op.fail->o.semAt b.roundOf a.eval=execOp a.eval o:=λ q1 q2=>Oper.semAt_eq _ _ _ (by
   rcases hdef with h|h|h
   ·exact h
   ·exact absurd h q1
   ·exact absurd h q2)
  by_cases hce:mz ca.2=.eQ
  ·-- an effect
   have hce':(aK ops l).cls i=.eQ:=by rw [hcls];exact hce
   have hqp:=Hj R hI hp hiS hce';obtain ⟨k1,k2,k3⟩:=Ke R hI hp (by omega) hiS hanc hqp (.inr hce');have hstH:(sts (p+1)).H=H':=by rw [hst]
   have hout:=NB hP hcall hround hAP hok hdef (rest:=rest) (k:=k) (st:=sts p) (cs:=cs) (r:=.val v d u H') ho hwt (hI.heap.sub k3) (by rw [k1];exact hI.aM) (by rw [k2];exact hI.up) hI.round hv hop (by rw [hstH] at hfresh;exact hfresh);obtain ⟨θ',w',c,cs',ds,g1,g2,g3,g4,g5,g6,g7,g8⟩:=hout;have hext:Ext (sts p).H H':=by rw [<-hstH];exact R.mono p hpM
   have hDS:DS D0 plan sts M (S ++ [i])=Up (DS D0 plan sts M S) (sts p).H.next H'.next:=by rw [hsn,hstH]
   -- what was made ahead of its time
   let Q:Nat->Prop:=λ p'=>p+1<=p' /\ ∃ j,j ∈ S/\plan[p']? = some (false,j)/\(aK ops l).cls j=.alloc/\(sts p').H.next<(sts (p'+1)).H.next
   let E:List Nat:=((List.range M).filter (λ p'=>@decide (Q p') (Classical.propDecidable _))).map (λ p'=>(sts p').H.next)
   have hEm:∀ x,x ∈ E ↔ ∃ p',p'<M/\Q p'/\x=(sts p').H.next:=by
    intro x;simp only [E,DD,va,FC,GS];constructor
    ·rintro ⟨p',⟨h1,h2⟩,rfl⟩;exact ⟨p',h1,h2,rfl⟩
    ·rintro ⟨p',h1,h2,rfl⟩;exact ⟨p',⟨h1,h2⟩,rfl⟩
   have hE:∀ x ∈ E,(sts p).H.get x=none /\ ∀ o,X.get x=some o->own o=true:=by
    intro x hx;obtain ⟨p',h1,⟨h2,j,h3,h4,h5,h6⟩,rfl⟩:=(hEm x).1 hx;refine ⟨hnone p p' (by omega) h1 h6,λ o' ho'=>?_⟩;obtain ⟨ob,hob⟩:=R.made h4 h1 h5 h6;have:=hI.sk j p' h3 h4 h5 (by omega) h1 h6 ob hob;rw [ho'] at this;injection this with this;subst this
    rcases (R.mono p' h1).2 _ _ hob with ⟨o'',ho'',_⟩|⟨_,_,h9⟩
    ·rw [hnone p' p' (qf _) h1 h6] at ho'';cases ho''
    ·exact h9
   have hn0:(sts 0).H.next<=H'.next:=by rw [<-hstH];exact (R.ext (p:=0) (p':=p+1) (by omega) hpM).1
   obtain ⟨f1,f2⟩:=hI.heap.frame hI.grow (λ x hx=>.inl hx) k3 g2 g3 hext Up.of hn0 E hE;rw [<-hDS] at f1;have hnotE:∀ x o',H'.get x=some o'->x ∉ E:=by
    intro x o' hx hxE;obtain ⟨p',h1,⟨h2,j,h3,h4,h5,h6⟩,rfl⟩:=(hEm x).1 hxE;have:=hnone (p+1) p' h2 h1 h6;rw [hstH,hx] at this;cases this
   have hI2:=hI.CO R (cs':=cs') (ds:=ds) hp hpM hiS hanc ho ⟨ca,hla⟩ hce' (θ':=θ') (X':=iq X E H') (w':=w') (c:=c) f1 f2
    (λ x o' hx=>by
     rw [hstH] at hx;rw [Ij,qg (λ q=>hnotE x o' hx q.1)];exact hx)
    (λ j p' hj hj2 hj3 hj4 hj5 hj6 o' ho'=>by
     have hX:=hI.sk j p' hj hj2 hj3 (by omega) hj5 hj6 o' ho';rw [Ij,ql ⟨(hEm _).2 ⟨p',hj5,⟨hj4,j,hj,hj2,hj3,hj6⟩,rfl⟩,by rw [hX];rfl⟩];exact hX)
    g3.ag (by rw [hDS,hst];exact g5) (by rw [hDS,hst];exact g7) (by rw [hst];exact (g6.trans (by rw [k2])).trans hI.Gv) (dp.trans hI.Gv hI.vN (by rw [<-k2];exact g8))
    (λ dd v' hd hv'=>by rw [hDS,hval v dd v' hd hv'];exact g4)
   exact ⟨_,_,_,_,_,_,g1,hI2⟩
  ·have hnce:(aK ops l).cls i ≠ .eQ:=by rw [hcls];exact hce
   cases hca:ca.2 with
   | pure f =>
    rw [hca] at hop hok hnd;simp only [eP,qb,qc,eL.val.injEq] at hop;obtain ⟨v',h1,rfl,rfl,rfl,rfl⟩:=hop;have hDS:DS D0 plan sts M (S ++ [i])=DS D0 plan sts M S:=by rw [hsn,hst];exact Up.none
    obtain ⟨c,g1,g2⟩:=hok (DS D0 plan sts M S) θ a.eval w vs v' (JZ a) hv h1;have hsem:=hnd (by intro q;cases q) (by intro q;injection q with q;subst q;cases h1);have hI2:=hI.step R hp hpM hiS hanc ho ⟨ca,hla⟩ hnce (θ':=θ) (X':=X) (w':=w) (c:=c) (by rw [hDS];exact hI.heap) hI.grow (λ x o' _ hx=>hx) (Ag.refl _ _) (λ _ hlt=>by rw [hst] at hlt;exact absurd hlt (Ai _))
     (λ dd v'' hd hv'=>by rw [hDS,hval v' dd v'' hd hv'];exact g2)
    refine ⟨_,_,_,_,_,_,.one ?_,hI2⟩;rcases g1 with g1|⟨g1,rfl⟩
    ·exact DK ho hwt (by rw [hsem];exact g1)
    ·exact Jy ho hwt (by rw [hsem];exact g1)
   | read f =>
    have hop0:=hop;rw [hca] at hop hok hnd;simp only [eP,qb,qc,eL.val.injEq] at hop;obtain ⟨v',h1,rfl,rfl,rfl,rfl⟩:=hop;have hDS:DS D0 plan sts M (S ++ [i])=DS D0 plan sts M S:=by rw [hsn,hst];exact Up.none
    obtain ⟨Hr,r1,r2⟩:=xJ R hI hp hpM hiS hanc hend ho hla hsd hsa hso hsg hca hw he h1 hst;obtain ⟨c,g1,g2⟩:=hok base (DS D0 plan sts M S) θ Hr a.eval w vs v' (hI.heap.sub r1) hv r2;have hsem:=hnd (by intro q;cases q) (by intro q;cases q);have hI2:=hI.step R hp hpM hiS hanc ho ⟨ca,hla⟩ hnce (θ':=θ) (X':=X) (w':=w) (c:=c) (by rw [hDS];exact hI.heap) hI.grow (λ x o' _ hx=>hx) (Ag.refl _ _) (λ _ hlt=>by rw [hst] at hlt;exact absurd hlt (Ai _))
     (λ dd v'' hd hv'=>by rw [hDS,hval v' dd v'' hd hv'];exact g2)
    refine ⟨_,_,_,_,_,_,.one ?_,hI2⟩;rcases g1 with g1|⟨g1,rfl⟩
    ·exact DK ho hwt (by rw [hsem];exact g1)
    ·exact Jy ho hwt (by rw [hsem];exact g1)
   | alloc f =>
    rw [hca] at hop hok hnd;simp only [eP,qb,qc,eL.val.injEq] at hop;obtain ⟨⟨ob,mk⟩,h1,rfl,rfl,rfl,rfl⟩:=hop;obtain ⟨hown,w1,co,ext,c,g1,g2,g3⟩:=hok.1 (DS D0 plan sts M S) θ a.eval w vs ob mk (JZ a) hv h1;have hsem:=hnd (by intro q;cases q) (by intro q;cases q);have hDS:DS D0 plan sts M (S ++ [i])=Up (DS D0 plan sts M S) (sts p).H.next ((sts p).H.next+1):=by rw [hsn,hst];rfl
    have hn:¬ DS D0 plan sts M S (sts p).H.next:=hfresh _ (qf _) (by rw [hst];exact ze _)
    have hag:=Th.eD θ (sts p).H.next w1.heap.size 0 ext hn
    obtain ⟨e1,e2,e3⟩:=Th.c9 θ (sts p).H.next w1.heap.size 0 ext
    obtain ⟨k1,k2⟩:=g3 (Up (DS D0 plan sts M S) (sts p).H.next ((sts p).H.next+1)) (θ.add (sts p).H.next w1.heap.size 0 ext) (sts p).H.next hag Up.of (.inr ⟨qf _,ze _⟩) (by rw [e1,g2.heap]) e2 e3
    have hX1:HR P base (DS D0 plan sts M S) θ { X with next:=(sts p).H.next } w1:=(HR.draw (w':=w1) hI.heap g2.heap).sub (λ x o hx=>hx);have hG1:aX D0 (sts 0).H θ0 w0 { X with next:=(sts p).H.next } θ w :=
     ⟨(R.ext (p:=0) (p':=p) (by omega) (by omega)).1,hI.grow.ag,hI.grow.size,hI.grow.os,hI.grow.tape,hI.grow.output,hI.grow.ah,hI.grow.news⟩
    have hA1:=hX1.alloc (w':=w1.alloc co) (co:=co) (k:=w1.heap.size) (off:=0) (ext:=ext) (o:=ob) hn (by rw [ug];simp) (λ j hj=>by rw [ug,qg (D5 hj)]) (qf _) (by simp) k1;have hG2:=(hG1.trans (aX.draw (D:=DS D0 plan sts M S) (w:=w) (w':=w1) g2.heap g2.os g2.tape g2.output) (λ x hx=>.inl hx)).trans (aX.alloc (w:=w1) hX1 hn ob co 0 ext) (λ x hx=>.inl hx);have hI2:=hI.step R hp hpM hiS hanc ho ⟨ca,hla⟩ hnce (θ':=θ.add (sts p).H.next w1.heap.size 0 ext) (X':=({ X with next:=(sts p).H.next }:AHeap).alloc ob) (w':=w1.alloc co) (c:=c) (by rw [hDS];exact hA1) hG2
     (λ x o' hx1 hx=>by
      obtain ⟨_,hx1,_⟩:=hx1;rw [AHeap.bc,qg (λ q=>hn (by rw [show (sts p).H.next=x from q];exact hx1))];exact hx)
     hag
     (λ _ _ o' ho'=>by
      rw [hst] at ho';simp only [AHeap.bc,xa] at ho' ⊢;exact ho')
     (λ dd v'' hd hv'=>by rw [hDS,hval (mk (sts p).H.next) dd v'' hd hv'];exact k2)
    exact ⟨_,_,_,_,_,_,.one (DK ho hwt (by rw [hsem];exact g1)),hI2⟩
   | eQ f=>rw [hca] at hce;exact absurd rfl hce
   | eH f=>rw [hca] at hce;exact absurd rfl hce
   | eK=>rw [hca] at hce;exact absurd rfl hce
   | invoke m=>rw [hca] at hce;exact absurd rfl hce
   | recover=>rw [hca] at hce;exact absurd rfl hce
   | defer=>rw [hca] at hce;exact absurd rfl hce
   | panic=>rw [hca] at hce;exact absurd rfl hce
theorem DS.nil:DS D0 plan sts M []=D0:=by
 funext x;simp only [DS,eq_iff_iff];constructor
 ·rintro (h|⟨i,p,h,_⟩)
  ·exact h
  ·simp at h
 ·exact .inl
theorem qzl {i:Nat}:∀ {l:List (Bool × Nat)} {x:Bool × Nat},x ∈ pe i l -> ∃ p':Nat,l[p']? = some x /\ ∀ u:Nat,u<=p'->l[u]? ≠ some (false,i)
 | [],x,h=>by simp [pe] at h
 | (c,j)::l,x,h=>by
  unfold pe at h;cases hb:(!c && Nat.beq j i) with
  | true=>rw [hb] at h;simp at h
  | false =>
   rw [hb] at h;simp only [za,zr] at h;have hne:(c,j) ≠ (false,i):=by
    intro e;injection e with e1 e2
    subst e1;subst e2;simp at hb
   rcases h with rfl|h
   ·exact ⟨0,rfl,λ u hu=>by
     obtain rfl:u=0:=by omega
     simpa using hne⟩
   ·obtain ⟨p',h1,h2⟩:=qzl h;refine ⟨p'+1,by simpa using h1,λ u hu=>?_⟩;cases u with
    | zero=>simpa using hne
    | succ u=>simpa using h2 u (by omega)
theorem DS.below (R:RG P rt nt ops l plan sts M) {S:List Nat} {n:Nat} (hn:(sts M).H.next<=n):∀ x,DS D0 plan sts M S x->Up D0 (sts 0).H.next n x:=by
 rintro x (h|⟨i,p,h1,h2,h3,h4,h5⟩)
 ·exact .inl h
 ·refine .inr ⟨xj (R.ext (p:=0) (p':=p) (by omega) (by omega)).1 h4,?_⟩;have:=(R.ext (p:=p+1) (p':=M) h3 (qf _)).1;omega
theorem aX.sub {D:Nat->Prop} {H:AHeap} {θ:Th} {w:World} {X:AHeap} {θ':Th} {w':World} (g:aX D H θ w X θ' w') {H':AHeap} (hn:H.next<=H'.next) (hs:∀ b o,H'.get b=some o->X.get b=some o):aX D H θ w H' θ' w' :=
 ⟨hn,g.ag,g.size,g.os,g.tape,g.output,g.ah,λ b o hb=>g.news b o (hs b o hb)⟩
theorem q7r (R:RG P rt nt ops l plan sts M) {rd:Option Nat} {S:List Nat} {q:Nat} {X:AHeap} {θ:Th} {a:Act} {w:World} {cs:List Frame} (hI:Inv P base D0 θ0 w0 cs0 b nt rd ops l plan sts M S q X θ a w cs) {t:Nat}
 (hall:∀ j u:Nat,u<M->plan[u]? = some (false,j)->eJ ops j=some t->j ∈ S):∀ v,(sts M).tm.get t=some v -> ∃ c,a.tmps[t]? = some c/\VR (DS D0 plan sts M S) θ v c:=by
 obtain ⟨p0,h1,h2,h3,h4⟩:=hI.oY t;intro v hv;refine h2 v ?_;rw [<-hv];exact (R.kept h1 (qf _) (λ u j hu1 hu2 hj hd=>by
  have:=h3 j u (hall j u hu2 hj hd) hj hd;omega)).symm
end
section
variable {P:Program} {rt:RT} {nt:Nat} {ops:Array Oper} {l:List (List ba × dN)} {plan:List (Bool × Nat)} {sts:Nat->St} {M:Nat}
 {base:Nat} {D0:Nat->Prop} {θ0:Th} {w0:World} {cs0:List Frame} {b:Frame}
theorem yP (R:RG P rt nt ops l plan sts M) {S:List Nat} {q:Nat} {X:AHeap} {θ:Th} {a:Act} {w:World} {cs:List Frame} (hI:Inv P base D0 θ0 w0 cs0 b nt rt.ctx.round ops l plan sts M S q X θ a w cs) (hall:∀ i,i<ops.size->i ∈ S) {k:List Item} {m:Machine}
 (hs:Steps P m (lone (b.atR a k) cs w)):Out P base D0 θ0 b nt rt.ctx.round k (sts 0) cs0 w0 m .normal (sts M):=by
 have hD:=DS.below R (D0:=D0) (S:=S) (qf (sts M).H.next);obtain ⟨h1,h2,h3⟩:=R.nX hI.OK (qf M) (λ u j hu1 hu2 hj hc=>by
  have:=(hI.sA j u hj hc).2 (hall j (R.bZ.lt u j hj));omega)
 have hsub:∀ x o,(sts M).H.get x=some o->X.get x=some o:=by
  intro x o hx;rcases h3 x o hx with hx|⟨j,u,k1,k2,k3,k4,k5,rfl,k7⟩
  ·exact hI.J7 x o hx
  ·exact hI.sk j u (hall j (R.bZ.lt u j k3)) k3 k4 k1 k2 k5 o k7
 refine ⟨θ,a,w,cs,.normal,StepsIn.of_steps hs,⟨(hI.heap.sub hsub).up hD,λ t v hv=>?_,hI.size,?_,?_,sg.up (Ag.refl _ _) hD hI.round⟩,hI.grow.sub (R.ext (p:=0) (p':=M) (by omega) (qf _)).1 hsub,trivial,by rw [h2];exact hI.Gv,hI.vN⟩
 ·obtain ⟨c,k1,k2⟩:=q7r R hI (t:=t) (λ j u _ hj _=>hall j (R.bZ.lt u j hj)) v hv;exact ⟨c,k1,k2.up (Ag.refl _ _) hD⟩
 ·rw [h1];exact eC.up (Ag.refl _ _) hD hI.aM
 ·rw [h2];exact mQ.up (Ag.refl _ _) hD hI.up
set_option maxHeartbeats 1000000 in
theorem q5m (R:RG P rt nt ops l plan sts M) (hP:cF P) (hcall:yw P base rt.call) (hround:qZ P base rt.round) (hAP:rt.AP=aP P) (hcm:ve rt.call) (hrm:sF rt.round) {steps:List aL} (hsteps:bX (plan.map (fM ops l (FW ops (aK ops l) plan)))=some steps)
 {r:aC × St} (hends:qD rt steps sts M r) (hfr:cK D0 (sts 0).H.next r.2.H.next) (hMn:(sts M).H.next<=r.2.H.next) (h0:∀ x o,(sts 0).H.get x=some o->D0 x) {L:List Nat} (hL:Order (aK ops l) L) {k:List Item} :
 ∀ (rest S:List Nat),L=S++rest -> ∀ {q:Nat} {X:AHeap} {θ:Th} {a:Act} {w:World} {cs:List Frame} {m:Machine},Inv P base D0 θ0 w0 cs0 b nt rt.ctx.round ops l plan sts M S q X θ a w cs->Steps P m (lone (b.atR a (.inRegion ops rest::k)) cs w) ->
  Out P base D0 θ0 b nt rt.ctx.round k (sts 0) cs0 w0 m r.1 r.2:=by
 have hsl:steps.length=plan.length:=by have:=(sB hsteps).1;simpa using this
 -- where the run ended
 have hend:M=plan.length \/ ∃ j,plan[M]? = some (false,j):=by
  rcases hends with ⟨h1,_⟩|⟨s,vs,c,H',ds,h1,h2,_⟩
  ·left;omega
  ·right;have:=(sB hsteps).2 _ s h1;rw [xg,xe] at this;obtain ⟨⟨ch,j⟩,h3,h4⟩:=this;obtain ⟨o,ca,g,_,_,_,rfl⟩:=Gg h4;have h2:ch=false:=h2;subst h2;exact ⟨j,h3⟩
 intro rest
 induction rest with
 | nil =>
  intro S hLS q X θ a w cs m hI hs;rw [xt] at hLS;have hall:∀ i,i<ops.size->i ∈ S:=λ i hi=>hLS ▸ hL.all i hi;rcases hends with ⟨_,rfl⟩|⟨s,vs,c,H',ds,h1,h2,_⟩
  ·exact yP R hI hall (hs.trans (.one stepR_region_end))
  ·exfalso;rcases hend with h|⟨j,hj⟩
   ·rw [xz (by omega)] at h1;cases h1
   ·obtain ⟨p,hp1,hp2⟩:=hI.Ku j (hall j (R.bZ.lt M j hj));have:=R.bZ.one _ _ _ hj hp1;omega
 | cons i rest ih =>
  intro S hLS q X θ a w cs m hI hs;obtain ⟨hiS,hanc⟩:=hL.dS S i rest hLS;have hin:i<(aK ops l).n:=hL.lt i (by rw [hLS];simp);obtain ⟨p,hp⟩:=R.bZ.all i hin
  by_cases hpM:p<M
  ·obtain ⟨q',X',θ',a',w',cs',g1,g2⟩:=q5n R hP hcall hround hAP hI hp hpM hiS hanc hfr hMn hend h0 (k:=k) (rest:=rest);exact ih (S ++ [i]) (by rw [hLS];simp) g2 (hs.trans g1)
  ·-- the one that panics
   rcases hends with ⟨h1,_⟩|⟨s,vs,c,H',ds,h1,h2,hw,he,hop,hps,rfl⟩
   ·have:=(qe.1 hp).1;omega
   ·have hsM:=(sB hsteps).2 _ s h1;rw [xg,xe] at hsM;obtain ⟨⟨ch,i0⟩,h3,h4⟩:=hsM;obtain ⟨o,ca,g,ho,hla,hsg,rfl⟩:=Gg h4;have h2:ch=false:=h2;subst h2;have hi0S:i0 ∉ S:=λ h=>by
     obtain ⟨p',hp1,hp2⟩:=hI.Ku i0 h;have:=R.bZ.one _ _ _ h3 hp1;omega
    have hps':FW ops (aK ops l) plan i0=some ds:=hps;unfold FW at hps';rcases j8 hps' with ⟨hsafe,hds⟩|⟨_,hds⟩
    ·have hii:i=i0:=by
      have:=KV hsafe i hin;simp only [yj,zp] at this;rcases this with h|h|h
      ·exact h
      ·exfalso;rw [HI] at h;rcases h with h|h
       ·simp at h
       ·obtain ⟨p',k1,k2⟩:=qzl h;have:=R.bZ.one _ _ _ hp k1;subst this;exact k2 M (by omega) h3
      ·exact absurd (hanc i0 h) hi0S
     subst hii;have hpe:=R.bZ.one _ _ _ hp h3;subst hpe;have hco:dT P o=some ca:=by
      have:=(sB R.comp).2 _ ca hla;rw [xg,j6,ho] at this
      simpa using this
     obtain ⟨xs,hxs,hok,hdef⟩:=FM hP hco;obtain ⟨hwant,hopd⟩:=q6m R (s:={ eO:=false,dst:=o.dst,guard:=g,args:=ca.1,op:=ca.2,bG:=FW ops (aK ops l) plan i }) hI hp (qf _) hiS hanc ho hla rfl hsg;have hce:(aK ops l).cls i=.eQ:=by
      have:(aK ops l).cls i=mz ca.2:=by
       have hla':l[i]? = some ca:=hla;simp [aK,kE,hla']
      rw [this];have hop':eP rt (sts p) vs ca.2=some (.panic c H'):=hop;cases hca:ca.2 with
      | pure f=>rw [hca] at hop';simp only [eP,qb,qc,reduceCtorEq,and_false,exists_false] at hop'
      | read f=>rw [hca] at hop';simp only [eP,qb,qc,reduceCtorEq,and_false,exists_false] at hop'
      | alloc f=>rw [hca] at hop';simp only [eP,qb,qc,reduceCtorEq,and_false,exists_false] at hop'
      | _=>rfl
     have hqp:=Hj R hI hp hiS hce;obtain ⟨k1,k2,k3⟩:=Ke R hI hp (qf _) hiS hanc hqp (.inr hce);have hmonoM:(sts p).H.next<=H'.next:=hMn
     have hfresh:=DS.fresh R (S:=S) hp (qf _) hiS hfr (m:=H'.next) (qf _) (λ h=>absurd h (Ai _));have hout:=NB hP hcall hround hAP hok hdef (rest:=rest) (k:=k) (st:=sts p) (cs:=cs) (r:=.panic c H') ho (hwant hw) (hI.heap.sub k3) (by rw [k1];exact hI.aM) (by rw [k2];exact hI.up) hI.round (hopd hxs he) hop hfresh;obtain ⟨θ',w',ps,todo,g1,g2,g3,g4,g5⟩:=hout;have hDD:∀ x,Up (DS D0 plan sts p S) (sts p).H.next H'.next x->Up D0 (sts 0).H.next H'.next x:=by
      rintro x (h|⟨h1,h2⟩)
      ·exact DS.below R hmonoM x h
      ·exact .inr ⟨xj (R.ext (p:=0) (p':=p) (by omega) (qf _)).1 h1,h2⟩
     have hDS:∀ x,DS D0 plan sts p S x->Up D0 (sts 0).H.next H'.next x:=λ x hx=>hDD x (.inl hx)
     have hG:=(hI.grow.sub (R.ext (p:=0) (p':=p) (by omega) (qf _)).1 k3).trans g3 (λ x hx=>.inl hx);refine ⟨θ',a,w',cs,.panic ps,⟨todo,StepsIn.of_steps (hs.trans g1)⟩,⟨g2.up hDD,λ t v hv=>?_,hI.size,?_,?_,sg.up g3.ag hDS hI.round⟩,hG,⟨g4,dH.up (Ag.refl _ _) hDD g5⟩,?_,hI.vN⟩
     ·have hv:(forget ds (sts p).tm).get t=some v:=hv;rw [T.mM] at hv;split at hv
      ·cases hv
      ·rename_i hnt;obtain ⟨c',k4,k5⟩:=q7r R hI (t:=t) (λ j u hu hj hd=>by
        exfalso;apply hnt;injection hds with hds
        rw [<-hds];unfold eJ at hd;rw [qb] at hd;obtain ⟨oj,hoj,hd⟩:=hd;rw [List.mem_filterMap];exact ⟨oj,by have:=Array.mem_of_getElem? hoj;simpa using this,hd⟩) v hv
       exact ⟨c',k4,k5.up g3.ag hDS⟩
     ·show eC _ θ' (sts p).aM a.defers;rw [k1];exact eC.up g3.ag hDS hI.aM
     ·show mQ _ θ' b.kind (sts p).up cs;rw [k2];exact mQ.up g3.ag hDS hI.up
     ·show (sts p).up.isSome=(sts 0).up.isSome;rw [k2];exact hI.Gv
    ·cases hds
end
set_option maxHeartbeats 1000000 in
theorem quv {P:Program} {base:Nat} (hP:cF P) {rt:RT} (hAP:rt.AP=aP P) (hcall:yw P base rt.call) (hround:qZ P base rt.round) (hcm:ve rt.call) (hrm:sF rt.round):Gc P base rt:=by
 intro nt id ops c hc D0 θ0 b k st a cs w r hS hr hf;unfold fC at hc;split at hc
 ·rename_i hdst;simp only [qb,xa] at hc;obtain ⟨l,hl,hc⟩:=hc;rcases j8 hc with ⟨hscan,hc⟩|⟨_,hc⟩
  ·simp only [qb,qc] at hc;obtain ⟨steps,hsteps,rfl⟩:=hc;generalize jE (aK ops l).cls (aK ops l).dS ops.size (2*ops.size) 0 []=plan at hscan hsteps;rw [xh] at hscan;have hF:rK (aK ops l) plan:=u7 rfl rfl hscan.1 hscan.2;have hr:(eG steps).run rt st=some r:=hr;obtain ⟨sts,M,hs0,hM,hrel,hends⟩:=qvi hr;have hsl:steps.length=plan.length:=by have:=(sB hsteps).1;simpa using this
   have hrel':∀ p,p<M -> ∃ q s o ca g,plan[p]? = some q/\ops[q.2]? = some o/\dT P o=some ca/\l[q.2]? = some ca/\guardOf ops o.guard=some g/\s.eO=q.1/\s.dst=o.dst/\s.guard=g/\s.args=ca.1/\s.op=ca.2/\fI rt s (sts p) (sts (p+1)):=by
    intro p hp;obtain ⟨s,h1,h2⟩:=hrel p hp;have:=(sB hsteps).2 _ s h1;rw [xg,xe] at this;obtain ⟨q,h3,h4⟩:=this;obtain ⟨o,ca,g,ho,hla,hsg,rfl⟩:=Gg h4;have hco:dT P o=some ca:=by
     have:=(sB hl).2 _ ca hla;rw [xg,j6,ho] at this
     simpa using this
    exact ⟨q,_,o,ca,g,h3,ho,hco,hla,hsg,rfl,rfl,rfl,rfl,rfl,h2⟩
   have hmono:∀ p,p<M->Ext (sts p).H (sts (p+1)).H:=by
    intro p hp;obtain ⟨q,s,o,ca,g,_,_,hco,_,_,_,_,_,_,hso,h⟩:=hrel' p hp;obtain ⟨xs,_,hok,_⟩:=FM hP hco;cases h with
    | skip hc hw h=>rw [h];exact Ext.refl _
    | look hc d hd h hl=>rw [h];exact Ext.refl _
    | run hc hw vs v d u H' he ho h =>
     rw [hso] at ho;have:=L5 hcm hrm hok.mono ho;rw [h];exact this
   have R:RG P rt nt ops l plan sts M:=⟨hl,hdst,hF,by omega,hrel',hmono⟩
   have hMn:(sts M).H.next<=r.2.H.next:=by
    rcases hends with ⟨_,rfl⟩|⟨s,vs,c,H',ds,h1,_,_,_,hop,_,rfl⟩
    ·exact qf _
    ·have:=(sB hsteps).2 _ s h1;rw [xg,xe] at this;obtain ⟨q,h3,h4⟩:=this;obtain ⟨o,ca,g,ho,hla,hsg,rfl⟩:=Gg h4;have hco:dT P o=some ca:=by
      have:=(sB hl).2 _ ca hla;rw [xg,j6,ho] at this
      simpa using this
     obtain ⟨xs,_,hok,_⟩:=FM hP hco;exact q2d hcm hrm hok.mono hop
   have hL:=qs4 (ops:=ops) (I:=aK ops l) rfl (λ i=>rfl) hF (w.tape w.drawn (.order b.fn id));have hsched:Region.schedule (P.follows .mixedOrders) ops (w.tape w.drawn (.order b.fn id))=Region.linearise .any ops (w.tape w.drawn (.order b.fn id)):=by
    rw [hP.mixed];rfl
   subst hs0;have hI:Inv P base D0 θ0 w cs b nt rt.ctx.round ops l plan sts M [] 0 (sts 0).H θ0 a { w with drawn:=w.drawn+1 } cs:=by
    have hD:DS D0 plan sts M []=D0:=DS.nil;refine ⟨by rw [hD];exact hS.heap.draw rfl,aX.draw rfl rfl rfl rfl,λ x o hx=>hx,λ j p hj=>by simp at hj,xx _,λ i p _ _=>by simp,.inl rfl,by rw [hD];exact hS.aM,by rw [hD];exact hS.up,rfl,dp.refl hS.up,
     λ t=>⟨0,xx _,λ v hv=>by rw [hD];exact hS.oY t v hv,λ j p hj=>by simp at hj,.inl rfl⟩,hS.size,by rw [hD];exact hS.round,λ i hi=>by simp at hi,λ i hi=>by simp at hi⟩
   refine q5m R hP hcall hround hAP hcm hrm hsteps hends hf hMn (λ x o hx=>(hS.heap.obj x o hx).1) hL _ [] rfl hI (.one ?_);rw [stepR_region_draw,hsched];rfl
  ·injection hc with hc;subst hc;cases hr
 ·cases hc
end Go.Am
namespace Go.Am
section
variable {P:Program} {base:Nat}
theorem qxu:∀ (vs:List AV) (i:Nat) (t:T AV) (j:Nat),(gg i vs t).get j=if i<=j/\j<i+vs.length then vs[j-i]? else t.get j
 | [],i,t,j=>by simp [gg];omega
 | v::vs,i,t,j=>by
  rw [gg,qxu vs (i+1),T.aE]
  by_cases h1:i=j
  ·subst h1;rw [qg (by omega),ql rfl,ql (by simp)];simp
  ·simp only [h1,qo,ky]
   by_cases h2:i+1<=j/\j<i+1+vs.length
   ·rw [ql h2,ql (by omega)];obtain ⟨k,rfl⟩:∃ k,j=i+1+k:=⟨j-(i+1),by omega⟩
    rw [show i+1+k-(i+1)=k from by omega,show i+1+k-i=k+1 from by omega];simp
   ·rw [qg h2,qg (by omega)]
theorem Ez {D:Nat->Prop} {θ:Th} {vs:List AV} {args:Array Value} (h:bt D θ vs args.toList) (n:Nat):lV D θ (gg 0 vs .nil) (args++Array.replicate n undef):=by
 intro t v hv;rw [qxu,T.get_nil] at hv;split at hv
 ·rename_i ht;rw [E5] at hv;obtain ⟨c,h1,h2⟩:=h.mu hv;refine ⟨c,?_,h2⟩;rw [j6] at h1;rw [Array.getElem?_append_left]
  ·exact h1
  ·exact (jw.1 h1).1
 ·cases hv
theorem zH {D:Nat->Prop} {θ:Th}:∀ {ps:List Nat} {vs:List AV} {cs:List Value} {tm tm1:T AV} {a:Array Value},Dy tm ps vs=some tm1->bt D θ vs cs->(∀ p ∈ ps,p<a.size)->lV D θ tm a ->
 cs.length=ps.length/\lV D θ tm1 ((ps.zip cs).foldl (λ tmps (t,x)=>tmps.setIfInBounds t x) a)/\((ps.zip cs).foldl (λ tmps (t,x)=>tmps.setIfInBounds t x) a).size=a.size
 | [],[],cs,tm,tm1,a,h,hv,hp,ht=>by
  injection h with h;subst h
  rw [hv.nR];exact ⟨rfl,ht,rfl⟩
 | p::ps,v::vs,cs,tm,tm1,a,h,hv,hp,ht=>by
  obtain ⟨c,cs',rfl,h1,h2⟩:=hv.dW;obtain ⟨k1,k2,k3⟩:=zH (tm:=tm.set p v) (a:=a.setIfInBounds p c) h h2 (λ q hq=>by simpa using hp q (by simp [hq])) (ht.put (hp p (by simp)) h1);refine ⟨by simp [k1],by simpa using k2,?_⟩;simp only [List.zip_cons_cons,Fj];rw [k3];simp
 | [],_::_,_,_,_,_,h,_,_,_=>by cases h
 | _::_,[],_,_,_,_,h,_,_,_=>by cases h
def sf (a:Array Value):ResultVar->Sem Value
 | .tmp t=>pure (a.getD t undef)
 | .cell x t=>do loadVar t (<-asAddr (a.getD x undef))
theorem q38 (fn:Func) (a:Array Value):results fn a=(do let vs <-fn.results.mapM (sf a);pure (if h:vs.size=1 then vs[0] else .tuple vs)):=rfl
theorem qy8 {D:Nat->Prop} {θ:Th} {H:AHeap} {w:World} (hh:HR P base D θ H w) {tm:T AV} {a:Array Value} (ht:lV D θ tm a) {r:ResultVar} {rs:List ResultVar} {ar:cu} {ars:List cu}
 (hc:mJ P (r::rs)=some (ar::ars)) {v:AV} (hv:Gl H tm ar=some v):mJ P rs=some ars /\ ∃ c,(sf a r).run P w=.ok c w/\VR D θ v c:=by
 cases r with
 | tmp t =>
  simp only [mJ,qb,qc,zi] at hc;obtain ⟨l,hl,rfl,rfl⟩:=hc;obtain ⟨c,h1,h2⟩:=ht t v hv;exact ⟨hl,c,by simp [sf,h1],h2⟩
 | cell x t =>
  simp only [mJ,qb,qc,zi] at hc;obtain ⟨n,hn,l,hl,rfl,rfl⟩:=hc;refine ⟨hl,?_⟩;obtain ⟨g1,g2⟩:=LG (w:=w) hn;cases n with
  | none =>
   simp only [Gl,qb] at hv;obtain ⟨u,hu,hv⟩:=hv;split at hv
   ·rename_i b o;obtain ⟨c,h1,h2⟩:=ht x _ hu;obtain ⟨c',k1,k2⟩:=hh.ae hv;have hc1:a.getD x undef=.pointer (some ⟨θ.bz b,θ.off b+o,none⟩):=by
     have:=h2.now;simp only [aB] at this;simp [jo,h1,<-this]
    exact ⟨c',by simp only [sf,hc1,asAddr,Sem.run_bind,Sem.run_pure,Result.andThen_ok,loadVar,g1,JU,ko,qo,k1],k2⟩
   ·cases hv
  | some n =>
   simp only [Gl,qb] at hv;obtain ⟨u,hu,hv⟩:=hv;split at hv
   ·rename_i b o;obtain ⟨c,h1,h2⟩:=ht x _ hu;simp only [qb,qc] at hv;obtain ⟨l',hl',rfl⟩:=hv;obtain ⟨c',k1,k2,_⟩:=hh.aG hl';have hc1:a.getD x undef=.pointer (some ⟨θ.bz b,θ.off b+o,none⟩):=by
     have:=h2.now;simp only [aB] at this;simp [jo,h1,<-this]
    exact ⟨.agg c'.toArray,by simp only [sf,hc1,asAddr,Sem.run_bind,Sem.run_pure,Result.andThen_ok,loadVar,g1,DX,xa,g2 n rfl,k1],.agg k2⟩
   ·cases hv
theorem qtq {D:Nat->Prop} {θ:Th} {H:AHeap} {w:World} (hh:HR P base D θ H w) {tm:T AV} {a:Array Value} (ht:lV D θ tm a):∀ {rs:List ResultVar} {ars:List cu},mJ P rs=some ars -> ∀ {vs:List AV},cG H tm ars=some vs ->
 ∃ cs:List Value,(rs.mapM (sf a)).run P w=.ok cs w/\bt D θ vs cs
 | [],ars,hc,vs,hv=>by
  injection hc with hc;subst hc
  injection hv with hv;subst hv
  exact ⟨[],by simp,.nil⟩
 | r::rs,ars,hc,vs,hv=>by
  obtain ⟨ar,ars',rfl⟩:∃ x l,ars=x::l:=by
   cases r<;>(simp only [mJ,qb,qc] at hc)<;>grind
  simp only [cG,qb,qc] at hv;obtain ⟨v,h1,vs',h2,rfl⟩:=hv;obtain ⟨hl,c,k1,k2⟩:=qy8 hh ht hc h1;obtain ⟨cs,k3,k4⟩:=qtq hh ht hl h2;refine ⟨c::cs,?_,.cons k2 k4⟩;rw [List.mapM_cons];simp only [Sem.run_bind,k1,Result.andThen_ok,k3,Sem.run_pure]
theorem q02 {D:Nat->Prop} {θ:Th} {H:AHeap} {w:World} (hh:HR P base D θ H w) {tm:T AV} {a:Array Value} (ht:lV D θ tm a) {fn:Func} {ars:List cu} (hc:mJ P fn.results.toList=some ars) {vs:List AV} (hv:cG H tm ars=some vs) :
 ∃ c,(results fn a).run P w=.ok c w/\VR D θ (dq vs) c:=by
 obtain ⟨cs,h1,h2⟩:=qtq hh ht hc hv;have hl:=h2.length;rw [q38,Array.mapM_eq_mapM_toList];simp only [map_eq_pure_bind,bind_assoc,Sem.run_bind];refine ⟨if h:cs.toArray.size=1 then cs.toArray[0] else .tuple cs.toArray,?_,?_⟩
 ·rw [h1];simp
 ·cases vs with
  | nil=>rw [h2.nR];exact .tuple .nil
  | cons v vs =>
   cases vs with
   | nil =>
    obtain ⟨c,cs',rfl,k1,k2⟩:=h2.dW;rw [k2.nR];exact k1
   | cons v' vs =>
    have:¬ cs.toArray.size=1:=by simp at hl ⊢;omega
    rw [dif_neg this];exact .tuple h2
def mR (D:Nat->Prop) (θ:Th):Option aw->FrameMode->Prop
 | none,.returning=>True
 | some c,.panicking ps=>c ≠ []/\dH D θ c ps
 | _,_=>False
theorem quq {fr:Frame} {cs:List Frame} {w:World} {r:Nat} {ds:List Deferred} (hm:fr.mode ≠ .run) (hd:fr.defers = { target:=.collected r,args:=#[] }::ds) (h:w.heap[r]? = some (.deferred (some []))) :
 step P (lone fr cs w)=.next (lone { fr with defers:=ds } cs (dZ w r (.deferred none))):=by
 refine step_lone_go ?_;have ht:=run_takeDeferred (P:=P) h;cases hmode:fr.mode with
 | run=>exact absurd hmode hm
 | returning=>simp [stepG,unwind,hmode,hd,Sem.runT_eq,ht];rfl
 | panicking ch=>simp [stepG,unwind,hmode,hd,Sem.runT_eq,ht];rfl
theorem zL {D:Nat->Prop} {θ:Th} {m:Option aw} {up:aw} {m':Option aw} (h:jU m up=some m') {u:FrameMode} (hu:mH D θ up u):mR D θ m' (settle u):=by
 have hdrop:∀ {c:aw} {ps:List PanicEntry},dH D θ c ps->ps.dropWhile (!·.goexit)=[]:=by
  intro c
  induction c with
  | nil=>intro ps h;cases ps with
   | nil=>rfl
   | cons _ _=>exact h.elim
  | cons e es ih =>
   intro ps h;cases ps with
   | nil=>rfl
   | cons p ps =>
    obtain ⟨⟨_,_,h3⟩,h4⟩:=h;simp [List.dropWhile_cons,h3,ih h4]
 unfold jU at h;split at h
 ·injection h with h;subst h
  cases u with
  | run=>exact hu.elim
  | returning=>trivial
  | panicking ps=>exact absurd rfl hu.1
 ·injection h with h;subst h
  cases u with
  | run=>exact hu.elim
  | returning=>cases hu
  | panicking ps =>
   obtain ⟨_,hu⟩:=hu;cases ps with
   | nil=>exact hu.elim
   | cons p ps =>
    obtain ⟨⟨h1,h2,h3⟩,h4⟩:=hu;obtain ⟨pv,pr,pg⟩:=p;simp only at h2 h3;subst h2;subst h3;simp only [settle,hdrop h4,mR]
 ·injection h with h;subst h
  cases u with
  | run=>exact hu.elim
  | returning=>cases hu
  | panicking ps =>
   obtain ⟨hne,hu⟩:=hu;cases ps with
   | nil=>exact hu.elim
   | cons p ps =>
    have hu':=hu;obtain ⟨⟨h1,h2,h3⟩,h4⟩:=hu;obtain ⟨pv,pr,pg⟩:=p;simp only at h2 h3;subst h2;subst h3;simp only [settle,mR];exact ⟨hne,hu'⟩
 ·cases h
theorem M4 (hP:cF P) {call:bu} (hcall:yw P base call) (hcm:ve call) {fn:Func} {rs:List cu} (hrs:mJ P fn.results.toList=some rs) {tm:T AV} :
 ∀ (ds:List aD) {m:Option aw} {D:Nat->Prop} {θ:Th} {H:AHeap} {w:World} {r:bg × AHeap} {fr:Frame} {cs:List Frame},bA call rs tm ds m H=some r->HR P base D θ H w->eC D θ ds fr.defers->mR D θ m fr.mode->lV D θ tm fr.tmps ->
  P.funcs[fr.fn]? = some fn->cK D H.next r.2.next ->
  ∃ θ' w' fr' e',Steps P (lone fr cs w) (lone fr' cs w')/\fr'.fn=fr.fn/\fr'.kind=fr.kind/\fr'.going P w' e'/\HV (Up D H.next r.2.next) θ' r.1 e'/\HR P base (Up D H.next r.2.next) θ' r.2 w'/\aX D H θ w r.2 θ' w'
 | [],m,D,θ,H,w,r,fr,cs,h,hh,hd,hm,ht,hf,hfr=>by
  have hds:fr.defers=[]:=by
   cases hq:fr.defers with
   | nil=>rfl
   | cons _ _=>rw [hq] at hd;exact hd.elim
  cases m with
  | none =>
   simp only [bA,qb,qc] at h;obtain ⟨l,hl,rfl⟩:=h;obtain ⟨c,h1,h2⟩:=q02 hh ht hrs hl;have hmode:fr.mode=.returning:=by
    cases hq:fr.mode<;>rw [hq] at hm<;>first|rfl|exact hm.elim
   exact ⟨θ,w,fr,.returned c,.refl _ _,rfl,rfl,⟨hmode,hds,fn,hf,h1⟩,by rw [Up.none];exact h2,by rw [Up.none];exact hh,.refl _ _ _ _⟩
  | some c =>
   injection h with h;subst h
   cases hq:fr.mode with
   | run=>rw [hq] at hm;exact hm.elim
   | returning=>rw [hq] at hm;exact hm.elim
   | panicking ps =>
    rw [hq] at hm;exact ⟨θ,w,fr,.panicked ps,.refl _ _,rfl,rfl,⟨hq,hds,fn,hf⟩,by rw [Up.none];exact hm,by rw [Up.none];exact hh,.refl _ _ _ _⟩
 | .fT b::ds,m,D,θ,H,w,r,fr,cs,h,hh,hd,hm,ht,hf,hfr=>by
  simp only [bA] at h;split at h
  ·rename_i hget;obtain ⟨hDb,co,hco,ds0,rfl,hds0⟩:=hh.obj _ _ hget;cases ds0 with
   | none=>exact hds0.elim
   | some l' =>
    obtain ⟨_,hl'⟩:=hds0;have hl':l'=[]:=hl';subst hl';cases hq:fr.defers with
    | nil=>rw [hq] at hd;exact hd.elim
    | cons e es =>
     rw [hq] at hd;obtain ⟨⟨_,he⟩,hd⟩:=hd;subst he;have hrun:fr.mode ≠ .run:=by intro q;rw [q] at hm;cases m<;>exact hm.elim
     have hst:=quq (P:=P) (cs:=cs) hrun hq hco;have hset:=hh.set (o':=.deferred none) (co':=.deferred none) hget rfl rfl ⟨none,rfl,trivial⟩;have gset:aX D H θ w (H.set b (.deferred none)) θ (dZ w (θ.bz b) (.deferred none)):=aX.set hget rfl (hh.lt hget);obtain ⟨θ',w',fr',e',k1,k2,k3,k4,k5,k6,k7⟩:=M4 hP hcall hcm hrs ds (fr:={ fr with defers:=es }) (cs:=cs) h hset hd hm ht hf hfr;exact ⟨θ',w',fr',e',.head hst k1,k2,k3,k4,k5,k6,gset.trans k7 (λ _ h=>h)⟩
  ·cases h
 | .fn (.func f) args::ds,m,D,θ,H,w,r,fr,cs,h,hh,hd,hm,ht,hf,hfr=>by
  simp only [bA,qb] at h;obtain ⟨⟨e,u,H1⟩,hc,h⟩:=h;simp only at h;cases e with
  | panic _=>cases h
  | ret v =>
   cases u with
   | none=>cases h
   | some up' =>
    simp only [qb] at h;obtain ⟨m',hm',h⟩:=h;have hmono:=qpl hcm h;have hmono1:=(hcm _ _ _ _ _ _ _ hc).1;cases hq:fr.defers with
    | nil=>rw [hq] at hd;exact hd.elim
    | cons dd es =>
     rw [hq] at hd;obtain ⟨⟨c,cap,he,h4,h5⟩,hd⟩:=hd;subst he;have hrun:fr.mode ≠ .run:=by intro q;rw [q] at hm;cases m<;>exact hm.elim
     have hmode:mH D θ (m.getD []) fr.mode:=by
      cases m with
      | none =>
       cases hq2:fr.mode with
       | run=>exact absurd hq2 hrun
       | returning=>rfl
       | panicking ps=>rw [hq2] at hm;exact hm.elim
      | some ch =>
       cases hq2:fr.mode with
       | run=>exact absurd hq2 hrun
       | returning=>rw [hq2] at hm;exact hm.elim
       | panicking ps=>rw [hq2] at hm;exact hm
     obtain ⟨⟨fn2,c2,k1,k2⟩,θ',w',cs',sR,e',s1,s2,s3,s4,s5,s6,s7,s8,s9,s10⟩:=hcall D θ H w f args (c++cap) (some (m.getD [])) H1 (.ret v) (some up') .deferred ({ fr with defers:=es }::cs) hh h5 ⟨rfl,hmode⟩ hc (hfr.left hmono);obtain ⟨um,rfl⟩:=s9;have hst:=step_defer (P:=P) (cs:=cs) hrun hq (f:=f) (args:=c++cap) rfl (by
      show (callFunc f (c++cap)).run P w=_;exact Is hP k1 k2)
     cases e' with
     | panicked _=>exact s5.elim
     | outgrown=>exact s5.elim
     | returned cv =>
      have hback:=step_going_returned (P:=P) (c:={ { fr with defers:=es } with mode:=um }) (cs:=cs) s2 s4;have hm2:=zL hm' s10.2;obtain ⟨θ2,w2,fr3,e3,r1,r2,r3,r4,r5,r6,r7⟩:=M4 hP hcall hcm hrs ds (fr:={ { { fr with defers:=es } with mode:=um } with mode:=settle um }) (cs:=cs) h s6 (eC.up s7.ag Up.of hd) hm2 (ht.up s7.ag Up.of) hf (hfr.right hmono1);rw [Up.up hmono1 hmono] at r5 r6;exact ⟨θ2,w2,fr3,e3,.head hst (s1.trans (.head hback r1)),r2,r3,r4,r5,r6,s7.trans r7 Up.of⟩
 | .fn (.yield _) _::_,m,D,θ,H,w,r,fr,cs,h,_,_,_,_,_,_=>by simp [bA] at h
theorem q3c (hP:cF P) {call:bu} {n:Nat} (hcall:yw P base call) (hcm:ve call) (hround:qZ P base (rounds (aP P) call n n)) (hrm:sF (rounds (aP P) call n n))
 (hdraw:∀ rt:RT,rt.AP=aP P->yw P base rt.call->qZ P base rt.round->ve rt.call->sF rt.round->Gc P base rt):yw P base (AY (aP P) call n):=by
 intro D θ H w f vs args up H' e up' kind cs hh hv hu h hf;simp only [AY,qb] at h;obtain ⟨af,haf,⟨x,bS⟩,hq,h⟩:=h;simp only [aP,qb] at haf;obtain ⟨fn,hfn,haf⟩:=haf;have haf':=haf;simp only [pB,qb,qc] at haf';obtain ⟨body,hbody,⟨ac,L⟩,hac,rs,hrs,rfl⟩:=haf';refine ⟨⟨fn,body,hfn,hbody⟩,?_⟩;have hfin:∃ m,(match x with | .normal=>m=none | .ret=>m=none | .panic c=>m=some c|_=>False) /\ ∃ q,bA call rs bS.tm bS.aM m bS.H=some q/\e=q.1/\up'=bS.up/\H'=q.2:=by
  unfold mh at h;cases x with
  | normal =>
   simp only [qb,qc,xn] at h;obtain ⟨q,h1,h2,h3,h4⟩:=h;exact ⟨none,rfl,q,h1,h2.symm,h3.symm,h4.symm⟩
  | ret =>
   simp only [qb,qc,xn] at h;obtain ⟨q,h1,h2,h3,h4⟩:=h;exact ⟨none,rfl,q,h1,h2.symm,h3.symm,h4.symm⟩
  | panic c =>
   simp only [qb,qc,xn] at h;obtain ⟨q,h1,h2,h3,h4⟩:=h;exact ⟨some c,rfl,q,h1,h2.symm,h3.symm,h4.symm⟩
  | exit _=>cases h
  | goto _=>cases h
 obtain ⟨m,hm,⟨e1,H1⟩,hun,rfl,rfl,rfl⟩:=hfin;have hmono2:=qpl hcm hun;have hcmn:=(pP hP body hac).1;have hmono1:H.next<=bS.H.next:=GJ (rt:=⟨aP P,call,rounds (aP P) call n n,n,⟨none,f⟩⟩) hcm hrm hcmn hq
 let b:Frame:={ (default:Frame) with fn:=f,kind:=kind }
 have henter:Frame.enter P f args kind=b.atR { tmps:=args++Array.replicate (fn.ntmps-args.size) undef,defers:=[] } [.code body]:=by
  simp [Frame.enter,Frame.atR,hfn,hbody,b];rfl
 have hS:SR P base D θ b fn.ntmps none { tm:=gg 0 vs .nil,aM:=[],up:=up,H:=H } { tmps:=args++Array.replicate (fn.ntmps-args.size) undef,defers:=[] } cs w :=
  ⟨hh,Ez hv _,by simp;omega,trivial,hu,rfl⟩
 have hout:=tv (rt:=⟨aP P,call,rounds (aP P) call n n,n,⟨none,f⟩⟩) hP hcall hround rfl hcm hrm (hdraw _ rfl hcall hround hcm hrm) hfn haf body hac (λ i l hl=>by rw [jy];exact hl) (b:=b) (k:=[]) hS rfl hq (hf.left hmono2);rw [<-henter] at hout;obtain ⟨θ1,a1,w1,cs1,e1',h1,h2,h3,h4,h5,h6⟩:=hout
 -- the frame that unwinds
 obtain ⟨fr,k1,k2,k3,k4,k5,k6⟩:∃ fr:Frame,Steps P (lone (Frame.enter P f args kind) cs w) (lone fr cs1 w1)/\fr.fn=f/\fr.kind=kind/\fr.defers=a1.defers/\fr.tmps=a1.tmps/\mR (Up D H.next bS.H.next) θ1 m fr.mode:=by
  cases x with
  | normal =>
   have hm:m=none:=hm;subst hm;cases e1'<;>try exact h4.elim
   exact ⟨{ b.atR a1 [] with mode:=.returning },(StepsIn.steps h1).trans (.one (stepR_end rfl)),rfl,rfl,rfl,rfl,trivial⟩
  | ret =>
   have hm:m=none:=hm;subst hm;cases e1'<;>try exact h4.elim
   obtain ⟨todo,hs⟩:=h1.1 rfl;exact ⟨{ b.atR a1 todo with mode:=.returning },StepsIn.steps hs,rfl,rfl,rfl,rfl,trivial⟩
  | panic c =>
   have hm:m=some c:=hm;subst hm;cases e1'<;>try exact h4.elim
   rename_i ps;obtain ⟨todo,hs⟩:=h1;exact ⟨{ b.atR a1 todo with mode:=.panicking ps },StepsIn.steps hs,rfl,rfl,rfl,rfl,h4⟩
  | exit _=>exact hm.elim
  | goto _=>exact hm.elim
 obtain ⟨θ',w',fr',e',r1,r2,r3,r4,r5,r6,r7⟩:=M4 hP hcall hcm hrs bS.aM (fr:=fr) (cs:=cs1) hun h2.heap (by rw [k4];exact h2.aM) k6 (by rw [k5];exact h2.oY) (by rw [k2];exact hfn) (hf.right hmono1);rw [Up.up hmono1 hmono2] at r5 r6;refine ⟨θ',w',cs1,fr',e',k1.trans r1,r3.trans k3,r2.trans k2,r4,r5,r6,h3.trans r7 Up.of,h5,h6,?_⟩;have:=mQ.up (D':=Up (Up D H.next bS.H.next) bS.H.next H'.next) r7.ag Up.of h2.up;rw [Up.up hmono1 hmono2] at this;exact this
theorem q39 (hP:cF P) {call:bu} {m n:Nat} (hcall:yw P base call) (hcm:ve call) (hround:qZ P base (rounds (aP P) call m n)) (hrm:sF (rounds (aP P) call m n))
 (hdraw:∀ rt:RT,rt.AP=aP P->yw P base rt.call->qZ P base rt.round->ve rt.call->sF rt.round->Gc P base rt):qZ P base (rounds (aP P) call m (n+1)):=by
 intro D θ H w l vs args H' e c cs hh hv h hf;simp only [rounds,roundOf] at h;split at h
 ·rename_i ls pd f k tm d hget;simp only [qb] at h;obtain ⟨af,haf,lp,hlp,tm1,htm1,⟨x,bS⟩,hq,h⟩:=h;simp only [aP,qb] at haf;obtain ⟨fn,hfn,haf⟩:=haf;obtain ⟨hDl,co,hco,r,rfl,r1,r2,r3,r4,⟨fn',af',lp',ka,kb,L1,L2,q1,q2,q3,q4,q5,q6,q7,q8,q9,q10⟩,r6,r7⟩:=hh.obj _ _ hget;have:fn'=fn:=by rw [hfn] at q1;injection q1 with q1;exact q1.symm
  subst this;have:af'=af:=by rw [haf] at q2;injection q2 with q2;exact q2.symm
  subst this;have:lp'=lp:=by rw [hlp] at q3;injection q3 with q3;exact q3.symm
  subst this;rw [q4] at htm1;obtain ⟨z1,z2,z3⟩:=zH htm1 hv (λ p hp=>qk (q5 p hp) q6) r4;have hsz:args.size=r.params.size:=by simpa using z1
  have hzip:(r.params.zip args).foldl (λ tmps (t,x)=>tmps.setIfInBounds t x) r.tmps=(r.params.toList.zip args.toList).foldl (λ tmps (t,x)=>tmps.setIfInBounds t x) r.tmps:=by
   rw [<-Array.foldl_toList,Array.toList_zip]
  have hy:=run_yield (P:=P) (args:=args) hco hsz;refine ⟨r.fn,_,r.assign,r.body,hy,?_⟩;rw [hzip];generalize (r.params.toList.zip args.toList).foldl (λ tmps (t,x)=>tmps.setIfInBounds t x) r.tmps=tmps at z2 z3;cases x with
  | exit _=>cases h
  | goto _=>cases h
  | ret=>cases h
  | panic _=>cases h
  | normal =>
  simp only [qb] at h;obtain ⟨H2,hb,⟨x2,st2⟩,hq2,h⟩:=h;rcases j8 h with ⟨hnd,h⟩|⟨_,h⟩
  ·have hma:=(pP hP r.assign q7).1;have hmb:=(pP hP r.body q9).1;have hm1:H.next<=bS.H.next:=GJ (rt:=⟨aP P,call,rounds (aP P) call m n,m,⟨some l,f⟩⟩) hcm hrm hma hq
   have hm2:H2.next<=st2.H.next:=GJ (rt:=⟨aP P,call,rounds (aP P) call m n,m,⟨some l,f⟩⟩) hcm hrm hmb hq2
   have hbn:H2.next=bS.H.next:=qrz hb
   have hend:H'.next=st2.H.next:=by
    unfold AW at h;split at h
    ·injection h with h;injection h with _ h;subst h;rfl
    ·simp only [qb,qc,xn] at h;obtain ⟨H3,h3,_,rfl⟩:=h;exact qzd h3
   let b:Frame:={ (default:Frame) with fn:=r.fn,kind:=.normal,roundOf:=some (θ.bz l) }
   have hb0:Frame.round (θ.bz l) r.fn tmps r.assign r.body .normal=b.atR { tmps:=tmps,defers:=[] } [.code r.assign,.beginRound,.code r.body]:=by
    simp [Frame.round,Frame.atR,b]
   have hS:SR P base D θ b fn'.ntmps (some l) { tm:=tm1,aM:=[],up:=none,H:=H } { tmps:=tmps,defers:=[] } (c::cs) w :=
    ⟨hh,z2,by show fn'.ntmps<=tmps.size;omega,trivial,rfl,hDl,rfl⟩
   have hdr:=hdraw ⟨aP P,call,rounds (aP P) call m n,m,⟨some l,f⟩⟩ rfl hcall hround hcm hrm;obtain ⟨θ1,a1,w1,cs1,s1,s2,s3,s4,s5⟩:=(tv (rt:=⟨aP P,call,rounds (aP P) call m n,m,⟨some l,f⟩⟩) hP hcall hround rfl hcm hrm hdr hfn haf r.assign q7 q8 (b:=b) (k:=[.beginRound,.code r.body]) hS r3 hq (hf.left (by show bS.H.next<=H'.next;omega))).normal;rw [<-hb0] at s1;have hcs1:cs1=c::cs:=s5;subst hcs1
   -- the round begins
   have hblk1:θ1.bz l = θ.bz l:=(s3.ag l hDl).1;unfold beginRound at hb;split at hb
   ·rename_i pd1 f1 k1 tm2 d1 hget1;injection hb with hb;subst hb
    obtain ⟨hDl1,co1,hco1,rl,rfl,y1,y2,y3,y4,y5,y6,y7⟩:=s2.heap.obj _ _ hget1;have hset:=s2.heap.set (o':=.loop .busy pd1 f1 k1 tm2 d1) (co':=.loop { rl with state:=.busy }) hget1 rfl rfl ⟨_,rfl,rfl,y2,y3,y4,y5,y6,y7⟩;have gset:aX (Up D H.next bS.H.next) bS.H θ1 w1 (bS.H.set l (.loop .busy pd1 f1 k1 tm2 d1)) θ1 (dZ w1 (θ1.bz l) (.loop { rl with state:=.busy })):=aX.set hget1 rfl (s2.heap.lt hget1);have hbr:=run_beginRound (P:=P) hco1 y1;rw [hblk1] at hbr;have hst2:=stepR_beginRound (P:=P) (b:=b) (a:=a1) (k:=[.code r.body]) (cs:=c::cs) (w:=w1) rfl hbr;have hS2:SR P base (Up D H.next bS.H.next) θ1 b fn'.ntmps (some l) { bS with H:=bS.H.set l (.loop .busy pd1 f1 k1 tm2 d1) } a1 (c::cs) (dZ w1 (θ1.bz l) (.loop { rl with state:=.busy })) :=
     ⟨hset,s2.oY,s2.size,s2.aM,s2.up,s2.round⟩
    have hf2:cK (Up D H.next bS.H.next) bS.H.next st2.H.next:=(hend ▸ hf).right hm1
    obtain ⟨θ2,a2,w2,cs2,e2,v1,v2,v3,v4,v5,v6⟩:=tv (rt:=⟨aP P,call,rounds (aP P) call m n,m,⟨some l,f⟩⟩) hP hcall hround rfl hcm hrm hdr hfn haf r.body q9 q10 (b:=b) (k:=[]) hS2 r3 hq2 hf2;have hcs2:cs2=c::cs:=by
     have hu1:bS.up=none:=by
      cases hq3:bS.up with
      | none=>rfl
      | some _=>rw [hq3] at s4;cases s4
     have v6':dp bS.up (c::cs) cs2:=v6;rw [hu1] at v6';exact v6'
    subst hcs2;have hnx:({ bS with H:=bS.H.set l (.loop .busy pd1 f1 k1 tm2 d1) }:St).H.next=bS.H.next:=rfl
    rw [hnx] at v2 v4;have hupp:Up (Up D H.next bS.H.next) bS.H.next st2.H.next=Up D H.next H'.next:=by rw [Up.up hm1 hm2,hend]
    rw [hupp] at v2 v4;have gall:aX D H θ w st2.H θ2 w2:=(s3.trans gset Up.of).trans v3 Up.of;have hpre:Steps P (lone (Frame.round (θ.bz l) r.fn tmps r.assign r.body .normal) (c::cs) w) (lone (b.atR a1 [.code r.body]) (c::cs) (dZ w1 (θ1.bz l) (.loop { rl with state:=.busy }))):=by
     refine s1.trans (.one ?_);rw [hst2,hblk1];rfl
    have hdfs:a2.defers=[]:=by
     have:=v2.aM;cases hq3:st2.aM with
     | nil =>
      rw [hq3] at this;cases hq4:a2.defers with
      | nil=>rfl
      | cons _ _=>rw [hq4] at this;exact this.elim
     | cons _ _=>simp only [hq3] at hnd;cases hnd
    have hfinish:∀ (ls:i7) (p:Option eI),bJ st2.H l ls p=some H'->(stR ls=if (p.map iP).isNone then LoopState.ready else LoopState.done) ->
     ∃ w3,(Instr.endRound (θ.bz l) (p.map iP)).run P w2=.ok (.bool (p.map iP).isNone) w3/\HR P base (Up D H.next H'.next) θ2 H' w3/\aX D H θ w H' θ2 w3:=by
     intro ls p hs hls;unfold bJ at hs;split at hs
     ·rename_i ls2 pd2 f2 k2 tm3 d2 hget2;injection hs with hs;subst hs
      obtain ⟨hDl2,co2,hco2,rl2,rfl,y1',y2',y3',y4',y5',y6',y7'⟩:=v2.heap.obj _ _ hget2;have hblk2:θ2.bz l = θ.bz l:=(gall.ag l hDl).1;have her:=run_endRound (P:=P) (p.map iP) hco2;rw [hblk2] at her;refine ⟨_,her,?_,?_⟩
      ·have:=v2.heap.set (o':=.loop ls p f2 k2 tm3 d2) (co':=.loop { rl2 with state:=if (p.map iP).isNone then .ready else .done,pending:=p.map iP }) hget2 rfl rfl ⟨_,rfl,hls.symm,rfl,y3',y4',y5',y6',y7'⟩;rw [hblk2] at this;exact this
      ·have:aX (Up D H.next (st2.H.set l (.loop ls p f2 k2 tm3 d2)).next) st2.H θ2 w2 (st2.H.set l (.loop ls p f2 k2 tm3 d2)) θ2 (dZ w2 (θ2.bz l) (.loop { rl2 with state:=if (p.map iP).isNone then .ready else .done,pending:=p.map iP })):=aX.set hget2 rfl (v2.heap.lt hget2);rw [hblk2] at this;exact gall.trans this Up.of
     ·cases hs
    unfold AW at h;cases x2 with
    | panic ch =>
     injection h with h;injection h with h1 h2;subst h1;subst h2
     cases e2<;>try exact v4.elim
     rename_i ps;obtain ⟨todo,hs⟩:=v1;refine ⟨θ2,w2,c.raise ps,hpre.trans ((StepsIn.steps hs).trans (.one ?_)),⟨ps,v4.1,v4.2,rfl⟩,v2.heap,gall⟩;exact step_leave_panicked (fr:={ b.atR a2 todo with mode:=.panicking ps }) ⟨rfl,hdfs,fn',by show P.funcs[r.fn]? = some fn';rw [r3];exact hfn⟩
    | normal =>
     simp only [qb,qc,xn] at h;obtain ⟨H3,h3,rfl,rfl⟩:=h;obtain ⟨w3,g1,g2,g3⟩:=hfinish _ _ h3 rfl;cases e2<;>try exact v4.elim
     exact ⟨θ2,w3,_,hpre.trans ((StepsIn.steps v1).trans (.one (stepR_round_end rfl rfl g1))),⟨_,.bool _,rfl⟩,g2,g3⟩
    | ret =>
     simp only [qb,qc,xn] at h;obtain ⟨H3,h3,rfl,rfl⟩:=h;obtain ⟨w3,g1,g2,g3⟩:=hfinish _ _ h3 rfl;cases e2<;>try exact v4.elim
     obtain ⟨k1,hs⟩:=v1.2 rfl;exact ⟨θ2,w3,_,hpre.trans ((StepsIn.steps hs).trans (.one (stepR_round_ret rfl rfl g1))),⟨_,.bool _,rfl⟩,g2,g3⟩
    | exit id =>
     simp only [qb,qc,xn] at h;obtain ⟨H3,h3,rfl,rfl⟩:=h;obtain ⟨w3,g1,g2,g3⟩:=hfinish _ _ h3 rfl;cases e2<;>try exact v4.elim
     rename_i j;have v4:j=id:=v4;subst v4;obtain ⟨k1,hx,hs⟩:=v1.2 rfl rfl;exact ⟨θ2,w3,_,hpre.trans ((StepsIn.steps hs).trans (.one (stepR_round_exit rfl rfl hx g1))),⟨_,.bool _,rfl⟩,g2,g3⟩
    | goto t =>
     simp only [qb,qc,xn] at h;obtain ⟨H3,h3,rfl,rfl⟩:=h;obtain ⟨w3,g1,g2,g3⟩:=hfinish _ _ h3 rfl;cases e2<;>try exact v4.elim
     rename_i j;have v4:j=t:=v4;subst v4;obtain ⟨k1,hx,hs⟩:=v1.2 rfl rfl;exact ⟨θ2,w3,_,hpre.trans ((StepsIn.steps hs).trans (.one (stepR_round_goto rfl rfl hx g1))),⟨_,.bool _,rfl⟩,g2,g3⟩
   ·cases hb
  ·cases h
 ·cases h
theorem qpj (hP:cF P) {call:bu} {m:Nat} (hcall:yw P base call) (hcm:ve call)
 (hdraw:∀ rt:RT,rt.AP=aP P->yw P base rt.call->qZ P base rt.round->ve rt.call->sF rt.round->Gc P base rt):∀ n,qZ P base (rounds (aP P) call m n)
 | 0=>by intro D θ H w l vs args H' e c cs _ _ h;cases h
 | n+1=>q39 hP hcall hcm (qpj hP hcall hcm hdraw n) (Kq (MN hP) hcm m n) hdraw
theorem MT (hP:cF P) (hdraw:∀ rt:RT,rt.AP=aP P->yw P base rt.call->qZ P base rt.round->ve rt.call->sF rt.round->Gc P base rt) {told:bu} (ht:yw P base told) (htm:ve told):∀ n,yw P base (gF (aP P) told n)
 | 0=>ht
 | n+1=>by
  have ih:=MT hP hdraw ht htm n;have hm:=qrs (MN hP) htm n;have hs:=q3c hP ih hm (qpj hP ih hm hdraw n) (Kq (MN hP) hm n n) hdraw;intro D θ H w f vs args up H' e up' kind cs hh hv hu h hf;simp only [gF] at h;split at h
  ·rename_i r hr;injection h with h;subst h
   exact ht D θ H w f vs args up _ _ _ kind cs hh hv hu hr hf
  ·exact hs D θ H w f vs args up _ _ _ kind cs hh hv hu h hf
end
end Go.Am
namespace Go.Am
open Go.RowKit
def CY (H:AHeap):Prop:=∀ b o,H.get b=some o->own o=false
theorem aX.below {D:Nat->Prop} {H H':AHeap} {θ θ':Th} {w w':World} (g:aX D H θ w H' θ' w') (hg:CY H):Below w.heap.size w w' :=
 ⟨g.os,g.tape,g.output,g.size,λ k hk=>g.ah k hk λ b o hb ho=>by rw [hg b o hb] at ho;cases ho⟩
variable {P:Program}
end Go.Am
namespace Go.Am
section
variable {H:Type}
def CM (P:Program) (rec:TypeId->DataW H->Option (List AV)):Nat->List (TypeId × Nat)->List (DataW H)->Option (List AV)
 | _,[],[]=>some []
 | k,(t,off)::ts,d::ds=>if off=k then (rec t d).bind λ l=>if l.length=P.cellsOf t then (CM P rec (k+P.cellsOf t) ts ds).bind λ r=>some (l++r) else none else none
 | _,_,_=>none
def mq (P:Program):Nat->TypeId->DataW H->Option (List AV)
 | 0,_,_=>none
 | n+1,t,d=>match P.underlying t,d with
  | some .bool,.lit (.bool b)=>some [.bool b]
  | some (.int _),.lit (.int k i)=>some [.int k i]
  | some .string,.lit (.string s)=>some [.str s]
  | some (.pointer _),.nil=>some [.nilp]
  | some (.slice _),.nil=>some [.nils]
  | some (.map _ _),.nil=>some [.jI]
  | some (.struct fs),.agg ds=>(CM P (mq P n) 0 (fs.toList.map λ f=>(f.type,f.offset)) ds).bind λ l=>if l.length=P.cellsOf t then some l else none
  | some (.array m e),.agg ds=>(CM P (mq P n) 0 ((List.range m).map λ i=>(e,i*P.cellsOf e)) ds).bind λ l=>if l.length=P.cellsOf t then some l else none
  | _,_=>none
variable {P:Program} {enc:TypeId × Value->H} {w:World} {base:Nat} {sp:Nat->Bool} {held:Bool}
theorem PZ (θ:Th) {rec:TypeId->DataW H->Option (List AV)} {g:TypeId->List Value->Option (DataW H × List MemPlace)} (hrec:∀ t d l cs p,rec t d=some l->g t cs=some (d,p)->br θ l=cs) {cs:List Value} :
 ∀ {k:Nat} {ts:List (TypeId × Nat)} {ds:List (DataW H)} {l:List AV} {xs:List (DataW H × List MemPlace)},CM P rec k ts ds=some l->ts.mapM (λ x=>g x.1 ((cs.drop x.2).take (P.cellsOf x.1)))=some xs->xs.map (·.1)=ds ->
  br θ l=(cs.drop k).take l.length
 | k,[],ds,l,xs,h,hm,hx=>by
  cases ds with
  | nil=>simp only [CM,qc] at h;subst h;simp [br]
  | cons d ds=>simp [CM] at h
 | k,(t,off)::ts,ds,l,xs,h,hm,hx=>by
  cases ds with
  | nil=>simp [CM] at h
  | cons d ds =>
   simp only [CM] at h;split at h
   ·rename_i ho;subst ho;simp only [qb] at h;obtain ⟨l0,h0,h⟩:=h;split at h
    ·rename_i hlen;simp only [qb,qc] at h;obtain ⟨l1,h1,rfl⟩:=h;simp only [List.mapM_cons,Option.bind_eq_bind,qb,Option.pure_def,qc] at hm;obtain ⟨y,hy,ys,hys,rfl⟩:=hm;simp only [kh,zi] at hx;obtain ⟨rfl,hx⟩:=hx;have e0:=hrec t y.1 l0 _ y.2 h0 hy;have e1:=PZ θ hrec h1 hys hx;rw [oP,Ef,<-oP,<-oP,e0,e1,qx,hlen,List.take_add,CZ]
    ·cases h
   ·cases h
theorem qvk {α:Type} {f:α->TypeId × Nat} {fuel:Nat} {l:List α} {cs:List Value} {xs:List (DataW H × List MemPlace)}
 (h:l.mapM (λ a=>DataW.trod enc P w base sp held fuel (f a).1 ((cs.drop (f a).2).take (P.cellsOf (f a).1)))=some xs) :
 (l.map f).mapM (λ x=>DataW.trod enc P w base sp held fuel x.1 ((cs.drop x.2).take (P.cellsOf x.1)))=some xs:=by
 rw [List.mapM_map];exact h
theorem qpd (θ:Th):∀ (n:Nat) {t:TypeId} {d:DataW H} {l:List AV},mq P n t d=some l -> ∀ {fuel:Nat} {cs:List Value} {p:List MemPlace},DataW.trod enc P w base sp held fuel t cs=some (d,p)->br θ l=cs
 | 0,_,_,_,h,_,_,_,_=>by cases h
 | n+1,t,d,l,h,0,cs,p,ht=>by cases ht
 | n+1,t,d,l,h,fuel+1,cs,p,ht=>by
  have ih:∀ t d l cs p,mq P n t d=some l->DataW.trod enc P w base sp held fuel t cs=some (d,p)->br θ l=cs:=λ t d l cs p h1 h2=>qpd θ n h1 h2;simp only [mq] at h;split at h
  ·rename_i b hu;injection h with h;subst h
   simp only [DataW.trod,hu] at ht;split at ht<;>first|(cases ht;done) | skip
   all_goals first|(simp_all [br,aB];done) | skip
   all_goals (repeat' (split at ht))
   all_goals first|(cases ht;done) | skip
   all_goals simp [qb,xe] at ht
  ·rename_i k' k i hu;injection h with h;subst h
   simp only [DataW.trod,hu] at ht;split at ht<;>first|(cases ht;done) | skip
   all_goals first|(simp_all [br,aB];done) | skip
   all_goals (repeat' (split at ht))
   all_goals first|(cases ht;done) | skip
   all_goals simp [qb,xe] at ht
  ·rename_i s hu;injection h with h;subst h
   simp only [DataW.trod,hu] at ht;split at ht<;>first|(cases ht;done) | skip
   all_goals first|(simp_all [br,aB];done) | skip
   split at ht
   ·simp only [qc,xn,DataW.lit.injEq,Lit.string.injEq] at ht;obtain ⟨rfl,_⟩:=ht;rfl
   ·cases ht
  ·rename_i hu;injection h with h;subst h
   simp only [DataW.trod,hu] at ht;split at ht<;>first|(cases ht;done) | skip
   all_goals first|(simp_all [br,aB];done) | skip
   all_goals (repeat' (split at ht))
   all_goals first|(cases ht;done) | skip
   all_goals simp [qb,xe] at ht
  ·rename_i hu;injection h with h;subst h
   simp only [DataW.trod,hu] at ht;split at ht<;>first|(cases ht;done) | skip
   all_goals first|(simp_all [br,aB];done) | skip
   all_goals (repeat' (split at ht))
   all_goals first|(cases ht;done) | skip
   all_goals simp [qb,xe] at ht
  ·rename_i hu;injection h with h;subst h
   simp only [DataW.trod,hu] at ht;split at ht<;>first|(cases ht;done) | skip
   all_goals first|(simp_all [br,aB];done) | skip
   all_goals (repeat' (split at ht))
   all_goals first|(cases ht;done) | skip
   all_goals simp [qb] at ht
  ·rename_i fs ds hu;simp only [qb] at h;obtain ⟨l',h1,h⟩:=h;split at h
   ·rename_i hlen;injection h with h;subst h
    simp only [DataW.trod,hu] at ht;split at ht
    ·rename_i hcs;obtain ⟨xs,hm,hx⟩:=xe.1 ht;have e:=PZ θ ih h1 (qvk (f:=λ f:Field=>(f.type,f.offset)) hm) (by simpa using congrArg Prod.fst hx);rw [e,hlen,<-hcs];simp
    ·cases ht
   ·cases h
  ·rename_i m e ds hu;simp only [qb] at h;obtain ⟨l',h1,h⟩:=h;split at h
   ·rename_i hlen;injection h with h;subst h
    simp only [DataW.trod,hu] at ht;split at ht
    ·rename_i hcs;obtain ⟨xs,hm,hx⟩:=xe.1 ht;have e:=PZ θ ih h1 (qvk (f:=λ i:Nat=>(e,i*P.cellsOf e)) hm) (by simpa using congrArg Prod.fst hx);rw [e,hlen,<-hcs];simp
    ·cases ht
   ·cases h
  ·cases h
end
theorem qu7 {P:Program} {w:World}:∀ {laid:List (String × DataW Unit)} {ps:List MemPlace},DataW.LaidVars P w laid ps -> ∀ {n:String} {d:DataW Unit},(n,d) ∈ laid ->
 ∃ g t cs fuel p,P.globalNamed n=some g/\(P.globals[g]?).map (·.type)=some t/\w.var? P n=some cs/\DataW.trod (λ _=>()) P w 0 (λ _=>true) false fuel t cs.toList=some (d,p)
 | [],_,_,_,_,h=>by cases h
 | (n',d')::r,ps,⟨g,t,cs,fuel,p,q,h1,h2,h3,h4,h5,h6⟩,n,d,h=>by
  rcases zr.1 h with e|h
  ·injection e with e1 e2;subst e1;subst e2
   exact ⟨g,t,cs,fuel,p,h1,h2,h3,h4⟩
  ·exact qu7 h5 h
def An:List (Nat × List AV)->T bm->T bm
 | [],t=>t
 | (g,l)::r,t=>(An r t).set g (.row l 0 (0,0) false)
def vd (gl:List (Nat × List AV)) (n:Nat):AHeap:=⟨An gl .nil,n⟩
theorem PH:∀ {gl:List (Nat × List AV)} {b:Nat} {o:bm},(An gl .nil).get b=some o -> ∃ l,(b,l) ∈ gl/\o=.row l 0 (0,0) false
 | [],b,o,h=>by rw [An,T.get_nil] at h;cases h
 | (g,l)::r,b,o,h=>by
  rw [An,T.aE] at h;split at h
  ·rename_i he;subst he;injection h with h
   exact ⟨l,by simp,h.symm⟩
  ·obtain ⟨l',h1,h2⟩:=PH h;exact ⟨l',by simp [h1],h2⟩
theorem Kh (gl:List (Nat × List AV)) (n:Nat):CY (vd gl n):=λ b o h=>by
 obtain ⟨l,_,rfl⟩:=PH h;rfl
def θ0:Th:=⟨id,λ _=>0,λ _=>0⟩
theorem yC {P:Program} {w:World} {laid:List (String × DataW Unit)} (h:laidMet P laid w) {n:String} {d:DataW Unit} (hm:(n,d) ∈ laid) {g:Nat} {t:TypeId} {fu:Nat} {l:List AV} (hg:P.globalNamed n=some g)
 (ht:(P.globals[g]?).map (·.type)=some t) (hl:mq P fu t d=some l):g<P.globals.size /\ ∃ cs e fz,w.heap[g]? = some (.cells cs e fz) /\ ∀ θ,br θ l=cs.toList:=by
 obtain ⟨ps,hv,_⟩:=h;obtain ⟨g',t',cs,fuel,p,h1,h2,h3,h4⟩:=qu7 hv hm;obtain rfl:=Option.some.inj (hg.symm.trans h1);obtain rfl:=Option.some.inj (ht.symm.trans h2);refine ⟨?_,cs,?_⟩
 ·rcases zt g P.globals.size with q|q
  ·exact q
  ·rw [Array.getElem?_eq_none q] at ht;cases ht
 ·unfold World.var? at h3;rw [h1] at h3;simp only [qj] at h3;split at h3
  ·rename_i c e fz hc;injection h3 with h3;subst h3
   exact ⟨e,fz,hc,λ θ=>qpd θ fu hl h4⟩
  ·cases h3
end Go.Am
namespace Go.Am
open Go.RowKit Go.ChangeShapes
theorem HR.qY {P:Program} {w:World} {gl:List (Nat × List AV)} {base n:Nat} {θ:Th} (hb:base<=w.heap.size) (hn:P.globals.size<=n) (hθ:∀ g,g<P.globals.size -> θ.bz g=g /\ θ.off g=0)
 (h:∀ b l,(b,l) ∈ gl->b<n /\ ∃ pre cs post e fz,w.heap[θ.bz b]? = some (.cells (pre++cs++post).toArray e fz)/\pre.length = θ.off b/\bt (Lt n) θ l cs) :
 HR P base (Lt n) θ (vd gl n) w:=by
 refine ⟨λ b o hg=>?_,λ b b' o o' h1 _ h3 _=>?_,λ b o h1 h2=>?_,λ g hg=>⟨qk hg hn,hθ g hg⟩,hb⟩
 ·obtain ⟨l,h1,rfl⟩:=PH hg;obtain ⟨hlt,pre,cs,post,e,fz,h2,h3,h4⟩:=h b l h1;exact ⟨hlt,_,h2,pre,cs,post,fz,e,rfl,h3,h4,λ h=>by cases h⟩
 ·rw [Kh gl _ b o h1] at h3;cases h3
 ·rw [Kh gl _ b o h1] at h2;cases h2
def zD (P:Program) (tp:TypeId):Bool :=
 match P.underlying tp with
 | some (.pointer te)=>match P.underlying te with
  | some (.struct ⟨[f]⟩)=>Nat.beq f.offset 0 && (match P.underlying f.type with|some .string=>true|_=>false) && Nat.beq (P.cellsOf te) 1 && Nat.beq (P.cellsOf f.type) 1
  | _=>false
 | _=>false
structure IZ (P:Program) (tp:TypeId):Prop where
 row:∀ u,P.typeName? 3 u=some "*errors.errorString" -> u=tp
 ok:zD P tp=true
def FY:DataW Unit->Option (List UInt8)
 | .iface nm (.ptr (.agg [.lit (.string text)]))=>if nm = "*errors.errorString" then some text else none
 | _=>none
theorem q04 {d:DataW Unit} {s:List UInt8} (h:FY d=some s):d=.iface "*errors.errorString" (.ptr (.agg [.lit (.string s)])):=by
 unfold FY at h;split at h
 ·split at h
  ·rename_i e;subst e;injection h with h;subst h;rfl
  ·cases h
 ·cases h
def J9:Option TypeDesc->Bool
 | some (.interface _)=>true
 | _=>false
def u9 (P:Program) (x:String × DataW Unit):Option (Nat × TypeId):=(P.globalNamed x.1).bind λ g=>((P.globals[g]?).map (·.type)).map λ t=>(g,t)
def nS (P:Program) (tp:TypeId) (i:Nat) (x:String × DataW Unit):List (Nat × List AV) :=
 match u9 P x with
 | none=>[]
 | some (g,t)=>match mq P 30 t x.2 with
  | some l=>[(g,l)]
  | none=>match J9 (P.underlying t),FY x.2 with
   | true,some s=>[(g,[.iface tp (.ptr i 0)]),(i,[.str s])]
   | _,_=>[]
def rowsOf (P:Program) (tp:TypeId):Nat->List (String × DataW Unit)->List (Nat × List AV)
 | _,[]=>[]
 | i,x::r=>nS P tp i x++rowsOf P tp (i+1) r
def Md (P:Program) (tp:TypeId) (laid:List (String × DataW Unit)):AHeap:=vd (rowsOf P tp P.globals.size laid) (P.globals.size+laid.length)
theorem qvg {P:Program} {tp:TypeId}:∀ {laid:List (String × DataW Unit)} {i b:Nat} {l:List AV},(b,l) ∈ rowsOf P tp i laid -> ∃ j x,laid[j]? = some x/\(b,l) ∈ nS P tp (i+j) x
 | [],i,b,l,h=>by cases h
 | x::r,i,b,l,h=>by
  rcases xw.1 h with h|h
  ·exact ⟨0,x,rfl,h⟩
  ·obtain ⟨j,y,h1,h2⟩:=qvg h;exact ⟨j+1,y,by simpa using h1,by rw [show i+(j+1)=i+1+j from by omega];exact h2⟩
theorem q7u {P:Program} {x:String × DataW Unit} {g:Nat} {t:TypeId} (h:u9 P x=some (g,t)):P.globalNamed x.1=some g/\(P.globals[g]?).map (·.type)=some t:=by
 simp only [u9,qb,xe,xn] at h;obtain ⟨g',h1,t',h2,rfl,rfl⟩:=h;exact ⟨h1,by simpa [xe] using h2⟩
def oE (P:Program) (tp:TypeId) (w:World) (x:String × DataW Unit) (a:Addr):Prop :=
 ∀ g t s,u9 P x=some (g,t)->J9 (P.underlying t)=true->FY x.2=some s ->
  a.spot=none/\(∃ e fz,w.heap[g]? = some (.cells #[.iface tp (.pointer (some a))] e fz)) /\ ∃ cs e fz,w.heap[a.block]? = some (.cells cs e fz)/\cs[a.off]? = some (.string ⟨s.toArray⟩)
theorem Cp {P:Program} {tp:TypeId} (hT:IZ P tp) {w:World} {laid:List (String × DataW Unit)} (h:laidMet P laid w) {x:String × DataW Unit} (hx:x ∈ laid):∃ a,oE P tp w x a:=by
 by_cases hq:∃ g t s,u9 P x=some (g,t)/\J9 (P.underlying t)=true/\FY x.2=some s
 ·obtain ⟨g,t,s,h1,h2,h3⟩:=hq;obtain ⟨k1,k2⟩:=q7u h1;have hd:=q04 h3;obtain ⟨ps,hv,hnd,hrows⟩:=h;have key:∀ {laid:List (String × DataW Unit)} {ps:List MemPlace},DataW.LaidVars P w laid ps->x ∈ laid ->
   ∃ g t cs fuel p,P.globalNamed x.1=some g/\(P.globals[g]?).map (·.type)=some t/\w.var? P x.1=some cs/\DataW.trod (λ _=>()) P w 0 (λ _=>true) false fuel t cs.toList=some (x.2,p) /\ ∀ q ∈ MemPlace.row ⟨g,0,none⟩ cs.size,q ∈ ps:=by
   intro laid
   induction laid with
   | nil=>intro _ _ hm;cases hm
   | cons y r ih =>
    intro ps hv hm;obtain ⟨g,t,cs,fuel,p,q,e1,e2,e3,e4,e5,e6⟩:=hv;rcases zr.1 hm with rfl|hm
    ·exact ⟨g,t,cs,fuel,p,e1,e2,e3,e4,λ z hz=>by rw [e6];simp [hz]⟩
    ·obtain ⟨g',t',cs',fuel',p',f1,f2,f3,f4,f5⟩:=ih e5 hm;exact ⟨g',t',cs',fuel',p',f1,f2,f3,f4,λ z hz=>by rw [e6];simp [f5 z hz]⟩
  obtain ⟨g',t',cs,fuel,p,e1,e2,e3,e4,e5⟩:=key hv hx;obtain rfl:=Option.some.inj (k1.symm.trans e1);obtain rfl:=Option.some.inj (k2.symm.trans e2);rw [hd] at e4;obtain ⟨ms,hi⟩:∃ ms,P.underlying t=some (.interface ms):=by
   unfold J9 at h2;split at h2
   ·rename_i ms hu;exact ⟨ms,hu⟩
   ·cases h2
  obtain ⟨te,f,hp,he,ho,hs,hc1,hc2⟩:∃ te f,P.underlying tp=some (.pointer te)/\P.underlying te=some (.struct #[f])/\f.offset=0/\P.underlying f.type=some .string/\P.cellsOf te=1/\P.cellsOf f.type=1:=by
   have:=hT.ok;unfold zD at this;split at this
   ·rename_i te hte;split at this
    ·rename_i f hf;simp only [xh,zp] at this;obtain ⟨⟨⟨a1,a2⟩,a3⟩,a4⟩:=this;split at a2
     ·rename_i hs;exact ⟨te,f,hte,hf,a1,hs,a3,a4⟩
     ·cases a2
    ·cases this
   ·cases this
  have hvar:=e3;unfold World.var? at hvar;rw [e1] at hvar;simp only [qj] at hvar;split at hvar
  ·rename_i c e fz hc;injection hvar with hvar;subst hvar
   have ok:∀ u v,c.toList=[.iface u v]->Value.okWide P w .any 0 u v:=λ u v q=>by
    have hsz:c.size=1:=by simpa using congrArg List.length q
    refine (hrows g 0 (e5 _ (by rw [hsz];simp [MemPlace.row]))).2 u v ?_;have hc0:c[0]? = some (.iface u v):=by rw [<-j6,q];rfl
    simp [World.cell?,hc,hc0]
   obtain ⟨a,sb,q1,q2,q3,q4,_⟩:=errorString_of_trod hi hT.row hp he rfl ho hs hc1 hc2 e4 ok;refine ⟨a,λ g2 t2 s2 r1 r2 r3=>?_⟩;obtain ⟨rfl,rfl⟩:g=g2/\t=t2:=by have:=h1.symm.trans r1;simpa using this
   obtain rfl:=Option.some.inj (h3.symm.trans r3);refine ⟨World.cell?_spot q2,⟨e,fz,by rw [hc,Array.eq_one_of_toList q1]⟩,?_⟩;unfold World.cell? at q2;split at q2
   ·rename_i cs' e' fz' hh;refine ⟨_,_,_,hh,?_⟩;rw [<-q3];have q2':a.spot=none/\cs'[a.off]? = some (.string sb):=by simpa using q2
    rw [q2'.2]
   ·cases q2
  ·cases hvar
 ·exact ⟨default,λ g t s h1 h2 h3=>(hq ⟨g,t,s,h1,h2,h3⟩).elim⟩
theorem pA {P:Program} {tp:TypeId} {w:World} {laid:List (String × DataW Unit)} (h:laidMet P laid w) (hS:∀ x ∈ laid,∃ a,oE P tp w x a) :
 ∃ θ:Th,(∀ g,g<P.globals.size -> θ.bz g=g /\ θ.off g=0) /\ ∀ b l,(b,l) ∈ rowsOf P tp P.globals.size laid->b<P.globals.size+laid.length /\ ∃ pre cs post e fz,w.heap[θ.bz b]? = some (.cells (pre++cs++post).toArray e fz)/\pre.length = θ.off b/\bt (Lt (P.globals.size+laid.length)) θ l cs:=by
 have hall:∀ j:Nat,∃ a:Addr,∀ x,laid[j]? = some x->oE P tp w x a:=λ j=>by
  cases hj:laid[j]? with
  | none=>exact ⟨default,λ x hx=>by cases hx⟩
  | some x =>
   obtain ⟨a,ha⟩:=hS x (zg hj);exact ⟨a,λ y hy=>by injection hy with hy;subst hy;exact ha⟩
 obtain ⟨F,hF⟩:=Classical.axiomOfChoice hall
 let N:=P.globals.size
 refine ⟨⟨λ b=>if b<N then b else (F (b-N)).block,λ b=>if b<N then 0 else (F (b-N)).off,λ _=>0⟩,λ g hg=>⟨ql hg,ql hg⟩,λ b l hm=>?_⟩;obtain ⟨j,x,hj,hm⟩:=qvg hm;have hjl:=(qe.1 hj).1;unfold nS at hm;split at hm
 ·cases hm
 ·rename_i g t hv;obtain ⟨k1,k2⟩:=q7u hv;have hg:g<N:=by
   rcases zt g N with q|q
   ·exact q
   ·rw [Array.getElem?_eq_none q] at k2;cases k2
  split at hm
  ·rename_i l' hl;simp only [xl,xn] at hm;obtain ⟨rfl,rfl⟩:=hm;obtain ⟨_,cs,e,fz,h1,h2⟩:=yC (d:=x.2) (n:=x.1) h (zg hj) k1 k2 hl;refine ⟨qk hg (by omega),[],cs.toList,[],e,fz,?_,by simp [hg],λ θ' _=>h2 θ'⟩;simp [hg,h1]
  ·split at hm
   ·rename_i s hi hs;obtain ⟨q1,⟨e,fz,q2⟩,cs,e',fz',q3,q4⟩:=hF j x hj g t s hv hi hs;rcases zr.1 hm with hm|hm
    ·injection hm with hm1 hm2;subst hm1;subst hm2
     refine ⟨qk hg (by omega),[],[.iface tp (.pointer (some (F j)))],[],e,fz,?_,by simp [hg],?_⟩
     ·simp [hg,q2]
     ·refine .one (.iface ?_);have:=VR.ptr (D:=Lt (N+laid.length)) (θ:=⟨λ b=>if b<N then b else (F (b-N)).block,λ b=>if b<N then 0 else (F (b-N)).off,λ _=>0⟩) (b:=N+j) (o:=0) (by show N+j<_;omega);have hn:¬ N+j<N:=by omega
      simp only [hn,qo,kt,qh] at this;have hF1:(F j)=⟨(F j).block,(F j).off,none⟩:=by rw [<-q1]
      rw [hF1];exact this
    ·simp only [xl,xn] at hm;obtain ⟨rfl,rfl⟩:=hm;have hn:¬ N+j<N:=by omega
     have hlt:=(jw.1 q4).1;refine ⟨by omega,cs.toList.take (F j).off,[.string ⟨s.toArray⟩],cs.toList.drop ((F j).off+1),e',fz',?_,?_,.one (.str s)⟩
     ·show w.heap[if N+j<N then _ else (F (N+j-N)).block]? = _;rw [qg hn,kt,q3];congr 2;apply B6;have hq:cs.toList[(F j).off]? = some (.string ⟨s.toArray⟩):=by rw [j6];exact q4
      have:=kr (F j).off cs.toList;rw [List.drop_eq_getElem?_toList_append,hq] at this
      simpa using this.symm
     ·show _=if N+j<N then 0 else (F (N+j-N)).off
      rw [qg hn,kt];simp;omega
   ·cases hm
theorem HR.pA {P:Program} {tp:TypeId} {w:World} {laid:List (String × DataW Unit)} (h:laidMet P laid w) (hS:∀ x ∈ laid,∃ a,oE P tp w x a) {base:Nat} (hb:base<=w.heap.size) :
 ∃ θ,HR P base (Lt (P.globals.size+laid.length)) θ (Md P tp laid) w:=by
 obtain ⟨θ,h1,h2⟩:=Go.Am.pA h hS;exact ⟨θ,HR.qY hb (by omega) h1 h2⟩
theorem HR.laid {P:Program} {tp:TypeId} (hT:IZ P tp) {w:World} {laid:List (String × DataW Unit)} (h:laidMet P laid w) {base:Nat} (hb:base<=w.heap.size) :
 ∃ θ,HR P base (Lt (P.globals.size+laid.length)) θ (Md P tp laid) w:=HR.pA h (λ x hx=>Cp hT h hx) hb
def p7 (laid:List (String × DataW Unit)):Bool:=laid.all λ x=>(FY x.2).isNone
theorem HR.CJ {P:Program} {tp:TypeId} {w:World} {laid:List (String × DataW Unit)} (hn:p7 laid=true) (h:laidMet P laid w) {base:Nat} (hb:base<=w.heap.size) :
 ∃ θ,HR P base (Lt (P.globals.size+laid.length)) θ (Md P tp laid) w:=HR.pA h (λ x hx=>⟨default,λ g t s h1 h2 h3=>by
  have:=wg.1 hn x hx;rw [h3] at this;cases this⟩) hb
end Go.Am
namespace Go.Am
open Go.ChangeShapes Go.WideShapes Go.ChangeAt Go.RowKit
section
variable {H:Type} {enc:TypeId × Value->H} {P:Program}
theorem qw3 {f:Func} {s:ChangeSpec} {apart fresh handsOn again:Bool} {W W':World} {args:Array Value} {v:Value} {ds gs:List (DataW H)} {before pa pv:List MemPlace}
 (hW:DataW.Whole enc P f.params.toList s.vars apart W args.toList ds gs before)
 (hres:∀ (b:Nat) (sp:Nat->Bool) (hd:Bool),DataW.TrodAll enc P W' b sp hd f.resultTypes.toList (v.resultList f.resultTypes.size) (s.fn H (ds++gs)).results [])
 (hargs:∀ sp:Nat->Bool,(∀ p ∈ before,sp p.block=true)->DataW.TrodAll enc P W' 0 sp true f.params.toList args.toList (s.fn H (ds++gs)).args pa)
 (hvars:∀ sp:Nat->Bool,(∀ p ∈ before,sp p.block=true)->DataW.TrodVars enc P W' sp s.vars (s.fn H (ds++gs)).vars pv)
 (hps:before=pa++pv) (hb:Below W.heap.size W W')
 (hok:∀ (j:Nat) (t:TypeId) (r:Value),f.resultTypes[j]? = some t->(v.resultList f.resultTypes.size)[j]? = some r->Value.okWide P W' .any 0 t r) :
 s.post enc P f apart fresh handsOn again W args v W':=by
 have hlt:∀ p ∈ before,p.block<W.heap.size:=hW.lt;have hold:∀ p ∈ before,(λ b=>decide (b<W.heap.size)) p.block=true:=λ p hp=>by simpa using hlt p hp
 refine ⟨ds,gs,before,[],pa,pv,hW,hres _ _ _,hargs _ hold,hvars _ hold,hb.frame _,λ _=>?_⟩;obtain ⟨_,_,_,_,_,hz,hn⟩:=hW;refine ⟨hok,_,_,([]++pa)++pv,⟨[]++pa,pv,trodAll_append (hargs _ (λ _ _=>rfl)) (hres _ _ _),hvars _ (λ _ _=>rfl),rfl,?_,?_⟩,?_⟩
 ·intro b off hp;have hp':MemPlace.cell b off ∈ before:=by rw [hps];simpa using hp
  rw [hb.frozen (p:=⟨b,off,none⟩) (hlt _ hp')];exact hz b off hp'
 ·intro ha;have:=hn ha;rw [hps] at this
  simpa using this
 ·intro p hp _;rw [hps]
  simpa using hp
end
theorem Ia {P:Program} (h:(P.funcs.all λ fn=>fn.name != "runtime.NumGoroutine")=true) (h':P.follows .mixedOrders=true):cF P:=by
 refine ⟨λ f fn hf e=>?_,h'⟩;obtain ⟨hlt,rfl⟩:=jw.1 hf;have:=(Array.all_eq_true.1 h) f hlt;simp [e] at this
end Go.Am
namespace Go.Am
open Go.RowKit
mutual
def vX (n:Nat):AV->Bool
 | .ptr b _=>Nat.blt b n
 | .slice b _ _ _=>Nat.blt b n
 | .gslice b _ _ _ _ _=>Nat.blt b n
 | .eslice b=>Nat.blt b n
 | .map b=>Nat.blt b n
 | .fn _ _ _=>false
 | .iface _ v=>vX n v
 | .agg l=>tG n l
 | .tuple l=>tG n l
 | _=>true
def tG (n:Nat):List AV->Bool
 | []=>true
 | v::l=>vX n v && tG n l
end
mutual
theorem Lx {n:Nat} {θ θ':Th} (h:Ag (Lt n) θ θ'):∀ (v:AV),vX n v=true->aB θ' v=aB θ v
 | .ptr b o,hv=>by obtain ⟨h1,h2,_⟩:=h b (by simpa [vX,Lt] using hv);simp [aB,h1,h2]
 | .slice b _ _ _,hv=>by obtain ⟨h1,h2,_⟩:=h b (by simpa [vX,Lt] using hv);simp [aB,h1,h2]
 | .gslice b _ _ _ _ _,hv=>by obtain ⟨h1,h2,h3⟩:=h b (by simpa [vX,Lt] using hv);simp [aB,h1,h2,h3]
 | .eslice b,hv=>by obtain ⟨h1,h2,h3⟩:=h b (by simpa [vX,Lt] using hv);simp [aB,h1,h2,h3]
 | .map b,hv=>by obtain ⟨h1,_,_⟩:=h b (by simpa [vX,Lt] using hv);simp [aB,h1]
 | .fn _ _ _,hv=>by simp [vX] at hv
 | .iface _ v,hv=>by simp only [aB];rw [Lx h v hv]
 | .agg l,hv=>by simp only [aB];rw [JA h l hv]
 | .tuple l,hv=>by simp only [aB];rw [JA h l hv]
 | .bool _,_=>rfl
 | .int _ _,_=>rfl
 | .str _,_=>rfl
 | .nilp,_=>rfl
 | .nils,_=>rfl
 | .jI,_=>rfl
 | .nilf,_=>rfl
 | .nili,_=>rfl
theorem JA {n:Nat} {θ θ':Th} (h:Ag (Lt n) θ θ'):∀ (l:List AV),tG n l=true->br θ' l=br θ l
 | [],_=>rfl
 | v::l,hv=>by
  simp only [tG,xh] at hv;simp only [br];rw [Lx h v hv.1,JA h l hv.2]
end
theorem Ag.none {θ θ':Th}:Ag (Lt 0) θ θ':=λ b hb=>by cases hb
mutual
def fV:AV->AV->Bool
 | .bool a,.bool b=>a == b
 | .int k a,.int k' b=>decide (k=k') && decide (a=b)
 | .str s,.str t=>decide (s=t)
 | .nilp,.nilp=>true
 | .ptr b o,.ptr b' o'=>Nat.beq b b' && Nat.beq o o'
 | .nils,.nils=>true
 | .jI,.jI=>true
 | .nilf,.nilf=>true
 | .nili,.nili=>true
 | .iface t v,.iface t' v'=>Nat.beq t t' && fV v v'
 | .agg l,.agg l'=>iC l l'
 | .tuple l,.tuple l'=>iC l l'
 | _,_=>false
def iC:List AV->List AV->Bool
 | [],[]=>true
 | v::l,v'::l'=>fV v v' && iC l l'
 | _,_=>false
end
mutual
theorem Mm:∀ (v v':AV),fV v v'=true->v=v'
 | .iface t v,x,h=>by
  cases x<;>simp only [fV,xh,zp,ko] at h;rw [h.1,Mm _ _ h.2]
 | .agg l,x,h=>by
  cases x<;>simp only [fV,ko] at h;rw [Jf _ _ h]
 | .tuple l,x,h=>by
  cases x<;>simp only [fV,ko] at h;rw [Jf _ _ h]
 | .bool _,x,h=>by cases x<;>simp_all [fV]
 | .int _ _,x,h=>by cases x<;>simp_all [fV]
 | .str _,x,h=>by cases x<;>simp_all [fV]
 | .nilp,x,h=>by cases x<;>simp_all [fV]
 | .ptr _ _,x,h=>by cases x<;>simp_all [fV]
 | .nils,x,h=>by cases x<;>simp_all [fV]
 | .slice _ _ _ _,x,h=>by cases x<;>simp_all [fV]
 | .gslice _ _ _ _ _ _,x,h=>by cases x<;>simp_all [fV]
 | .jI,x,h=>by cases x<;>simp_all [fV]
 | .map _,x,h=>by cases x<;>simp_all [fV]
 | .fn _ _ _,x,h=>by cases x<;>simp_all [fV]
 | .nilf,x,h=>by cases x<;>simp_all [fV]
 | .nili,x,h=>by cases x<;>simp_all [fV]
theorem Jf:∀ (l l':List AV),iC l l'=true->l=l'
 | [],[],_=>rfl
 | [],_::_,h=>by simp [iC] at h
 | _::_,[],h=>by simp [iC] at h
 | v::l,v'::l',h=>by
  simp only [iC,xh] at h;rw [Mm _ _ h.1,Jf _ _ h.2]
end
structure dL where
 f:Nat
 args:List AV
 res:AV
def c8 (H:AHeap):List (Nat × List AV)->Bool
 | []=>true
 | (b,l)::r=>(match H.get b with|some (.row l' _ _ _)=>iC l l'|_=>false) && c8 H r
def fO (n:Nat):List (Nat × List AV)->Bool
 | []=>true
 | (b,l)::r=>Nat.blt b n && tG n l && fO n r
def lC (gl:List (Nat × List AV)) (H:AHeap) (f:Nat) (vs:List AV):List dL->Option (bg × Option aw × AHeap)
 | []=>none
 | e::r=>cond (Nat.beq f e.f && (iC vs e.args && c8 H gl)) (some (.ret e.res,none,H)) (lC gl H f vs r)
def iZ (gl:List (Nat × List AV)) (L:List dL):bu:=λ f vs up H =>
 match up with
 | none=>lC gl H f vs L
 | some _=>none
theorem L4 {gl:List (Nat × List AV)} {H:AHeap} {f:Nat} {vs:List AV}:∀ {L:List dL} {r:bg × Option aw × AHeap},lC gl H f vs L=some r -> ∃ e ∈ L,f=e.f/\vs=e.args/\c8 H gl=true/\r=(.ret e.res,none,H)
 | [],_,h=>by cases h
 | e::L,r,h=>by
  simp only [lC] at h;cases hc:(Nat.beq f e.f && (iC vs e.args && c8 H gl)) with
  | true =>
   rw [hc] at h;simp only [xf,qc] at h;simp only [xh,zp] at hc;exact ⟨e,by simp,hc.1,Jf _ _ hc.2.1,hc.2.2,h.symm⟩
  | false =>
   rw [hc] at h;obtain ⟨e',h1,h2⟩:=L4 (L:=L) h;exact ⟨e',by simp [h1],h2⟩
theorem qty {gl:List (Nat × List AV)} {L:List dL}:ve (iZ gl L):=by
 intro f vs up H e up' H' h;cases up with
 | some _=>cases h
 | none =>
  obtain ⟨e',_,_,_,_,hr⟩:=L4 h;injection hr with _ hr
  injection hr with _ hr
  subst hr;exact Ext.refl _
theorem qsl {H:AHeap}:∀ {gl:List (Nat × List AV)},c8 H gl=true -> ∀ {b:Nat} {l:List AV},(b,l) ∈ gl -> ∃ e fz ow,H.get b=some (.row l e fz ow)
 | [],_,b,l,h=>by cases h
 | (b',l')::r,hr,b,l,h=>by
  simp only [c8,xh] at hr;rcases zr.1 h with e|h
  ·injection e with e1 e2;subst e1;subst e2
   have h1:=hr.1;split at h1
   ·rename_i l2 e fz ow hg;rw [Jf _ _ h1];exact ⟨e,fz,ow,hg⟩
   ·cases h1
  ·exact qsl hr.2 h
theorem qvh {n:Nat}:∀ {gl:List (Nat × List AV)},fO n gl=true -> ∀ {b:Nat} {l:List AV},(b,l) ∈ gl->b<n/\tG n l=true
 | [],_,b,l,h=>by cases h
 | (b',l')::r,hr,b,l,h=>by
  simp only [fO,xh,we] at hr;rcases zr.1 h with e|h
  ·injection e with e1 e2;subst e1;subst e2;exact hr.1
  ·exact qvh hr.2 h
theorem HR.vO {P:Program} {base n:Nat} {D:Nat->Prop} {θ:Th} {H:AHeap} {w:World} {gl:List (Nat × List AV)} (h:HR P base D θ H w) (hn:P.globals.size<=n) (hok:fO n gl=true) (hr:c8 H gl=true) :
 HR P base (Lt n) θ (vd gl n) w:=by
 refine HR.qY h.low hn (λ g hg=>(h.cU g hg).2) λ b l hm=>?_;obtain ⟨h1,h2⟩:=qvh hok hm;obtain ⟨e,fz,ow,hg⟩:=qsl hr hm;obtain ⟨_,co,hc,pre,cs,post,cfz,e',rfl,k1,k2,_⟩:=h.obj _ _ hg;exact ⟨h1,pre,cs,post,e',cfz,hc,k1,λ θ' ha=>(JA ha l h2).trans k2.now⟩
theorem HR.below {P:Program} {base:Nat} {D:Nat->Prop} {θ:Th} {H:AHeap} {w w':World} (h:HR P base D θ H w) (hb:Below w.heap.size w w'):HR P base D θ H w':=by
 refine ⟨λ b o hg=>?_,h.inj,h.ir,h.cU,xj h.low hb.size⟩;obtain ⟨h1,co,h2,h3⟩:=h.obj b o hg;exact ⟨h1,co,by rw [hb.block _ (jw.1 h2).1];exact h2,h3⟩
theorem q27 {D:Nat->Prop} {H:AHeap} {θ:Th} {w w':World} (hb:Below w.heap.size w w'):aX D H θ w H θ w' :=
 ⟨qf _,Ag.refl _ _,hb.size,hb.os,hb.tape,hb.output,λ k hk _=>hb.block k hk,λ b o h ho _=>⟨b,o,h,ho,rfl⟩⟩
def nQ (P:Program) (gl:List (Nat × List AV)) (n:Nat) (e:dL):Prop :=
 vX 0 e.res=true /\ ∀ base θ w (args:Array Value),HR P base (Lt n) θ (vd gl n) w->bt (Lt n) θ e.args args.toList ->
  (∃ fn c,P.funcs[e.f]? = some fn/\fn.body=some c)/\Calls P e.f args w λ en w'=>en=.returned (aB θ e.res)/\Below w.heap.size w w'
theorem qpk {P:Program} {base n:Nat} {gl:List (Nat × List AV)} {L:List dL} (hn:P.globals.size<=n) (hok:fO n gl=true) (hL:∀ e ∈ L,tG 0 e.args=true/\nQ P gl n e):yw P base (iZ gl L):=by
 intro D θ H w f vs args up H' e up' kind cs hh hv hu h hf;cases up with
 | some _=>cases h
 | none =>
  have hk:kind=.normal:=hu;obtain ⟨e',hm,rfl,rfl,hrows,hr⟩:=L4 h;injection hr with hr1 hr
  injection hr with hr2 hr3
  subst hr1;subst hr2;subst hr3;obtain ⟨hpl,hres,ht⟩:=hL e' hm;obtain ⟨hfn,hc⟩:=ht base θ w args (hh.vO hn hok hrows) (λ θ' _=>(JA Ag.none _ hpl).trans hv.now);refine ⟨hfn,?_⟩;obtain ⟨en,w',fr,⟨rfl,hb⟩,hs,hfr,hl⟩:=hc cs;obtain ⟨l1,l2,l3,l4⟩:=hl;subst hk;refine ⟨θ,w',cs,fr,.returned (aB θ e'.res),hs,l3,hfr,⟨l1,l2,l4⟩,λ θ' _=>Lx Ag.none _ hres,?_,q27 hb,rfl,rfl,rfl⟩;rw [Up.none];exact hh.below hb
def rH (v:AV):Option (bg × Option aw × AHeap)->Bool
 | some (.ret u,_,_)=>fV u v
 | _=>false
theorem tP {v:AV} {o:Option (bg × Option aw × AHeap)} (h:rH v o=true):∃ u H',o=some (.ret v,u,H'):=by
 unfold rH at h;split at h
 ·rw [Mm _ _ h];exact ⟨_,_,rfl⟩
 ·cases h
theorem q1a {P:Program} (hP:cF P) {gl:List (Nat × List AV)} {L:List dL} {n:Nat} (hn:P.globals.size<=n) (hok:fO n gl=true) (hL:∀ e ∈ L,tG 0 e.args=true/\nQ P gl n e)
 {e:dL} {m:Nat} (hp:vX 0 e.res=true) (hr:rH e.res (gF (aP P) (iZ gl L) m e.f e.args none (vd gl n))=true):nQ P gl n e:=by
 obtain ⟨u,H',hr⟩:=tP hr;refine ⟨hp,λ base θ w args hh hv=>?_⟩;have hs:=λ cs=>MT hP (λ rt hAP hc hr' hcm hrm=>quv hP hAP hc hr' hcm hrm) (qpk hn hok hL) qty m (Lt n) θ (vd gl n) w e.f e.args args none H' (.ret e.res) u .normal cs hh hv rfl hr
  (λ b h1 h2 hb=>by have h1:n<=b:=h1;have hb:b<n:=hb;omega)
 refine ⟨(hs []).1,λ cs=>?_⟩;obtain ⟨_,θ',w',cs',fr,e',g1,g2,g3,g4,g5,g6,g7,g8,g9,g10⟩:=hs cs;have hcs:cs'=cs:=g9;subst hcs;cases e' with
 | returned c =>
  refine ⟨.returned c,w',fr,⟨?_,g7.below (Kh _ _)⟩,g1,g3,K6 g4 g2⟩;have g5:VR _ θ' e.res c:=g5;rw [<-g5.now,Lx Ag.none _ hp]
 | panicked _=>exact g5.elim
 | outgrown=>exact g5.elim
end Go.Am
