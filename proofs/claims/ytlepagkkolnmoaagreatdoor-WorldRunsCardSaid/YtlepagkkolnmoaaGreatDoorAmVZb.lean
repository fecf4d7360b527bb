import Derived.Test.YtlepagkkolnmoaaGreatDoorAmVZa
import Derived.Deep.Upon
import Derived.Lib.UnsafeStr
import Derived.Defers
import Derived.RangeFuncRecord
import Derived.ControlIn
import Derived.RangeFuncIn
set_option linter.defProp false
set_option linter.unusedVariables false
set_option linter.unusedSimpArgs false
open Bool renaming false→B2,true→B4
open Go renaming Frame→NY,MapEntry→BZ,Oper→Pv,Operand→N0,Program→Jy,TypeId→LP,Value→K8,World→NJ
open Go.Addr.mk renaming injEq→Bc
open Go.Builtin renaming append_→Bj,clear_→CG,firstCells→C4,zeroCells→BM
open Go.Deferred renaming ofValue→BU
open Go.Frame renaming atR→Bm,raise_atR→CD
open Go.Instr renaming sameBits→BX,sureAddr→Bv
open Go.Oper renaming semAt_eq→Bg
open Go.Region renaming wanted→Af
open Go.Result renaming andThen_ok→NM
open Go.Sem renaming run_bind→NQ,run_pure→Qh
open Go.StepsIn renaming of_steps→Bh,steps→BP
open Go.Value.slice renaming injEq→BG
open Go.stepG renaming apply→Bz
open List renaming range→N7,replicate→Jv
open Nat renaming beq→J8,ble→OZ,blt→Pk
open Option renaming none→B5,some→B1
open Prod.mk renaming inj→CW
namespace Go.Am
def sE(P:Jy)(o:Pv)(xs:List N0)(f:List AV->ar->Option (AV×ar)):Prop :=
 ∀base(D:Nat->Prop)θ H(ρ:N0->K8)w vs v H',HR P base D θ H w->bN D θ vs (xs.map ρ)->f vs H=B1 (v,H')->eC D H.au H'.au ->
  ∃θ' w' c,sF P (execOp ρ o) w c w'/\HR P base (Up D H.au H'.au) θ' H' w'/\bE D H θ w H' θ' w'/\VR (Up D H.au H'.au) θ' v c
section
variable{P:Jy}{base:Nat}{D:Nat->Prop}{θ:Th}{H:ar}{w:NJ}
def xdx{fz:Nat×Nat}{o n:Nat}(h:eI fz o n=B4):∀j,j<n -> ¬(fz.1<=o+j/\o+j<fz.2):=by
 intro j c;unfold eI at h;simp only[AK,uh]at h;omega
def m8(pre cs post new:List K8)(o:Nat)(h:o+new.length<=cs.length) :
 ((pre++cs++post).toArray.toList.take (pre.length+o)++new++(pre++cs++post).toArray.toList.drop (pre.length+o+new.length))=pre++(cs.take o++new++cs.drop (o+new.length))++post:=by
 have e1:(pre++cs++post).take (pre.length+o)=pre++cs.take o:=by
  rw[jb,NG,NG];have:pre.length+o-pre.length-cs.length=0:=by omega
  simp_all[zq]
 have e2:(pre++cs++post).drop (pre.length+o+new.length)=cs.drop (o+new.length)++post:=by
  grind [I3,List.drop_of_length_le]
 grind
def HR.store(r:HR P base D θ H w){b o:Nat}{new:List AV}{cs:List K8}{H':ar}(v:bN D θ new cs)(h:H.store b o new=B1 H') :
 ∃w',(storeCells ⟨θ.cq b,θ.off b+o,B5⟩ cs).run P w=.ok () w'/\HR P base D θ H' w'/\bE D H θ w H' θ w'/\H'.au=H.au:=by
 unfold ar.store at h;cases n:aS new with
 |false=>grind
 |true =>
  rw[n]at h;simp only[xv]at h;have y:=A_ v n;have hlen:=v.length;split at h
  .rename_i c e fz hg;obtain⟨E,co,hc,hr⟩:=r.obj b _ hg;obtain⟨pre,d,post,p,G,rfl,l,q,z⟩:=hr;obtain⟨rfl,rfl,rfl,t⟩:=z rfl;have x:=q.length;cases u:eI fz o (cW new)with
   |false=>grind
   |true =>
    rw[u]at h;simp only[xv,Fy]at h;split at h
    .rename_i hle;simp only[qr,qk]at h;subst h;have f:=xdx u;rw[Ij]at f;have g:=T0 (P:=P) (θ.off b+o) cs 0 _ w hc (by grind) (λ j L=>by
      have:=f j (by omega);simp only[yw]at l;rcases t with t|⟨I,J⟩<;>omega) y
     rw[vc,<-l,m8 [] d [] cs o (by omega)]at g;rw[<-l];refine⟨_,g,?_,?_,rfl⟩
     .refine r.set hg rfl rfl ⟨[],d.take o++cs++d.drop (o+cs.length),[],p,_,rfl,l,?_,λ _=>(by grind)⟩;rw[hlen];exact((q.take o).app v).app (q.drop _)
     .exact bE.set hg rfl (r.lt hg)
    grind
  .rename_i m s c e fz hg;obtain⟨E,co,hc,hr⟩:=r.obj b _ hg;obtain⟨pre,d,post,p,rfl,l,q,z,A,B,C,K⟩:=hr;have x:=q.length;cases u:eI fz o (cW new)with
   |false=>grind
   |true =>
    rw[u]at h;simp only[xv,Fy]at h;split at h
    .rename_i hle;simp only[qr,qk]at h;subst h;have f:=xdx u;rw[Ij]at f;have g:=T0 (P:=P) (θ.off b+o) cs 0 _ w hc (by grind) (by grind [S4]) y;rw[vc,<-l,m8 pre d post cs o (by omega)]at g;rw[<-l];refine⟨_,g,?_,?_,rfl⟩
     .have F:(d.take o++cs++d.drop (o+cs.length)).length=d.length:=by grind
      refine r.set hg rfl rfl ⟨pre,d.take o++cs++d.drop (o+cs.length),post,p,rfl,l,?_,?_,A,B,C,?_⟩
      .rw [hlen];exact((q.take o).app v).app (q.drop _)
      .grind
      grind
     .exact bE.set hg rfl (r.lt hg)
    grind
  grind
def xli{o:Pv}{t:LP}{x y:N0}{n:Nat}(ho:o.op=.store t x y)(hs:bX P t=B1 n):sE P o [x,y] (Op.store n):=by
 intro base D θ H ρ w vs v H' l h c j;unfold Op.store at c;split at c
 .rename_i b off a;obtain⟨q,r,he,ha,hb⟩:=h.rE;simp only[zz,tG]at he;obtain⟨rfl,rfl⟩:=he;cases hn:J8 (cW a.cells) n with
  |false=>grind
  |true =>
   rw[hn]at c;simp only[xv,qj,qk,ze]at c;obtain⟨H1,g,rfl,rfl⟩:=c;obtain⟨w',e,m,f,p⟩:=l.store hb.cells g;have hl:=hb.cells.length;simp only[Ij,kc]at hn;have d:(ρ y).cells.size=n:=by grind
   refine⟨θ,w',_,.inr ⟨?_,rfl⟩,by grind [Up.none],f,.undef⟩;simp only[execOp,ho,<-ha.now,az,Instr.storeAt,Bv,storeVar,NQ,Qh,NM,uv hs,d,ne_eq,not_true_eq_false,nT,e]
 grind
def VT{w:NJ}{r:Nat}{o:Obj}{ms:Array BZ}{c:Nat}(h:w.heap[r]? = B1 (.map ms c)):(setObj r o).run P w=.ok () (fH w r o):=by
 simp[setObj,Sem.run,h,fH]
def HR.wS(d:HR P base D θ H w){b:Nat}{m:List (AV×AV×Nat)×Nat}(hm:H.fp b=B1 m){es:List (AV×AV×Nat)}{ms:List BZ}{c:Nat}(h:dA D θ es ms) :
 HR P base D θ (H.set b (.map es c)) (fH w (θ.cq b) (.map ms.toArray c))/\bE D H θ w (H.set b (.map es c)) θ (fH w (θ.cq b) (.map ms.toArray c)):=by
 obtain⟨hg,_,_⟩:=d.fp hm;exact⟨d.set hg rfl rfl ⟨ms,rfl,h⟩,bE.set hg rfl (d.lt hg)⟩
def xb9{o:Pv}{c:Call}{xs:List N0}{t s e:LP}(ho:o.op=.call c)(hc:c.callee=.builtin .clear)(n:c.args.toList=xs)(l:c.argTypes[0]? = B1 t)
 (hu:P.underlying t=B1 (.map s e)):sE P o xs Op.bV:=by
 intro base D θ H ρ w vs v H' j h d p;obtain⟨u,g⟩:=ML (ρ:=ρ) ho hc;unfold Op.bV at d;split at d
 .obtain ⟨x,rfl,ha⟩:=h.qD;simp only[qk,ze]at d;obtain⟨rfl,rfl⟩:=d;refine⟨θ,w,.tuple #[],.inl ?_,by grind [Up.none],.refl _ _ _ _,.tuple .nil⟩;rw[g,AZ n];simp[builtin,CG,l,<-ha.now,az,kw hu]
 .rename_i b;obtain⟨x,rfl,ha⟩:=h.qD;simp only[qj,qk,ze]at d;obtain⟨m,hm,rfl,rfl⟩:=d;obtain⟨_,_,ms,f,y⟩:=j.fp hm;obtain⟨q,r⟩:=j.wS hm (c:=m.2) (es:=[]) (ms:=[]) trivial;refine⟨θ,_,.tuple #[],.inl ?_,by rw[show(H.set b (.map [] m.2)).au=H.au from rfl,Up.none];exact q,r,.tuple .nil⟩;rw[g,AZ n];simp[builtin,CG,l,<-ha.now,az,kw hu,Mz f,VT f]
 grind
def Ψ{n:Nat}{a b:AV}{ca c:K8}(ha:VR D θ a ca)(hb:VR D θ b c)(h:Op.u6 a b=B4):BX n ca c=true:=by
 rw[<-ha.now,<-hb.now];cases a<;>cases b<;>simp only[Op.u6,zu]at h
 .grind [az,BX]
 .simp_all [DG,Sw,az,BX]
 simp_all[Mi,az,BX,beq_toListBytes]
def sq{n:Nat}:∀{a b:List AV}{ca c:List K8},bN D θ a ca->bN D θ b c->Op.fq a b=B4->ca.length=c.length/\((ca.zip c).all λ(x,y)=>BX n x y)=B4
 |[],[],ca,c,ha,hb,_=>by rw[ha.mr,hb.mr];simp
 |a::x,b::y,ca,c,ha,hb,h=>by
  obtain⟨m,d,rfl,f,j⟩:=ha.d9;obtain⟨p,e,rfl,g,l⟩:=hb.d9;simp only[Op.fq]at h;cases hs:Op.u6 a b with
  |false=>grind
  |true =>
   rw[hs]at h;obtain⟨e1,e2⟩:=sq (n:=n) j l h;simp only[zr,e1,List.zip_cons_cons,List.all_cons,Ψ f g hs,Bool.true_and,e2,and_self]
 |[],_::_,_,_,_,_,h=>by cases h
 |_::_,[],_,_,_,_,h=>by cases h
theorem xjw{n:Nat}{a b:AV}{ca d:K8}(ha:VR D θ a ca)(hb:VR D θ b d)(h:Op.stays a b=B4):BX (n+1) ca d=true:=by
 by_cases c:(∃l,a=.agg l) /\ ∃l,b=.agg l
 .obtain ⟨⟨l,rfl⟩,⟨g,rfl⟩⟩:=c;obtain⟨cs,rfl,e⟩:=ha.fA;obtain⟨cs',rfl,f⟩:=hb.fA;obtain⟨e1,e2⟩:=sq (n:=n) e f h
  grind [BX]
 .refine Ψ ha hb ?_;cases a<;>cases b<;>first|exact h|grind
def dA.get{D:Nat->Prop}{θ:Th}:∀(es:List (AV×AV×Nat))(ms:List BZ)(i:Nat)(e:AV×AV×Nat),dA D θ es ms->es[i]? = B1 e -> ∃m,ms[i]? = B1 m/\Q6 D θ e m
 |_::_,m::_,0,e,⟨h,_⟩,he=>(by grind)
 |_::es,_::ms,i+1,e,⟨_,h⟩,he=>by simpa using dA.get es ms i e h (by simpa using he)
 |[],_,_,_,_,he=>by grind
 |_::_,[],_,_,h,_=>h.elim
def dA.modify{D:Nat->Prop}{θ:Th}{k v:AV}{c cv:K8}(hk:VR D θ k c)(d:VR D θ v cv):∀(es:List (AV×AV×Nat))(ms:List BZ)(i:Nat),dA D θ es ms ->
 dA D θ (es.modify i λ e=>(k,v,e.2.2)) (ms.modify i λ e=>{e with key:=c,val:=cv})
 |[],[],_,_=>by grind
 |_::_,_::_,0,⟨⟨_,_,h3⟩,h⟩=>by simpa[dA]using⟨⟨hk,d,h3⟩,h⟩
 |_::es,_::ms,i+1,⟨h1,h⟩=>by simpa[dA]using⟨h1,dA.modify hk d es ms i h⟩
 |[],_::_,_,h=>h.elim
 |_::_,[],_,h=>h.elim
def dA.push{D:Nat->Prop}{θ:Th}{k v:AV}{d cv:K8}{c:Nat}(hk:VR D θ k d)(e:VR D θ v cv):∀(es:List (AV×AV×Nat))(ms:List BZ),dA D θ es ms ->
 dA D θ (es ++ [(k,v,c)]) (ms ++ [{key:=d,val:=cv,born:=c}])
 |[],[],_=>⟨⟨hk,e,rfl⟩,trivial⟩
 |_::es,_::ms,⟨h1,h⟩=>⟨h1,dA.push hk e es ms h⟩
 |[],_::_,h=>h.elim
 |_::_,[],h=>h.elim
def ν{o:Pv}{t I e:LP}{x y z:N0}{q:aU}(ho:o.op=.mapUpdate t x y z\/o.op=.insert t x y z)(hu:P.underlying t=B1 (.map I e))(G:p5 P I=B1 q) :
 sE P o [x,y,z] (Op.mapUpdate q):=by
 intro base D θ H ρ w vs v H' s h d L;unfold Op.mapUpdate at d;split at d
 .rename_i b k K;obtain⟨R,v0,N,he,ha,hb,hc⟩:=h.sA;simp only[zz,tG]at he;obtain⟨rfl,rfl,rfl⟩:=he;cases f:cS q k with
  |false=>rw[f]at d;cases d
  |true =>
   rw[f]at d;simp only[xv,qj]at d;obtain⟨m,hm,r,hr,d⟩:=d;obtain⟨_,_,ms,j,l⟩:=s.fp hm;have hk:=λ em=>Xk (em:=em) (w:=w) G hb f;obtain⟨J,F,g⟩:=q4i (w:=w) G hb l hr;cases r with
   |none =>
    cases J with
    |some _=>exact g.elim
    |none =>
     simp only[qk,ze]at d;obtain⟨rfl,rfl⟩:=d;obtain⟨C,E⟩:=s.wS hm (c:=m.2+1) (dA.push (c:=m.2) hb hc _ _ l);refine⟨θ,_,_,.inr ⟨?_,rfl⟩,by rw[show(H.set b (.map (m.1 ++ [(k,K,m.2)]) (m.2+1))).au=H.au from rfl,Up.none];exact C,E,.undef⟩;rcases ho with ho|ho<;>simp[execOp,ho,Instr.mapUpdate,<-ha.now,az,kw hu,hk,F,Mz j,VT j]
   |some p =>
    obtain⟨i,pv⟩:=p;cases J with
    |none=>exact g.elim
    |some p' =>
     obtain⟨Q,pc⟩:=p';obtain⟨rfl,g⟩:=g;simp only[qj,kD]at d;obtain⟨en,n,d⟩:=d;cases B:Op.stays en.1 k with
     |false=>grind
     |true =>
      rw[B]at d;simp only[xv,qk,ze]at d;obtain⟨rfl,rfl⟩:=d;obtain⟨me,A,⟨e1,e2,O⟩⟩:=dA.get _ _ i en l n;have M:BX 10000 me.key (ρ y)=true:=(by grind [xjw])
      have u:(Instr.keyThatStays me.key (ρ y)).run P w=.ok (ρ y) w:=by simp_all[Instr.keyThatStays]
      obtain⟨C,E⟩:=s.wS hm (c:=m.2) (dA.modify hb hc _ _ i l);refine⟨θ,_,_,.inr ⟨?_,rfl⟩,by rw[show(H.set b (.map (m.1.modify i λ e=>(k,K,e.2.2)) m.2)).au=H.au from rfl,Up.none];exact C,E,.undef⟩;rcases ho with ho|ho<;>simp[execOp,ho,Instr.mapUpdate,<-ha.now,az,kw hu,hk,F,Mz j,VT j,A,u]
 grind
end
end Go.Am
namespace Go.Am
section
variable{P:Jy}{base:Nat}{D:Nat->Prop}{θ:Th}{H:ar}{w:NJ}
def HR.sub(h:HR P base D θ H w){H':ar}(hs:∀b o,H'.get b=B1 o->H.get b=B1 o):HR P base D θ H' w :=
 ⟨λ b o hb=>h.obj b o (hs b o hb),λ b d o o' hb c=>h.inj b d o o' (hs b o hb) (hs d o' c),λ b o hb=>h.lR b o (hs b o hb),h.eJ,h.low⟩
def VH(H:ar)(k:Nat):∀b o,(H.kill k).get b=B1 o->H.get b=B1 o:=by
 intro b o h;rw[ar.rF]at h;split at h
 .cases h
 .exact h
def bE.kill(H:ar)(k:Nat):bE D H θ w (H.kill k) θ w :=
 ⟨qm _,Ag.refl _ _,qm _,rfl,rfl,rfl,λ _ _ _=>rfl,λ b o h ho _=>⟨b,o,VH H k b o h,ho,rfl⟩⟩
def HR.move(h:HR P base D θ H w)(hn:¬D H.au){b:Nat}{o o':bF}{co':Obj}{off ext:Nat}(hb:H.get b=B1 o)(ho:own o=B4)(G:own o'=B4)
 (hr:pj P (Up D H.au (H.au+1)) (θ.add H.au (θ.cq b) off ext) H.au o' co') :
 HR P base (Up D H.au (H.au+1)) (θ.add H.au (θ.cq b) off ext) ((H.kill b).alloc o') (fH w (θ.cq b) co') /\
 bE D H θ w ((H.kill b).alloc o') (θ.add H.au (θ.cq b) off ext) (fH w (θ.cq b) co'):=by
 have n:=h.lt hb;have m:=Th.hJ θ H.au (θ.cq b) off ext hn;have⟨e1,e2,K⟩:=Th.eO θ H.au (θ.cq b) off ext;have old:∀x c,H.get x=B1 c->(θ.add H.au (θ.cq b) off ext).cq x = θ.cq x:=λ x c d=>(m x (h.obj x c d).1).1;have f:∀x c,((H.kill b).alloc o').get x=B1 c->(x=H.au/\c=o')\/(x≠H.au/\x≠b/\H.get x=B1 c):=by
  intro x c d;rw[ar.bO,ar.rF]at d
  by_cases e:H.au=x
  .rw [xb (show(H.kill b).au=x from e)]at d;injection d with d
   exact .inl ⟨e.symm,d.symm⟩
  .rw [qv (show¬(H.kill b).au=x from e)]at d
   by_cases e':b=x
   .rw [xb e']at d;cases d
   .rw [qv e']at d;exact .inr ⟨λ q=>e q.symm,λ q=>e' q.symm,d⟩
 refine⟨⟨λ x c d=>?_,λ x y c t d I l s=>?_,λ x c d l=>?_,λ g hg=>?_,by rw[Ud];exact h.low⟩,⟨ke _,m,by rw[Ud];exact qm _,rfl,rfl,rfl,λ k hk B=>?_,λ x c d l C=>?_⟩⟩
 .rcases f x c d with⟨rfl,rfl⟩|⟨v,p,j⟩
  .exact ⟨.inr ⟨qm _,zy _⟩,co',by rw[e1,Kk _ _ _ _ n];simp,hr⟩
  .have ⟨r,co,z,A⟩:=h.obj x c j;refine⟨.inl r,co,?_,A.up r m Up.of⟩;rw[old x c j,Kk _ _ _ _ n,qv (h.inj b x o c hb j ho (λ q=>p q.symm))];exact z
 .rcases f x c d with⟨rfl,rfl⟩|⟨v,p,j⟩<;>rcases f y t I with⟨rfl,rfl⟩|⟨L,J,u⟩
  .exact absurd rfl s
  .rw [e1,old y t u];exact h.inj b y o t hb u ho (λ q=>J q.symm)
  .rw [e1,old x c j];exact h.inj x b c o j hb l p
  .rw [old x c j,old y t u];exact h.inj x y c t j u l s
 .rcases f x c d with⟨rfl,rfl⟩|⟨v,p,j⟩
  .rw [e1];exact h.lR b o hb ho
  .rw [old x c j];exact h.lR x c j l
 .have ⟨r,z,A⟩:=h.eJ g hg;have⟨E,F,_⟩:=m g r;exact⟨.inl r,E.trans z,F.trans A⟩
 .rw [Kk _ _ _ _ n,qv (B b o hb ho)]
 .rcases f x c d with⟨rfl,rfl⟩|⟨v,p,j⟩
  .exact ⟨b,o,hb,ho,e1.symm⟩
  .exact ⟨x,c,j,l,(old x c j).symm⟩
def Ko(v:HR P base D θ H w){tx:LP}(hk:(∃e',P.underlying tx=B1 (.slice e'))\/P.underlying tx=B1 .string){x:AV}{c:K8}{size k:Nat}{l:List AV}
 (q:VR D θ x c) (hl:fI x=B1 k) (h:firstCells H size k x=B1 l) (E:aS l=B4):∃cs,Src P size tx c k cs w/\bN D θ l cs:=by
 cases hs:isStr x with
 |true =>
  cases x<;>try (cases hs)
  rename_i s;simp only[fI,Ij,qk]at hl;subst hl;simp only[firstCells,GJ]at h;cases e:J8 size 1 with
  |false=>rw[e]at h;cases h
  |true =>
  rw[e]at h;simp only[xv,qk]at h;subst h;simp only[kc]at e;subst e;rw[<-q.now];show∃cs,Src P 1 tx (.string ⟨s.toArray⟩) s.length cs w/\bN D θ _ cs;have t:∀w:NJ,(C4 1 s.length (.string ⟨s.toArray⟩)).run P w=.ok (s.map λ b=>K8.int .u8 b.toNat).toArray w:=by
   intro w;have:=firstCells_string (P:=P) ⟨s.toArray⟩ w;rw[MY]at this;exact this
  refine⟨s.map λ b=>.int .u8 b.toNat,⟨hk,λ w'=>?_,t w,t w.drew,by simp,λ u hu=>?_⟩,λ θ' _=>by rw[ui,zD];rfl⟩
  .show Result.ok (ByteArray.size ⟨s.toArray⟩) w'=_;rw[MY]
  .obtain ⟨_,_,rfl⟩:=CN.1 hu;rfl
 |false =>
  obtain⟨a,len,cap,rfl,rfl,f⟩:=YL v q hl (qm _) hs h;obtain⟨J,y,r,j,rfl,d⟩:=YL (v.draw (w':=w.drew) rfl) q hl (qm _) hs h;injection j with m F n;subst m;subst n
  rcases f with⟨rfl,rfl,_,p⟩|⟨ad,cs,rfl,A,g,B⟩
  .exact ⟨[],⟨hk,λ _=>rfl,rfl,rfl,by simp[p],by simp⟩,.nil⟩
  .rcases d with⟨C,_⟩|⟨z,cs',he,G,I,K⟩
   .cases C
   .cases he;have:cs'=cs:=by rw[<-I.now,<-g.now]
    subst this;exact⟨cs',⟨hk,λ _=>rfl,A,G,by rw[g.length];exact B,A_ g E⟩,g⟩
def Zn{t tx ty e:LP}{i:TypeInfo}(g:P.underlying t=B1 (.slice e))(f:P.info? e=B1 i){a:Addr}{sLen sCap n:Nat}{x:K8}{news:List K8}(hs:Src P i.size tx x n news w)
 (c:sLen+n<=sCap) {w':NJ} (d:(storeCells (a.add (sLen*i.size)) news).run P w=.ok () w') :
 (Bj #[t,tx] ty #[.slice (B1 a) sLen sCap,x]).run P w=.ok (.slice (B1 a) (sLen+n) sCap) w':=by
 rcases hs.kind with⟨e',hk⟩|hk<;>simp[Bj,run_underlying g,run_underlying hk,sizeOf,typeInfo,f,hs.len,c,hs.cells,d]
def xbf(z:Array K8)(n:Nat):(BM z n).size=n*z.size:=by simp[BM]
def xja{D':Nat->Prop}{θ':Th}{id m size:Nat}{cells:List AV}{cs rest:List K8}{e:LP}{fz:Nat×Nat}(h:bN D' θ' cells cs)(ho:θ'.off id=0)(hl:cells.length=m*size)
 (hr:rest.length = θ'.ext id*size) (c:0<size) (hm:m + θ'.ext id<=maxLen):pj P D' θ' id (.grown m size cells e fz) (.cells (cs++rest).toArray e (0,0)) :=
 ⟨[],cs,rest,(0,0),by simp,by simp[ho],h,hl,hr,c,hm,.inl rfl⟩
def HR.grow(F:HR P base D θ H w)(hn:¬D H.au){t tx ty e:LP}{i:TypeInfo}{z:K8}(L:P.underlying t=B1 (.slice e))(J:P.info? e=B1 i)(M:i.zero=B1 z)(E:z.cells.size=i.size)
 (I:0<i.size) {bs:Option Addr} {sLen sCap n:Nat} {x:K8} {old new:List AV} {olds news:List K8} (hold:(C4 i.size sLen (.slice bs sLen sCap)).run P w.drew=.ok olds.toArray w.drew)
 (hs:Src P i.size tx x n news w) (hg:sCap<sLen+n) (v:fits (sLen+n) i.bytes=B4) (ho:bN D θ old olds) (l:bN D θ new news) (B:old.length=sLen*i.size) (fz:Nat×Nat) :
 ∃θ' w' c,(Bj #[t,tx] ty #[.slice bs sLen sCap,x]).run P w=.ok c w'/\HR P base (Up D H.au (H.au+1)) θ' (dD H e i.size (sLen+n) (kJ old new) fz).2 w' /\
  bE D H θ w (dD H e i.size (sLen+n) (kJ old new) fz).2 θ' w'/\VR (Up D H.au (H.au+1)) θ' (dD H e i.size (sLen+n) (kJ old new) fz).1 c:=by
 unfold fits at v;simp only[zf,uh]at v;have⟨G,N⟩:=v;have d:=run_append_grow_src (P:=P) w t tx ty e i z L J M bs sLen sCap olds hold x n news hs hg (by omega) (growslice_fits hg G);have g:=grownCap_ge w (sLen+n) sCap e;have r:=grownCap_le_maxLen w (sLen+n) sCap e (by unfold maxLen;omega);generalize grownCap w (sLen+n) sCap e=cap at d g r;have A:=hs.newsLen;have hlen:(kJ old new).length=(sLen+n)*i.size:=by
  rw[py,xc,B,<-l.length,A,ye]
 have u:(Obj.cells ((olds++news).toArray++BM z.cells (cap-(sLen+n))) e:Obj)=.cells ((olds++news)++(BM z.cells (cap-(sLen+n))).toList).toArray e (0,0):=by
  congr 1;apply Array.ext';simp
 have q:=Th.hJ θ H.au w.drew.heap.size 0 (cap-(sLen+n)) hn;have C:bN (Up D H.au (H.au+1)) (θ.add H.au w.drew.heap.size 0 (cap-(sLen+n))) (kJ old new) (olds++news):=by
  rw[py];exact(ho.app l).up q Up.of
 have⟨e1,e2,p⟩:=Th.eO θ H.au w.drew.heap.size 0 (cap-(sLen+n));have hR:=xja (P:=P) (id:=H.au) (m:=sLen+n) (size:=i.size) (e:=e) (fz:=fz) (rest:=(BM z.cells (cap-(sLen+n))).toList) C e2 hlen
  (by rw[p,O2,xbf,E]) I (by rw[p];omega)
 rw[<-u]at hR;refine⟨_,_,_,d,HR.alloc (w:=w.drew) (F.draw rfl) hn ?_ ?_ (qm _) ?_ hR,?_,?_⟩
 .rw [Cs];simp
 .intro j K;rw[Cs,qv (Ma K)]
 .show w.drew.heap.size<=(w.drew.alloc _).heap.size;simp
 .exact (bE.draw (w:=w) (w':=w.drew) rfl rfl rfl rfl).trans (bE.alloc (w:=w.drew) (F.draw rfl) hn _ _ _ _) (λ _ h=>h)
 .have y:(Up D H.au (H.au+1)) H.au:=.inr ⟨qm _,zy _⟩;have:=VR.gslice (θ:=θ.add H.au w.drew.heap.size 0 (cap-(sLen+n))) (i:=0) (m:=sLen+n) (s:=i.size) (alt:=0) (n:=sLen+n) y;intro θ'' f;show az θ'' (.gslice H.au 0 (sLen+n) i.size 0 (sLen+n))=_;rw[this θ'' f];simp only[az,e1,e2,p,wh,ite_self,vc,Kv];congr 1;omega
def Qj{b i m s alt n:Nat}{c:K8}(h:VR D θ (.gslice b i m s alt n) c):c=.slice (B1 ⟨θ.cq b,θ.off b+(if(m-i) + θ.ext b=0 then alt else i*s),B5⟩) n ((m-i) + θ.ext b):=by
 rw[<-h.now];rfl
def Lh{b o n d:Nat}{c:K8}(h:VR D θ (.slice b o n d) c):c=.slice (B1 ⟨θ.cq b,θ.off b+o,B5⟩) n d:=by
 rw[<-h.now];rfl
def HR.KV(U:HR P base D θ H w)(hn:¬D H.au){t tx ty e:LP}{i:TypeInfo}{z:K8}(ht:P.underlying t=B1 (.slice e))(hi:P.info? e=B1 i)(hz:i.zero=B1 z)(hzs:z.cells.size=i.size)
 (h0:0<i.size) {b k m sLen n:Nat} {c:List AV} {fz d:Nat×Nat} {alt:Nat} {s x:K8} {old new:List AV} {news:List K8} (hg:H.get b=B1 (.grown m i.size c e fz))
 (hsv:VR D θ (.gslice b k m i.size alt sLen) s) (hs:Src P i.size tx x n news w) (A:bN D θ new news) (hn0:0<n) (X:k+sLen<=m) (hbig:m<k+sLen+n) (hf:fits (sLen+n) i.bytes=B4)
 (hold:fP c (k*i.size) (sLen*i.size)=B1 old)
 (F:(fz.2<fz.1\/fz.2<=(k+sLen)*i.size)/\((k=0/\d=fz)\/(fz.2<=k*i.size/\d=cond (J8 fz.1 fz.2) (0,0) (1,0)))) :
 ∃θ' w' v,(Bj #[t,tx] ty #[s,x]).run P w=.ok v w'/\HR P base (Up D H.au (H.au+1)) θ' (dD (H.kill b) e i.size (sLen+n) (kJ old new) d).2 w' /\
  bE D H θ w (dD (H.kill b) e i.size (sLen+n) (kJ old new) d).2 θ' w'/\VR (Up D H.au (H.au+1)) θ' (dD (H.kill b) e i.size (sLen+n) (kJ old new) d).1 v:=by
 have Z:=Qj hsv;subst Z;obtain⟨hd,co,hc,pre,cs,post,p,rfl,r2,r3,L,r5,r6,r7,r8⟩:=U.obj b _ hg;have r:=r3.length;have G:=hs.newsLen;rw[sV]at hold;have hle:sLen*i.size<=c.length-k*i.size:=by
  rw[L,<-Mw];exact jk _ (by omega)
 rw[xb hle]at hold;cases hold;have B:bN D θ ((c.drop (k*i.size)).take (sLen*i.size)) ((cs.drop (k*i.size)).take (sLen*i.size)):=(r3.drop _).take _;have hkc:(k+sLen)*i.size<=c.length:=by rw[L];exact jk _ X
 have W:(k+sLen)*i.size=k*i.size+sLen*i.size:=ye _ _ _
 by_cases C:sLen+n<=(m-k) + θ.ext b
 .-- in place
  have g:¬(m-k) + θ.ext b=0:=by omega
  rw[qv g];have htot:(k+sLen+n)*i.size<=cs.length+post.length:=by
   rw[r,L,r5,<-ye];exact jk _ (by omega)
  have Q:(k+sLen+n)*i.size=k*i.size+sLen*i.size+n*i.size:=by rw[ye,ye]
  have J:=T0 (P:=P) (θ.off b+k*i.size+sLen*i.size) news 0 _ w hc (by simp;omega) (λ j hj=>by
   unfold S4 at r8;have⟨q1,K⟩:=F;omega) hs.one
  rw[vc]at J;have I:=Zn (ty:=ty) ht hi (a:=⟨θ.cq b,θ.off b+k*i.size,B5⟩) (sLen:=sLen) (sCap:=(m-k) + θ.ext b) hs C (by rw[zI];exact J)
  -- the block's cells from the slice's head on
  have hw:((pre++cs++post).take (θ.off b+k*i.size+sLen*i.size)++news++(pre++cs++post).drop (θ.off b+k*i.size+sLen*i.size+news.length)) =
   (pre++cs.take (k*i.size))++((cs.drop (k*i.size)).take (sLen*i.size)++news)++(pre++cs++post).drop (θ.off b+k*i.size+sLen*i.size+news.length):=by
   have e1:(pre++cs++post).take (θ.off b+k*i.size+sLen*i.size)=pre++cs.take (k*i.size)++(cs.drop (k*i.size)).take (sLen*i.size):=by
    rw[jb,NG,zq (l:=pre) (by omega),jb,show θ.off b+k*i.size+sLen*i.size-pre.length=k*i.size+sLen*i.size from by omega,NG,
     show k*i.size+sLen*i.size-cs.length=0 from by omega,kz,zn,List.take_add]
   rw[e1];simp
  have u:((pre++cs++post).drop (θ.off b+k*i.size+sLen*i.size+news.length)).length=((m-k) + θ.ext b-(sLen+n))*i.size:=by
   rw[jg,xc,xc,G,Mw,ye,ye,Mw,r,L,r5,r2];have:=jk i.size (show k<=m by omega);omega
  have R:=Th.hJ θ H.au (θ.cq b) (θ.off b+k*i.size) ((m-k) + θ.ext b-(sLen+n)) hn;have⟨e1,e2,M⟩:=Th.eO θ H.au (θ.cq b) (θ.off b+k*i.size) ((m-k) + θ.ext b-(sLen+n));have hsz:((cs.drop (k*i.size)).take (sLen*i.size)).length=sLen*i.size:=by rw[zx,jg];omega
  have⟨N,O⟩:=U.move hn (o':=.grown (sLen+n) i.size (kJ ((c.drop (k*i.size)).take (sLen*i.size)) new) e d) (co':=.cells ((pre++cs.take (k*i.size))++((cs.drop (k*i.size)).take (sLen*i.size)++news)++(pre++cs++post).drop (θ.off b+k*i.size+sLen*i.size+news.length)).toArray e p)
   (off:=θ.off b+k*i.size) (ext:=(m-k) + θ.ext b-(sLen+n)) hg rfl rfl ⟨_,_,_,p,rfl,by rw[e2,xc,zx];omega,by rw[py];exact(B.app A).up R Up.of,
    by rw[py,xc,<-B.length,hsz,<-A.length,G,ye],by rw[M];exact u,h0,by rw[M];unfold maxLen at r7⊢;omega,by
     rw[e2];have y:(pre++cs.take (k*i.size)).length+((cs.drop (k*i.size)).take (sLen*i.size)++news).length+((pre++cs++post).drop (θ.off b+k*i.size+sLen*i.size+news.length)).length=pre.length+cs.length+post.length:=by
      rw[<-xc,<-xc,<-hw];simp;omega
     rw[y];obtain⟨_,q|⟨q1,K⟩⟩:=F
     .obtain ⟨rfl,rfl⟩:=q;simpa using r8
     .unfold S4 at r8⊢;cases f:J8 fz.1 fz.2 with
      |true =>
       simp only[kc]at f;rw[f]at K;simp only[Nat.beq_refl,xv]at K;omega
      |false =>
       rw[f]at K;subst K;have:¬fz.1=fz.2:=by intro h;rw[h,Nat.beq_refl]at f;cases f
       simp only[zo];omega⟩
  refine⟨θ.add H.au (θ.cq b) (θ.off b+k*i.size) ((m-k) + θ.ext b-(sLen+n)),_,_,I,?_,?_,?_⟩
  .rw [show(pre++cs++post).toArray.toList=pre++cs++post from rfl,hw];exact N
  .rw [show(pre++cs++post).toArray.toList=pre++cs++post from rfl,hw];exact O
  .have V:(Up D H.au (H.au+1)) H.au:=.inr ⟨qm _,zy _⟩;have:=VR.gslice (θ:=θ.add H.au (θ.cq b) (θ.off b+k*i.size) ((m-k) + θ.ext b-(sLen+n))) (i:=0) (m:=sLen+n) (s:=i.size) (alt:=0) (n:=sLen+n) V;intro θ'' E;show az θ'' (.gslice H.au 0 (sLen+n) i.size 0 (sLen+n))=_;rw[this θ'' E];simp only[az,e1,e2,M,wh,ite_self,vc,Kv];congr 1;omega
 .have S:(C4 i.size sLen (.slice (B1 ⟨θ.cq b,θ.off b+(if(m-k) + θ.ext b=0 then alt else k*i.size),B5⟩) sLen ((m-k) + θ.ext b))).run P w.drew=.ok ((cs.drop (k*i.size)).take (sLen*i.size)).toArray w.drew:=by
   by_cases Y:sLen=0
   .subst Y;show(loadCells _ (0*i.size)).run P w.drew=_;rw[wh,kz];rfl
   .have g:¬(m-k) + θ.ext b=0:=by omega
    rw[qv g];show(loadCells _ (sLen*i.size)).run P w.drew=_;have:=xdq (P:=P) (w:=w.drew) (k:=θ.cq b) (fz:=p) (e:=e) (arr:=(pre++cs++post).toArray) hc (pre.length+k*i.size) (sLen*i.size) (by simp;omega);rw[mo pre cs post _ _ (by rw[r];exact hle),r2]at this;exact this
  have:=(U.sub (VH H b)).grow (ty:=ty) (H:=H.kill b) hn ht hi hz hzs h0 S hs (by omega) hf B A (by rw[zx,jg];omega) d;have⟨θ',w',v,N,O,g3,g4⟩:=this;exact⟨θ',w',v,N,O,(bE.kill H b).trans g3 (λ _ h=>h),g4⟩
def Hf{e:LP}{n z:Nat}{g:AV}(hs:bX P e=B1 n)(hb:ng P e=B1 z)(c:zeroOf P e=B1 g)(f:g.cells.length=n) :
 ∃i zc,P.info? e=B1 i/\i.size=n/\i.bytes=z/\i.zero=B1 zc/\zc.cells.size=n:=by
 have⟨i,d,h⟩:=qzi hs;unfold ng at hb;rw[d]at hb;simp only[qr,qk]at hb;unfold zeroOf at c;rw[d]at c;simp only[qr,qj]at c;have⟨zc,j,l⟩:=c;refine⟨i,zc,d,h,hb,j,?_⟩;have:=(Uj (D:=λ _=>False) (θ:=⟨λ _=>0,λ _=>0,λ _=>0⟩) l).cells.length;rw[f]at this;simpa using this
def xm9{b o n d:Nat}{c:K8}(h:VR D θ (.slice b o n d) c)(n':Nat):VR D θ (.slice b o n' d) (.slice (B1 ⟨θ.cq b,θ.off b+o,B5⟩) n' d):=λ θ' ha=>by
 have:=(h θ' ha).trans h.now.symm;simp only[az,BG,qk,Bc,tG]at this;simp only[az,this.1,this.2]
def xio{b i m s alt n:Nat}{c:K8}(h:VR D θ (.gslice b i m s alt n) c)(n':Nat):VR D θ (.gslice b i m s alt n') (.slice (B1 ⟨θ.cq b,θ.off b+(if(m-i) + θ.ext b=0 then alt else i*s),B5⟩) n' ((m-i) + θ.ext b)):=λ θ' ha=>by
 have:=(h θ' ha).trans h.now.symm;simp only[az,BG,qk,Bc,tG,Eo]at this;have⟨⟨f,d⟩,e⟩:=this;rw[e]at d;simp only[az,f,e,d]
def xii{o:Pv}{c:Call}{xs:List N0}{t tx e:LP}{sz z:Nat}{zv:AV}(ho:o.op=.call c)(hc:c.callee=.builtin .append)(hx:c.args.toList=xs)(hts:c.argTypes.toList=[t,tx])
 (hu:P.underlying t=B1 (.slice e)) (hk:(∃e',P.underlying tx=B1 (.slice e'))\/(P.underlying tx=B1 .string)) (hs:bX P e=B1 sz) (hb:ng P e=B1 z) (hz:zeroOf P e=B1 zv) (hzn:zv.cells.length=sz) :
 sE P o xs (Op.append e sz z):=by
 intro base D θ H ρ w vs v H' G h d U;obtain⟨cc,hE⟩:=ML (ρ:=ρ) ho hc;have Y:c.argTypes = #[t,tx]:=by apply Array.ext';simpa using hts
 obtain⟨i,zc,X,rfl,rfl,V,W⟩:=Hf hs hb hz hzn;unfold Op.append at d;split at d
 .rename_i a b;obtain⟨x,y,rfl,ha,hbv⟩:=h.rE;simp only[qj]at d;obtain⟨n,hn,new,hnew,d⟩:=d;cases J:aS new with
  |false=>rw[J]at d;cases d
  |true =>
   rw[J]at d;simp only[xv]at d;obtain⟨news,j,C⟩:=Ko G (tx:=tx) hk hbv hn hnew J;have g:∀(K:K8)(w':NJ),(Bj #[t,tx] o.type #[ρ x,ρ y]).run P w=.ok K w'->(execOp ρ o).run P w=.ok (.value K) w':=by
    intro K w' hr;rw[hE,AZ hx,Y];simp[builtin,hr]
   have hnl:=j.newsLen;have hnlen:=C.length;have f:n=0 -> ∀bs len L,ρ x=.slice bs len L->len<=L->(Bj #[t,tx] o.type #[ρ x,ρ y]).run P w=.ok (ρ x) w:=by
    intro r bs len L he hle;subst r;have:news=[]:=List.eq_nil_of_length_eq_zero (by simpa using hnl);subst this;rw[he];exact run_append_nothing w t tx o.type e i hu X bs len L hle (ρ y) j
   unfold df at d;split at d
   .-- nil
    cases r:J8 n 0 with
    |true =>
     rw[r]at d;simp only[xv,qk,ze]at d;obtain⟨rfl,rfl⟩:=d;exact⟨θ,w,ρ x,.inl (g _ _ (f (by simpa using r) B5 0 0 ha.now.symm (qm _))),by rw[Up.none];exact G,.refl _ _ _ _,by rw[Up.none];exact ha⟩
    |false =>
     rw[r]at d;simp only[zo]at d;cases u:(fits n i.bytes && Pk 0 i.size)with
     |false=>rw[u]at d;cases d
     |true =>
      rw[u]at d;simp only[xv,qk]at d;simp only[zf,vX]at u;have hn0:n≠0:=by intro q;subst q;cases r
      obtain⟨θ',w',K,N,s,B,p⟩:=G.grow (ty:=o.type) (U H.au (qm _) (by rw[<-(CW d).2];exact zy _)) hu X V W u.2 (bs:=B5) (sLen:=0) (sCap:=0) (old:=[]) (olds:=[]) rfl j (by omega) (by simpa using u.1) .nil C (by simp) (0,0);rw[show kJ ([]:List AV) new=new from rfl,yf]at s B p;rw[d]at s B p;have:H'.au=H.au+1:=by rw[<-(CW d).2];rfl
      rw[<-this]at s p;refine⟨θ',w',K,.inl (g _ _ ?_),s,B,p⟩;rw[<-ha.now];exact N
   .-- a slice of a row
    rename_i bb oo len L;cases hle:OZ (len+n) L with
    |true =>
     rw[hle]at d;simp only[uh]at hle;simp only[xv]at d;cases r:J8 n 0 with
     |true =>
      rw[r]at d;simp only[xv,qk,ze]at d;obtain⟨rfl,rfl⟩:=d;simp only[kc]at r;subst r;exact⟨θ,w,ρ x,.inl (g _ _ (f rfl _ len L (Lh ha) (by omega))),by rw[Up.none];exact G,.refl _ _ _ _,by rw[Up.none];exact ha⟩
     |false =>
      rw[r]at d;simp only[zo,qj,qk,ze]at d;obtain⟨H1,h1,rfl,rfl⟩:=d;obtain⟨w',N,s,B,p⟩:=G.store C h1;refine⟨θ,w',_,.inl (g _ _ ?_),by rw[p,Up.none];exact s,B,by rw[p,Up.none];exact xm9 ha _⟩;rw[Lh ha];exact Zn hu X j hle (by rw[zI,wq];exact N)
    |false =>
     rw[hle]at d;have Z:¬len+n<=L:=by intro q;rw[Nat.ble_eq_true_of_le q]at hle;cases hle
     simp only[zo]at d;cases u:(fits (len+n) i.bytes && OZ L (len+n) && Pk 0 i.size)with
     |false=>rw[u]at d;cases d
     |true =>
      rw[u]at d;simp only[xv,qj,qk]at d;obtain⟨old,hold,d⟩:=d;simp only[zf,vX]at u;obtain⟨olds,k1,k2,k3⟩:∃olds:List K8,(C4 i.size len (ρ x)).run P w.drew=.ok olds.toArray w.drew/\bN D θ old olds/\old.length=len*i.size:=by
       obtain⟨ad,len',cap',R,hl',S⟩:=YL (G.draw (w':=w.drew) rfl) ha (n:=len) rfl (qm _) rfl hold;rcases S with⟨rfl,rfl,_,r⟩|⟨ad',cs',rfl,k1,k2,k3⟩
       .rw [Lh ha]at R;cases R
       .exact ⟨cs',by rw[R];exact k1,k2,k3⟩
      rw[Lh ha]at k1;obtain⟨θ',w',K,N,s,B,p⟩:=G.grow (ty:=o.type) (U H.au (qm _) (by rw[<-(CW d).2];exact zy _)) hu X V W u.2 k1 j (by omega) u.1.1 k2 C k3 (0,0);rw[d]at s B p;have:H'.au=H.au+1:=by rw[<-(CW d).2];rfl
      rw[<-this]at s p;refine⟨θ',w',K,.inl (g _ _ ?_),s,B,p⟩;rw[Lh ha];exact N
   .-- a slice of a grown row
    rename_i bb ii m sz alt len;cases r:J8 n 0 with
    |true =>
     rw[r]at d;simp only[xv]at d;cases I:OZ (ii+len) m with
     |false=>rw[I]at d;cases d
     |true =>
     rw[I]at d;simp only[xv,qk,ze]at d;obtain⟨rfl,rfl⟩:=d;simp only[kc]at r;subst r;simp only[uh]at I;exact⟨θ,w,ρ x,.inl (g _ _ (f rfl _ len _ (Qj ha) (by omega))),by rw[Up.none];exact G,.refl _ _ _ _,by rw[Up.none];exact ha⟩
    |false =>
     rw[r]at d;have hn0:n≠0:=by intro q;subst q;cases r
     simp only[zo]at d;cases l:(J8 sz i.size && OZ (ii+len) m && Pk 0 i.size)with
     |false=>rw[l]at d;cases d
     |true =>
      rw[l]at d;simp only[zf,kc,uh,vX]at l;obtain⟨⟨rfl,I⟩,hsz⟩:=l;simp only[xv]at d;cases hle:OZ (ii+len+n) m with
      |true =>
       rw[hle]at d;simp only[uh]at hle;simp only[xv,qj,qk,ze]at d;obtain⟨H1,h1,rfl,rfl⟩:=d;obtain⟨w',N,s,B,p⟩:=G.store C h1;refine⟨θ,w',_,.inl (g _ _ ?_),by rw[p,Up.none];exact s,B,by rw[p,Up.none];exact xio ha _⟩;rw[Qj ha];refine Zn hu X j (by omega) ?_;rw[qv (by omega),zI,wq,<-ye];exact N
      |false =>
       rw[hle]at d;have Z:¬ii+len+n<=m:=by intro q;rw[Nat.ble_eq_true_of_le q]at hle;cases hle
       simp only[zo]at d;cases u:fits (len+n) i.bytes with
       |false=>rw[u]at d;cases d
       |true =>
        rw[u]at d;simp only[xv]at d;split at d
        .rename_i m' sz' c0 e' fz Q;cases l:(J8 m m' && J8 i.size sz' && J8 e' e)with
         |false=>rw[l]at d;cases d
         |true =>
          rw[l]at d;simp only[zf,kc]at l;obtain⟨⟨rfl,rfl⟩,rfl⟩:=l;simp only[xv]at d;have A:∀old M,fP c0 (ii*i.size) (len*i.size)=B1 old->((fz.2<fz.1\/fz.2<=(ii+len)*i.size)/\((ii=0/\M=fz)\/(fz.2<=ii*i.size/\M=cond (J8 fz.1 fz.2) (0,0) (1,0)))) ->
           dD (H.kill bb) e' i.size (len+n) (kJ old new) M=(v,H') -> ∃θ' w' c,sF P (execOp ρ o) w c w'/\HR P base (Up D H.au H'.au) θ' H' w'/\bE D H θ w H' θ' w'/\VR (Up D H.au H'.au) θ' v c:=by
           intro old M hold hfz d;have hnx:H'.au=H.au+1:=by rw[<-(CW d).2];rfl
           obtain⟨θ',w',K,N,s,B,p⟩:=G.KV (ty:=o.type) (U H.au (qm _) (by rw[hnx];exact zy _)) hu X V W hsz Q ha j C (by omega) I (by omega) u hold hfz;rw[d]at s B p;rw[<-hnx]at s p;exact⟨θ',w',K,.inl (g _ _ N),s,B,p⟩
          cases E:(J8 ii 0 && J8 len m && OZ fz.2 (m*i.size))with
          |true =>
           rw[E]at d;simp only[zf,kc,uh]at E;obtain⟨⟨rfl,rfl⟩,E⟩:=E;simp only[xv,qk]at d;obtain⟨_,co,_,pre,cs,post,cfz,_,_,_,r4,_⟩:=G.obj bb _ Q;refine A c0 fz ?_ ⟨.inr (by simpa using E),.inl ⟨rfl,rfl⟩⟩ d;rw[sV,wh,<-r4,xb (by omega),yt,GJ]
          |false =>
           rw[E]at d;simp only[zo]at d;cases O:OZ fz.2 (ii*i.size)with
           |true =>
            rw[O]at d;simp only[uh]at O;simp only[xv,qj,qk]at d;obtain⟨old,hold,d⟩:=d;exact A old _ hold ⟨.inr (by rw[ye];omega),.inr ⟨O,rfl⟩⟩ d
           |false =>
            rw[O]at d;simp only[zo]at d;cases F:(J8 ii 0 && OZ fz.2 (len*i.size))with
            |false=>rw[F]at d;cases d
            |true =>
             rw[F]at d;simp only[zf,kc,uh]at F;obtain⟨rfl,F⟩:=F;simp only[xv,qj,qk]at d;obtain⟨old,hold,d⟩:=d;exact A old fz (by rw[wh];exact hold) ⟨.inr (by rw[yf];exact F),.inl ⟨rfl,rfl⟩⟩ d
        .cases d
   .cases d
 .cases d
def xet{o:Pv}{c:Call}{xs:List N0}{t e:LP}{z:AV}(ho:o.op=.call c)(hc:c.callee=.builtin .clear)(G:c.args.toList=xs)(F:c.argTypes[0]? = B1 t)
 (hu:P.underlying t=B1 (.slice e)) (L:zeroOf P e=B1 z):sE P o xs (Op.cj z.cells):=by
 intro base D θ H ρ w vs v H' E h f J;have⟨R,C⟩:=ML (ρ:=ρ) ho hc;unfold Op.cj at f;split at f
 .cases f
 .rename_i d l;obtain⟨x,rfl,ha⟩:=h.qD;simp only[qj]at f;have⟨n,hn,f⟩:=f;cases m:J8 n 0 with
  |true =>
   rw[m]at f;simp only[xv,qk,ze]at f;obtain⟨rfl,rfl⟩:=f;simp only[kc]at m;subst m;refine⟨θ,w,.tuple #[],.inl ?_,by rw[Up.none];exact E,.refl _ _ _ _,.tuple .nil⟩;rw[C,AZ G];have r:∃bs B,ρ x=.slice bs 0 B:=by
    cases d<;>simp only[fI,reduceCtorEq,qk]at hn
    .exact (l _ rfl).elim
    .exact ⟨B5,0,ha.now.symm⟩
    .subst hn;exact⟨_,_,Lh ha⟩
    .subst hn;exact⟨_,_,Qj ha⟩
    .exact ⟨_,_,ha.now.symm⟩
   have⟨bs,B,s⟩:=r;cases bs<;>simp[builtin,CG,F,kw hu,s]
  |false =>
   rw[m]at f;simp only[zo,qj,qk,ze]at f;obtain⟨p,hp,H1,I,rfl,rfl⟩:=f;have⟨n',W,g,S,U,V⟩:=q4c ha hp;rw[wh,Kv]at g;have⟨zc,u,y⟩:=Le (w:=w) L;have j:bN D θ (gf n z.cells) (Jv n zc.cells.toList).flatten:=Wc (y D θ).cells n;have⟨w',M,N,O,Q⟩:=E.store j I;refine⟨θ,w',.tuple #[],.inl ?_,by rw[Q,Up.none];exact N,O,.tuple .nil⟩;rw[C,AZ G];have q:n'=n:=by
    cases d<;>simp only[fI,reduceCtorEq,qk]at hn
    .exact (l _ rfl).elim
    .rw [<-ha.now]at g;cases g
    .subst hn;rw[Lh ha]at g;injection g with _ k _;exact k.symm
    .subst hn;rw[Qj ha]at g;injection g with _ k _;exact k.symm
    .cases hp
   subst q;have A:(BM zc.cells n').toList=(Jv n' zc.cells.toList).flatten:=by
    have:=Yn zc.cells.toList n';unfold BM;rw[<-O2]
    simpa using congrArg Array.toList this
   have K:n'≠0:=by omega
   obtain⟨k,rfl⟩:∃k,n'=k+1:=⟨n'-1,by omega⟩
   simp[builtin,CG,F,kw hu,g,u,A,M]
 .cases f
end
end Go.Am
namespace Go.Am
def Ext(H H':ar):Prop:=H.au<=H'.au /\ ∀b o,H'.get b=B1 o->(∃o',H.get b=B1 o'/\(own o'=B4->own o=B4))\/(H.au<=b/\b<H'.au/\own o=B4)
def Ext.refl(H:ar):Ext H H:=⟨qm _,λ b o h=>.inl ⟨o,h,λ h=>h⟩⟩
def Ext.trans{H H' c:ar}(h:Ext H H')(e:Ext H' c):Ext H c:=by
 refine⟨zd h.1 e.1,λ b o hb=>?_⟩;rcases e.2 b o hb with⟨o',f,l⟩|⟨f,m,d⟩
 .rcases h.2 b o' f with⟨j,d,g⟩|⟨d,g,n⟩
  .exact .inl ⟨j,d,λ q=>l (g q)⟩
  .exact .inr ⟨d,qn g e.1,l n⟩
 .exact .inr ⟨zd h.1 f,m,d⟩
def Ext.set{H:ar}{b:Nat}{o:bF}(h:H.get b=B1 o)(o':bF)(ho:own o=B4->own o'=B4):Ext H (H.set b o'):=by
 refine⟨qm _,λ x d c=>?_⟩;rw[ar.aK]at c;split at c
 .rename_i e;subst e;cases c;exact .inl ⟨o,h,ho⟩
 .exact .inl ⟨d,c,λ h=>h⟩
theorem Ext.alloc(H:ar)(o:bF)(ho:own o=B4):Ext H (H.alloc o):=by
 refine⟨ke _,λ x d c=>?_⟩;rw[ar.bO]at c;split at c
 .rename_i e;subst e;cases c;exact .inr ⟨qm _,zy _,ho⟩
 .exact .inl ⟨d,c,λ h=>h⟩
def Ext.kill(H:ar)(b:Nat):Ext H (H.kill b):=⟨qm _,λ x c d=>.inl ⟨c,VH H b x c d,λ h=>h⟩⟩
def _p{H:ar}{b:Nat}{m:List (AV×AV×Nat)×Nat}(h:H.fp b=B1 m):∃o,H.get b=B1 o:=by
 unfold ar.fp at h;split at h
 .exact ⟨_,by assumption⟩
 .cases h
def dG:fL->Prop
 | .alloc f=>∀vs ob mk,f vs=B1 (ob,mk)->own ob=B4
 | .gY f=>∀vs H v H',f vs H=B1 (v,H')->Ext H H'
 |_=>True
def yk{α:Type}{c:Bool}{a b:Option α}{x:α}(h:cond c a b=B1 x):(c=B4/\a=B1 x)\/(c=B2/\b=B1 x):=by
 cases c<;>simp_all
def S3{H H':ar}{b o:Nat}{l:List AV}(h:H.store b o l=B1 H'):Ext H H':=by
 unfold ar.store at h;rcases yk h with⟨_,h⟩|⟨_,h⟩
 .split at h
  .rename_i hg;rcases yk h with⟨_,h⟩|⟨_,h⟩
   .simp only[qj,qk]at h;obtain⟨_,_,rfl⟩:=h;exact Ext.set hg _ (λ _=>rfl)
   .cases h
  .rename_i hg;rcases yk h with⟨_,h⟩|⟨_,h⟩
   .simp only[qj,qk]at h;obtain⟨_,_,rfl⟩:=h;exact Ext.set hg _ (λ _=>rfl)
   .cases h
  .cases h
 .cases h
def xi8(n:Nat):dG (.gY (Op.store n)):=by
 intro vs H v H' h;unfold Op.store at h;split at h
 .rcases yk h with⟨_,h⟩|⟨_,h⟩
  .simp only[qj,qk,ze]at h;obtain⟨_,c,_,rfl⟩:=h;exact S3 c
  .cases h
 .cases h
def qtn(q:aU):dG (.gY (Op.mapUpdate q)):=by
 intro vs H v H' h;unfold Op.mapUpdate at h;split at h
 .rcases yk h with⟨_,h⟩|⟨_,h⟩
  .simp only[qj]at h;have⟨m,hm,r,_,h⟩:=h;have⟨d,c⟩:=_p hm;split at h
   .simp only[qj]at h;have⟨e,_,h⟩:=h;rcases yk h with⟨_,h⟩|⟨_,h⟩
    .injection h with h;injection h with _ h;subst h;exact Ext.set c _ (λ _=>rfl)
    .cases h
   .injection h with h;injection h with _ h;subst h;exact Ext.set c _ (λ _=>rfl)
  .cases h
 .cases h
def xan:dG (.gY Op.bV):=by
 intro vs H v H' h;unfold Op.bV at h;split at h
 .injection h with h;injection h with _ h;subst h;exact Ext.refl _
 .simp only[qj]at h;have⟨m,hm,h⟩:=h;have⟨d,c⟩:=_p hm;injection h with h;injection h with _ h;subst h;exact Ext.set c _ (λ _=>rfl)
 .cases h
def xc6(z:List AV):dG (.gY (Op.cj z)):=by
 intro vs H v H' h;unfold Op.cj at h;split at h
 .cases h
 .simp only[qj]at h;have⟨_,_,h⟩:=h;rcases yk h with⟨_,h⟩|⟨_,h⟩
  .injection h with h;injection h with _ h;subst h;exact Ext.refl _
  .simp only[qj,qk,ze]at h;obtain⟨_,_,_,c,_,rfl⟩:=h;exact S3 c
 .cases h
def OM{H H':ar}{e s n:Nat}{c:List AV}{fz:Nat×Nat}{v:AV}(h:B1 (dD H e s n c fz)=B1 (v,H')):Ext H H':=by
 injection h with h;injection h with _ h;subst h;exact Ext.alloc _ _ rfl
def xfi(e s z:Nat):dG (.gY (Op.append e s z)):=by
 intro vs H v H' h;unfold Op.append at h;split at h
 .simp only[qj]at h;have⟨n,_,new,_,h⟩:=h;rcases yk h with⟨_,h⟩|⟨_,h⟩
  .unfold df at h;split at h
   .rcases yk h with⟨_,h⟩|⟨_,h⟩
    .injection h with h;injection h with _ h;subst h;exact Ext.refl _
    .rcases yk h with⟨_,h⟩|⟨_,h⟩
     .exact OM h
     .cases h
   .rcases yk h with⟨_,h⟩|⟨_,h⟩
    .rcases yk h with⟨_,h⟩|⟨_,h⟩
     .injection h with h;injection h with _ h;subst h;exact Ext.refl _
     .simp only[qj,qk,ze]at h;obtain⟨_,c,_,rfl⟩:=h;exact S3 c
    .rcases yk h with⟨_,h⟩|⟨_,h⟩
     .simp only[qj]at h;have⟨_,_,h⟩:=h;exact OM h
     .cases h
   .rcases yk h with⟨_,h⟩|⟨_,h⟩
    .rcases yk h with⟨_,h⟩|⟨_,h⟩
     .injection h with h;injection h with _ h;subst h;exact Ext.refl _
     .cases h
    .rcases yk h with⟨_,h⟩|⟨_,h⟩
     .rcases yk h with⟨_,h⟩|⟨_,h⟩
      .simp only[qj,qk,ze]at h;obtain⟨_,c,_,rfl⟩:=h;exact S3 c
      .rcases yk h with⟨_,h⟩|⟨_,h⟩
       .split at h
        .rcases yk h with⟨_,h⟩|⟨_,h⟩
         .rcases yk h with⟨_,h⟩|⟨_,h⟩
          .exact (Ext.kill _ _).trans (OM (H:=H.kill _) h)
          .rcases yk h with⟨_,h⟩|⟨_,h⟩
           .simp only[qj]at h;have⟨_,_,h⟩:=h;exact(Ext.kill _ _).trans (OM (H:=H.kill _) h)
           .rcases yk h with⟨_,h⟩|⟨_,h⟩
            .simp only[qj]at h;have⟨_,_,h⟩:=h;exact(Ext.kill _ _).trans (OM (H:=H.kill _) h)
            .cases h
         .cases h
        .cases h
       .cases h
     .cases h
   .cases h
  .cases h
 .cases h
end Go.Am
namespace Go.Am
structure BR(ρ:N0->K8):Prop where
 const:∀v,ρ (.const v)=v
 func:∀f,ρ (.func f)=.func (.func f) #[] #[]
def zF(P:Jy)(o:Pv)(xs:List N0)(f:List AV->Option AV):Prop :=
 ∀(D:Nat->Prop)θ(ρ:N0->K8)w vs v,BR ρ->bN D θ vs (xs.map ρ)->f vs=B1 v -> ∃c,sF P (execOp ρ o) w c w/\VR D θ v c
def uO(P:Jy)(o:Pv)(xs:List N0)(f:List AV->Option (bF×(Nat->AV))):Prop :=
 ∀(D:Nat->Prop)θ(ρ:N0->K8)w vs ob mk,BR ρ->bN D θ vs (xs.map ρ)->f vs=B1 (ob,mk) ->
  own ob=B4 /\ ∃w0 co ext c,(execOp ρ o).run P w=.ok (.value c) (w0.alloc co)/\nN w w0 /\
   ∀(D':Nat->Prop)θ' id,Ag D θ θ'->(∀b,D b->D' b)->D' id -> θ'.cq id=w.heap.size -> θ'.off id=0 -> θ'.ext id=ext->pj P D' θ' id ob co/\VR D' θ' (mk id) c
structure dY(P:Jy):Prop where
 names:∀(f:FuncId)(fn:Func),P.funcs[f]? = B1 fn->fn.name≠ "runtime.NumGoroutine"
 mixed:P.follows .mixedOrders=B4
def rX(P:Jy)(o:Pv)(xs:List N0):fL->Prop
 | .pure f=>zF P o xs f
 | .read f=>rq P o xs f
 | .alloc f=>uO P o xs f/\dG (.alloc f)
 | .gY f=>sE P o xs f/\dG (.gY f)
 | .ir f=>∃c fn b,o.op=.call c/\c.callee=.value (.func f)/\xs=c.args.toList/\P.funcs[f]? = B1 fn/\fn.body=B1 b
 | .im=>∃c x,o.op=.call c/\c.callee=.value x/\xs=x::c.args.toList
 | .invoke m=>∃c x,o.op=.call c/\c.callee=.invoke x m/\xs=x::c.args.toList
 | .recover=>∃c,o.op=.call c/\c.callee=.builtin .recover/\xs=c.args.toList
 | .defer=>∃c x,o.op=.defer c/\c.callee=.value x/\xs=x::c.args.toList
 | .panic=>(∃x,o.op=.panic x/\xs=[x]) \/ ∃c,o.op=.call c/\c.callee=.builtin .panic/\xs=c.args.toList
def xi7{e:Nat}{z:List AV}:dG (.alloc (Op.alloc e z)):=by
 intro vs c mk h;unfold Op.alloc at h;split at h
 .injection h with h;injection h with h _;subst h;rfl
 .cases h
def af2{e:Nat}:dG (.alloc (Op.box e)):=by
 intro vs c mk h;unfold Op.box at h;split at h
 .injection h with h;injection h with h _;subst h;rfl
 .cases h
def q5i{e n:Nat}{z:List AV}{c:List (Nat×Nat)}:dG (.alloc (Op.buildSlice e n z c)):=by
 intro vs d mk h;simp only[Op.buildSlice,qj]at h;have⟨_,_,h⟩:=h;injection h with h;injection h with h _;subst h;rfl
def xc7{e b:Nat}{z:List AV}:dG (.alloc (Op.mkSlice e b z)):=by
 intro vs c mk h;unfold Op.mkSlice at h;split at h
 .rcases yk h with⟨_,h⟩|⟨_,h⟩
  .injection h with h;injection h with h _;subst h;rfl
  .cases h
 .cases h
def q8g:dG (.alloc Op.mkMap):=by
 intro vs c mk h;unfold Op.mkMap at h;split at h
 .injection h with h;injection h with h _;subst h;rfl
 .cases h
section
variable{P:Jy}{o:Pv}{xs:List N0}
def dq.up{f:List AV->Option AV}(h:dq P o xs f):zF P o xs f:=λ D θ ρ w vs v _=>h D θ ρ w vs v
def mA.up{f:List AV->Option (bF×(Nat->AV))}(h:mA P o xs f):uO P o xs f:=λ D θ ρ w vs c mk _=>h D θ ρ w vs c mk
def HD{src dst:LP}{x:N0}(ho:o.op=.convert src dst x){r:List N0×fL}(h:Dc P src dst x=B1 r):rX P o r.1 r.2:=by
 unfold Dc at h;split at h
 .rename_i c d;cases h;exact(xmy ho c d).up
 .cases h
def xlo{t:LP}{x y:N0}{k:xK}(h:Hp P t x y=B1 k):wX P t x y k:=by
 unfold Hp at h;simp only[WH]at h;split at h
 .rename_i hu;cases h;exact hu
 .rename_i e hu;split at h
  .rename_i n hs;cases h;exact⟨e,n,hu,hs⟩
  .cases h
 .rename_i e hu;cases h;exact⟨e,hu⟩
 .rename_i k e hu;cases h;exact⟨k,e,hu⟩
 .rename_i a b c hu;cases h;exact⟨a,b,c,hu⟩
 .rename_i ms hu;split at h
  .cases h;exact⟨ms,hu,.inl ⟨_,rfl⟩⟩
  .cases h;exact⟨ms,hu,.inr ⟨_,rfl⟩⟩
  .cases h;refine⟨⟨ms,hu⟩,λ u q d=>?_⟩;simp only[qj]at d;have⟨i,g,d⟩:=d;split at d
   .rename_i f;exact⟨d,i,g,f⟩
   .cases d
 .rename_i fs hu;split at h
  .cases h
  .rename_i hg;simp only[qj,qk]at h;obtain⟨q,d,rfl⟩:=h;exact⟨by simpa using hg,d,.inl ⟨fs,hu⟩⟩
 .rename_i n e hu;split at h
  .cases h
  .rename_i hg;simp only[qj,qk]at h;obtain⟨q,d,rfl⟩:=h;exact⟨by simpa using hg,d,.inr ⟨n,e,hu⟩⟩
 .cases h
def LX{op:BinOp}{t c:LP}{x y:N0}(ho:o.op=.binOp op t x y c){r:List N0×fL}(h:K4 P op t x y=B1 r):rX P o r.1 r.2:=by
 unfold K4 at h;split at h
 .cases h;exact(xhf ho).up
 .cases h;exact(xhf ho).up
 .split at h
  .simp only[qj,qk]at h;obtain⟨k,hk,rfl⟩:=h;exact xm0 (neg:=B2) (by simpa using ho) (xlo hk)
  .simp only[qj,qk]at h;obtain⟨k,hk,rfl⟩:=h;exact xm0 (neg:=B4) (by simpa using ho) (xlo hk)
  .cases h
def xic{c:Call}{b:Builtin}(ho:o.op=.call c)(hc:c.callee=.builtin b){r:List N0×fL}(h:f0 P b c.argTypes c.args.toList=B1 r):rX P o r.1 r.2:=by
 have f:∀{d:TypeDesc},(c.argTypes[0]?).bind P.underlying=B1 d -> ∃t,c.argTypes[0]? = B1 t/\P.underlying t=B1 d:=λ h=>by simpa[qj]using h
 unfold f0 at h;split at h
 .split at h
  .rename_i hu;have⟨t,g,hu⟩:=f hu;cases h;exact(xji ho hc rfl g hu).up
  .cases h
 .split at h
  .rename_i t tx j;split at h
   .rename_i e e' hu p;simp only[qj]at h;have⟨n,hn,z,l,q,m,h⟩:=h;split at h
    .rename_i hl;cases h;exact⟨xii ho hc rfl j hu (.inl ⟨_,p⟩) hn l m hl,xfi _ _ _⟩
    .cases h
   .cases h
  .cases h
 .cases h;exact(xfp (mx:=B2) ho hc rfl).up
 .split at h
  .rename_i hu;have⟨t,g,hu⟩:=f hu;simp only[qj,qk]at h;obtain⟨z,l,rfl⟩:=h;exact⟨xet ho hc rfl g hu l,xc6 _⟩
  .rename_i hu;have⟨t,g,hu⟩:=f hu;cases h;exact⟨xb9 ho hc rfl g hu,xan⟩
  .cases h
 .cases h;exact⟨c,ho,hc,rfl⟩
 .cases h;exact .inr ⟨c,ho,hc,rfl⟩
 .cases h
def Dv{fn:Func}(n:String)(hn:fn.name=n)(ho:fn.origin = "") {e:Array LP->Array LP->Array LP->Array K8->Sem K8}
 (d:∀(c rs:Array LP),(((Extern.allNextRows.lookup n).map (· c rs)) <|> ((Extern.allNextRows.lookup "").map (· c rs)))=B5)
 (f:∀(ts c rs:Array LP),((Extern.allGenericRows.lookup n).map (· ts c rs) <|> (Extern.allTypedRows.lookup n).map (· c rs) <|> Extern.allRows.lookup n)=B1 (e ts c rs)) :
 Extern.findNext fn=B5/\Extern.find fn=B1 (e fn.targs fn.params fn.resultTypes):=by
 unfold Extern.findNext Extern.find;rw[hn,ho];refine⟨d fn.params fn.resultTypes,?_⟩;show(((Extern.allGenericRows.lookup n).map (· fn.targs fn.params fn.resultTypes) <|> (Extern.allTypedRows.lookup n).map (· fn.params fn.resultTypes) <|> Extern.allRows.lookup n) <|> _)=_;rw[f];rfl
def L9{c:Call}{f:FuncId}{fn:Func}(hn:fn.name≠ "runtime.NumGoroutine") (ho:o.op=.call c) (hc:c.callee=.value (.func f)) (j:P.funcs[f]? = B1 fn) (hb:fn.body=B5) {r:List N0×fL}
 (h:MZ P fn c.args.toList=B1 r):rX P o r.1 r.2:=by
 unfold MZ at h;split at h
 .cases h
 .rename_i g;have g:fn.origin = "" := by simpa using g
  split at h
  .rename_i d;have d:=eq_of_beq d;cases h;have⟨e1,e2⟩:=Dv (e:=λ _ _ _=>Extern.BytealgIndexByte.indexByte) _ d g (λ m rs=>by kernel_rfl) (λ ts m rs=>by kernel_rfl);intro D θ ρ w vs v l;exact qsw ho hc j hb hn e1 e2 rfl D θ ρ w vs v (l.func f)
  .cases h
def Iw(e:dY P){c:Call}(ho:o.op=.call c){r:List N0×fL}(h:BQ P c=B1 r):rX P o r.1 r.2:=by
 unfold BQ at h;split at h
 .rename_i f hc;simp only[qj]at h;have⟨fn,d,h⟩:=h;split at h
  .rename_i b hb;cases h;exact⟨c,fn,b,ho,hc,rfl,d,hb⟩
  .rename_i hb;exact L9 (e.names f fn d) ho hc d hb h
 .rename_i x _ hc;cases h;exact⟨c,_,ho,hc,rfl⟩
 .rename_i hc;cases h;exact⟨c,_,ho,hc,rfl⟩
 .rename_i b hc;exact xic ho hc h
def RC(F:dY P){r:List N0×fL}(h:RR P o.op=B1 r):rX P o r.1 r.2:=by
 unfold RR at h;split at h
 .rename_i ho;cases h;exact(xdi (.inl ho)).up
 .rename_i ho;cases h;exact(xdi (.inr ho)).up
 .rename_i ho;cases h;exact(xmx ho).up
 .rename_i ho;simp only[qj,qk]at h;obtain⟨z,j,rfl⟩:=h;exact⟨(xec ho j).up,xi7⟩
 .rename_i ho;cases h;exact⟨(xkl ho).up,af2⟩
 .rename_i t parts ho;simp only[qj]at h;have⟨z,j,h⟩:=h;split at h
  .rename_i fs hu;split at h
   .rename_i p;simp only[qj,qk]at h;obtain⟨E,g,rfl⟩:=h;refine(qyh ho j hu (λ f u=>?_) g).up;have:=B6.1 p f (Array.mem_toList_iff.2 u);exact Option.isSome_iff_exists.1 this
   .cases h
  .rename_i hu;simp only[qj,qk]at h;obtain⟨n,hn,E,g,rfl⟩:=h;exact(q0y ho j hu hn g).up
  .cases h
 .rename_i t len parts ho;split at h
  .rename_i e hu;simp only[qj]at h;have⟨n,hn,z,j,E,g,h⟩:=h;split at h
   .rename_i hc;cases h;exact⟨(qzq ho hu hn j g hc.1 hc.2).up,q5i⟩
   .cases h
  .cases h
 .rename_i t a ho;simp only[qj]at h;have⟨J,hr,h⟩:=h;split at h
  .cases h;exact xjj ho hr
  .cases h;exact xjk ho hr
 .rename_i t a x ho;simp only[qj,qk]at h;obtain⟨n,hn,rfl⟩:=h;exact⟨xli ho hn,xi8 _⟩
 .rename_i ho;cases h;exact(xaz ho).up
 .rename_i ho;exact LX ho h
 .rename_i ho;cases h;exact(Ie ho).up
 .rename_i ho;exact HD ho h
 .rename_i t x ho;split at h
  .cases h
  .rename_i d G hu;cases h;exact(xdh ho ⟨d,hu,by cases d<;>first|rfl|exact(G _ rfl).elim⟩).up
  .cases h
 .rename_i ho;cases h;exact(xfq ho).up
 .rename_i ho;cases h;exact⟨λ D θ ρ w vs B mk A=>_G ho (.inl rfl) (λ _=>trivial) D θ ρ w vs B mk A.const,q8g⟩
 .rename_i t k n ho;split at h
  .rename_i a b hu;cases h;exact⟨λ D θ ρ w vs B mk A=>_G ho (.inr ⟨k,n,rfl,a,b,hu⟩) (λ _=>trivial) D θ ρ w vs B mk A.const,q8g⟩
  .cases h
 .rename_i t l c ho;split at h
  .rename_i e hu;simp only[qj]at h;have⟨b,hb,z,j,n,hn,h⟩:=h;split at h
   .rename_i hc;cases h;exact⟨(q87 ho hu hb hn j hc).up,xc7⟩
   .cases h
  .cases h
 .rename_i t x lo I mx ho;split at h
  .rename_i e hu;simp only[qj,qk]at h;obtain⟨n,hn,rfl⟩:=h;exact(xdj ho hu hn).up
  .rename_i k e hu;simp only[qj,qk]at h;obtain⟨n,hn,rfl⟩:=h;exact(xa0 ho hu hn).up
  .cases h
 .rename_i t x i ho;split at h
  .rename_i fs hu;simp only[qj]at h;have⟨f,u,n,hn,h⟩:=h;split at h
   .cases h
   .rename_i y;cases h;exact(q7k ho hu u hn (by simpa using y)).up
  .cases h
 .rename_i t x i ho;split at h
  .rename_i e hu;simp only[qj,qk]at h;obtain⟨n,hn,rfl⟩:=h;exact(xdg ho hu hn).up
  .rename_i k e hu;simp only[qj,qk]at h;obtain⟨n,hn,rfl⟩:=h;exact(xax ho hu hn).up
  .cases h
 .rename_i t x i ho;split at h
  .rename_i hu;cases h;exact(xay ho hu).up
  .rename_i k e hu;simp only[qj,qk]at h;obtain⟨n,hn,a,ha,rfl⟩:=h;exact(xaw ho hu hn ha).up
  .cases h
 .rename_i t m k ok ho;split at h
  .rename_i C e hu;simp only[qj,qk]at h;obtain⟨q,s,z,j,rfl⟩:=h;exact xft ho hu s j
  .cases h
 .rename_i t m k v ho;split at h
  .rename_i C e hu;simp only[qj,qk]at h;obtain⟨q,s,rfl⟩:=h;exact⟨ν (.inl ho) hu s,qtn _⟩
  .cases h
 .rename_i t m k v ho;split at h
  .rename_i C e hu;simp only[qj,qk]at h;obtain⟨q,s,rfl⟩:=h;exact⟨ν (.inr ho) hu s,qtn _⟩
  .cases h
 .rename_i ho;cases h;exact(xdf ho).up
 .rename_i c ho;exact Iw F ho h
 .rename_i c ho;split at h
  .rename_i f hc;cases h;exact⟨c,f,ho,hc,rfl⟩
  .cases h
 .rename_i x ho;cases h;exact .inl ⟨x,ho,rfl⟩
 .cases h
def rX.mono{c:fL}(h:rX P o xs c):dG c:=by
 cases c with
 |alloc f=>exact h.2
 |gY f=>exact h.2
 |_=>trivial
def C9(o:Pv)(aop:fL):Prop:=(∀c,o.op≠ .defer c)\/aop=.defer\/aop=.pure Op.fail
def Ld{r:List N0×fL}(h:RR P o.op=B1 r):C9 o r.2:=by
 by_cases d:∃c,o.op=.defer c
 .have ⟨c,hc⟩:=d;rw[hc]at h;simp only[RR]at h;split at h
  .cases h;exact .inr (.inl rfl)
  .cases h
 .exact .inl λ c hc=>d ⟨c,hc⟩
def NP(e:dY P){r:List bL×fL}(h:gB P o=B1 r):∃xs,nK P.globals.size xs=B1 r.1/\rX P o xs r.2/\C9 o r.2:=by
 unfold gB at h;split at h
 .rename_i f hr;cases h;simp only[qj,qk]at hr;obtain⟨q,d,args,c,rfl⟩:=hr;exact⟨q.1,c,RC e d,Ld d⟩
 .cases h;exact⟨[],rfl,(xmw []).up,.inr (.inr rfl)⟩
end
end Go.Am
namespace Go.Am
def ic(D:Nat->Prop)(θ:Th):List aQ->List Deferred->Prop
 |[],[]=>True
 |d::ds,e::es=>Z4 D θ d e/\ic D θ ds es
 |_,_=>False
def Ml(D:Nat->Prop)(θ:Th)(e:AV×Bool)(p:PanicEntry):Prop:=VR D θ e.1 p.v/\p.recovered=e.2/\p.goexit=B2
def fT(D:Nat->Prop)(θ:Th):aH->List PanicEntry->Prop
 |[],[]=>True
 |e::es,p::ps=>Ml D θ e p/\fT D θ es ps
 |_,_=>False
def qS(D:Nat->Prop)(θ:Th)(c:aH)(m:FrameMode):Prop :=
 match m with
 | .run=>False
 | .returning=>c=[]
 | .panicking ps=>c≠[]/\fT D θ c ps
def rD(D:Nat->Prop)(θ:Th)(kind:CallKind):Option aH->List NY->Prop
 |none,_=>kind=.normal
 |some ch,c::_=>kind=.deferred/\qS D θ ch c.mode
 |some _,[]=>False
def fE:Option aH->List NY->List NY->Prop
 |none,cs,cs'=>cs'=cs
 |some _,c::rest,cs'=>∃u,cs' = {c with mode:=u}::rest
 |some _,[],_=>False
def Ad(D:Nat->Prop)(θ:Th)(ro:Option Nat):Option Nat->Prop
 |none=>ro=B5
 |some l=>D l/\ro=B1 (θ.cq l)
def Da(D:Nat->Prop)(θ:Th):aZ->Exit->Prop
 | .normal,.normal=>True
 | .exit i,.exit j=>j=i
 | .goto i,.goto j=>j=i
 | .ret,.ret=>True
 | .panic c,.panic ps=>c≠[]/\fT D θ c ps
 |_,_=>False
def QN(D:Nat->Prop)(θ:Th):bJ->Ending->Prop
 | .ret v,.returned c=>VR D θ v c
 | .panic c,.panicked ps=>c≠[]/\fT D θ c ps
 |_,_=>False
section
variable{D D':Nat->Prop}{θ θ':Th}
def ic.up(ha:Ag D θ θ')(g:∀b,D b->D' b):∀{l:List aQ}{m:List Deferred},ic D θ l m->ic D' θ' l m
 |[],[],_=>trivial
 |d::ds,e::es,⟨h1,h2⟩=>by
  refine⟨?_,ic.up ha g h2⟩;cases d with
  |jJ b=>exact⟨g b h1.1,by rw[(ha b h1.1).1];exact h1.2⟩
  |fn f args =>
   have⟨c,cap,p,n,q⟩:=h1;refine⟨c,cap,?_,λ θ'' j=>?_,q.up ha g⟩
   .rw [p,n θ' ha]
   .rw [n θ'' (ha.trans j g),n θ' ha]
 |[],_::_,h=>h.elim
 |_::_,[],h=>h.elim
def fT.up(ha:Ag D θ θ')(c:∀b,D b->D' b):∀{l:aH}{m:List PanicEntry},fT D θ l m->fT D' θ' l m
 |[],[],_=>trivial
 |e::es,p::ps,⟨⟨h1,h2,h3⟩,h⟩=>⟨⟨h1.up ha c,h2,h3⟩,fT.up ha c h⟩
 |[],_::_,h=>h.elim
 |_::_,[],h=>h.elim
def qS.up(ha:Ag D θ θ')(d:∀b,D b->D' b){c:aH}{m:FrameMode}(h:qS D θ c m):qS D' θ' c m:=by
 cases m with
 |run=>exact h.elim
 |returning=>exact h
 |panicking ps=>exact⟨h.1,fT.up ha d h.2⟩
def rD.up(ha:Ag D θ θ')(d:∀b,D b->D' b){k:CallKind}{u:Option aH}{cs:List NY}(h:rD D θ k u cs):rD D' θ' k u cs:=by
 cases u with
 |none=>exact h
 |some ch =>
  cases cs with
  |nil=>exact h.elim
  |cons c r=>exact⟨h.1,qS.up ha d h.2⟩
def Ad.up(ha:Ag D θ θ')(c:∀b,D b->D' b){ro r:Option Nat}(h:Ad D θ ro r):Ad D' θ' ro r:=by
 cases r with
 |none=>exact h
 |some l=>exact⟨c l h.1,by rw[(ha l h.1).1];exact h.2⟩
def fE.refl{D:Nat->Prop}{θ:Th}{k:CallKind}{u:Option aH}{cs:List NY}(h:rD D θ k u cs):fE u cs cs:=by
 cases u with
 |none=>rfl
 |some ch =>
  cases cs with
  |nil=>exact h.elim
  |cons c r=>exact⟨c.mode,rfl⟩
def fE.trans{u e:Option aH}(hu:e.isSome=u.isSome){cs cs' d:List NY}(h:fE u cs cs')(f:fE e cs' d):fE u cs d:=by
 cases u with
 |none =>
  cases e with
  |none=>exact Eq.trans f h
  |some _=>cases hu
 |some ch =>
  cases e with
  |none=>cases hu
  |some ch' =>
   cases cs with
   |nil=>exact h.elim
   |cons c r =>
    obtain⟨m,rfl⟩:=h;obtain⟨g,rfl⟩:=f;exact⟨g,rfl⟩
def qA.up(ha:Ag D θ θ')(d:∀b,D b->D' b){tm:T AV}{a:Array K8}(h:qA D θ tm a):qA D' θ' tm a:=λ t v e =>
 let⟨c,h1,h2⟩:=h t v e;⟨c,h1,h2.up ha d⟩
def qA.put{tm:T AV}{a:Array K8}(h:qA D θ tm a){d:Nat}(g:d<a.size){v:AV}{c:K8}(j:VR D θ v c):qA D θ (tm.set d v) (a.setIfInBounds d c):=by
 intro t x f;rw[T.aK]at f;rw[Array.getElem?_setIfInBounds]
 by_cases e:d=t
 .subst e;simp only[rN,qk]at f;subst f;exact⟨c,by simp[g],j⟩
 .simp only[e,nT]at f⊢;exact h t x f
def qA.forget{a:Array K8}:∀(ds:List Nat){tm:T AV},qA D θ tm a->qA D θ (forget ds tm) a
 |[],_,h=>h
 |d::ds,tm,h=>qA.forget ds (tm:=tm.put d B5) (λ t v c=>by
  rw[T.kK]at c;split at c
  .cases c
  .exact h t v c)
def T.rj:∀(ds:List Nat)(tm:T AV)(t:Nat),(forget ds tm).get t=if t∈ds then B5 else tm.get t
 |[],tm,t=>by simp[Am.forget]
 |d::ds,tm,t=>by
  rw[Am.forget,T.rj ds,T.kK]
  by_cases f:t∈ds
  .simp [f]
  .by_cases c:d=t
   .simp [c]
   .have g:¬t=d:=λ e=>c e.symm;simp[f,c,g]
end
section
variable{P:Jy}{base:Nat}{D:Nat->Prop}{θ:Th}{H:ar}{w:NJ}{a:Act}{tm:T AV}
def Bq(l:HR P base D θ H w)(m:qA D θ tm a.tmps){x:N0}{y:bL}(hc:qZ P.globals.size x=B1 y){v:AV}(d:rO tm y=B1 v):VR D θ v (a.eval x):=by
 cases x with
 |tmp t =>
  cases hc;have⟨c,e,h⟩:=m t v d
  simpa[Act.eval,e]using h
 |const k =>
  simp only[qZ,qj,qk]at hc;obtain⟨u,hu,rfl⟩:=hc;cases d;exact Uj hu
 |global g =>
  simp only[qZ]at hc;split at hc
  .rename_i hg;cases hc;cases d;have⟨e,h,j⟩:=l.eJ g (by simpa[vX]using hg);have:=VR.ptr (θ:=θ) (o:=0) e;rw[h,j]at this;exact this
  .cases hc
 |func f =>
  cases hc;cases d;exact λ _ _=>rfl
def JS(d:HR P base D θ H w)(e:qA D θ tm a.tmps):∀{xs:List N0}{ys:List bL},nK P.globals.size xs=B1 ys -> ∀{vs:List AV},mF tm ys=B1 vs->bN D θ vs (xs.map a.eval)
 |[],ys,hc,vs,hv=>by
  cases hc;cases hv;exact .nil
 |x::xs,ys,hc,vs,hv=>by
  simp only[nK,qj,qk]at hc;obtain⟨y,h,l,c,rfl⟩:=hc;simp only[mF,qj,qk]at hv;obtain⟨v,f,j,g,rfl⟩:=hv;exact .cons (Bq d e h f) (JS d e c g)
def Jp(x:bL)(tm:T AV):(N9 x).run tm=rO tm x:=by
 cases x<;>simp[N9,rO,T.jS,T.get]
def GW:∀(xs:List bL)(tm:T AV),(uE xs).run tm=mF tm xs
 |[],_=>rfl
 |[x],tm=>by simp[uE,mF,Jp]
 |x::y::xs,tm=>by
  rw[uE,mF]
  .simp only[Jp,GW (y::xs) tm]
  .simp
def SZ(a:Act):BR a.eval:=⟨λ _=>rfl,λ _=>rfl⟩
def Yg(d:Option Nat)(v:AV)(tm:T AV):(lW d).run v tm=eK d v tm:=by
 cases d<;>simp[lW,eK,T.Dz,T.set,T.put]
end
inductive iz where
 |val (v:AV) (bj:List aQ) (up:Option aH) (H:ar)
 |panic (c:aH) (H:ar)
def nQ(bj:List aQ)(up:Option aH)(r:bJ×ar):iz :=
 match r.1 with
 | .ret v=>.val v bj up r.2
 | .panic c=>.panic c r.2
def iE(rt:RT)(st:St)(vs:List AV):fL->Option iz
 | .pure f=>(f vs).bind λ v=>B1 (.val v st.bj st.up st.H)
 | .read f=>(f vs st.H).bind λ v=>B1 (.val v st.bj st.up st.H)
 | .alloc f=>(f vs).bind λ r=>B1 (.val (r.2 st.H.au) st.bj st.up (st.H.alloc r.1))
 | .gY f=>(f vs st.H).bind λ r=>B1 (.val r.1 st.bj st.up r.2)
 | .ir f=>(cR rt.call rt.round (.func f) vs st.H).bind λ r=>B1 (nQ st.bj st.up r)
 | .im=>match vs with
  | .fn (.func f) first cap::args=>(cR rt.call rt.round (.func f) (first++(args++cap)) st.H).bind λ r=>B1 (nQ st.bj st.up r)
  | .fn (.yield l) first []::args=>(cR rt.call rt.round (.yield l) (first++args) st.H).bind λ r=>B1 (nQ st.bj st.up r)
  |_=>B5
 | .invoke name=>match vs with
  | .iface t v::args=>(rt.AP.kG t name).bind λ f=>(cR rt.call rt.round (.func f) (v::args) st.H).bind λ r=>B1 (nQ st.bj st.up r)
  |_=>B5
 | .recover=>match rt.ctx.round with
  |some _=>B5
  |none=>match vs with
   |[]=>match st.up with
    |some ((v,B2)::older)=>B1 (.val v st.bj (B1 ((v,B4)::older)) st.H)
    |_=>B1 (.val .nili st.bj st.up st.H)
   |_=>B5
 | .defer=>match rt.ctx.round with
  |some _=>B5
  |none=>match vs with
   | .fn (.func f) first cap::args=>B1 (.val .undef (.fn (.func f) (first++(args++cap))::st.bj) st.up st.H)
   |_=>B5
 | .panic=>match vs with
  |[.iface t v]=>B1 (.panic [(.iface t v,B2)] st.H)
  |_=>B5
def vG(put:AV->T AV->T AV)(cF:Option (List Nat))(st:St)(k:St->gV):iz->gV
 | .val v bj up H=>k ⟨put v st.tm,bj,up,H⟩
 | .panic c H=>cF.bind λ ds=>B1 (.panic c,⟨forget ds st.tm,st.bj,st.up,H⟩)
def Pq(put:AV->T AV->T AV)(cF:Option (List Nat))(st:St)(k:St->gV)(r:bJ×ar):fR put cF st k r=vG put cF st k (nQ st.bj st.up r):=by
 unfold fR nQ;split<;>rename_i h<;>rw[h]<;>rfl
def ψ(put:AV->T AV->T AV)(cF:Option (List Nat))(rt:RT)(st:St)(k:St->gV)(vs:List AV)(op:fL) :
 (qV put cF op).run rt st k vs=(iE rt st vs op).bind (vG put cF st k):=by
 cases op with
 |pure f=>simp only[qV,Ep,iE,kr,qr];rfl
 |read f=>simp only[qV,EV,iE,kr,qr];rfl
 |alloc f=>simp only[qV,wJ,iE,kr,qr];rfl
 |gY f=>simp only[qV,Mq,iE,kr,qr];rfl
 |ir f=>simp only[qV,ES,iE,kr,qr,Pq]
 |im =>
  simp only[qV,Ej,iE];split
  .simp only[kr,qr,Pq]
  .simp only[kr,qr,Pq]
  .rename_i c e;split
   .exact (c _ _ _ _ rfl).elim
   .exact (e _ _ _ rfl).elim
   .rfl
 |invoke name =>
  simp only[qV,tV,iE];split
  .simp only[kr,qr,Pq]
  .rename_i c;split
   .exact (c _ _ _ rfl).elim
   .rfl
 |recover =>
  simp only[qV,Ub,iE];cases rt.ctx.round with
  |some l=>rfl
  |none =>
   cases vs with
   |cons x xs=>rfl
   |nil =>
    rcases hu:st.up with _|_|⟨⟨v,_|_⟩,d⟩<;>simp only[O4,hu]<;>rfl
 |defer =>
  simp only[qV,wT,iE];cases rt.ctx.round with
  |some l=>rfl
  |none =>
   simp only;split
   .rfl
   .rename_i h;split
    .exact (h _ _ _ _ rfl).elim
    .rfl
 |panic =>
  simp only[qV,wU,iE];split
  .simp only[Pq,nQ,qr]
  .rename_i h;split
   .exact (h _ _ rfl).elim
   .rfl
end Go.Am
namespace Go.Am
section moves
variable{P:Jy}{b:NY}{a:Act}{k:List Item}{cs cs':List NY}{w w':NJ}{ops:Array Pv}{i:Nat}{rest:List Nat}{o:Pv}
def NA(ho:ops[i]? = B1 o)(v:K8):(b.atR a (.inRegion ops (i::rest)::k)).finish v=b.atR (a.put o.dst v) (.inRegion ops rest::k):=by
 rw[NY.finish_atR,ho];rfl
def K9(ho:ops[i]? = B1 o)(hw:Af o (yielded ops a.tmps)=B4){v:K8}(hr:(o.semAt b.roundOf a.eval).run P w=.ok (.value v) w') :
 step P (lone (b.atR a (.inRegion ops (i::rest)::k)) cs w)=.next (lone (b.atR (a.put o.dst v) (.inRegion ops rest::k)) cs w') :=
 step_lone_go (by rw[stepGR_op ho hw,<-NA ho];simp[Bz,hr])
def Qq(ho:ops[i]? = B1 o)(hw:Af o (yielded ops a.tmps)=B4)(hr:(o.semAt b.roundOf a.eval).run P w=.ok .skip w') :
 step P (lone (b.atR a (.inRegion ops (i::rest)::k)) cs w)=.next (lone (b.atR (a.put o.dst undef) (.inRegion ops rest::k)) cs w') :=
 step_lone_go (by rw[stepGR_op ho hw,<-NA ho];simp[Bz,hr])
def D6(ho:ops[i]? = B1 o)(hw:Af o (yielded ops a.tmps)=B4){d:Deferred}(hr:(o.semAt b.roundOf a.eval).run P w=.ok (.defer d) w') :
 step P (lone (b.atR a (.inRegion ops (i::rest)::k)) cs w)=.next (lone (b.atR (({a with defers:=d::a.defers}:Act).put o.dst undef) (.inRegion ops rest::k)) cs w'):=by
 refine step_lone_go ?_;have:({b.atR a (.inRegion ops (i::rest)::k)with defers:=d::a.defers}:NY).finish undef =
  b.atR ({a with defers:=d::a.defers}.put o.dst undef) (.inRegion ops rest::k):=by
  have:=NY.finish_atR b {a with defers:=d::a.defers} ops i rest k undef;rw[ho]at this;exact this
 rw[stepGR_op ho hw];simp only[Bz,Sem.runT_eq,hr,GStep.bare_after];exact congrArg (λ fr=>GStep.go {frame:=fr,callers:=cs,status:=.running,dying:=B5} w') this
def UM(ho:ops[i]? = B1 o)(hw:Af o (yielded ops a.tmps)=B4){f:FuncId}{args:Array K8}(hr:(o.semAt b.roundOf a.eval).run P w=.ok (.enter f args) w') :
 step P (lone (b.atR a (.inRegion ops (i::rest)::k)) cs w)=.next (lone (Frame.enter P f args .normal) (b.atR a (.inRegion ops (i::rest)::k)::cs) w') :=
 step_lone_go (by rw[stepGR_op ho hw];simp[Bz,hr,Bm])
def ah2(ho:ops[i]? = B1 o)(hw:Af o (yielded ops a.tmps)=B4){l:Nat}{f:FuncId}{tmps:Array K8}{as body:Code}(hr:(o.semAt b.roundOf a.eval).run P w=.ok (.round l f tmps as body) w') :
 step P (lone (b.atR a (.inRegion ops (i::rest)::k)) cs w)=.next (lone (Frame.round l f tmps as body .normal) (b.atR a (.inRegion ops (i::rest)::k)::cs) w') :=
 step_lone_go (by rw[stepGR_op ho hw];simp[Bz,hr,Bm])
def EC(ho:ops[i]? = B1 o)(hw:Af o (yielded ops a.tmps)=B4){v:K8}(hr:(o.semAt b.roundOf a.eval).run P w=.halt (.panic v) w') :
 step P (lone (b.atR a (.inRegion ops (i::rest)::k)) cs w)=.next (lone {b.atR a (.inRegion ops (i::rest)::k)with mode:=.panicking [{v,recovered:=B2}]} cs w') :=
 step_lone_go (by rw[stepGR_op ho hw,<-CD];simp[Bz,hr])
def xh9(ho:ops[i]? = B1 o)(hw:Af o (yielded ops a.tmps)=B4)(hb:b.roundOf=B5)(hr:(o.semAt b.roundOf a.eval).run P w=.ok .recover w'){v:K8}
 (d:tryRecover (b.atR a (.inRegion ops (i::rest)::k)) cs=B1 (v,cs')) :
 step P (lone (b.atR a (.inRegion ops (i::rest)::k)) cs w)=.next (lone (b.atR (a.put o.dst v) (.inRegion ops rest::k)) cs' w') :=
 step_lone_go (by
  rw[stepGR_op ho hw,<-NA ho];have c:(b.atR a (.inRegion ops (i::rest)::k)).roundOf=none:=hb;simp[Bz,hr,c,d])
def q3n(ho:ops[i]? = B1 o)(hw:Af o (yielded ops a.tmps)=B4)(hb:b.roundOf=B5)(hr:(o.semAt b.roundOf a.eval).run P w=.ok .recover w')
 (d:tryRecover (b.atR a (.inRegion ops (i::rest)::k)) cs=B5) :
 step P (lone (b.atR a (.inRegion ops (i::rest)::k)) cs w)=.next (lone (b.atR (a.put o.dst .nilIface) (.inRegion ops rest::k)) cs w') :=
 step_lone_go (by
  rw[stepGR_op ho hw,<-NA ho];have c:(b.atR a (.inRegion ops (i::rest)::k)).roundOf=none:=hb;simp[Bz,hr,c,d])
end moves
def rR(P:Jy)(base:Nat)(call:b9):Prop :=
 ∀(D:Nat->Prop)θ H w f vs(args:Array K8)up H' e up' kind cs,HR P base D θ H w->bN D θ vs args.toList->rD D θ kind up cs->call f vs up H=B1 (e,up',H')->eC D H.au H'.au ->
  (∃fn c,P.funcs[f]? = B1 fn/\fn.body=B1 c) /\
  ∃θ' w' cs' fr e',Steps P (lone (Frame.enter P f args kind) cs w) (lone fr cs' w')/\fr.kind=kind/\fr.fn=f/\fr.going P w' e'/\QN (Up D H.au H'.au) θ' e e' /\
   HR P base (Up D H.au H'.au) θ' H' w'/\bE D H θ w H' θ' w'/\up'.isSome=up.isSome/\fE up cs cs'/\rD (Up D H.au H'.au) θ' kind up' cs'
def xD(P:Jy)(base:Nat)(round:iX):Prop :=
 ∀(D:Nat->Prop)θ H w l vs(args:Array K8)H' e(c:NY)cs,HR P base D θ H w->bN D θ vs args.toList->round vs l H=B1 (e,H')->eC D H.au H'.au ->
  ∃f tmps as body,(Instr.yield (θ.cq l) args).run P w=.ok (.round (θ.cq l) f tmps as body) w /\
  ∃θ' w' fin,Steps P (lone (Frame.round (θ.cq l) f tmps as body .normal) (c::cs) w) (lone fin cs w') /\
   (match e with
    | .ret v=>∃cv,VR (Up D H.au H'.au) θ' v cv/\fin=c.finish cv
    | .panic ch=>∃ps,ch≠[]/\fT (Up D H.au H'.au) θ' ch ps/\fin=c.raise ps) /\
   HR P base (Up D H.au H'.au) θ' H' w'/\bE D H θ w H' θ' w'
def iz.heap:iz->ar
 | .val _ _ _ H=>H
 | .panic _ H=>H
def JY(P:Jy)(base:Nat)(D:Nat->Prop)(θ:Th)(st:St)(b:NY)(a:Act)(ops:Array Pv)(i:Nat)(rest:List Nat)(k:List Item)(cs:List NY)(w:NJ)(o:Pv):iz->Prop
 | .val v bj up H'=>∃θ' w' c cs' ds,Steps P (lone (b.atR a (.inRegion ops (i::rest)::k)) cs w) (lone (b.atR (({a with defers:=ds}:Act).put o.dst c) (.inRegion ops rest::k)) cs' w') /\
  HR P base (Up D st.H.au H'.au) θ' H' w'/\bE D st.H θ w H' θ' w'/\VR (Up D st.H.au H'.au) θ' v c/\ic (Up D st.H.au H'.au) θ' bj ds/\up.isSome=st.up.isSome /\
  rD (Up D st.H.au H'.au) θ' b.kind up cs'/\fE st.up cs cs'
 | .panic ch H'=>∃θ' w' ps todo,Steps P (lone (b.atR a (.inRegion ops (i::rest)::k)) cs w) (lone {b.atR a todo with mode:=.panicking ps} cs w') /\
  HR P base (Up D st.H.au H'.au) θ' H' w'/\bE D st.H θ w H' θ' w'/\ch≠[]/\fT (Up D st.H.au H'.au) θ' ch ps
section
variable{P:Jy}{base:Nat}{D:Nat->Prop}{θ:Th}
def Tk{fr:NY}{w:NJ}{e:Ending}(h:fr.going P w e)(hk:fr.kind=.normal):fr.leaving P w e:=by
 cases e with
 |returned v=>have⟨d,f,g⟩:=h;exact⟨d,f,hk,g⟩
 |panicked c=>exact h
 |outgrown=>trivial
def Pa{f:FuncId}{fn:Func}{c:Code}{args:Array K8}{w:NJ}(e:dY P)(d:P.funcs[f]? = B1 fn)(hb:fn.body=B1 c):(callFunc f args).run P w=.ok (.enter f args) w:=by
 simp[callFunc,d,hb,e.names f fn d]
def xjq{t:LP}{name:String}{f:Nat}(h:zM P t name=B1 f)(v:K8)(w:NJ):(method (P.types.size+Made.depth) t v name).run P w=.ok (f,v) w:=by
 unfold zM at h;simp only[qj]at h;have⟨i,l,m,hm,h⟩:=h;split at h
 .cases h
 .rename_i g;simp only[qj]at h;have⟨p,hp,h⟩:=h;have e:m.path.toList=[]:=by
   have:m.path.isEmpty=true:=by simpa using g
   simpa using this
  obtain⟨n,hn⟩:∃n,P.types.size+Made.depth=n+1:=⟨P.types.size+99,rfl⟩
  rw[hn];have⟨q,j⟩:=p;have c:(typeInfo t).run P w=.ok i w:=by simp[typeInfo,l]
  simp only[method,NQ,c,NM,hm,e,follow,Qh,hp];cases hu:P.underlying t with
  |none=>rw[hu]at h;cases h
  |some d =>
   rw[hu]at h;have hr:∀wr,d=d->(receiverAt t (.val v) j wr).run P w=.ok v w/\q=f:=by
    intro wr _;cases d<;>cases j<;>simp only[reduceCtorEq,qk]at h<;>exact⟨by simp[receiverAt,kw hu,Place.get],h⟩
   simp[(hr _ rfl).1,(hr B5 rfl).2]
def ZT{call:b9}(hc:rR P base call){st:St}{b:NY}{a:Act}{ops:Array Pv}{i:Nat}{rest:List Nat}{k:List Item}{cs:List NY}{w:NJ}{o:Pv}
 (ho:ops[i]? = B1 o) (z:HR P base D θ st.H w) (x:ic D θ st.bj a.defers) (hu:rD D θ b.kind st.up cs) {f:Nat} {vs:List AV} {args:Array K8} (A:bN D θ vs args.toList)
 (hs:(∃fn c,P.funcs[f]? = B1 fn/\fn.body=B1 c)->step P (lone (b.atR a (.inRegion ops (i::rest)::k)) cs w)=.next (lone (Frame.enter P f args .normal) (b.atR a (.inRegion ops (i::rest)::k)::cs) w))
 {r:bJ×ar} {u:Option aH} (hr:call f vs B5 st.H=B1 (r.1,u,r.2)) (y:eC D st.H.au r.2.au) :
 JY P base D θ st b a ops i rest k cs w o (nQ st.bj st.up r):=by
 have⟨l,θ',w',cs',fr,e',m,q,B,s,g,n,h,C,t,p⟩:=hc D θ st.H w f vs args B5 r.2 r.1 u .normal (b.atR a (.inRegion ops (i::rest)::k)::cs) z A rfl hr y;have j:cs'=b.atR a (.inRegion ops (i::rest)::k)::cs:=t;subst j;have d:=hs l;have hl:=Tk s q;have⟨e,H'⟩:=r;cases e with
 |ret v =>
  cases e' with
  |returned c =>
   refine⟨θ',w',c,cs,a.defers,.head d (m.trans (.one ?_)),n,h,g,ic.up h.ag Up.of x,rfl,rD.up h.ag Up.of hu,fE.refl hu⟩;rw[step_leave_returned hl,NA ho]
  |panicked c=>exact g.elim
  |outgrown=>exact g.elim
 |panic ch =>
  cases e' with
  |returned c=>exact g.elim
  |panicked ps =>
   refine⟨θ',w',ps,.inRegion ops (i::rest)::k,.head d (m.trans (.one ?_)),n,h,g.1,g.2⟩;rw[step_leave_panicked hl,CD]
  |outgrown=>exact g.elim
def SI{f:mC}{first cap:List AV}{c:K8}(h:VR D θ (.fn f first cap) c):∃x y:List K8,c=.func (fQ θ f) x.toArray y.toArray/\bN D θ first x/\bN D θ cap y/\(∀θ',Ag D θ θ'->fQ θ' f=fQ θ f):=by
 refine⟨bW θ first,bW θ cap,h.now.symm,λ θ' ha=>?_,λ θ' ha=>?_,λ θ' ha=>?_⟩ <;>
 .have:=(h θ' ha).trans h.now.symm;simp only[az,Value.func.injEq]at this
  first
  |exact this.1
  |(have:=this.2.1;simpa using this)
  |(have:=this.2.2;simpa using this)
set_option maxHeartbeats 1000000 in
def Wa(hP:dY P){rt:RT}(E:rR P base rt.call)(V:xD P base rt.round)(hAP:rt.AP=aY P){o:Pv}{I:fL}{xs:List N0}(B:rX P o xs I)(hdef:C9 o I)
 {ops:Array Pv} {i:Nat} {rest:List Nat} {a:Act} (ho:ops[i]? = B1 o) (hw:Af o (yielded ops a.tmps)=B4) {st:St} {w:NJ} {b:NY} {k:List Item} {cs:List NY} {vs:List AV} {r:iz}
 (J:HR P base D θ st.H w) (M:ic D θ st.bj a.defers) (hu:rD D θ b.kind st.up cs) (hb:Ad D θ b.roundOf rt.ctx.round) (R:bN D θ vs (xs.map a.eval)) (hr:iE rt st vs I=B1 r)
 (hf:eC D st.H.au r.heap.au):JY P base D θ st b a ops i rest k cs w o r:=by
 have d:Up D st.H.au st.H.au=D:=Up.none;have U:I≠ .defer->I≠ .pure Op.fail->o.semAt b.roundOf a.eval=execOp a.eval o:=λ L W=>Bg _ _ _ (by
  rcases hdef with h|h|h
  .exact h
  .exact absurd h L
  .exact absurd h W)
 cases I with
 |pure f =>
  simp only[iE,qj,qk]at hr;obtain⟨v,s,rfl⟩:=hr;have⟨c,A,C⟩:=B D θ a.eval w vs v (SZ a) R s;have g:o.semAt b.roundOf a.eval=execOp a.eval o:=U (by intro q;cases q) (by intro q;cases q;cases s);refine⟨θ,w,c,cs,a.defers,.one ?_,by rw[d];exact J,.refl _ _ _ _,by rw[d];exact C,by rw[d];exact M,rfl,by rw[d];exact hu,fE.refl hu⟩;rcases A with A|⟨A,rfl⟩
  .exact K9 ho hw (by rw[g];exact A)
  .exact Qq ho hw (by rw[g];exact A)
 |read f =>
  simp only[iE,qj,qk]at hr;obtain⟨v,s,rfl⟩:=hr;have⟨c,A,C⟩:=B base D θ st.H a.eval w vs v J R s;have g:o.semAt b.roundOf a.eval=execOp a.eval o:=U (by intro q;cases q) (by intro q;cases q);refine⟨θ,w,c,cs,a.defers,.one ?_,by rw[d];exact J,.refl _ _ _ _,by rw[d];exact C,by rw[d];exact M,rfl,by rw[d];exact hu,fE.refl hu⟩;rcases A with A|⟨A,rfl⟩
  .exact K9 ho hw (by rw[g];exact A)
  .exact Qq ho hw (by rw[g];exact A)
 |alloc f =>
  simp only[iE,qj,qk]at hr;obtain⟨⟨ob,mk⟩,s,rfl⟩:=hr;have⟨hown,w0,co,ext,c,A,C,X⟩:=B.1 D θ a.eval w vs ob mk (SZ a) R s;have g:o.semAt b.roundOf a.eval=execOp a.eval o:=U (by intro q;cases q) (by intro q;cases q);have hn:¬D st.H.au:=hf _ (qm _) (zy _);have hag:=Th.hJ θ st.H.au w0.heap.size 0 ext hn;have⟨e1,e2,e3⟩:=Th.eO θ st.H.au w0.heap.size 0 ext;have⟨k1,k2⟩:=X (Up D st.H.au (st.H.au+1)) (θ.add st.H.au w0.heap.size 0 ext) st.H.au hag Up.of (.inr ⟨qm _,zy _⟩) (by rw[e1,C.heap]) e2 e3;have hh0:HR P base D θ st.H w0:=J.draw C.heap;refine⟨θ.add st.H.au w0.heap.size 0 ext,w0.alloc co,c,cs,a.defers,.one (K9 ho hw (by rw[g];exact A)),?_,?_,k2,ic.up hag Up.of M,rfl,rD.up hag Up.of hu,fE.refl hu⟩
  .refine hh0.alloc hn ?_ ?_ (qm _) ?_ k1
   .rw [Cs];simp
   .intro j hj;rw[Cs,qv (Ma hj)]
   .simp
  .exact (bE.draw (w:=w) (w':=w0) C.heap C.os C.tape C.output).trans (bE.alloc (w:=w0) hh0 hn _ _ _ _) (λ _ h=>h)
 |gY f =>
  simp only[iE,qj,qk]at hr;obtain⟨⟨v,H'⟩,s,rfl⟩:=hr;have⟨θ',w',c,A,C,X,g4⟩:=B.1 base D θ st.H a.eval w vs v H' J R s hf;have g:o.semAt b.roundOf a.eval=execOp a.eval o:=U (by intro q;cases q) (by intro q;cases q);refine⟨θ',w',c,cs,a.defers,.one ?_,C,X,g4,ic.up X.ag Up.of M,rfl,rD.up X.ag Up.of hu,fE.refl hu⟩;rcases A with A|⟨A,rfl⟩
  .exact K9 ho hw (by rw[g];exact A)
  .exact Qq ho hw (by rw[g];exact A)
 |ir f =>
  obtain⟨c,fn,body,s,K,rfl,h3,h4⟩:=B;simp only[iE,cR,kr,qr,qj,qk]at hr;obtain⟨⟨e,u,H'⟩,hc,rfl⟩:=hr;have g:o.semAt b.roundOf a.eval=execOp a.eval o:=Bg _ _ _ (λ c'=>by rw[s];simp);refine ZT E ho J M hu (args:=c.args.map a.eval) (by simpa using R) (λ _=>UM ho hw ?_) hc (by cases e<;>exact hf);rw[g];simp[execOp,s,resolve,K,Act.eval,BU,invoke,Pa hP h3 h4]
 |im =>
  obtain⟨c,x,s,K,rfl⟩:=B;have g:o.semAt b.roundOf a.eval=execOp a.eval o:=Bg _ _ _ (λ c'=>by rw[s];simp);simp only[iE]at hr;split at hr
  .rename_i f first cap args
   simp only[cR,kr,qr,qj,qk]at hr;obtain⟨⟨e,u,H'⟩,hc,rfl⟩:=hr;have⟨cf,ca,z,L,W⟩:=R.d9;simp only[j7,zz]at z;obtain⟨rfl,rfl⟩:=z;have⟨fi,ci,S,Z,q5,_⟩:=SI L;refine ZT E ho J M hu (args:=(fi.toArray++c.args.map a.eval)++ci.toArray) ?_ (λ hfn=>UM ho hw ?_) hc (by cases e<;>exact hf)
   .simpa using Z.app (W.app q5)
   .have ⟨fn,body,h3,h4⟩:=hfn;rw[g];simp[execOp,s,resolve,K,S,fQ,BU,invoke,Pa hP h3 h4]
  .rename_i l first args
   simp only[cR,qj,qk]at hr;obtain⟨⟨e,H'⟩,hc,rfl⟩:=hr;have⟨cf,ca,z,L,W⟩:=R.d9;simp only[j7,zz]at z;obtain⟨rfl,rfl⟩:=z;have⟨fi,ci,S,Z,q5,_⟩:=SI L;have hf':eC D st.H.au H'.au:=by cases e<;>exact hf
   have⟨f,tmps,as,body,A,θ',w',fin,C,X,g4,g5⟩:=V D θ st.H w l (first++args) (fi.toArray++c.args.map a.eval) H' e (b.atR a (.inRegion ops (i::rest)::k)) cs J (by simpa using Z.app W) hc hf';have N:=ah2 (P:=P) (b:=b) (k:=k) (cs:=cs) (w:=w) (rest:=rest) ho hw (l:=θ.cq l) (f:=f) (tmps:=tmps) (as:=as) (body:=body) (w':=w) (by
    rw[g];simp[execOp,s,resolve,K,S,fQ,BU,invoke,A])
   cases e with
   |ret v =>
    obtain⟨cv,k1,rfl⟩:=X;refine⟨θ',w',cv,cs,a.defers,.head N ?_,g4,g5,k1,ic.up g5.ag Up.of M,rfl,rD.up g5.ag Up.of hu,fE.refl hu⟩;rw[NA ho]at C;exact C
   |panic ch =>
    obtain⟨Y,k0,k1,rfl⟩:=X;refine⟨θ',w',Y,.inRegion ops (i::rest)::k,.head N ?_,g4,g5,k0,k1⟩;rw[CD]at C;exact C
  .cases hr
 |invoke m =>
  obtain⟨c,x,s,K,rfl⟩:=B;have g:o.semAt b.roundOf a.eval=execOp a.eval o:=Bg _ _ _ (λ c'=>by rw[s];simp);simp only[iE]at hr;split at hr
  .rename_i t v args;simp only[cR,kr,qr,qj,qk]at hr;obtain⟨f,hm,⟨e,u,H'⟩,hc,rfl⟩:=hr;have⟨cf,ca,z,L,W⟩:=R.d9;simp only[j7,zz]at z;obtain⟨rfl,rfl⟩:=z;have⟨cv,S,Z⟩:=L.mz;rw[hAP]at hm;have hm':zM P t m=B1 f:=hm;refine ZT E ho J M hu (args:=#[cv]++c.args.map a.eval) (by simpa using bN.cons Z W) (λ hfn=>UM ho hw ?_) hc (by cases e<;>exact hf);have⟨fn,body,h3,h4⟩:=hfn;rw[g];have hx:(#[K8.iface t cv]++c.args.map a.eval)[0]? = B1 (.iface t cv):=by
    rw[Array.getElem?_append];simp
   have hx2:(#[K8.iface t cv]++c.args.map a.eval).extract 1 (#[K8.iface t cv]++c.args.map a.eval).size=c.args.map a.eval:=by
    apply Array.ext';rw[Array.toList_extract,Array.toList_append];simp[List.extract,zq]
   simp only[execOp,s,resolve,K,NQ,Qh,NM,invoke,S,hx,hx2,callMethod,program,Sem.run,xjq hm',Pa hP h3 h4]
  .cases hr
 |recover =>
  obtain⟨c,s,K,rfl⟩:=B;have g:o.semAt b.roundOf a.eval=execOp a.eval o:=Bg _ _ _ (λ c'=>by rw[s];simp);simp only[iE]at hr;split at hr
  .cases hr
  .rename_i F;rw[F]at hb;have hb:b.roundOf=none:=hb;have G:(o.semAt b.roundOf a.eval).run P w=.ok .recover w:=by
    rw[g];have⟨cc,hE⟩:=ML (ρ:=a.eval) s K;rw[hE];rfl
   split at hr
   .split at hr
    .rename_i v older O;cases hr;rw[O]at hu;cases cs with
     |nil=>exact hu.elim
     |cons c0 kR =>
      have⟨hk,hm⟩:=hu;cases n:c0.mode with
      |run=>rw[n]at hm;exact hm.elim
      |returning=>rw[n]at hm;cases hm
      |panicking Y =>
       rw[n]at hm;have⟨_,hm⟩:=hm;cases Y with
       |nil=>exact hm.elim
       |cons p Y =>
        have⟨⟨m1,m2,m3⟩,m4⟩:=hm;have⟨pv,pr,pg⟩:=p;simp only at m1 m2 m3;subst m2;subst m3;refine⟨θ,w,pv,{c0 with mode:=.panicking ({v:=pv,recovered:=B4}::Y)}::kR,a.defers,.one ?_,by rw[d];exact J,.refl _ _ _ _,by rw[d];exact m1,by rw[d];exact M,by rw[O];rfl,?_,?_⟩
        .refine xh9 ho hw hb G ?_;simp[tryRecover,Bm,hk,n]
        .rw [d];exact⟨hk,by simp,⟨m1,rfl,rfl⟩,m4⟩
        .rw [O];exact⟨_,rfl⟩
    .rename_i O;cases hr;refine⟨θ,w,.nilIface,cs,a.defers,.one (q3n ho hw hb G ?_),by rw[d];exact J,.refl _ _ _ _,λ _ _=>rfl,by rw[d];exact M,rfl,by rw[d];exact hu,fE.refl hu⟩;unfold tryRecover;cases Q:st.up with
     |none =>
      rw[Q]at hu;have hk:b.kind=.normal:=hu;simp[Bm,hk]
     |some ch =>
      rw[Q]at hu;cases cs with
      |nil=>exact hu.elim
      |cons c0 kR =>
       have⟨hk,hm⟩:=hu;cases n:c0.mode with
       |run=>rw[n]at hm;exact hm.elim
       |returning=>simp[Bm,hk,n]
       |panicking Y =>
        rw[n]at hm;have⟨_,hm⟩:=hm;cases Y with
        |nil=>simp[Bm,hk,n]
        |cons p Y =>
         cases ch with
         |nil=>exact hm.elim
         |cons e es =>
          have⟨⟨m1,m2,m3⟩,m4⟩:=hm;have⟨pv,pr,pg⟩:=p;have⟨ev,er⟩:=e;simp only at m2 m3;subst m2;subst m3;cases pr with
          |false=>exact absurd Q (O _ _)
          |true=>simp[Bm,hk,n]
   .cases hr
 |defer =>
  obtain⟨c,x,s,K,rfl⟩:=B;simp only[iE]at hr;split at hr
  .cases hr
  .rename_i F;rw[F]at hb;have hb:b.roundOf=none:=hb;split at hr
   .rename_i f first cap args
    cases hr;have⟨cf,ca,z,L,W⟩:=R.d9;simp only[j7,zz]at z;obtain⟨rfl,rfl⟩:=z;have⟨fi,ci,S,Z,q5,q6⟩:=SI L;refine⟨θ,w,undef,cs,{target:=.fn (.func f) ci.toArray,args:=fi.toArray++c.args.map a.eval}::a.defers,.one ?_,by rw[d];exact J,.refl _ _ _ _,.undef,?_,rfl,by rw[d];exact hu,fE.refl hu⟩
    .refine D6 ho hw ?_;rw[hb,Pv.semAt_none];simp[execOp,s,resolve,K,S,fQ,BU]
    .rw [d];exact⟨⟨_,_,rfl,λ _ _=>rfl,by simpa using Z.app (W.app q5)⟩,M⟩
   .cases hr
 |panic =>
  simp only[iE]at hr;split at hr
  .rename_i t v;cases hr;obtain⟨x,rfl,L⟩:=R.qD;have⟨cv,S,Z⟩:=L.mz;have G:(o.semAt b.roundOf a.eval).run P w=.halt (.panic (a.eval x)) w:=by
    rcases B with⟨y,s,hy⟩|⟨c,s,K,hy⟩
    .simp only[zz,tG]at hy;subst hy;rw[Bg _ _ _ (λ c'=>by rw[s];simp)];simp[execOp,s,S,Instr.panic,goPanic]
    .rw [Bg _ _ _ (λ c'=>by rw[s];simp)];have⟨cc,hE⟩:=ML (ρ:=a.eval) s K;rw[hE,AZ hy.symm];simp[builtin,S,Instr.panic,goPanic]
   refine⟨θ,w,[{v:=a.eval x,recovered:=B2}],.inRegion ops (i::rest)::k,.one (EC ho hw G),by rw[d];exact J,.refl _ _ _ _,by simp,?_⟩;rw[d];exact⟨⟨L,rfl,rfl⟩,trivial⟩
  .cases hr
end
end Go.Am
namespace Go.Am
def dt(s:aR)(tm:T AV):Option Bool :=
 match s.guard with
 |none=>B1 B4
 |some g=>cQ g.2 (tm.get g.1)
def Y5(s:aR)(hc:s.iq=B2)(rt:RT)(K:St->gV)(st:St) :
 (gR s).run rt K st=(dt s st.tm).bind λ w=>cond w ((mF st.tm s.args).bind λ vs=>(iE rt st vs s.op).bind (vG (eK s.dst) s.cF st K)) (K ⟨eK s.dst .undef st.tm,st.bj,st.up,st.H⟩):=by
 have c:(lW s.dst).run=eK s.dst:=by funext v tm;exact Yg _ _ _
 unfold gR dt;rw[hc];cases hg:s.guard with
 |none=>simp only[qr,xv,GW,ψ,c]
 |some g=>simp only[GW,ψ,c,T.jS,T.get]
def _9(s:aR)(hc:s.iq=B4){d:Nat}(e:s.dst=B1 d)(rt:RT)(K:St->gV)(st:St) :
 (gR s).run rt K st=(dt s st.tm).bind λ w=>cond w ((mF st.tm s.args).bind λ vs=>cond (rh (λ t=>t.get d) st vs s.op) (K st) B5) (K st):=by
 have c:(T.oY (α:=AV) (T.path d)).run=λ t=>t.get d:=by funext t;exact T.jS _ _
 unfold gR dt;rw[hc,e];cases hg:s.guard with
 |none=>simp only[qr,xv,GW,c]
 |some g =>
  simp only[GW,c];rw[show(T.oY (T.path g.1)).run st.tm=st.tm.get g.1 from T.jS _ _]
def qtp(s:aR)(hc:s.iq=B4)(c:s.dst=B5)(rt:RT)(K:St->gV)(st:St):(gR s).run rt K st=none:=by
 unfold gR;rw[hc,c];cases s.guard<;>rfl
def pW(call:b9):Prop:=∀f vs up H e up' H',call f vs up H=B1 (e,up',H')->Ext H H'
def Ae(round:iX):Prop:=∀vs l H e H',round vs l H=B1 (e,H')->Ext H H'
def ue:aj->Prop
 | .region steps=>∀s∈steps,dG s.op
 | .seq a b=>ue a/\ue b
 | .cond _ a b=>ue a/\ue b
 | .block _ b=>ue b
 | .loop _ b=>ue b
 | .scope b=>ue b
 |_=>True
def ae7(fn:bT):Prop:=ue fn.body /\ ∀lp∈fn.loops,ue lp.assign/\ue lp.body
def Tr(AP:jV):Prop:=∀f fn,AP.func f=B1 fn->ae7 fn
section
variable{rt:RT}(hc:pW rt.call)(hr:Ae rt.round)
include hc hr
def Vy{op:fL}(ho:dG op){st:St}{vs:List AV}{r:iz}(h:iE rt st vs op=B1 r):Ext st.H r.heap:=by
 have c:∀(q:bJ×ar),Ext st.H q.2->Ext st.H (nQ st.bj st.up q).heap:=by
  intro q g;have⟨e,H'⟩:=q;cases e<;>exact g
 cases op with
 |pure f=>simp only[iE,qj,qk]at h;obtain⟨_,_,rfl⟩:=h;exact Ext.refl _
 |read f=>simp only[iE,qj,qk]at h;obtain⟨_,_,rfl⟩:=h;exact Ext.refl _
 |alloc f=>simp only[iE,qj,qk]at h;obtain⟨⟨j,mk⟩,d,rfl⟩:=h;exact Ext.alloc _ _ (ho _ _ _ d)
 |gY f=>simp only[iE,qj,qk]at h;obtain⟨⟨v,H'⟩,d,rfl⟩:=h;exact ho _ _ _ _ d
 |ir f =>
  simp only[iE,cR,kr,qr,qj,qk]at h;obtain⟨⟨e,u,H'⟩,d,rfl⟩:=h;exact c _ (hc _ _ _ _ _ _ _ d)
 |im =>
  simp only[iE]at h;split at h
  .simp only[cR,kr,qr,qj,qk]at h;obtain⟨⟨e,u,H'⟩,d,rfl⟩:=h;exact c _ (hc _ _ _ _ _ _ _ d)
  .simp only[cR,qj,qk]at h;obtain⟨⟨e,H'⟩,d,rfl⟩:=h;exact c _ (hr _ _ _ _ _ d)
  .cases h
 |invoke m =>
  simp only[iE]at h;split at h
  .simp only[cR,kr,qr,qj,qk]at h;obtain⟨_,_,⟨e,u,H'⟩,d,rfl⟩:=h;exact c _ (hc _ _ _ _ _ _ _ d)
  .cases h
 |recover =>
  simp only[iE]at h;split at h
  .cases h
  .split at h
   .split at h<;>(cases h;exact Ext.refl _)
   .cases h
 |defer =>
  simp only[iE]at h;split at h
  .cases h
  .split at h
   .cases h;exact Ext.refl _
   .cases h
 |panic =>
  simp only[iE]at h;split at h
  .cases h;exact Ext.refl _
  .cases h
def _N{op:fL}(ho:dG op){st:St}{vs:List AV}{r:iz}(h:iE rt st vs op=B1 r):st.H.au<=r.heap.au:=(Vy hc hr ho h).1
def xnb{s:aR}(ho:dG s.op){K:St->gV}(f:∀st r,K st=B1 r->Ext st.H r.2.H){st:St}{r:aZ×St}(h:(gR s).run rt K st=B1 r):Ext st.H r.2.H:=by
 cases e:s.iq with
 |false =>
  rw[Y5 s e,qj]at h;have⟨w,hw,h⟩:=h;cases w with
  |false =>
   simp only[zo]at h;have l:=f _ _ h;exact l
  |true =>
   simp only[xv,qj]at h;have⟨vs,_,q,m,h⟩:=h;have g:=Vy hc hr ho m;cases q with
   |val v d u H'=>exact Ext.trans g (f _ _ h)
   |panic c H' =>
    simp only[vG,qj,qk]at h;obtain⟨_,_,rfl⟩:=h;exact g
 |true =>
  cases j:s.dst with
  |none=>rw[qtp s e j]at h;cases h
  |some d =>
   rw[_9 s e j,qj]at h;have⟨w,hw,h⟩:=h;cases w with
   |false =>
    simp only[zo]at h;exact f _ _ h
   |true =>
    simp only[xv,qj]at h;have⟨vs,_,h⟩:=h;rcases yk h with⟨_,h⟩|⟨_,h⟩
    .exact f _ _ h
    .cases h
def Wd:∀{l:List aR},(∀s∈l,dG s.op) -> ∀{st:St}{r:aZ×St},(hC l).run rt st=B1 r->Ext st.H r.2.H
 |[],_,st,r,h=>by cases h;exact Ext.refl _
 |s::l,ho,st,r,h=>xnb hc hr (ho s (by simp)) (λ st r h=>Wd (λ s hs=>ho s (by simp[hs])) h) h
def xf5{l:List aR}(hl:∀s∈l,dG s.op){st:St}{r:aZ×St}(h:(hC l).run rt st=B1 r):st.H.au<=r.2.H.au:=(Wd hc hr hl h).1
omit hc hr in
def Xm{body:St->gV}(hb:∀st r,body st=B1 r->Ext st.H r.2.H)(ai:Option (List Nat)):∀(n:Nat)(st:St)(r:aZ×St),gT ai body n st=B1 r->Ext st.H r.2.H
 |0,st,r,h=>by cases h
 |n+1,st,r,h=>by
  simp only[gT,qj]at h;have⟨q,d,h⟩:=h;have c:=hb _ _ d;have c:Ext st.H q.2.H:=by cases ai<;>exact c
  split at h
  .exact Ext.trans c (Xm hb ai n _ _ h)
  .cases h;exact c
omit hc hr in
def xi6{body:St->gV}(hb:∀st r,body st=B1 r->Ext st.H r.2.H)(ai:Option (List Nat))(n:Nat)(st:St)(r:aZ×St)(h:gT ai body n st=B1 r):st.H.au<=r.2.H.au:=(Xm hb ai n st r h).1
omit hr in
def XV{st:St}{k:Nat}{H0:ar}{bj:List aQ}{d:Nat}{v:AV}{r:aZ×St}(f:Ext st.H H0)(h:jD rt.call rt.round rt.ctx st k H0 bj d v=B1 r):Ext st.H r.2.H:=by
 unfold jD at h;split at h
 .simp only[cR,kr,qr,qj]at h;have⟨⟨e,u,H'⟩,g,h⟩:=h;have c:=(f.trans (Ext.alloc _ _ rfl)).trans (hc _ _ _ _ _ _ _ g);unfold NN at h;split at h
  .cases h;exact c
  .split at h
   .cases h
   .rename_i hg;cases h;exact c.trans (Ext.set hg _ (λ _=>rfl))
   .cases h
 .cases h
omit hr in
def xfr{st:St}{k:Nat}{H0:ar}{bj:List aQ}{d:Nat}{v:AV}{r:aZ×St}(c:Ext st.H H0)(h:jD rt.call rt.round rt.ctx st k H0 bj d v=B1 r):st.H.au<=r.2.H.au:=(XV hc c h).1
def AU:∀{c:aj},ue c -> ∀{st:St}{r:aZ×St},(bI c).run rt st=B1 r->Ext st.H r.2.H
 | .skip,_,st,r,h=>by cases h;exact Ext.refl _
 | .label _,_,st,r,h=>by cases h;exact Ext.refl _
 | .region steps,hm,st,r,h=>Wd hc hr hm h
 | .seq a b,hm,st,r,h=>by
  simp only[bI,qj]at h;have⟨q,g,h⟩:=h;have e:=AU hm.1 g;unfold vC at h;split at h
  .exact Ext.trans e (AU hm.2 h)
  .cases h;exact e
 | .cond c a b,hm,st,r,h=>by
  simp only[bI,qj]at h;have⟨v,j,h⟩:=h;unfold uV at h;split at h
  .rcases yk h with⟨_,h⟩|⟨_,h⟩
   .exact AU hm.1 h
   .exact AU hm.2 h
  .cases h
 | .block id b,hm,st,r,h=>by
  simp only[bI,qj]at h;have⟨q,g,h⟩:=h;have e:=AU (c:=b) hm g;unfold kP at h;split at h<;>(cases h;exact e)
 | .loop ai b,hm,st,r,h=>Xm (λ st r h=>AU (c:=b) hm h) ai _ _ _ h
 | .exit _,_,st,r,h=>by cases h;exact Ext.refl _
 | .goto _,_,st,r,h=>by cases h;exact Ext.refl _
 | .ret,_,st,r,h=>by cases h;exact Ext.refl _
 | .stuck,_,st,r,h=>by cases h
 | .scope b,hm,st,r,h=>by
  simp only[bI,qj]at h;have⟨q,g,h⟩:=h;have e:=AU (c:=b) hm g;unfold lX at h;split at h
  .rcases yk h with⟨_,h⟩|⟨_,h⟩
   .cases h
   .cases h;exact e
  .cases h;exact e
 | .rangeFunc f k,_,st,r,h=>by
  simp only[bI,qj]at h;have⟨v,j,h⟩:=h;unfold qW at h;split at h
  .exact XV hc (Ext.alloc _ _ rfl) h
  .simp only[qj]at h;have⟨d,_,h⟩:=h;exact XV hc (Ext.refl _) h
def Ow{c:aj}(hm:ue c){st:St}{r:aZ×St}(h:(bI c).run rt st=B1 r):st.H.au<=r.2.H.au:=(AU hc hr hm h).1
end
def SG{call:b9}(hc:pW call){rs:List eE}{tm:T AV}:∀{ds:List aQ}{m:Option aH}{H:ar}{r:bJ×ar},ct call rs tm ds m H=B1 r->Ext H r.2
 |[],B5,H,r,h=>by
  simp only[ct,qj,qk]at h;obtain⟨_,_,rfl⟩:=h;exact Ext.refl _
 |[],B1 c,H,r,h=>by cases h;exact Ext.refl _
 | .jJ b::ds,m,H,r,h=>by
  simp only[ct]at h;split at h
  .rename_i hg;exact(Ext.set hg _ (λ _=>rfl)).trans (SG (H:=H.set b _) hc h)
  .cases h
 | .fn (.func f) args::ds,m,H,r,h=>by
  simp only[ct,qj]at h;have⟨⟨e,u,H'⟩,d,h⟩:=h;have g:=hc _ _ _ _ _ _ _ d;split at h
  .simp only[qj]at h;have⟨j,_,h⟩:=h;exact Ext.trans g (SG hc h)
  .cases h
 | .fn (.yield _) _::_,_,_,_,h=>by simp[ct]at h
def qw{call:b9}(hc:pW call){rs:List eE}{tm:T AV}{ds:List aQ}{m:Option aH}{H:ar}{r:bJ×ar}(h:ct call rs tm ds m H=B1 r):H.au<=r.2.au:=(SG hc h).1
def xfz{H H':ar}{l:Nat}{s:mV}{p:Option iv}(h:cO H l s p=B1 H'):Ext H H':=by
 unfold cO at h;split at h
 .rename_i hg;cases h;exact Ext.set hg _ (λ _=>rfl)
 .cases h
def q6n{H H':ar}{l:Nat}(h:beginRound H l=B1 H'):Ext H H':=by
 unfold beginRound at h;split at h
 .rename_i hg;cases h;exact Ext.set hg _ (λ _=>rfl)
 .cases h
def xdt{H H':ar}{l:Nat}{s:mV}{p:Option iv}(h:cO H l s p=B1 H'):H'.au=H.au:=by
 unfold cO at h;split at h
 .cases h;rfl
 .cases h
def q3q{H H':ar}{l:Nat}(h:beginRound H l=B1 H'):H'.au=H.au:=by
 unfold beginRound at h;split at h
 .cases h;rfl
 .cases h
def TC{AP:jV}(hp:Tr AP){call:b9}(hc:pW call)(m:Nat):∀n,Ae (rounds AP call m n)
 |0=>λ vs l H e H' h=>by cases h
 |n+1=>λ vs l H e H' h=>by
  have u:=TC hp hc m n;simp only[rounds,roundOf]at h;split at h
  .rename_i st C f k tm d hg;simp only[qj]at h;have⟨fn,r,lp,g,A,_,q,y,h⟩:=h;have c:ue lp.assign/\ue lp.body:=(hp f fn r).2 lp (by rw[kD]at g;exact zh g);have j:=AU (rt:=⟨AP,call,rounds AP call m n,m,⟨B1 l,f⟩⟩) hc u c.1 y;have j:Ext H q.2.H:=j;split at h
   .simp only[qj]at h;have⟨v,hb,z,s,h⟩:=h;have p:=AU (rt:=⟨AP,call,rounds AP call m n,m,⟨B1 l,f⟩⟩) hc u c.2 s;have p:Ext v z.2.H:=p;have t:=(j.trans (q6n hb)).trans p;rcases yk h with⟨_,h⟩|⟨_,h⟩
    .unfold Il at h;split at h
     .injection h with h;injection h with _ h;subst h
      exact t
     .simp only[qj,qk,ze]at h;obtain⟨B,x,_,rfl⟩:=h;exact t.trans (xfz x)
    .cases h
   .cases h
  .cases h
def xa7{AP:jV}(hp:Tr AP){call:b9}(j:pW call)(n:Nat):pW (GI AP call n) :=
 λ f vs up H e l H' h=>by
  simp only[GI,qj]at h;have⟨fn,g,q,p,h⟩:=h;have d:=AU (rt:=⟨AP,call,rounds AP call n n,n,⟨B5,f⟩⟩) j (TC hp j n n) (hp f fn g).1 p;have d:Ext H q.2.H:=d;have c:∀m,((ct call fn.results q.2.tm q.2.bj m q.2.H).bind λ z=>B1 (z.1,q.2.up,z.2))=B1 (e,l,H')->Ext H H':=by
   intro m h;simp only[qj,qk,ze]at h;obtain⟨z,r,_,_,rfl⟩:=h;exact Ext.trans d (SG j r)
  unfold qG at h;split at h
  .exact c _ h
  .exact c _ h
  .exact c _ h
  .cases h
def q3k{AP:jV}(hp:Tr AP){told:b9}(c:pW told):∀n,pW (kI AP told n)
 |0=>c
 |n+1=>λ f vs up H e d H' h=>by
  simp only[kI]at h;split at h
  .rename_i r hr;cases h;exact c _ _ _ _ _ _ _ hr
  .exact xa7 hp (q3k hp c n) n _ _ _ _ _ _ _ h
end Go.Am
namespace Go.Am
abbrev pq:Machine->Prop:=λ _=>True
structure SR(P:Jy)(base:Nat)(D:Nat->Prop)(θ:Th)(b:NY)(nt:Nat)(rd:Option Nat)(st:St)(a:Act)(cs:List NY)(w:NJ):Prop where
 heap:HR P base D θ st.H w
 uA:qA D θ st.tm a.tmps
 size:nt<=a.tmps.size
 bj:ic D θ st.bj a.defers
 up:rD D θ b.kind st.up cs
 round:Ad D θ b.roundOf rd
def Out(P:Jy)(base:Nat)(D:Nat->Prop)(θ:Th)(b:NY)(nt:Nat)(rd:Option Nat)(k:List Item)(st:St)(cs:List NY)(w:NJ)(m:Machine)(e:aZ)(st':St):Prop :=
 ∃θ' a' w' cs' e',ArrivesIn pq P m b k cs' e' a' w'/\SR P base (Up D st.H.au st'.H.au) θ' b nt rd st' a' cs' w'/\bE D st.H θ w st'.H θ' w'/\Da (Up D st.H.au st'.H.au) θ' e e' /\
  st'.up.isSome=st.up.isSome/\fE st.up cs cs'
section
variable{P:Jy}{base:Nat}{D:Nat->Prop}{θ:Th}
def Out.after{b:NY}{l:Nat}{rd:Option Nat}{k:List Item}{st cZ c:St}{cs d:List NY}{w w1:NJ}{m j:Machine}{e:aZ}{θ1:Th}(hs:Steps P m j)
 (hg:bE D st.H θ w cZ.H θ1 w1) (hu:cZ.up.isSome=st.up.isSome) (t:fE st.up cs d) (hn:cZ.H.au<=c.H.au)
 (h:Out P base (Up D st.H.au cZ.H.au) θ1 b l rd k cZ d w1 j e c):Out P base D θ b l rd k st cs w m e c:=by
 have⟨θ',n,w',cs',e',p,f,q,g,r,s⟩:=h;rw[Up.up hg.au hn]at f g;exact⟨θ',n,w',cs',e',.of_steps (Bh hs) p,f,hg.trans q Up.of,g,r.trans hu,fE.trans hu t s⟩
def An{α:Type}:∀{l:List (Option α)}{r:List α},dy l=B1 r->r.length=l.length /\ ∀(i:Nat)(x:α),r[i]? = B1 x->l[i]? = B1 (B1 x)
 |[],r,h=>by cases h;exact⟨rfl,λ i x c=>by simp at c⟩
 |y::l,r,h=>by
  simp only[dy,qj,qk]at h;obtain⟨a,rfl,f,hl,rfl⟩:=h;have⟨d,e⟩:=An hl;refine⟨by simp[d],λ i x c=>?_⟩;cases i with
  |zero=>simpa using c
  |succ i=>simpa using e i x (by simpa using c)
def NC{ops:Array Pv}{l:List (List bL×fL)}{safe:Nat->Option (List Nat)}{q:Bool×Nat}{s:aR}(h:jG ops l safe q=B1 s) :
 ∃o a g,ops[q.2]? = B1 o/\l[q.2]? = B1 a/\guardOf ops o.guard=B1 g/\s = {iq:=q.1,dst:=o.dst,guard:=g,args:=a.1,op:=a.2,cF:=safe q.2}:=by
 simp only[jG,qj,qk]at h;obtain⟨o,ho,a,ha,g,hg,rfl⟩:=h;exact⟨o,a,g,ho,ha,hg,rfl⟩
def U6{ops:Array Pv}{o:Pv}{s:aR}(hg:guardOf ops o.guard=B1 s.guard){tm:T AV}{a:Array K8}(m:qA D θ tm a){q:Bool}(h:dt s tm=B1 q) :
 Af o (yielded ops a)=q:=by
 unfold dt at h;unfold Af;cases ho:o.guard with
 |none =>
  rw[ho]at hg;injection hg with hg
  rw[<-hg]at h;injection h
 |some g =>
  have⟨j,want⟩:=g;rw[ho]at hg;simp only[guardOf,qj,qk]at hg;have⟨t,⟨r,f,l⟩,hg⟩:=hg;rw[<-hg]at h;simp only at h;have n:((ops[j]?).bind (·.dst)).bind (a[·]?)=a[t]?:=by rw[f];simp[l]
  simp only[yielded,n];unfold cQ at h;split at h
  .rename_i p hp;have⟨c,d,e⟩:=m t _ hp;injection h with h
   rw[d,<-e.now];simp only[az];cases p<;>cases want<;>cases q<;>simp_all
  .rename_i hp;have⟨c,d,e⟩:=m t _ hp;injection h with h
   rw[d,<-e.now];simp only[az];subst h;rfl
  .cases h
def Jd{e:Nat}{tm:T AV}{a:Act}{dst:Option Nat}(g:∀d,dst=B1 d->d<e)(hs:e<=a.tmps.size)(f:qA D θ tm a.tmps){v:AV}{c:K8}(h:VR D θ v c) :
 qA D θ (eK dst v tm) (a.put dst c).tmps/\e<=(a.put dst c).tmps.size/\(a.put dst c).defers=a.defers:=by
 cases dst with
 |none=>exact⟨f,hs,rfl⟩
 |some d =>
  refine⟨f.put (qn (g d rfl) hs) h,?_,rfl⟩
  simpa[Act.put]using hs
def xjy(hP:dY P){rt:RT}(x:rR P base rt.call)(n:xD P base rt.round)(O:rt.AP=aY P)(R:pW rt.call)(V:Ae rt.round)
 {ops:Array Pv} {o:Pv} {i:Nat} {rest:List Nat} {s:aR} {ca:List bL×fL} (ho:ops[i]? = B1 o) (Q:gB P o=B1 ca) (hg:guardOf ops o.guard=B1 s.guard) (h1:s.iq=B2) (h2:s.dst=o.dst) (h3:s.args=ca.1) (h4:s.op=ca.2)
 {b:NY} {y:Nat} (g:pI y o=B4) {k:List Item} {st:St} {a:Act} {cs:List NY} {w:NJ} (e:SR P base D θ b y rt.ctx.round st a cs w) {K:St->gV} {r:aZ×St}
 (A:∀st r,K st=B1 r->st.H.au<=r.2.H.au) (h:(gR s).run rt K st=B1 r) (S:eC D st.H.au r.2.H.au)
 (j:∀I θ1 cZ a1 t w1,SR P base I θ1 b y rt.ctx.round cZ a1 t w1->K cZ=B1 r->eC I cZ.H.au r.2.H.au->Out P base I θ1 b y rt.ctx.round k cZ t w1 (lone (b.atR a1 (.inRegion ops rest::k)) t w1) r.1 r.2) :
 Out P base D θ b y rt.ctx.round k st cs w (lone (b.atR a (.inRegion ops (i::rest)::k)) cs w) r.1 r.2:=by
 have B:∀d,o.dst=B1 d->d<y:=by
  intro d hd;unfold pI at g;rw[hd]at g
  simpa[vX]using g
 rw[Y5 s h1,qj]at h;have⟨q,hq,h⟩:=h;have m:=U6 hg e.uA hq;cases q with
 |false =>
  simp only[zo]at h;have⟨X,Y,Z⟩:=Jd (dst:=o.dst) B e.size e.uA (VR.undef (D:=D) (θ:=θ));rw[h2]at h;have hn:=A _ _ h;have F:=stepR_op_skip (P:=P) (b:=b) (a:=a) (k:=k) (cs:=cs) (w:=w) (ops:=ops) (i:=i) (rest:=rest) (by simp[ho,m]);rw[ho]at F;refine Out.after (.one F) (bE.refl D st.H θ w) rfl (fE.refl e.up) hn ?_;rw[Up.none];exact j D θ ⟨eK o.dst .undef st.tm,st.bj,st.up,st.H⟩ _ cs w ⟨e.heap,X,Y,by rw[show(a.put ((B1 o).bind (·.dst)) undef).defers=a.defers from Z];exact e.bj,e.up,e.round⟩ h S
 |true =>
  simp only[xv,qj]at h;have⟨vs,G,res,l,h⟩:=h;have⟨xs,W,E,C⟩:=NP hP Q;rw[h3]at G;rw[h4]at l;have hv:=JS (a:=a) e.heap e.uA W G;have U:=_N R V E.mono l;have hle:res.heap.au<=r.2.H.au:=by
   cases res with
   |val v d u H'=>exact A _ _ h
   |panic c H' =>
    simp only[vG,qj,qk]at h;obtain⟨_,_,rfl⟩:=h;exact qm _
  have p:=Wa hP x n O E C (rest:=rest) (k:=k) ho m e.heap e.bj e.up e.round hv l (S.left hle);cases res with
  |val v d u H' =>
   have⟨θ',w',c,cs',ds,J,L,z,M,N,g6,g7,g8⟩:=p;simp only[vG,h2]at h;have f:=z.ag;have⟨X,Y,Z⟩:=Jd (a:={a with defers:=ds}) (dst:=o.dst) B e.size (e.uA.up f Up.of) M;refine Out.after (cZ:=⟨eK o.dst v st.tm,d,u,H'⟩) J z g6 g8 hle ?_;exact j _ θ' _ _ cs' w' ⟨L,X,Y,by rw[Z];exact N,g7,Ad.up f Up.of e.round⟩ h (S.right U)
  |panic c H' =>
   have⟨θ',w',ps,todo,J,L,z,M,N⟩:=p;simp only[vG,qj,qk]at h;obtain⟨ds,hds,rfl⟩:=h;have f:=z.ag;refine⟨θ',a,w',cs,.panic ps,⟨todo,Bh J⟩,⟨L,qA.forget ds (e.uA.up f Up.of),e.size,ic.up f Up.of e.bj,rD.up f Up.of e.up,Ad.up f Up.of e.round⟩,z,⟨M,N⟩,rfl,fE.refl e.up⟩
def YE(e:dY P){ops:Array Pv}{l:List (List bL×fL)}(hl:dy (ops.toList.map (gB P))=B1 l){safe:Nat->Option (List Nat)}{qs:List (Bool×Nat)}{steps:List aR}
 (h:dy (qs.map (jG ops l safe))=B1 steps):∀s∈steps,dG s.op:=by
 intro s hs;have⟨i,f⟩:=KM hs;have:=(An h).2 i s f;rw[xj,xk]at this;have⟨q,_,j⟩:=this;obtain⟨o,a,g,ho,ha,_,rfl⟩:=NC j;have:=(An hl).2 _ a ha;rw[xj,xk]at this;have⟨o',_,c⟩:=this;have⟨xs,_,d,_⟩:=NP e c;exact d.mono
def q8u(u:dY P){rt:RT}(d:rR P base rt.call)(c:xD P base rt.round)(n:rt.AP=aY P)(f:pW rt.call)(m:Ae rt.round)
 {ops:Array Pv} {t:Nat} (e:ops.toList.all (pI t)=B4) {l:List (List bL×fL)} (hl:dy (ops.toList.map (gB P))=B1 l) {b:NY} {k:List Item} {safe:Nat->Option (List Nat)} :
 ∀(todo:List Nat){steps:List aR},dy (todo.map λ i=>jG ops l safe (B2,i))=B1 steps -> ∀{D:Nat->Prop}{θ:Th}{st:St}{a:Act}{cs:List NY}{w:NJ}{r:aZ×St},
  SR P base D θ b t rt.ctx.round st a cs w->(hC steps).run rt st=B1 r->eC D st.H.au r.2.H.au->Out P base D θ b t rt.ctx.round k st cs w (lone (b.atR a (.inRegion ops todo::k)) cs w) r.1 r.2
 |[],steps,hs,D,θ,st,a,cs,w,r,hS,h,hf=>by
  cases hs;cases h;refine⟨θ,a,w,cs,.normal,StepsIn.one trivial stepR_region_end,by rw[Up.none];exact hS,bE.refl _ _ _ _,trivial,rfl,fE.refl hS.up⟩
 |i::todo,steps,hs,D,θ,st,a,cs,w,r,hS,h,hf=>by
  simp only[j7,dy,qj,qk]at hs;obtain⟨s,A,rest,q,rfl⟩:=hs;obtain⟨o,ca,g,ho,z,hg,rfl⟩:=NC A;have x:gB P o=B1 ca:=by
   have:=(An hl).2 _ ca z;rw[xj,kh,ho]at this
   simpa using this
  have p:pI t o=true:=by
   rw[B6]at e;exact e o (by have:=Array.mem_of_getElem? ho;simpa using this)
  have j:∀s∈rest,dG s.op:=by
   have E:dy ((todo.map λ i=>(B2,i)).map (jG ops l safe))=B1 rest:=by rw[zD];exact q
   exact YE u hl E
  exact xjy u d c n f m (K:=(hC rest).run rt) ho x hg rfl rfl rfl rfl p hS (λ st r h=>xf5 f m j h) h hf
   (λ F θ1 cZ G B w1 v C y=>q8u u d c n f m e hl todo q v C y)
end
end Go.Am
namespace Go.Am
def Nu(P:Jy)(base:Nat)(rt:RT):Prop :=
 ∀(nt id:Nat)(ops:Array Pv)(c:aj),iV P nt ops B4=B1 c -> ∀(D:Nat->Prop)θ(b:NY)k st a cs w r,SR P base D θ b nt rt.ctx.round st a cs w->(bI c).run rt st=B1 r ->
  eC D st.H.au r.2.H.au->Out P base D θ b nt rt.ctx.round k st cs w (lone (b.atR a (.code (.region id ops B4)::k)) cs w) r.1 r.2
section
variable{P:Jy}{base:Nat}
def xjl{d:Nat}{ops:Array Pv}{c:aj}(h:iV P d ops B2=B1 c):∃l steps,ops.toList.all (pI d)=B4/\dy (ops.toList.map (gB P))=B1 l /\
 dy ((N7 ops.size).map λ i=>jG ops l (λ _=>B1 []) (B2,i))=B1 steps/\c=.region steps:=by
 unfold iV at h;split at h
 .rename_i e;simp only[qj]at h;have⟨l,hl,h⟩:=h;simp only[zu,nT,qj,qk]at h;obtain⟨steps,hs,rfl⟩:=h;exact⟨l,steps,e,hl,hs,rfl⟩
 .cases h
def xfu(d:dY P){e:Nat}{ops:Array Pv}{draw:Bool}{c:aj}(h:iV P e ops draw=B1 c):ue c:=by
 unfold iV at h;split at h
 .simp only[qj]at h;have⟨l,hl,h⟩:=h;split at h
  .rcases yk h with⟨_,h⟩|⟨_,h⟩
   .simp only[qj,qk]at h;obtain⟨steps,hs,rfl⟩:=h;exact YE d hl hs
   .cases h;trivial
  .simp only[qj,qk]at h;obtain⟨steps,hs,rfl⟩:=h;exact YE (safe:=λ _=>B1 []) (qs:=(N7 ops.size).map λ i=>(B2,i)) d hl (by rw[zD];exact hs)
 .cases h
def vS(j:dY P){s:Nat}:∀(c:Code){kk:Nat}{ac:aj}{L:List dI},cw P s kk c=B1 (ac,L)->ue ac /\ ∀lp∈L,ue lp.assign/\ue lp.body
 | .skip,kk,ac,L,h=>by cases h;exact⟨trivial,by simp⟩
 | .region _ ops draw,kk,ac,L,h=>by
  simp only[cw,qj,qk,ze]at h;obtain⟨c,hc,rfl,rfl⟩:=h;exact⟨xfu j hc,by simp⟩
 | .seq a b,kk,ac,L,h=>by
  simp only[cw,qj,qk,ze]at h;obtain⟨⟨x,p⟩,g,⟨y,q⟩,n,rfl,rfl⟩:=h;have⟨l,m⟩:=vS j a g;have⟨d,e⟩:=vS j b n;exact⟨⟨l,d⟩,λ lp hl=>by rcases zt.1 hl with hl|hl;exact m lp hl;exact e lp hl⟩
 | .cond c a b,kk,ac,L,h=>by
  simp only[cw,qj,qk,ze]at h;obtain⟨r,_,⟨x,p⟩,g,⟨y,q⟩,n,rfl,rfl⟩:=h;have⟨l,m⟩:=vS j a g;have⟨d,e⟩:=vS j b n;exact⟨⟨l,d⟩,λ lp hl=>by rcases zt.1 hl with hl|hl;exact m lp hl;exact e lp hl⟩
 | .block id b,kk,ac,L,h=>by
  simp only[cw,qj,qk,ze]at h;obtain⟨⟨x,p⟩,g,rfl,rfl⟩:=h;have⟨d,e⟩:=vS j b g;exact⟨d,e⟩
 | .loop b,kk,ac,L,h=>by
  simp only[cw,qj,qk,ze]at h;obtain⟨⟨x,p⟩,g,rfl,rfl⟩:=h;have⟨d,e⟩:=vS j b g;exact⟨d,e⟩
 | .rangeFunc f ps a b,kk,ac,L,h=>by
  simp only[cw,qj]at h;have⟨r,_,⟨x,p⟩,g,⟨y,q⟩,n,h⟩:=h;split at h
  .cases h;have⟨l,m⟩:=vS j a g;have⟨d,e⟩:=vS j b n;refine⟨trivial,λ lp hl=>?_⟩;rcases jj.1 hl with rfl|hl
   .exact ⟨l,d⟩
   .rcases zt.1 hl with hl|hl
    .exact m lp hl
    .exact e lp hl
  .cases h
 | .exit _,kk,ac,L,h=>by cases h;exact⟨trivial,by simp⟩
 | .scope b,kk,ac,L,h=>by
  simp only[cw,qj,qk,ze]at h;obtain⟨⟨x,p⟩,g,rfl,rfl⟩:=h;have⟨d,e⟩:=vS j b g;exact⟨d,e⟩
 | .label _,kk,ac,L,h=>by cases h;exact⟨trivial,by simp⟩
 | .goto _,kk,ac,L,h=>by cases h;exact⟨trivial,by simp⟩
 | .ret,kk,ac,L,h=>by cases h;exact⟨trivial,by simp⟩
 | .refuse _,kk,ac,L,h=>by cases h;exact⟨trivial,by simp⟩
def UT(d:dY P):Tr (aY P):=by
 intro f e h;simp only[aY,qj]at h;have⟨fn,_,h⟩:=h;simp only[ux,qj,qk]at h;obtain⟨b,_,⟨c,L⟩,hc,_,_,rfl⟩:=h;exact vS d b hc
def ZD{r:Nat}:∀(c:Code){kk:Nat}{ac:aj}{L:List dI},cw P r kk c=B1 (ac,L) -> ∀l,Gd ac l=(findLabel c l).isSome
 | .skip,kk,ac,L,h,l=>by injection h with h;injection h with d g;subst d;rfl
 | .region _ ops draw,kk,ac,L,h,l=>by
  simp only[cw,qj,qk,ze]at h;obtain⟨c,hc,rfl,rfl⟩:=h;unfold iV at hc;split at hc
  .simp only[qj]at hc;have⟨l,hl,hc⟩:=hc;split at hc
   .rcases yk hc with⟨_,hc⟩|⟨_,hc⟩
    .simp only[qj,qk]at hc;obtain⟨_,_,rfl⟩:=hc;rfl
    .cases hc;rfl
   .simp only[qj,qk]at hc;obtain⟨_,_,rfl⟩:=hc;rfl
  .cases hc
 | .seq a b,kk,ac,L,h,l=>by
  simp only[cw,qj,qk,ze]at h;obtain⟨⟨x,m⟩,j,⟨y,p⟩,n,rfl,rfl⟩:=h;have d:=ZD a j l;have g:=ZD b n l;simp only[Gd,findLabel,d,g];cases findLabel a l<;>simp
 | .cond c a b,kk,ac,L,h,l=>by
  simp only[cw,qj,qk,ze]at h;obtain⟨q,_,⟨x,m⟩,j,⟨y,p⟩,n,rfl,rfl⟩:=h;rfl
 | .block id b,kk,ac,L,h,l=>by
  simp only[cw,qj,qk,ze]at h;obtain⟨⟨x,m⟩,j,rfl,rfl⟩:=h;rfl
 | .loop b,kk,ac,L,h,l=>by
  simp only[cw,qj,qk,ze]at h;obtain⟨⟨x,m⟩,j,rfl,rfl⟩:=h;rfl
 | .rangeFunc f ps a b,kk,ac,L,h,l=>by
  simp only[cw,qj]at h;have⟨q,_,⟨x,m⟩,j,⟨y,p⟩,n,h⟩:=h;split at h
  .injection h with h;injection h with d g;subst d;rfl
  .cases h
 | .exit _,kk,ac,L,h,l=>by injection h with h;injection h with d g;subst d;rfl
 | .scope b,kk,ac,L,h,l=>by
  simp only[cw,qj,qk,ze]at h;obtain⟨⟨x,m⟩,j,rfl,rfl⟩:=h;rfl
 | .label l',kk,ac,L,h,l=>by
  injection h with h;injection h with d g;subst d
  simp only[Gd,findLabel]
  by_cases e:l'=l
  .simp [e]
  .simp only[beq_iff_eq,e,nT,Lb];cases hb:J8 l' l with
   |false=>rfl
   |true=>simp only[kc]at hb;exact absurd hb e
 | .goto _,kk,ac,L,h,l=>by injection h with h;injection h with d g;subst d;rfl
 | .ret,kk,ac,L,h,l=>by injection h with h;injection h with d g;subst d;rfl
 | .refuse _,kk,ac,L,h,l=>by injection h with h;injection h with d g;subst d;rfl
def xa8{b:NY}{a:Act}{body:Code}{k:List Item}{cs:List NY}{w:NJ}:step P (lone (b.atR a (.inScope body::k)) cs w)=.next (lone (b.atR a k) cs w) :=
 step_lone_go (by simp[stepG,stepG.exec,Bm])
def xf2{b:NY}{a:Act}{body:Code}{k:List Item}{cs:List NY}{w:NJ}:step P (lone (b.atR a (.code (.scope body)::k)) cs w)=.next (lone (b.atR a (.code body::.inScope body::k)) cs w) :=
 step_lone_go (by simp[stepG,stepG.exec,Bm])
def Out.pass{D:Nat->Prop}{θ:Th}{b:NY}{f:Nat}{rd:Option Nat}{x:Item}(s:x.plain=B4){k:List Item}{st:St}{cs:List NY}{w:NJ}{m:Machine}{e:aZ}{c:St}(he:zX e=B2)
 (h:Out P base D θ b f rd (x::k) st cs w m e c):Out P base D θ b f rd k st cs w m e c:=by
 have⟨θ',g,w',cs',e',j,l,n,d,p,r⟩:=h;refine⟨θ',g,w',cs',e',.pass s (λ _ _=>.inl ?_) j,l,n,d,p,r⟩;intro q;subst q;cases e<;>first|exact d.elim|cases he
def Out.here{D:Nat->Prop}{θ:Th}{b:NY}{d:Nat}{rd:Option Nat}{k:List Item}{st:St}{a:Act}{cs:List NY}{w:NJ}{m:Machine}{e:aZ}{e':Exit}(c:SR P base D θ b d rd st a cs w)
 (f:ArrivesIn pq P m b k cs e' a w) (g:Da D θ e e'):Out P base D θ b d rd k st cs w m e st :=
 ⟨θ,a,w,cs,e',f,by rw[Up.none];exact c,bE.refl _ _ _ _,by rw[Up.none];exact g,rfl,fE.refl c.up⟩
def qug{w:NJ}(fn:FuncId)(tmps:Array K8)(c:Array Tmp)(as body:Code){l:Nat}{r:Loop}(h:w.heap[l]? = B1 (.loop r)) :
 (Instr.enterLoop fn tmps c as body (B1 l)).run P w=.ok (w.heap.size,[]) (w.alloc (.loop {state:=.ready,pending:=B5,fn,tmps,params:=c,assign:=as,body,defers:=r.defers})):=by
 unfold Instr.enterLoop;simp only[NQ,run_getLoop h,run_newObj_alloc,Result.andThen,Qh]
def q6y{d:Nat}{c:Code}{kk:Nat}{ac:aj}{L:List dI}(h:cw P d kk c=B1 (ac,L)){l:Nat}(hl:Gd ac l=B2):findLabel c l=none:=by
 rw[ZD c h l]at hl
 simpa using hl
def qze{b:NY}{a:Act}{k:List Item}{cs:List NY}{w:NJ}(id:Nat):ArrivesIn pq P (lone (b.atR a (.code (.exit id)::k)) cs w) b k cs (.exit id) a w :=
 ⟨λ _ hk=>.one trivial (stepR_exit hk),λ _ hk=>⟨k,hk,.refl _⟩⟩
def _L{b:NY}{a:Act}{k:List Item}{cs:List NY}{w:NJ}(l:Nat):ArrivesIn pq P (lone (b.atR a (.code (.goto l)::k)) cs w) b k cs (.goto l) a w :=
 ⟨λ _ hk=>.one trivial (stepR_goto hk),λ _ hk=>⟨k,hk,.refl _⟩⟩
def q56{b:NY}{a:Act}{k:List Item}{cs:List NY}{w:NJ}:ArrivesIn pq P (lone (b.atR a (.code .ret::k)) cs w) b k cs .ret a w :=
 ⟨λ hn=>⟨_,.one trivial (stepR_ret hn)⟩,λ _=>⟨k,.refl _⟩⟩
def xcq{D:Nat->Prop}{θ:Th}{b:NY}{a:Act}{k:List Item}{cs:List NY}{w:NJ}(p:Option iv):∃e',Da D θ (ri p) e' /\
 ArrivesIn pq P (lone (b.atR a (((p.map mL).map Item.code).toList++k)) cs w) b k cs e' a w:=by
 cases p with
 |none=>exact⟨.normal,trivial,.refl _⟩
 |some j =>
  cases j with
  |exit id=>exact⟨.exit id,rfl,qze id⟩
  |goto l=>exact⟨.goto l,rfl,_L l⟩
  |ret=>exact⟨.ret,trivial,q56⟩
def q5z{call:b9}{round:iX}{ctx:Ctx}(M:rR P base call){D:Nat->Prop}{θ:Th}{b:NY}{nt:Nat}{st:St}{a:Act}{cs:List NY}{w:NJ}{k:List Item}{H0:ar}{bj:List aQ}{w0:NJ}{mark:List Deferred}{d:Nat}
 (hP:dY P) {g:N0} {B:Array Tmp} {as body:Code} {kk:Nat} {v:AV} {r:aZ×St} {θ0:Th}
 (h0:HR P base (Up D st.H.au H0.au) θ0 H0 w0) (g0:bE D st.H θ w H0 θ0 w0) (S:st.H.au<=H0.au) (G:SR P base D θ b nt ctx.round st a cs w) (hv:VR D θ v (a.eval g)) (hd:Up D st.H.au H0.au d)
 (hdf:ic (Up D st.H.au H0.au) θ0 bj (mark++a.defers)) (O:wR P ctx.fn kk a.tmps.size B as body) (hfn:b.fn=ctx.fn)
 (he:(Instr.enterLoop b.fn a.tmps B as body b.roundOf).run P w=.ok (w0.heap.size,mark) (w0.alloc (.loop {state:=.ready,pending:=B5,fn:=b.fn,tmps:=a.tmps,params:=B,assign:=as,body,defers:=θ0.cq d})))
 (hr:jD call round ctx st kk H0 bj d v=B1 r) (hf:eC D st.H.au r.2.H.au) (hm:pW call) :
 Out P base D θ b nt ctx.round k st cs w (lone (b.atR a (.code (.rangeFunc g B as body)::k)) cs w) r.1 r.2:=by
 unfold jD at hr;split at hr
 .rename_i f first cap
  simp only[cR,kr,qr,qj]at hr;have⟨⟨e,u,H'⟩,hcl,hr⟩:=hr;have Q:H0.au+1<=H'.au:=(hm _ _ _ _ _ _ _ hcl).1;have hrn:r.2.H.au=H'.au/\r.2.bj=bj/\r.2.tm=st.tm/\r.2.up=st.up:=by
   unfold NN at hr;split at hr
   .cases hr;exact⟨rfl,rfl,rfl,rfl⟩
   .split at hr
    .cases hr
    .cases hr;exact⟨rfl,rfl,rfl,rfl⟩
    .cases hr
  rw[hrn.1]at hf;have hn:¬Up D st.H.au H0.au H0.au:=λ q=>by
   rcases q with q|⟨_,q⟩
   .exact hf _ S (by omega) q
   .omega
  -- the record
  have hag0:=g0.ag;have I:=Th.hJ θ0 H0.au w0.heap.size 0 0 hn;have⟨e1,e2,e3⟩:=Th.eO θ0 H0.au w0.heap.size 0 0;have n:∀x,D x->Up (Up D st.H.au H0.au) H0.au (H0.au+1) x:=λ x A=>.inl (.inl A);have X:Up (Up D st.H.au H0.au) H0.au (H0.au+1) H0.au:=.inr ⟨qm _,zy _⟩;have s:Ag D θ (θ0.add H0.au w0.heap.size 0 0):=hag0.trans I (λ x A=>.inl A);have hR:pj P (Up (Up D st.H.au H0.au) H0.au (H0.au+1)) (θ0.add H0.au w0.heap.size 0 0) H0.au (.loop .ready B5 ctx.fn kk st.tm d)
   (.loop {state:=.ready,pending:=B5,fn:=b.fn,tmps:=a.tmps,params:=B,assign:=as,body,defers:=θ0.cq d}) :=
   ⟨_,rfl,rfl,rfl,hfn,G.uA.up s n,O,.inl hd,((I d hd).1).symm⟩
  have h1:=h0.alloc hn (w':=w0.alloc (.loop {state:=.ready,pending:=B5,fn:=b.fn,tmps:=a.tmps,params:=B,assign:=as,body,defers:=θ0.cq d})) (co:=.loop {state:=.ready,pending:=B5,fn:=b.fn,tmps:=a.tmps,params:=B,assign:=as,body,defers:=θ0.cq d}) (k:=w0.heap.size) (off:=0) (ext:=0) (by rw[Cs];simp)
   (λ j hj=>by rw[Cs,qv (Ma hj)]) (qm _) (by simp) hR
  have g1:=bE.alloc (base:=base) h0 hn (.loop .ready B5 ctx.fn kk st.tm d) (.loop {state:=.ready,pending:=B5,fn:=b.fn,tmps:=a.tmps,params:=B,assign:=as,body,defers:=θ0.cq d}) 0 0
  -- the call
  have⟨fi,ci,q3,q4,q5,q6⟩:=SI hv;have J:bN (Up (Up D st.H.au H0.au) H0.au (H0.au+1)) (θ0.add H0.au w0.heap.size 0 0) (first++(.fn (.yield H0.au) [] []::cap)) ((fi.toArray ++ #[Value.func (.yield w0.heap.size) #[] #[]])++ci.toArray).toList:=by
   simp only[Array.toList_append,jb];refine(q4.up s n).app (.cons (λ θ'' h''=>?_) (q5.up s n));simp only[az,fQ,bW];rw[(h'' _ X).1,e1]
  have⟨⟨fn,c,k1,k2⟩,θ',w',cs',fr,e',s1,s2,s3,s4,V,s6,s7,s8,s9,s10⟩:=M _ _ _ _ f _ ((fi.toArray ++ #[Value.func (.yield w0.heap.size) #[] #[]])++ci.toArray) B5 H' e u .normal
   (b.atR {a with defers:=mark++a.defers} (.inRangeFunc w0.heap.size::k)::cs) h1 J rfl hcl (λ x h3 h4 W=>by
    rw[Up.up S (ke _)]at W;rcases W with W|⟨_,W⟩
    .exact hf x (by have:H0.au+1<=x:=h3;omega) h4 W
    .have:H0.au+1<=x:=h3;omega)
  have hcs:cs'=b.atR {a with defers:=mark++a.defers} (.inRangeFunc w0.heap.size::k)::cs:=s9;subst hcs;have y:=stepR_rangeFunc (P:=P) (b:=b) (a:=a) (k:=k) (cs:=cs) (w:=w) (g:=g) (l:=w0.heap.size) (d:={target:=.fn (.func f) ci.toArray,args:=fi.toArray ++ #[Value.func (.yield w0.heap.size) #[] #[]]}) he
   (by
   show(BU (a.eval g) (#[N0.const (.func (.yield w0.heap.size) #[] #[])].map a.eval)).run P _=_;rw[q3];simp[BU,fQ,Act.eval];rfl) (by
    show(callFunc f (_++ci.toArray)).run P _=_;exact Pa hP k1 k2)
  have hl:=Tk s4 s2;have hupa:Up (Up (Up D st.H.au H0.au) H0.au (H0.au+1)) (H0.au+1) H'.au=Up D st.H.au H'.au:=by
   rw[Up.up (ke _) Q,Up.up S (by omega)]
  have z:(H0.alloc (.loop .ready B5 ctx.fn kk st.tm d)).au=H0.au+1:=rfl;rw[z,hupa]at V s6 s10;have h:bE D st.H θ w H' θ' w':=(g0.trans g1 Up.of).trans s7 n;have Y:∀x,Up D st.H.au H0.au x->Up D st.H.au H'.au x:=λ x A=>by
   rcases A with A|⟨h1,h2⟩
   .exact .inl A
   .exact .inr ⟨h1,by omega⟩
  have hagf:Ag (Up D st.H.au H0.au) θ0 θ':=I.trans s7.ag (λ x A=>.inl A);have Z:∀(F:ar)(U:NJ),HR P base (Up D st.H.au H'.au) θ' F U->SR P base (Up D st.H.au H'.au) θ' b nt ctx.round {st with bj:=bj,H:=F} {a with defers:=mark++a.defers} cs U:=λ F U hh =>
   ⟨hh,G.uA.up h.ag Up.of,G.size,ic.up hagf Y hdf,rD.up h.ag Up.of G.up,Ad.up h.ag Up.of G.round⟩
  unfold NN at hr;cases e with
  |panic ch =>
   cases hr;cases e' with
   |returned _=>exact V.elim
   |outgrown=>exact V.elim
   |panicked ps' =>
    refine⟨θ',_,w',cs,.panic ps',⟨.inRangeFunc w0.heap.size::k,Bh (.head y (s1.trans (.one (by rw[step_leave_panicked hl,CD]))))⟩,Z _ _ s6,h,V,rfl,fE.refl G.up⟩
  |ret x =>
   cases e' with
   |panicked _=>exact V.elim
   |outgrown=>exact V.elim
   |returned cx =>
    have K:Steps P (lone (b.atR a (.code (.rangeFunc g B as body)::k)) cs w) (lone (b.atR {a with defers:=mark++a.defers} (.endRangeFunc w0.heap.size::k)) cs w'):=by
     exact .head y (s1.trans (.one (by rw[step_leave_returned hl,finish_atR_inRangeFunc])))
    simp only at hr;split at hr
    .cases hr
    .rename_i ls p f2 k2' tm2 d2 R m;cases hr;obtain⟨hDl',co,hco,rl,rfl,r1,r2,r3,r4,r5,r6,r7⟩:=s6.obj _ _ m;have t:θ'.cq H0.au=w0.heap.size:=by rw[(s7.ag _ X).1,e1]
     rw[t]at hco;have L:rl.state≠ .busy:=by
      intro q;rw[r1]at q;cases ls with
      |busy=>first|exact R _ _ _ _ _ rfl|exact R rfl|exact R
      |ready=>cases q
      |done=>cases q
      |exhausted=>cases q
     have hend:=run_endLoop (P:=P) hco L;have N:=stepR_endRangeFunc (b:=b) (a:={a with defers:=mark++a.defers}) (k:=k) (cs:=cs) hend;have E:=s6.set (o':=.loop .exhausted p f2 k2' tm2 d2) (co':=.loop {rl with state:=.exhausted}) m rfl rfl ⟨_,rfl,rfl,r2,r3,r4,r5,r6,r7⟩;rw[t]at E;have C:bE (Up D st.H.au H'.au) H' θ' w' (H'.set H0.au (.loop .exhausted p f2 k2' tm2 d2)) θ' (fH w' (θ'.cq H0.au) (.loop {rl with state:=.exhausted})):=bE.set m rfl (s6.lt m);rw[t]at C;have⟨e'',k3,k4⟩:=xcq (P:=P) (D:=Up D st.H.au H'.au) (θ:=θ') (b:=b) (a:={a with defers:=mark++a.defers}) (k:=k) (cs:=cs) (w:=fH w' w0.heap.size (.loop {rl with state:=.exhausted})) p;rw[<-r2]at k4;exact⟨θ',_,_,cs,e'',.of_steps (Bh (K.trans (.one N))) k4,Z _ _ E,h.trans C Up.of,k3,rfl,fE.refl G.up⟩
    .cases hr
 .cases hr
def Out.normal{D:Nat->Prop}{θ:Th}{b:NY}{e:Nat}{rd:Option Nat}{k:List Item}{st:St}{cs:List NY}{w:NJ}{m:Machine}{c:St}(h:Out P base D θ b e rd k st cs w m .normal c) :
 ∃θ' d w' cs',Steps P m (lone (b.atR d k) cs' w')/\SR P base (Up D st.H.au c.H.au) θ' b e rd c d cs' w'/\bE D st.H θ w c.H θ' w'/\c.up.isSome=st.up.isSome/\fE st.up cs cs':=by
 have⟨θ',d,w',cs',e',f,g,j,l,n,p⟩:=h;cases e'<;>first|exact⟨θ',d,w',cs',BP f,g,j,n,p⟩|exact l.elim
def Out.head{D:Nat->Prop}{θ:Th}{b:NY}{f:Nat}{rd:Option Nat}{k:List Item}{st:St}{cs:List NY}{w:NJ}{m d:Machine}{e:aZ}{c:St}(hs:step P m=.next d)
 (h:Out P base D θ b f rd k st cs w d e c):Out P base D θ b f rd k st cs w m e c:=by
 have⟨θ',g,w',cs',e',j,l,n,p,q,r⟩:=h;exact⟨θ',g,w',cs',e',.of_steps (StepsIn.one trivial hs) j,l,n,p,q,r⟩
def _k(id c:Nat)(k:List Item):exitTo c (.inBlock id::k)=if id=c then B1 k else exitTo c k:=by
 simp[exitTo]
def Nn{α:Type}(a b:List α)(i:Nat):nth (a++b) i=if i<a.length then nth a i else nth b (i-a.length):=by
 simp only[kD,List.getElem?_append]
set_option maxHeartbeats 1000000 in
def A4(R:dY P){rt:RT}(m:rR P base rt.call)(f:xD P base rt.round)(I:rt.AP=aY P)(z:pW rt.call)(C:Ae rt.round)(t:Nu P base rt)
 {fn:Func} {af:bT} (K:P.funcs[rt.ctx.fn]? = B1 fn) (J:ux P fn=B1 af):∀(c:Code){kk:Nat}{ac:aj}{L:List dI},cw P fn.ntmps kk c=B1 (ac,L)->(∀i l,nth L i=B1 l->nth af.loops (kk+i)=B1 l) ->
 ∀{D:Nat->Prop}{θ:Th}{b:NY}{k:List Item}{st:St}{a:Act}{cs:List NY}{w:NJ}{r:aZ×St},SR P base D θ b fn.ntmps rt.ctx.round st a cs w->b.fn=rt.ctx.fn->(bI ac).run rt st=B1 r ->
  eC D st.H.au r.2.H.au->Out P base D θ b fn.ntmps rt.ctx.round k st cs w (lone (b.atR a (.code c::k)) cs w) r.1 r.2
 | .skip,kk,ac,L,h,hL,D,θ,b,k,st,a,cs,w,r,s,hb,hr,B=>by
  injection h with h;injection h with u E;subst u
  injection hr with hr;subst hr
  exact .here s (e':=.normal) (StepsIn.one trivial stepR_skip) trivial
 | .label _,kk,ac,L,h,hL,D,θ,b,k,st,a,cs,w,r,s,hb,hr,B=>by
  injection h with h;injection h with u E;subst u
  injection hr with hr;subst hr
  exact .here s (e':=.normal) (StepsIn.one trivial stepR_label) trivial
 | .exit id,kk,ac,L,h,hL,D,θ,b,k,st,a,cs,w,r,s,hb,hr,B=>by
  injection h with h;injection h with u E;subst u
  injection hr with hr;subst hr
  exact .here s (qze id) rfl
 | .goto l,kk,ac,L,h,hL,D,θ,b,k,st,a,cs,w,r,s,hb,hr,B=>by
  injection h with h;injection h with u E;subst u
  injection hr with hr;subst hr
  exact .here s (_L l) rfl
 | .ret,kk,ac,L,h,hL,D,θ,b,k,st,a,cs,w,r,s,hb,hr,B=>by
  injection h with h;injection h with u E;subst u
  injection hr with hr;subst hr
  exact .here s q56 trivial
 | .refuse _,kk,ac,L,h,hL,D,θ,b,k,st,a,cs,w,r,s,hb,hr,B=>by
  injection h with h;injection h with u E;subst u
  cases hr
 | .region id ops draw,kk,ac,L,h,hL,D,θ,b,k,st,a,cs,w,r,s,hb,hr,B=>by
  simp only[cw,qj,qk,ze]at h;obtain⟨c,hc,rfl,rfl⟩:=h;cases draw with
  |false =>
   obtain⟨l,steps,u,E,N,rfl⟩:=xjl hc;exact .head stepR_region (q8u R m f I z C u E _ N s hr B)
  |true=>exact t _ id ops c hc D θ b k st a cs w r s hr B
 | .seq x y,kk,ac,L,h,hL,D,θ,b,k,st,a,cs,w,r,s,hb,hr,B=>by
  simp only[cw,qj,qk,ze]at h;obtain⟨⟨ax,M⟩,G,⟨ay,ly⟩,hy,rfl,rfl⟩:=h;simp only[bI,qj]at hr;obtain⟨⟨e,cZ⟩,V,hr⟩:=hr;have hmy:=(vS R y hy).1;have X:=Ow z C (vS R x G).1 V;have W:∀i l,nth M i=B1 l->nth af.loops (kk+i)=B1 l:=λ i l hl=>hL i l (by
   rw[Nn,xb]
   .exact hl
   .rw [kD]at hl;exact(qo.1 hl).1)
  have hLy:∀i l,nth ly i=B1 l->nth af.loops (kk+M.length+i)=B1 l:=λ i l hl=>by
   rw[wq];exact hL (M.length+i) l (by
    show nth (M++ly) (M.length+i)=_;rw[Nn,qv (by omega),vq];exact hl)
  refine .head stepR_seq ?_
  by_cases he:e=.normal
  .subst he;simp only[vC]at hr;have A:=Ow z C hmy hr;obtain⟨θ',Q,w',cs',u,E,N,F,O⟩:=(A4 R m f I z C t K J x G W (k:=.code y::k) s hb V (B.left A)).normal;exact Out.after u N F O A (A4 R m f I z C t K J y hy hLy E hb hr (B.right X))
  .have hn:zX e=false:=by cases e<;>first|rfl|exact absurd rfl he
   have hr':r=(e,cZ):=by
    cases e<;>first|exact absurd rfl he|(injection hr with hr;exact hr.symm)
   subst hr';exact Out.pass (x:=.code y) rfl hn (A4 R m f I z C t K J x G W s hb V B)
 | .cond c x y,kk,ac,L,h,hL,D,θ,b,k,st,a,cs,w,r,s,hb,hr,B=>by
  simp only[cw,qj,qk,ze]at h;obtain⟨cc,hcc,⟨ax,M⟩,G,⟨ay,ly⟩,hy,rfl,rfl⟩:=h;simp only[bI,qj]at hr;obtain⟨v,hv,hr⟩:=hr;rw[Jp]at hv;have hvr:=Bq (a:=a) s.heap s.uA hcc hv;have W:∀i l,nth M i=B1 l->nth af.loops (kk+i)=B1 l:=λ i l hl=>hL i l (by
   rw[Nn,xb]
   .exact hl
   .rw [kD]at hl;exact(qo.1 hl).1)
  have hLy:∀i l,nth ly i=B1 l->nth af.loops (kk+M.length+i)=B1 l:=λ i l hl=>by
   rw[wq];exact hL (M.length+i) l (by
    show nth (M++ly) (M.length+i)=_;rw[Nn,qv (by omega),vq];exact hl)
  unfold uV at hr;split at hr
  .rename_i q;refine .head (stepR_cond hvr.now.symm) ?_;cases q with
   |true=>exact A4 R m f I z C t K J x G W s hb hr B
   |false=>exact A4 R m f I z C t K J y hy hLy s hb hr B
  .cases hr
 | .block id x,kk,ac,L,h,hL,D,θ,b,k,st,a,cs,w,r,s,hb,hr,B=>by
  simp only[cw,qj,qk,ze]at h;obtain⟨⟨ax,M⟩,G,rfl,rfl⟩:=h;simp only[bI,qj]at hr;obtain⟨⟨e,cZ⟩,V,hr⟩:=hr;have Z:r.2=cZ:=by
   unfold kP at hr;split at hr<;>(injection hr with hr;subst hr;rfl)
  obtain⟨θ',Q,w',cs',e',u,E,N,F,O,S⟩:=A4 R m f I z C t K J x G hL (k:=.inBlock id::k) s hb V (Z▸B);refine .head stepR_block ?_;rw[Z];unfold kP at hr;cases e with
  |normal =>
   injection hr with hr;subst hr
   cases e'<;>try exact F.elim
   exact⟨θ',Q,w',cs',.normal,StepsIn.trans u (.one trivial stepR_inBlock),E,N,trivial,O,S⟩
  |exit id' =>
   injection hr with hr;subst hr
   cases e'<;>try exact F.elim
   rename_i j;have F:j=id':=F;subst F;cases hbq:J8 id j with
   |true =>
    simp only[kc]at hbq;subst hbq;exact⟨θ',Q,w',cs',.normal,u.1 k (by rw[_k,xb rfl]),E,N,trivial,O,S⟩
   |false =>
    have hne:¬id=j:=by intro q;subst q;simp at hbq
    have G:exitTo j (.inBlock id::k)=exitTo j k:=by rw[_k,qv hne]
    exact⟨θ',Q,w',cs',.exit j,⟨λ k' hk=>u.1 k' (by rw[G];exact hk),λ hr hk=>u.2 hr (by rw[G];exact hk)⟩,E,N,rfl,O,S⟩
  |goto l =>
   injection hr with hr;subst hr
   cases e'<;>try exact F.elim
   rename_i j;have G:gotoIn j (.inBlock id::k)=gotoIn j k:=rfl;exact⟨θ',Q,w',cs',.goto j,⟨λ k' hk=>u.1 k' (by rw[G];exact hk),λ hr hk=>u.2 hr (by rw[G];exact hk)⟩,E,N,F,O,S⟩
  |ret =>
   injection hr with hr;subst hr
   cases e'<;>try exact F.elim
   exact⟨θ',Q,w',cs',.ret,u,E,N,trivial,O,S⟩
  |panic ch =>
   injection hr with hr;subst hr
   cases e'<;>try exact F.elim
   rename_i ps;exact⟨θ',Q,w',cs',.panic ps,u,E,N,F,O,S⟩
 | .scope x,kk,ac,L,h,hL,D,θ,b,k,st,a,cs,w,r,s,hb,hr,B=>by
  simp only[cw,qj,qk,ze]at h;obtain⟨⟨ax,M⟩,G,rfl,rfl⟩:=h;simp only[bI,qj]at hr;obtain⟨⟨e,cZ⟩,V,hr⟩:=hr;have Z:r=(e,cZ) /\ ∀l,e=.goto l->Gd ax l=false:=by
   unfold lX at hr;split at hr
   .rename_i l he;simp only at he;rcases yk hr with⟨_,hr⟩|⟨hl,hr⟩
    .cases hr
    .injection hr with hr;subst he;exact⟨hr.symm,λ l' h'=>by injection h' with h';subst h';exact hl⟩
   .rename_i hne;injection hr with hr;exact⟨hr.symm,λ l' h'=>(hne l' h').elim⟩
  obtain⟨rfl,hlab⟩:=Z;obtain⟨θ',Q,w',cs',e',u,E,N,F,O,S⟩:=A4 R m f I z C t K J x G hL (k:=.inScope x::k) s hb V B;refine .head xf2 ?_;cases e with
  |normal =>
   cases e'<;>try exact F.elim
   exact⟨θ',Q,w',cs',.normal,StepsIn.trans u (.one trivial xa8),E,N,trivial,O,S⟩
  |exit id' =>
   cases e'<;>try exact F.elim
   rename_i j;have G:exitTo j (.inScope x::k)=exitTo j k:=rfl;exact⟨θ',Q,w',cs',.exit j,⟨λ k' hk=>u.1 k' (by rw[G];exact hk),λ hr hk=>u.2 hr (by rw[G];exact hk)⟩,E,N,F,O,S⟩
  |goto l =>
   cases e'<;>try exact F.elim
   rename_i j;have F:j=l:=F;subst F;have hfl:=q6y G (hlab j rfl);have hg:gotoIn j (.inScope x::k)=gotoIn j k:=by simp[gotoIn,hfl]
   exact⟨θ',Q,w',cs',.goto j,⟨λ k' hk=>u.1 k' (by rw[hg];exact hk),λ hr hk=>u.2 hr (by rw[hg];exact hk)⟩,E,N,rfl,O,S⟩
  |ret =>
   cases e'<;>try exact F.elim
   exact⟨θ',Q,w',cs',.ret,u,E,N,trivial,O,S⟩
  |panic ch =>
   cases e'<;>try exact F.elim
   rename_i ps;exact⟨θ',Q,w',cs',.panic ps,u,E,N,F,O,S⟩
 | .loop x,kk,ac,L,h,hL,D,θ,b,k,st,a,cs,w,r,s,hb,hr,B=>by
  simp only[cw,qj,qk,ze]at h;obtain⟨⟨ax,M⟩,G,rfl,rfl⟩:=h;simp only[bI]at hr;refine .head stepR_loop ?_;have X:=(vS R x G).1;have key:∀(n:Nat)(D:Nat->Prop)(θ:Th)(st:St)(a:Act)(cs:List NY)(w:NJ)(r:aZ×St),SR P base D θ b fn.ntmps rt.ctx.round st a cs w->gT B5 ((bI ax).run rt) n st=B1 r->eC D st.H.au r.2.H.au ->
   Out P base D θ b fn.ntmps rt.ctx.round k st cs w (lone (b.atR a (.code x::.inLoop x::k)) cs w) r.1 r.2:=by
   intro n
   induction n with
   |zero=>intro D θ st a cs w r _ hr _;cases hr
   |succ n ih =>
    intro D θ st a cs w r s hr B;simp only[gT,qj]at hr;obtain⟨⟨e,cZ⟩,V,hr⟩:=hr;have hm1:=Ow z C X V
    by_cases he:e=.normal
    .subst he;simp only at hr;have A:=xi6 (λ st r h=>AU z C X h) B5 n _ _ hr;obtain⟨θ',Q,w',cs',u,E,N,F,O⟩:=(A4 R m f I z C t K J x G hL (k:=.inLoop x::k) s hb V (B.left A)).normal;exact Out.after (u.trans (.one stepR_inLoop)) N F O A (ih _ θ' cZ Q cs' w' r E hr (B.right hm1))
    .have hn:zX e=false:=by cases e<;>first|rfl|exact absurd rfl he
     have hr':r=(e,cZ):=by
      cases e<;>first|exact absurd rfl he|(injection hr with hr;exact hr.symm)
     subst hr';exact Out.pass (x:=.inLoop x) rfl hn (A4 R m f I z C t K J x G hL s hb V B)
  exact key _ D θ st a cs w r s hr B
 | .rangeFunc g ps x y,kk,ac,L,h,hL,D,θ,b,k,st,a,cs,w,r,s,hb,hr,B=>by
  simp only[cw,qj]at h;obtain⟨cg,hcg,⟨ax,M⟩,G,⟨ay,ly⟩,hy,h⟩:=h;split at h
  .rename_i Y;have Y:∀p∈ps.toList,p<fn.ntmps:=λ p hp=>by
    rw[B6]at Y
    simpa[vX]using Y p hp
   injection h with h;injection h with u E;subst u;subst E
   simp only[bI,qj]at hr;obtain⟨v,hv,hr⟩:=hr;rw[Jp]at hv;have hvr:=Bq (a:=a) s.heap s.uA hcg hv;have U:wR P rt.ctx.fn kk a.tmps.size ps x y:=by
    refine⟨fn,af,_,kk+1,kk+1+M.length,M,ly,K,J,hL 0 _ rfl,rfl,Y,s.size,G,λ i l hl=>?_,hy,λ i l hl=>?_⟩
    .rw [wq];refine hL (1+i) l ?_;rw[Nat.add_comm 1 i,kD,zp,<-kD,Nn,xb]
     .exact hl
     .rw [kD]at hl;exact(qo.1 hl).1
    .rw [wq,wq];refine hL (1+(M.length+i)) l ?_;rw[Nat.add_comm 1 _,kD,zp,<-kD];show nth (M++ly) (M.length+i)=_;rw[Nn,qv (by omega),vq];exact hl
   unfold qW at hr;split at hr
   .rename_i hnone;have hro:b.roundOf=none:=by have:=s.round;rw[hnone]at this;exact this
    have A:st.H.au+1<=r.2.H.au:=by
     have:(st.H.alloc (.deferred (B1 []))).au<=r.2.H.au:=xfr (st:={st with H:=st.H.alloc (.deferred (B1 []))}) z (Ext.refl _) hr;exact this
    have hn:¬D st.H.au:=B _ (qm _) A;have hag:=Th.hJ θ st.H.au w.heap.size 0 0 hn;obtain⟨e1,e2,e3⟩:=Th.eO θ st.H.au w.heap.size 0 0;have hDn:Up D st.H.au (st.H.au+1) st.H.au:=.inr ⟨qm _,zy _⟩;have h0:=s.heap.alloc hn (w':=w.alloc (.deferred (B1 []))) (co:=.deferred (B1 [])) (o:=.deferred (B1 [])) (k:=w.heap.size) (off:=0) (ext:=0) (by rw[Cs];simp)
     (λ j hj=>by rw[Cs,qv (Ma hj)]) (qm _) (by simp) ⟨B1 [],rfl,rfl,rfl⟩
    have g0:=bE.alloc (base:=base) s.heap hn (.deferred (B1 [])) (.deferred (B1 [])) 0 0;refine q5z m R (H0:=st.H.alloc (.deferred (B1 []))) (bj:=.jJ st.H.au::st.bj) (d:=st.H.au) (mark:=[{target:=.collected w.heap.size,args:=#[]}]) h0 g0 (ke _) s hvr hDn ⟨⟨hDn,by rw[e1]⟩,ic.up hag Up.of s.bj⟩ U hb ?_ hr B z;rw[hro,run_enterLoop_outer,e1];simp
   .rename_i l hl;simp only[qj]at hr;obtain⟨d,hd,hr⟩:=hr;unfold Ec at hd;split at hd
    .rename_i f2 k2 tm2 d2 hget;injection hd with hd;subst hd
     obtain⟨hDl,co,hco,rl,rfl,r1,r2,r3,r4,r5,r6,r7⟩:=s.heap.obj _ _ hget;have hro:b.roundOf=B1 (θ.cq l):=by have:=s.round;rw[hl]at this;exact this.2
     refine q5z m R (mark:=[]) (d:=d2) (by rw[Up.none];exact s.heap) (bE.refl _ _ _ _) (qm _) s hvr (by rw[Up.none];exact r6) (by rw[Up.none];exact s.bj) U hb ?_ hr B z;rw[hro,qug _ _ _ _ _ hco,r7]
    .cases hd
  .cases h
end
end Go.Am
