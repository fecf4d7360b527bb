import Derived.Test.YtlepagkkolnmoaaGreatDoorAmWZa
import Derived.Deep.Upon
import Derived.Lib.UnsafeStr
import Derived.Defers
import Derived.RangeFuncRecord
import Derived.ControlIn
import Derived.RangeFuncIn
set_option linter.defProp false
set_option linter.unusedVariables false
set_option linter.unusedSimpArgs false
open Bool renaming false→B2,true→B4
open Go renaming Frame→Oa,MapEntry→Bk,Oper→Qa,Operand→N0,Program→Kc,TypeId→Ma,Value→Km,World→Nl
open Go.Addr.mk renaming injEq→BK
open Go.Builtin renaming append_→Bq,clear_→Cj,firstCells→CN,zeroCells→BQ
open Go.Deferred renaming ofValue→Bb
open Go.Frame renaming atR→C1,raise_atR→Ci
open Go.Instr renaming sameBits→Bf,sureAddr→C6
open Go.Oper renaming semAt_eq→Bo
open Go.Region renaming wanted→A8
open Go.Result renaming andThen_ok→N8
open Go.Sem renaming run_bind→Nn,run_pure→Q1
open Go.StepsIn renaming of_steps→Bp,steps→BV
open Go.Value.slice renaming injEq→AZ
open Go.stepG renaming apply→C7
open List renaming range→N1,replicate→JV
open Nat renaming beq→J3,ble→Ow,blt→QS
open Option renaming none→B5,some→B1
open Prod.mk renaming inj→Cz
namespace Go.Am
def sE(P:Kc)(o:Qa)(xs:List N0)(f:List AV->ar->Option (AV×ar)):Prop :=
 ∀base(D:Nat->Prop)θ H(ρ:N0->Km)w vs v H',HR P base D θ H w->bL D θ vs (xs.map ρ)->f vs H=B1 (v,H')->d9 D H.au H'.au ->
  ∃θ' w' c,td P (execOp ρ o) w c w'/\HR P base (Up D H.au H'.au) θ' H' w'/\bD D H θ w H' θ' w'/\VR (Up D H.au H'.au) θ' v c
section
variable{P:Kc}{base:Nat}{D:Nat->Prop}{θ:Th}{H:ar}{w:Nl}
def xdr{fz:Nat×Nat}{o n:Nat}(h:eD fz o n=B4):∀j,j<n -> ¬(fz.1<=o+j/\o+j<fz.2):=by
 intro j c;unfold eD at h;simp only[AQ,sH]at h;omega
def _g(pre cs post new:List Km)(o:Nat)(h:o+new.length<=cs.length) :
 ((pre++cs++post).toArray.toList.take (pre.length+o)++new++(pre++cs++post).toArray.toList.drop (pre.length+o+new.length))=pre++(cs.take o++new++cs.drop (o+new.length))++post:=by
 have e1:(pre++cs++post).take (pre.length+o)=pre++cs.take o:=by
  rw[zy,Oh,Oh];have:pre.length+o-pre.length-cs.length=0:=by omega
  rw[zp (by omega),this,show pre.length+o-pre.length=o from by omega];simp
 have e2:(pre++cs++post).drop (pre.length+o+new.length)=cs.drop (o+new.length)++post:=by
  rw[zy,BE,List.drop_of_length_le (by omega),BE];have:pre.length+o+new.length-pre.length-cs.length=0:=by omega
  rw[this,show pre.length+o+new.length-pre.length=o+new.length from by omega];simp
 simp only[List.toList_toArray];rw[e1,e2];simp
def HR.store(u:HR P base D θ H w){b o:Nat}{new:List AV}{cs:List Km}{H':ar}(v:bL D θ new cs)(h:H.store b o new=B1 H') :
 ∃w',(storeCells ⟨θ.b9 b,θ.off b+o,B5⟩ cs).run P w=.ok () w'/\HR P base D θ H' w'/\bD D H θ w H' θ w'/\H'.au=H.au:=by
 unfold ar.store at h;cases g:aQ new with
 |false=>rw[g]at h;cases h
 |true =>
  rw[g]at h;simp only[xw]at h;have z:=q3k v g;have hlen:=v.length;split at h
  .rename_i c e fz hg;obtain⟨G,co,hc,hr⟩:=u.obj b _ hg;obtain⟨pre,f,post,p,J,rfl,n,q,A⟩:=hr;obtain⟨rfl,rfl,rfl,r⟩:=A rfl;have x:=q.length;cases t:eD fz o (cS new)with
   |false=>rw[t]at h;cases h
   |true =>
    rw[t]at h;simp only[xw,FV]at h;split at h
    .rename_i hle;simp only[qr,qk]at h;subst h;have d:=xdr t;rw[IX]at d;have l:=UB (P:=P) (θ.off b+o) cs 0 _ w hc (by simp[<-n];simp at n;omega) (λ j I=>by
      have:=d j (by omega);simp only[yx]at n;rcases r with r|⟨K,L⟩<;>omega) z
     rw[vj,<-n,_g [] f [] cs o (by omega)]at l;rw[<-n];refine⟨_,l,?_,?_,rfl⟩
     .refine u.set hg rfl rfl ⟨[],f.take o++cs++f.drop (o+cs.length),[],p,_,rfl,n,?_,λ _=>⟨rfl,rfl,rfl,r⟩⟩;rw[hlen];exact((q.take o).app v).app (q.drop _)
     .exact bD.set hg rfl (u.lt hg)
    .cases h
  .rename_i m s c e fz hg;obtain⟨G,co,hc,hr⟩:=u.obj b _ hg;obtain⟨pre,f,post,p,rfl,n,q,A,C,E,F,B⟩:=hr;have x:=q.length;cases t:eD fz o (cS new)with
   |false=>rw[t]at h;cases h
   |true =>
    rw[t]at h;simp only[xw,FV]at h;split at h
    .rename_i hle;simp only[qr,qk]at h;subst h;have d:=xdr t;rw[IX]at d;have l:=UB (P:=P) (θ.off b+o) cs 0 _ w hc (by simp;omega) (λ j I=>by
      have:=d j (by omega);unfold SP at B;omega) z
     rw[vj,<-n,_g pre f post cs o (by omega)]at l;rw[<-n];refine⟨_,l,?_,?_,rfl⟩
     .have y:(f.take o++cs++f.drop (o+cs.length)).length=f.length:=by simp;omega
      refine u.set hg rfl rfl ⟨pre,f.take o++cs++f.drop (o+cs.length),post,p,rfl,n,?_,?_,C,E,F,?_⟩
      .rw [hlen];exact((q.take o).app v).app (q.drop _)
      .simp;omega
      .rw [y];exact B
     .exact bD.set hg rfl (u.lt hg)
    .cases h
  .cases h
def xle{o:Qa}{t:Ma}{x y:N0}{n:Nat}(ho:o.op=.store t x y)(hs:bR P t=B1 n):sE P o [x,y] (Op.store n):=by
 intro base D θ H ρ w vs v H' p h c m;unfold Op.store at c;split at c
 .rename_i b off a;obtain⟨q,r,he,ha,hb⟩:=h.rJ;simp only[zx,sj]at he;obtain⟨rfl,rfl⟩:=he;cases hn:J3 (cS a.cells) n with
  |false=>rw[hn]at c;cases c
  |true =>
   rw[hn]at c;simp only[xw,qj,qk,zf]at c;obtain⟨H1,l,rfl,rfl⟩:=c;obtain⟨w',e,f,g,j⟩:=p.store hb.cells l;have hl:=hb.cells.length;simp only[IX,jv]at hn;have d:(ρ y).cells.size=n:=by rw[<-we];omega
   refine⟨θ,w',_,.inr ⟨?_,rfl⟩,by rw[j,Up.none];exact f,g,.undef⟩;simp only[execOp,ho,<-ha.now,aw,Instr.storeAt,C6,storeVar,Nn,Q1,N8,uO hs,d,ne_eq,not_true_eq_false,vk,e]
 .cases c
def fS{w:Nl}{r:Nat}{o:Obj}{ms:Array Bk}{c:Nat}(h:w.heap[r]? = B1 (.map ms c)):(setObj r o).run P w=.ok () (fD w r o):=by
 simp[setObj,Sem.run,h,fD]
def HR.wI(d:HR P base D θ H w){b:Nat}{m:List (AV×AV×Nat)×Nat}(hm:H.eW b=B1 m){es:List (AV×AV×Nat)}{ms:List Bk}{c:Nat}(h:dp D θ es ms) :
 HR P base D θ (H.set b (.map es c)) (fD w (θ.b9 b) (.map ms.toArray c))/\bD D H θ w (H.set b (.map es c)) θ (fD w (θ.b9 b) (.map ms.toArray c)):=by
 obtain⟨hg,_,_⟩:=d.eW hm;exact⟨d.set hg rfl rfl ⟨ms,rfl,h⟩,bD.set hg rfl (d.lt hg)⟩
def xb0{o:Qa}{c:Call}{xs:List N0}{t s e:Ma}(ho:o.op=.call c)(hc:c.callee=.builtin .clear)(n:c.args.toList=xs)(l:c.argTypes[0]? = B1 t)
 (hu:P.underlying t=B1 (.map s e)):sE P o xs Op.bW:=by
 intro base D θ H ρ w vs v H' f h d p;obtain⟨u,j⟩:=L7 (ρ:=ρ) ho hc;unfold Op.bW at d;split at d
 .obtain ⟨x,rfl,ha⟩:=h.qB;simp only[qk,zf]at d;obtain⟨rfl,rfl⟩:=d;refine⟨θ,w,.tuple #[],.inl ?_,by rw[Up.none];exact f,.refl _ _ _ _,.tuple .nil⟩;rw[j,AL n];simp[builtin,Cj,l,<-ha.now,aw,yd hu]
 .rename_i b;obtain⟨x,rfl,ha⟩:=h.qB;simp only[qj,qk,zf]at d;obtain⟨m,hm,rfl,rfl⟩:=d;obtain⟨_,_,ms,g,y⟩:=f.eW hm;obtain⟨q,r⟩:=f.wI hm (c:=m.2) (es:=[]) (ms:=[]) trivial;refine⟨θ,_,.tuple #[],.inl ?_,by rw[show(H.set b (.map [] m.2)).au=H.au from rfl,Up.none];exact q,r,.tuple .nil⟩;rw[j,AL n];simp[builtin,Cj,l,<-ha.now,aw,yd hu,MD g,fS g]
 .cases d
def q8n{n:Nat}{a b:AV}{ca c:Km}(ha:VR D θ a ca)(hb:VR D θ b c)(h:Op.vD a b=B4):Bf n ca c=true:=by
 rw[<-ha.now,<-hb.now];cases a<;>cases b<;>simp only[Op.vD,zw]at h
 .cases n<;>simpa[aw,Bf]using h
 .simp only[zd,EA,G2,TZ,LM]at h;cases n<;>simp[aw,Bf,h]
 .simp only[Kn,G2]at h;cases n<;>simp[aw,Bf,h,beq_toListBytes]
def _L{n:Nat}:∀{a b:List AV}{ca c:List Km},bL D θ a ca->bL D θ b c->Op.fj a b=B4->ca.length=c.length/\((ca.zip c).all λ(x,y)=>Bf n x y)=B4
 |[],[],ca,c,ha,hb,_=>by rw[ha.my,hb.my];simp
 |a::x,b::y,ca,c,ha,hb,h=>by
  obtain⟨m,d,rfl,f,j⟩:=ha.eC;obtain⟨p,e,rfl,g,l⟩:=hb.eC;simp only[Op.fj]at h;cases hs:Op.vD a b with
  |false=>rw[hs]at h;cases h
  |true =>
   rw[hs]at h;obtain⟨e1,e2⟩:=_L (n:=n) j l h;simp only[zq,e1,List.zip_cons_cons,List.all_cons,q8n f g hs,Bool.true_and,e2,and_self]
 |[],_::_,_,_,_,_,h=>by cases h
 |_::_,[],_,_,_,_,h=>by cases h
def xjr{n:Nat}{a b:AV}{ca d:Km}(ha:VR D θ a ca)(hb:VR D θ b d)(h:Op.stays a b=B4):Bf (n+1) ca d=true:=by
 by_cases c:(∃l,a=.agg l) /\ ∃l,b=.agg l
 .obtain ⟨⟨l,rfl⟩,⟨g,rfl⟩⟩:=c;obtain⟨cs,rfl,e⟩:=ha.fp;obtain⟨cs',rfl,f⟩:=hb.fp;obtain⟨e1,e2⟩:=_L (n:=n) e f h;simp[Bf,e1]
  simpa using e2
 .refine q8n ha hb ?_;cases a<;>cases b<;>first|exact h|exact absurd ⟨⟨_,rfl⟩,⟨_,rfl⟩⟩ c
def dp.get{D:Nat->Prop}{θ:Th}:∀(es:List (AV×AV×Nat))(ms:List Bk)(i:Nat)(e:AV×AV×Nat),dp D θ es ms->es[i]? = B1 e -> ∃m,ms[i]? = B1 m/\Qg D θ e m
 |_::_,m::_,0,e,⟨h,_⟩,he=>⟨m,rfl,by simp at he;subst he;exact h⟩
 |_::es,_::ms,i+1,e,⟨_,h⟩,he=>by simpa using dp.get es ms i e h (by simpa using he)
 |[],_,_,_,_,he=>by simp at he
 |_::_,[],_,_,h,_=>h.elim
def dp.modify{D:Nat->Prop}{θ:Th}{k v:AV}{c cv:Km}(hk:VR D θ k c)(d:VR D θ v cv):∀(es:List (AV×AV×Nat))(ms:List Bk)(i:Nat),dp D θ es ms ->
 dp D θ (es.modify i λ e=>(k,v,e.2.2)) (ms.modify i λ e=>{e with key:=c,val:=cv})
 |[],[],_,_=>by simp[dp]
 |_::_,_::_,0,⟨⟨_,_,h3⟩,h⟩=>by simpa[dp]using⟨⟨hk,d,h3⟩,h⟩
 |_::es,_::ms,i+1,⟨h1,h⟩=>by simpa[dp]using⟨h1,dp.modify hk d es ms i h⟩
 |[],_::_,_,h=>h.elim
 |_::_,[],_,h=>h.elim
def dp.push{D:Nat->Prop}{θ:Th}{k v:AV}{d cv:Km}{c:Nat}(hk:VR D θ k d)(e:VR D θ v cv):∀(es:List (AV×AV×Nat))(ms:List Bk),dp D θ es ms ->
 dp D θ (es ++ [(k,v,c)]) (ms ++ [{key:=d,val:=cv,born:=c}])
 |[],[],_=>⟨⟨hk,e,rfl⟩,trivial⟩
 |_::es,_::ms,⟨h1,h⟩=>⟨h1,dp.push hk e es ms h⟩
 |[],_::_,h=>h.elim
 |_::_,[],h=>h.elim
def H_{o:Qa}{t K e:Ma}{x y z:N0}{q:aR}(ho:o.op=.mapUpdate t x y z\/o.op=.insert t x y z)(hu:P.underlying t=B1 (.map K e))(J:pU P K=B1 q) :
 sE P o [x,y,z] (Op.mapUpdate q):=by
 intro base D θ H ρ w vs v H' A h d N;unfold Op.mapUpdate at d;split at d
 .rename_i b k M;obtain⟨S,v0,O,he,ha,hb,hc⟩:=h.sA;simp only[zx,sj]at he;obtain⟨rfl,rfl,rfl⟩:=he;cases f:cH q k with
  |false=>rw[f]at d;cases d
  |true =>
   rw[f]at d;simp only[xw,qj]at d;obtain⟨m,hm,r,hr,d⟩:=d;obtain⟨_,_,ms,l,s⟩:=A.eW hm;have hk:=λ em=>VH (em:=em) (w:=w) J hb f;obtain⟨L,I,j⟩:=q4i (w:=w) J hb s hr;cases r with
   |none =>
    cases L with
    |some _=>exact j.elim
    |none =>
     simp only[qk,zf]at d;obtain⟨rfl,rfl⟩:=d;obtain⟨F,G⟩:=A.wI hm (c:=m.2+1) (dp.push (c:=m.2) hb hc _ _ s);refine⟨θ,_,_,.inr ⟨?_,rfl⟩,by rw[show(H.set b (.map (m.1 ++ [(k,M,m.2)]) (m.2+1))).au=H.au from rfl,Up.none];exact F,G,.undef⟩;rcases ho with ho|ho<;>simp[execOp,ho,Instr.mapUpdate,<-ha.now,aw,yd hu,hk,I,MD l,fS l]
   |some p =>
    obtain⟨i,pv⟩:=p;cases L with
    |none=>exact j.elim
    |some p' =>
     obtain⟨R,pc⟩:=p';obtain⟨rfl,j⟩:=j;simp only[qj,kE]at d;obtain⟨en,u,d⟩:=d;cases g:Op.stays en.1 k with
     |false=>rw[g]at d;cases d
     |true =>
      rw[g]at d;simp only[xw,qk,zf]at d;obtain⟨rfl,rfl⟩:=d;obtain⟨me,C,⟨e1,e2,Q⟩⟩:=dp.get _ _ i en s u;have E:Bf 10000 me.key (ρ y)=true:=xjr (n:=9999) e1 hb g;have B:(Instr.keyThatStays me.key (ρ y)).run P w=.ok (ρ y) w:=by unfold Instr.keyThatStays;rw[xb E];rfl
      obtain⟨F,G⟩:=A.wI hm (c:=m.2) (dp.modify hb hc _ _ i s);refine⟨θ,_,_,.inr ⟨?_,rfl⟩,by rw[show(H.set b (.map (m.1.modify i λ e=>(k,M,e.2.2)) m.2)).au=H.au from rfl,Up.none];exact F,G,.undef⟩;rcases ho with ho|ho<;>simp[execOp,ho,Instr.mapUpdate,<-ha.now,aw,yd hu,hk,I,MD l,fS l,C,B]
 .cases d
end
end Go.Am
namespace Go.Am
section
variable{P:Kc}{base:Nat}{D:Nat->Prop}{θ:Th}{H:ar}{w:Nl}
def HR.sub(h:HR P base D θ H w){H':ar}(hs:∀b o,H'.get b=B1 o->H.get b=B1 o):HR P base D θ H' w :=
 ⟨λ b o hb=>h.obj b o (hs b o hb),λ b d o o' hb c=>h.inj b d o o' (hs b o hb) (hs d o' c),λ b o hb=>h.mf b o (hs b o hb),h.eF,h.low⟩
def Yi(H:ar)(k:Nat):∀b o,(H.kill k).get b=B1 o->H.get b=B1 o:=by
 intro b o h;rw[ar.rz]at h;split at h
 .cases h
 .exact h
def bD.kill(H:ar)(k:Nat):bD D H θ w (H.kill k) θ w :=
 ⟨qm _,Ag.refl _ _,qm _,rfl,rfl,rfl,λ _ _ _=>rfl,λ b o h ho _=>⟨b,o,Yi H k b o h,ho,rfl⟩⟩
def HR.move(h:HR P base D θ H w)(hn:¬D H.au){b:Nat}{o o':bC}{co':Obj}{off ext:Nat}(hb:H.get b=B1 o)(ho:own o=B4)(G:own o'=B4)
 (hr:oH P (Up D H.au (H.au+1)) (θ.add H.au (θ.b9 b) off ext) H.au o' co') :
 HR P base (Up D H.au (H.au+1)) (θ.add H.au (θ.b9 b) off ext) ((H.kill b).alloc o') (fD w (θ.b9 b) co') /\
 bD D H θ w ((H.kill b).alloc o') (θ.add H.au (θ.b9 b) off ext) (fD w (θ.b9 b) co'):=by
 have n:=h.lt hb;have m:=Th.hO θ H.au (θ.b9 b) off ext hn;have⟨e1,e2,K⟩:=Th.eL θ H.au (θ.b9 b) off ext;have old:∀x c,H.get x=B1 c->(θ.add H.au (θ.b9 b) off ext).b9 x = θ.b9 x:=λ x c d=>(m x (h.obj x c d).1).1;have f:∀x c,((H.kill b).alloc o').get x=B1 c->(x=H.au/\c=o')\/(x≠H.au/\x≠b/\H.get x=B1 c):=by
  intro x c d;rw[ar.bK,ar.rz]at d
  by_cases e:H.au=x
  .rw [xb (show(H.kill b).au=x from e)]at d;injection d with d
   exact .inl ⟨e.symm,d.symm⟩
  .rw [qt (show¬(H.kill b).au=x from e)]at d
   by_cases e':b=x
   .rw [xb e']at d;cases d
   .rw [qt e']at d;exact .inr ⟨λ q=>e q.symm,λ q=>e' q.symm,d⟩
 refine⟨⟨λ x c d=>?_,λ x y c t d I l s=>?_,λ x c d l=>?_,λ g hg=>?_,by rw[Sw];exact h.low⟩,⟨ke _,m,by rw[Sw];exact qm _,rfl,rfl,rfl,λ k hk B=>?_,λ x c d l C=>?_⟩⟩
 .rcases f x c d with⟨rfl,rfl⟩|⟨v,p,j⟩
  .exact ⟨.inr ⟨qm _,zz _⟩,co',by rw[e1,ML _ _ _ _ n];simp,hr⟩
  .have ⟨r,co,z,A⟩:=h.obj x c j;refine⟨.inl r,co,?_,A.up r m Up.of⟩;rw[old x c j,ML _ _ _ _ n,qt (h.inj b x o c hb j ho (λ q=>p q.symm))];exact z
 .rcases f x c d with⟨rfl,rfl⟩|⟨v,p,j⟩<;>rcases f y t I with⟨rfl,rfl⟩|⟨L,J,u⟩
  .exact absurd rfl s
  .rw [e1,old y t u];exact h.inj b y o t hb u ho (λ q=>J q.symm)
  .rw [e1,old x c j];exact h.inj x b c o j hb l p
  .rw [old x c j,old y t u];exact h.inj x y c t j u l s
 .rcases f x c d with⟨rfl,rfl⟩|⟨v,p,j⟩
  .rw [e1];exact h.mf b o hb ho
  .rw [old x c j];exact h.mf x c j l
 .have ⟨r,z,A⟩:=h.eF g hg;have⟨E,F,_⟩:=m g r;exact⟨.inl r,E.trans z,F.trans A⟩
 .rw [ML _ _ _ _ n,qt (B b o hb ho)]
 .rcases f x c d with⟨rfl,rfl⟩|⟨v,p,j⟩
  .exact ⟨b,o,hb,ho,e1.symm⟩
  .exact ⟨x,c,j,l,(old x c j).symm⟩
def M1(v:HR P base D θ H w){tx:Ma}(hk:(∃e',P.underlying tx=B1 (.slice e'))\/P.underlying tx=B1 .string){x:AV}{c:Km}{size k:Nat}{l:List AV}
 (q:VR D θ x c) (hl:fy x=B1 k) (h:firstCells H size k x=B1 l) (E:aQ l=B4):∃cs,Src P size tx c k cs w/\bL D θ l cs:=by
 cases hs:isStr x with
 |true =>
  cases x<;>try (cases hs)
  rename_i s;simp only[fy,IX,qk]at hl;subst hl;simp only[firstCells,L6]at h;cases e:J3 size 1 with
  |false=>rw[e]at h;cases h
  |true =>
  rw[e]at h;simp only[xw,qk]at h;subst h;simp only[jv]at e;subst e;rw[<-q.now];show∃cs,Src P 1 tx (.string ⟨s.toArray⟩) s.length cs w/\bL D θ _ cs;have t:∀w:Nl,(CN 1 s.length (.string ⟨s.toArray⟩)).run P w=.ok (s.map λ b=>Km.int .u8 b.toNat).toArray w:=by
   intro w;have:=firstCells_string (P:=P) ⟨s.toArray⟩ w;rw[Mx]at this;exact this
  refine⟨s.map λ b=>.int .u8 b.toNat,⟨hk,λ w'=>?_,t w,t w.drew,by simp,λ u hu=>?_⟩,λ θ' _=>by rw[ub,wv];rfl⟩
  .show Result.ok (ByteArray.size ⟨s.toArray⟩) w'=_;rw[Mx]
  .obtain ⟨_,_,rfl⟩:=FI.1 hu;rfl
 |false =>
  obtain⟨a,len,cap,rfl,rfl,f⟩:=Xx v q hl (qm _) hs h;obtain⟨J,y,r,j,rfl,d⟩:=Xx (v.draw (w':=w.drew) rfl) q hl (qm _) hs h;injection j with m F n;subst m;subst n
  rcases f with⟨rfl,rfl,_,p⟩|⟨ad,cs,rfl,A,g,B⟩
  .exact ⟨[],⟨hk,λ _=>rfl,rfl,rfl,by simp[p],by simp⟩,.nil⟩
  .rcases d with⟨C,_⟩|⟨z,cs',he,G,I,K⟩
   .cases C
   .cases he;have:cs'=cs:=by rw[<-I.now,<-g.now]
    subst this;exact⟨cs',⟨hk,λ _=>rfl,A,G,by rw[g.length];exact B,q3k g E⟩,g⟩
def Y7{t tx ty e:Ma}{i:TypeInfo}(g:P.underlying t=B1 (.slice e))(f:P.info? e=B1 i){a:Addr}{sLen sCap n:Nat}{x:Km}{news:List Km}(hs:Src P i.size tx x n news w)
 (c:sLen+n<=sCap) {w':Nl} (d:(storeCells (a.add (sLen*i.size)) news).run P w=.ok () w') :
 (Bq #[t,tx] ty #[.slice (B1 a) sLen sCap,x]).run P w=.ok (.slice (B1 a) (sLen+n) sCap) w':=by
 rcases hs.kind with⟨e',hk⟩|hk<;>simp[Bq,run_underlying g,run_underlying hk,sizeOf,typeInfo,f,hs.len,c,hs.cells,d]
def xa7(z:Array Km)(n:Nat):(BQ z n).size=n*z.size:=by simp[BQ]
def xi5{D':Nat->Prop}{θ':Th}{id m size:Nat}{cells:List AV}{cs rest:List Km}{e:Ma}{fz:Nat×Nat}(h:bL D' θ' cells cs)(ho:θ'.off id=0)(hl:cells.length=m*size)
 (hr:rest.length = θ'.ext id*size) (c:0<size) (hm:m + θ'.ext id<=maxLen):oH P D' θ' id (.grown m size cells e fz) (.cells (cs++rest).toArray e (0,0)) :=
 ⟨[],cs,rest,(0,0),by simp,by simp[ho],h,hl,hr,c,hm,.inl rfl⟩
def HR.grow(F:HR P base D θ H w)(hn:¬D H.au){t tx ty e:Ma}{i:TypeInfo}{z:Km}(L:P.underlying t=B1 (.slice e))(J:P.info? e=B1 i)(M:i.zero=B1 z)(E:z.cells.size=i.size)
 (I:0<i.size) {bs:Option Addr} {sLen sCap n:Nat} {x:Km} {old new:List AV} {olds news:List Km} (hold:(CN i.size sLen (.slice bs sLen sCap)).run P w.drew=.ok olds.toArray w.drew)
 (hs:Src P i.size tx x n news w) (hg:sCap<sLen+n) (v:fits (sLen+n) i.bytes=B4) (ho:bL D θ old olds) (l:bL D θ new news) (B:old.length=sLen*i.size) (fz:Nat×Nat) :
 ∃θ' w' c,(Bq #[t,tx] ty #[.slice bs sLen sCap,x]).run P w=.ok c w'/\HR P base (Up D H.au (H.au+1)) θ' (dB H e i.size (sLen+n) (kO old new) fz).2 w' /\
  bD D H θ w (dB H e i.size (sLen+n) (kO old new) fz).2 θ' w'/\VR (Up D H.au (H.au+1)) θ' (dB H e i.size (sLen+n) (kO old new) fz).1 c:=by
 unfold fits at v;simp only[zd,sH]at v;have⟨G,N⟩:=v;have d:=run_append_grow_src (P:=P) w t tx ty e i z L J M bs sLen sCap olds hold x n news hs hg (by omega) (growslice_fits hg G);have g:=grownCap_ge w (sLen+n) sCap e;have r:=grownCap_le_maxLen w (sLen+n) sCap e (by unfold maxLen;omega);generalize grownCap w (sLen+n) sCap e=cap at d g r;have A:=hs.newsLen;have hlen:(kO old new).length=(sLen+n)*i.size:=by
  rw[pD,xe,B,<-l.length,A,yf]
 have u:(Obj.cells ((olds++news).toArray++BQ z.cells (cap-(sLen+n))) e:Obj)=.cells ((olds++news)++(BQ z.cells (cap-(sLen+n))).toList).toArray e (0,0):=by
  congr 1;apply Hf;simp
 have q:=Th.hO θ H.au w.drew.heap.size 0 (cap-(sLen+n)) hn;have C:bL (Up D H.au (H.au+1)) (θ.add H.au w.drew.heap.size 0 (cap-(sLen+n))) (kO old new) (olds++news):=by
  rw[pD];exact(ho.app l).up q Up.of
 have⟨e1,e2,p⟩:=Th.eL θ H.au w.drew.heap.size 0 (cap-(sLen+n));have hR:=xi5 (P:=P) (id:=H.au) (m:=sLen+n) (size:=i.size) (e:=e) (fz:=fz) (rest:=(BQ z.cells (cap-(sLen+n))).toList) C e2 hlen
  (by rw[p,we,xa7,E]) I (by rw[p];omega)
 rw[<-u]at hR;refine⟨_,_,_,d,HR.alloc (w:=w.drew) (F.draw rfl) hn ?_ ?_ (qm _) ?_ hR,?_,?_⟩
 .rw [Dm];simp
 .intro j K;rw[Dm,qt (KP K)]
 .show w.drew.heap.size<=(w.drew.alloc _).heap.size;simp
 .exact (bD.draw (w:=w) (w':=w.drew) rfl rfl rfl rfl).trans (bD.alloc (w:=w.drew) (F.draw rfl) hn _ _ _ _) (λ _ h=>h)
 .have y:(Up D H.au (H.au+1)) H.au:=.inr ⟨qm _,zz _⟩;have:=VR.gslice (θ:=θ.add H.au w.drew.heap.size 0 (cap-(sLen+n))) (i:=0) (m:=sLen+n) (s:=i.size) (alt:=0) (n:=sLen+n) y;intro θ'' f;show aw θ'' (.gslice H.au 0 (sLen+n) i.size 0 (sLen+n))=_;rw[this θ'' f];simp only[aw,e1,e2,p,wx,ite_self,vj,Ja];congr 1;omega
def O4{b i m s alt n:Nat}{c:Km}(h:VR D θ (.gslice b i m s alt n) c):c=.slice (B1 ⟨θ.b9 b,θ.off b+(if(m-i) + θ.ext b=0 then alt else i*s),B5⟩) n ((m-i) + θ.ext b):=by
 rw[<-h.now];rfl
def MM{b o n d:Nat}{c:Km}(h:VR D θ (.slice b o n d) c):c=.slice (B1 ⟨θ.b9 b,θ.off b+o,B5⟩) n d:=by
 rw[<-h.now];rfl
def HR.Ko(U:HR P base D θ H w)(hn:¬D H.au){t tx ty e:Ma}{i:TypeInfo}{z:Km}(ht:P.underlying t=B1 (.slice e))(hi:P.info? e=B1 i)(hz:i.zero=B1 z)(hzs:z.cells.size=i.size)
 (h0:0<i.size) {b k m sLen n:Nat} {c:List AV} {fz d:Nat×Nat} {alt:Nat} {s x:Km} {old new:List AV} {news:List Km} (hg:H.get b=B1 (.grown m i.size c e fz))
 (hsv:VR D θ (.gslice b k m i.size alt sLen) s) (hs:Src P i.size tx x n news w) (A:bL D θ new news) (hn0:0<n) (X:k+sLen<=m) (hbig:m<k+sLen+n) (hf:fits (sLen+n) i.bytes=B4)
 (hold:fM c (k*i.size) (sLen*i.size)=B1 old)
 (F:(fz.2<fz.1\/fz.2<=(k+sLen)*i.size)/\((k=0/\d=fz)\/(fz.2<=k*i.size/\d=cond (J3 fz.1 fz.2) (0,0) (1,0)))) :
 ∃θ' w' v,(Bq #[t,tx] ty #[s,x]).run P w=.ok v w'/\HR P base (Up D H.au (H.au+1)) θ' (dB (H.kill b) e i.size (sLen+n) (kO old new) d).2 w' /\
  bD D H θ w (dB (H.kill b) e i.size (sLen+n) (kO old new) d).2 θ' w'/\VR (Up D H.au (H.au+1)) θ' (dB (H.kill b) e i.size (sLen+n) (kO old new) d).1 v:=by
 have Z:=O4 hsv;subst Z;obtain⟨hd,co,hc,pre,cs,post,p,rfl,r2,r3,L,r5,r6,r7,r8⟩:=U.obj b _ hg;have r:=r3.length;have G:=hs.newsLen;rw[sO]at hold;have hle:sLen*i.size<=c.length-k*i.size:=by
  rw[L,<-LA];exact jo _ (by omega)
 rw[xb hle]at hold;cases hold;have B:bL D θ ((c.drop (k*i.size)).take (sLen*i.size)) ((cs.drop (k*i.size)).take (sLen*i.size)):=(r3.drop _).take _;have hkc:(k+sLen)*i.size<=c.length:=by rw[L];exact jo _ X
 have W:(k+sLen)*i.size=k*i.size+sLen*i.size:=yf _ _ _
 by_cases C:sLen+n<=(m-k) + θ.ext b
 .-- in place
  have g:¬(m-k) + θ.ext b=0:=by omega
  rw[qt g];have htot:(k+sLen+n)*i.size<=cs.length+post.length:=by
   rw[r,L,r5,<-yf];exact jo _ (by omega)
  have Q:(k+sLen+n)*i.size=k*i.size+sLen*i.size+n*i.size:=by rw[yf,yf]
  have J:=UB (P:=P) (θ.off b+k*i.size+sLen*i.size) news 0 _ w hc (by simp;omega) (λ j hj=>by
   unfold SP at r8;have⟨q1,K⟩:=F;omega) hs.one
  rw[vj]at J;have I:=Y7 (ty:=ty) ht hi (a:=⟨θ.b9 b,θ.off b+k*i.size,B5⟩) (sLen:=sLen) (sCap:=(m-k) + θ.ext b) hs C (by rw[zD];exact J)
  -- the block's cells from the slice's head on
  have hw:((pre++cs++post).take (θ.off b+k*i.size+sLen*i.size)++news++(pre++cs++post).drop (θ.off b+k*i.size+sLen*i.size+news.length)) =
   (pre++cs.take (k*i.size))++((cs.drop (k*i.size)).take (sLen*i.size)++news)++(pre++cs++post).drop (θ.off b+k*i.size+sLen*i.size+news.length):=by
   have e1:(pre++cs++post).take (θ.off b+k*i.size+sLen*i.size)=pre++cs.take (k*i.size)++(cs.drop (k*i.size)).take (sLen*i.size):=by
    rw[zy,Oh,zp (l:=pre) (by omega),zy,show θ.off b+k*i.size+sLen*i.size-pre.length=k*i.size+sLen*i.size from by omega,Oh,
     show k*i.size+sLen*i.size-cs.length=0 from by omega,yq,zt,List.take_add]
   rw[e1];simp
  have u:((pre++cs++post).drop (θ.off b+k*i.size+sLen*i.size+news.length)).length=((m-k) + θ.ext b-(sLen+n))*i.size:=by
   rw[jg,xe,xe,G,LA,yf,yf,LA,r,L,r5,r2];have:=jo i.size (show k<=m by omega);omega
  have R:=Th.hO θ H.au (θ.b9 b) (θ.off b+k*i.size) ((m-k) + θ.ext b-(sLen+n)) hn;have⟨e1,e2,M⟩:=Th.eL θ H.au (θ.b9 b) (θ.off b+k*i.size) ((m-k) + θ.ext b-(sLen+n));have hsz:((cs.drop (k*i.size)).take (sLen*i.size)).length=sLen*i.size:=by rw[jd,jg];omega
  have⟨N,O⟩:=U.move hn (o':=.grown (sLen+n) i.size (kO ((c.drop (k*i.size)).take (sLen*i.size)) new) e d) (co':=.cells ((pre++cs.take (k*i.size))++((cs.drop (k*i.size)).take (sLen*i.size)++news)++(pre++cs++post).drop (θ.off b+k*i.size+sLen*i.size+news.length)).toArray e p)
   (off:=θ.off b+k*i.size) (ext:=(m-k) + θ.ext b-(sLen+n)) hg rfl rfl ⟨_,_,_,p,rfl,by rw[e2,xe,jd];omega,by rw[pD];exact(B.app A).up R Up.of,
    by rw[pD,xe,<-B.length,hsz,<-A.length,G,yf],by rw[M];exact u,h0,by rw[M];unfold maxLen at r7⊢;omega,by
     rw[e2];have y:(pre++cs.take (k*i.size)).length+((cs.drop (k*i.size)).take (sLen*i.size)++news).length+((pre++cs++post).drop (θ.off b+k*i.size+sLen*i.size+news.length)).length=pre.length+cs.length+post.length:=by
      rw[<-xe,<-xe,<-hw];simp;omega
     rw[y];obtain⟨_,q|⟨q1,K⟩⟩:=F
     .obtain ⟨rfl,rfl⟩:=q;simpa using r8
     .unfold SP at r8⊢;cases f:J3 fz.1 fz.2 with
      |true =>
       simp only[jv]at f;rw[f]at K;simp only[Nat.beq_refl,xw]at K;omega
      |false =>
       rw[f]at K;subst K;have:¬fz.1=fz.2:=by intro h;rw[h,Nat.beq_refl]at f;cases f
       simp only[zm];omega⟩
  refine⟨θ.add H.au (θ.b9 b) (θ.off b+k*i.size) ((m-k) + θ.ext b-(sLen+n)),_,_,I,?_,?_,?_⟩
  .rw [show(pre++cs++post).toArray.toList=pre++cs++post from rfl,hw];exact N
  .rw [show(pre++cs++post).toArray.toList=pre++cs++post from rfl,hw];exact O
  .have V:(Up D H.au (H.au+1)) H.au:=.inr ⟨qm _,zz _⟩;have:=VR.gslice (θ:=θ.add H.au (θ.b9 b) (θ.off b+k*i.size) ((m-k) + θ.ext b-(sLen+n))) (i:=0) (m:=sLen+n) (s:=i.size) (alt:=0) (n:=sLen+n) V;intro θ'' E;show aw θ'' (.gslice H.au 0 (sLen+n) i.size 0 (sLen+n))=_;rw[this θ'' E];simp only[aw,e1,e2,M,wx,ite_self,vj,Ja];congr 1;omega
 .have S:(CN i.size sLen (.slice (B1 ⟨θ.b9 b,θ.off b+(if(m-k) + θ.ext b=0 then alt else k*i.size),B5⟩) sLen ((m-k) + θ.ext b))).run P w.drew=.ok ((cs.drop (k*i.size)).take (sLen*i.size)).toArray w.drew:=by
   by_cases Y:sLen=0
   .subst Y;show(loadCells _ (0*i.size)).run P w.drew=_;rw[wx,yq];rfl
   .have g:¬(m-k) + θ.ext b=0:=by omega
    rw[qt g];show(loadCells _ (sLen*i.size)).run P w.drew=_;have:=_3 (P:=P) (w:=w.drew) (k:=θ.b9 b) (fz:=p) (e:=e) (arr:=(pre++cs++post).toArray) hc (pre.length+k*i.size) (sLen*i.size) (by simp;omega);rw[_J pre cs post _ _ (by rw[r];exact hle),r2]at this;exact this
  have:=(U.sub (Yi H b)).grow (ty:=ty) (H:=H.kill b) hn ht hi hz hzs h0 S hs (by omega) hf B A (by rw[jd,jg];omega) d;have⟨θ',w',v,N,O,g3,g4⟩:=this;exact⟨θ',w',v,N,O,(bD.kill H b).trans g3 (λ _ h=>h),g4⟩
def IH{e:Ma}{n z:Nat}{g:AV}(hs:bR P e=B1 n)(hb:mS P e=B1 z)(c:zeroOf P e=B1 g)(f:g.cells.length=n) :
 ∃i zc,P.info? e=B1 i/\i.size=n/\i.bytes=z/\i.zero=B1 zc/\zc.cells.size=n:=by
 have⟨i,d,h⟩:=qzh hs;unfold mS at hb;rw[d]at hb;simp only[qr,qk]at hb;unfold zeroOf at c;rw[d]at c;simp only[qr,qj]at c;have⟨zc,j,l⟩:=c;refine⟨i,zc,d,h,hb,j,?_⟩;have:=(Sv (D:=λ _=>False) (θ:=⟨λ _=>0,λ _=>0,λ _=>0⟩) l).cells.length;rw[f]at this;simpa using this
def xm4{b o n d:Nat}{c:Km}(h:VR D θ (.slice b o n d) c)(n':Nat):VR D θ (.slice b o n' d) (.slice (B1 ⟨θ.b9 b,θ.off b+o,B5⟩) n' d):=λ θ' ha=>by
 have:=(h θ' ha).trans h.now.symm;simp only[aw,AZ,qk,BK,sj]at this;simp only[aw,this.1,this.2]
def xij{b i m s alt n:Nat}{c:Km}(h:VR D θ (.gslice b i m s alt n) c)(n':Nat):VR D θ (.gslice b i m s alt n') (.slice (B1 ⟨θ.b9 b,θ.off b+(if(m-i) + θ.ext b=0 then alt else i*s),B5⟩) n' ((m-i) + θ.ext b)):=λ θ' ha=>by
 have:=(h θ' ha).trans h.now.symm;simp only[aw,AZ,qk,BK,sj,BZ]at this;have⟨⟨f,d⟩,e⟩:=this;rw[e]at d;simp only[aw,f,e,d]
def xid{o:Qa}{c:Call}{xs:List N0}{t tx e:Ma}{sz z:Nat}{zv:AV}(ho:o.op=.call c)(hc:c.callee=.builtin .append)(hx:c.args.toList=xs)(hts:c.argTypes.toList=[t,tx])
 (hu:P.underlying t=B1 (.slice e)) (hk:(∃e',P.underlying tx=B1 (.slice e'))\/(P.underlying tx=B1 .string)) (hs:bR P e=B1 sz) (hb:mS P e=B1 z) (hz:zeroOf P e=B1 zv) (hzn:zv.cells.length=sz) :
 sE P o xs (Op.append e sz z):=by
 intro base D θ H ρ w vs v H' G h d U;obtain⟨cc,hE⟩:=L7 (ρ:=ρ) ho hc;have Y:c.argTypes = #[t,tx]:=by apply Hf;simpa using hts
 obtain⟨i,zc,X,rfl,rfl,V,W⟩:=IH hs hb hz hzn;unfold Op.append at d;split at d
 .rename_i a b;obtain⟨x,y,rfl,ha,hbv⟩:=h.rJ;simp only[qj]at d;obtain⟨n,hn,new,hnew,d⟩:=d;cases J:aQ new with
  |false=>rw[J]at d;cases d
  |true =>
   rw[J]at d;simp only[xw]at d;obtain⟨news,j,C⟩:=M1 G (tx:=tx) hk hbv hn hnew J;have g:∀(K:Km)(w':Nl),(Bq #[t,tx] o.type #[ρ x,ρ y]).run P w=.ok K w'->(execOp ρ o).run P w=.ok (.value K) w':=by
    intro K w' hr;rw[hE,AL hx,Y];simp[builtin,hr]
   have hnl:=j.newsLen;have hnlen:=C.length;have f:n=0 -> ∀bs len L,ρ x=.slice bs len L->len<=L->(Bq #[t,tx] o.type #[ρ x,ρ y]).run P w=.ok (ρ x) w:=by
    intro r bs len L he hle;subst r;have:news=[]:=List.eq_nil_of_length_eq_zero (by simpa using hnl);subst this;rw[he];exact run_append_nothing w t tx o.type e i hu X bs len L hle (ρ y) j
   unfold de at d;split at d
   .-- nil
    cases r:J3 n 0 with
    |true =>
     rw[r]at d;simp only[xw,qk,zf]at d;obtain⟨rfl,rfl⟩:=d;exact⟨θ,w,ρ x,.inl (g _ _ (f (by simpa using r) B5 0 0 ha.now.symm (qm _))),by rw[Up.none];exact G,.refl _ _ _ _,by rw[Up.none];exact ha⟩
    |false =>
     rw[r]at d;simp only[zm]at d;cases u:(fits n i.bytes && QS 0 i.size)with
     |false=>rw[u]at d;cases d
     |true =>
      rw[u]at d;simp only[xw,qk]at d;simp only[zd,uH]at u;have hn0:n≠0:=by intro q;subst q;cases r
      obtain⟨θ',w',K,N,s,B,p⟩:=G.grow (ty:=o.type) (U H.au (qm _) (by rw[<-(Cz d).2];exact zz _)) hu X V W u.2 (bs:=B5) (sLen:=0) (sCap:=0) (old:=[]) (olds:=[]) rfl j (by omega) (by simpa using u.1) .nil C (by simp) (0,0);rw[show kO ([]:List AV) new=new from rfl,yr]at s B p;rw[d]at s B p;have:H'.au=H.au+1:=by rw[<-(Cz d).2];rfl
      rw[<-this]at s p;refine⟨θ',w',K,.inl (g _ _ ?_),s,B,p⟩;rw[<-ha.now];exact N
   .-- a slice of a row
    rename_i bb oo len L;cases hle:Ow (len+n) L with
    |true =>
     rw[hle]at d;simp only[sH]at hle;simp only[xw]at d;cases r:J3 n 0 with
     |true =>
      rw[r]at d;simp only[xw,qk,zf]at d;obtain⟨rfl,rfl⟩:=d;simp only[jv]at r;subst r;exact⟨θ,w,ρ x,.inl (g _ _ (f rfl _ len L (MM ha) (by omega))),by rw[Up.none];exact G,.refl _ _ _ _,by rw[Up.none];exact ha⟩
     |false =>
      rw[r]at d;simp only[zm,qj,qk,zf]at d;obtain⟨H1,h1,rfl,rfl⟩:=d;obtain⟨w',N,s,B,p⟩:=G.store C h1;refine⟨θ,w',_,.inl (g _ _ ?_),by rw[p,Up.none];exact s,B,by rw[p,Up.none];exact xm4 ha _⟩;rw[MM ha];exact Y7 hu X j hle (by rw[zD,wT];exact N)
    |false =>
     rw[hle]at d;have Z:¬len+n<=L:=by intro q;rw[Nat.ble_eq_true_of_le q]at hle;cases hle
     simp only[zm]at d;cases u:(fits (len+n) i.bytes && Ow L (len+n) && QS 0 i.size)with
     |false=>rw[u]at d;cases d
     |true =>
      rw[u]at d;simp only[xw,qj,qk]at d;obtain⟨old,hold,d⟩:=d;simp only[zd,uH]at u;obtain⟨olds,k1,k2,k3⟩:∃olds:List Km,(CN i.size len (ρ x)).run P w.drew=.ok olds.toArray w.drew/\bL D θ old olds/\old.length=len*i.size:=by
       obtain⟨ad,len',cap',R,hl',S⟩:=Xx (G.draw (w':=w.drew) rfl) ha (n:=len) rfl (qm _) rfl hold;rcases S with⟨rfl,rfl,_,r⟩|⟨ad',cs',rfl,k1,k2,k3⟩
       .rw [MM ha]at R;cases R
       .exact ⟨cs',by rw[R];exact k1,k2,k3⟩
      rw[MM ha]at k1;obtain⟨θ',w',K,N,s,B,p⟩:=G.grow (ty:=o.type) (U H.au (qm _) (by rw[<-(Cz d).2];exact zz _)) hu X V W u.2 k1 j (by omega) u.1.1 k2 C k3 (0,0);rw[d]at s B p;have:H'.au=H.au+1:=by rw[<-(Cz d).2];rfl
      rw[<-this]at s p;refine⟨θ',w',K,.inl (g _ _ ?_),s,B,p⟩;rw[MM ha];exact N
   .-- a slice of a grown row
    rename_i bb ii m sz alt len;cases r:J3 n 0 with
    |true =>
     rw[r]at d;simp only[xw]at d;cases I:Ow (ii+len) m with
     |false=>rw[I]at d;cases d
     |true =>
     rw[I]at d;simp only[xw,qk,zf]at d;obtain⟨rfl,rfl⟩:=d;simp only[jv]at r;subst r;simp only[sH]at I;exact⟨θ,w,ρ x,.inl (g _ _ (f rfl _ len _ (O4 ha) (by omega))),by rw[Up.none];exact G,.refl _ _ _ _,by rw[Up.none];exact ha⟩
    |false =>
     rw[r]at d;have hn0:n≠0:=by intro q;subst q;cases r
     simp only[zm]at d;cases l:(J3 sz i.size && Ow (ii+len) m && QS 0 i.size)with
     |false=>rw[l]at d;cases d
     |true =>
      rw[l]at d;simp only[zd,jv,sH,uH]at l;obtain⟨⟨rfl,I⟩,hsz⟩:=l;simp only[xw]at d;cases hle:Ow (ii+len+n) m with
      |true =>
       rw[hle]at d;simp only[sH]at hle;simp only[xw,qj,qk,zf]at d;obtain⟨H1,h1,rfl,rfl⟩:=d;obtain⟨w',N,s,B,p⟩:=G.store C h1;refine⟨θ,w',_,.inl (g _ _ ?_),by rw[p,Up.none];exact s,B,by rw[p,Up.none];exact xij ha _⟩;rw[O4 ha];refine Y7 hu X j (by omega) ?_;rw[qt (by omega),zD,wT,<-yf];exact N
      |false =>
       rw[hle]at d;have Z:¬ii+len+n<=m:=by intro q;rw[Nat.ble_eq_true_of_le q]at hle;cases hle
       simp only[zm]at d;cases u:fits (len+n) i.bytes with
       |false=>rw[u]at d;cases d
       |true =>
        rw[u]at d;simp only[xw]at d;split at d
        .rename_i m' sz' c0 e' fz Q;cases l:(J3 m m' && J3 i.size sz' && J3 e' e)with
         |false=>rw[l]at d;cases d
         |true =>
          rw[l]at d;simp only[zd,jv]at l;obtain⟨⟨rfl,rfl⟩,rfl⟩:=l;simp only[xw]at d;have A:∀old M,fM c0 (ii*i.size) (len*i.size)=B1 old->((fz.2<fz.1\/fz.2<=(ii+len)*i.size)/\((ii=0/\M=fz)\/(fz.2<=ii*i.size/\M=cond (J3 fz.1 fz.2) (0,0) (1,0)))) ->
           dB (H.kill bb) e' i.size (len+n) (kO old new) M=(v,H') -> ∃θ' w' c,td P (execOp ρ o) w c w'/\HR P base (Up D H.au H'.au) θ' H' w'/\bD D H θ w H' θ' w'/\VR (Up D H.au H'.au) θ' v c:=by
           intro old M hold hfz d;have hnx:H'.au=H.au+1:=by rw[<-(Cz d).2];rfl
           obtain⟨θ',w',K,N,s,B,p⟩:=G.Ko (ty:=o.type) (U H.au (qm _) (by rw[hnx];exact zz _)) hu X V W hsz Q ha j C (by omega) I (by omega) u hold hfz;rw[d]at s B p;rw[<-hnx]at s p;exact⟨θ',w',K,.inl (g _ _ N),s,B,p⟩
          cases E:(J3 ii 0 && J3 len m && Ow fz.2 (m*i.size))with
          |true =>
           rw[E]at d;simp only[zd,jv,sH]at E;obtain⟨⟨rfl,rfl⟩,E⟩:=E;simp only[xw,qk]at d;obtain⟨_,co,_,pre,cs,post,cfz,_,_,_,r4,_⟩:=G.obj bb _ Q;refine A c0 fz ?_ ⟨.inr (by simpa using E),.inl ⟨rfl,rfl⟩⟩ d;rw[sO,wx,<-r4,xb (by omega),y8,L6]
          |false =>
           rw[E]at d;simp only[zm]at d;cases O:Ow fz.2 (ii*i.size)with
           |true =>
            rw[O]at d;simp only[sH]at O;simp only[xw,qj,qk]at d;obtain⟨old,hold,d⟩:=d;exact A old _ hold ⟨.inr (by rw[yf];omega),.inr ⟨O,rfl⟩⟩ d
           |false =>
            rw[O]at d;simp only[zm]at d;cases F:(J3 ii 0 && Ow fz.2 (len*i.size))with
            |false=>rw[F]at d;cases d
            |true =>
             rw[F]at d;simp only[zd,jv,sH]at F;obtain⟨rfl,F⟩:=F;simp only[xw,qj,qk]at d;obtain⟨old,hold,d⟩:=d;exact A old fz (by rw[wx];exact hold) ⟨.inr (by rw[yr];exact F),.inl ⟨rfl,rfl⟩⟩ d
        .cases d
   .cases d
 .cases d
def xep{o:Qa}{c:Call}{xs:List N0}{t e:Ma}{z:AV}(ho:o.op=.call c)(hc:c.callee=.builtin .clear)(G:c.args.toList=xs)(F:c.argTypes[0]? = B1 t)
 (hu:P.underlying t=B1 (.slice e)) (L:zeroOf P e=B1 z):sE P o xs (Op.bZ z.cells):=by
 intro base D θ H ρ w vs v H' E h f J;have⟨R,C⟩:=L7 (ρ:=ρ) ho hc;unfold Op.bZ at f;split at f
 .cases f
 .rename_i d l;obtain⟨x,rfl,ha⟩:=h.qB;simp only[qj]at f;have⟨n,hn,f⟩:=f;cases m:J3 n 0 with
  |true =>
   rw[m]at f;simp only[xw,qk,zf]at f;obtain⟨rfl,rfl⟩:=f;simp only[jv]at m;subst m;refine⟨θ,w,.tuple #[],.inl ?_,by rw[Up.none];exact E,.refl _ _ _ _,.tuple .nil⟩;rw[C,AL G];have r:∃bs B,ρ x=.slice bs 0 B:=by
    cases d<;>simp only[fy,reduceCtorEq,qk]at hn
    .exact (l _ rfl).elim
    .exact ⟨B5,0,ha.now.symm⟩
    .subst hn;exact⟨_,_,MM ha⟩
    .subst hn;exact⟨_,_,O4 ha⟩
    .exact ⟨_,_,ha.now.symm⟩
   have⟨bs,B,s⟩:=r;cases bs<;>simp[builtin,Cj,F,yd hu,s]
  |false =>
   rw[m]at f;simp only[zm,qj,qk,zf]at f;obtain⟨p,hp,H1,I,rfl,rfl⟩:=f;have⟨n',W,g,S,U,V⟩:=sM ha hp;rw[wx,Ja]at g;have⟨zc,u,y⟩:=Mv (w:=w) L;have j:bL D θ (fX n z.cells) (JV n zc.cells.toList).flatten:=YM (y D θ).cells n;have⟨w',M,N,O,Q⟩:=E.store j I;refine⟨θ,w',.tuple #[],.inl ?_,by rw[Q,Up.none];exact N,O,.tuple .nil⟩;rw[C,AL G];have q:n'=n:=by
    cases d<;>simp only[fy,reduceCtorEq,qk]at hn
    .exact (l _ rfl).elim
    .rw [<-ha.now]at g;cases g
    .subst hn;rw[MM ha]at g;injection g with _ k _;exact k.symm
    .subst hn;rw[O4 ha]at g;injection g with _ k _;exact k.symm
    .cases hp
   subst q;have A:(BQ zc.cells n').toList=(JV n' zc.cells.toList).flatten:=by
    have:=XW zc.cells.toList n';unfold BQ;rw[<-we]
    simpa using congrArg Array.toList this
   have K:n'≠0:=by omega
   obtain⟨k,rfl⟩:∃k,n'=k+1:=⟨n'-1,by omega⟩
   simp[builtin,Cj,F,yd hu,g,u,A,M]
 .cases f
end
end Go.Am
namespace Go.Am
def Ext(H H':ar):Prop:=H.au<=H'.au /\ ∀b o,H'.get b=B1 o->(∃o',H.get b=B1 o'/\(own o'=B4->own o=B4))\/(H.au<=b/\b<H'.au/\own o=B4)
def Ext.refl(H:ar):Ext H H:=⟨qm _,λ b o h=>.inl ⟨o,h,λ h=>h⟩⟩
def Ext.trans{H H' c:ar}(h:Ext H H')(e:Ext H' c):Ext H c:=by
 refine⟨ze h.1 e.1,λ b o hb=>?_⟩;rcases e.2 b o hb with⟨o',f,l⟩|⟨f,m,d⟩
 .rcases h.2 b o' f with⟨j,d,g⟩|⟨d,g,n⟩
  .exact .inl ⟨j,d,λ q=>l (g q)⟩
  .exact .inr ⟨d,qn g e.1,l n⟩
 .exact .inr ⟨ze h.1 f,m,d⟩
def Ext.set{H:ar}{b:Nat}{o:bC}(h:H.get b=B1 o)(o':bC)(ho:own o=B4->own o'=B4):Ext H (H.set b o'):=by
 refine⟨qm _,λ x d c=>?_⟩;rw[ar.aJ]at c;split at c
 .rename_i e;subst e;cases c;exact .inl ⟨o,h,ho⟩
 .exact .inl ⟨d,c,λ h=>h⟩
def Ext.alloc(H:ar)(o:bC)(ho:own o=B4):Ext H (H.alloc o):=by
 refine⟨ke _,λ x d c=>?_⟩;rw[ar.bK]at c;split at c
 .rename_i e;subst e;cases c;exact .inr ⟨qm _,zz _,ho⟩
 .exact .inl ⟨d,c,λ h=>h⟩
def Ext.kill(H:ar)(b:Nat):Ext H (H.kill b):=⟨qm _,λ x c d=>.inl ⟨c,Yi H b x c d,λ h=>h⟩⟩
def g'{H:ar}{b:Nat}{m:List (AV×AV×Nat)×Nat}(h:H.eW b=B1 m):∃o,H.get b=B1 o:=by
 unfold ar.eW at h;split at h
 .exact ⟨_,by assumption⟩
 .cases h
def dE:fJ->Prop
 | .alloc f=>∀vs ob mk,f vs=B1 (ob,mk)->own ob=B4
 | .gN f=>∀vs H v H',f vs H=B1 (v,H')->Ext H H'
 |_=>True
def yj{α:Type}{c:Bool}{a b:Option α}{x:α}(h:cond c a b=B1 x):(c=B4/\a=B1 x)\/(c=B2/\b=B1 x):=by
 cases c<;>simp_all
def Um{H H':ar}{b o:Nat}{l:List AV}(h:H.store b o l=B1 H'):Ext H H':=by
 unfold ar.store at h;rcases yj h with⟨_,h⟩|⟨_,h⟩
 .split at h
  .rename_i hg;rcases yj h with⟨_,h⟩|⟨_,h⟩
   .simp only[qj,qk]at h;obtain⟨_,_,rfl⟩:=h;exact Ext.set hg _ (λ _=>rfl)
   .cases h
  .rename_i hg;rcases yj h with⟨_,h⟩|⟨_,h⟩
   .simp only[qj,qk]at h;obtain⟨_,_,rfl⟩:=h;exact Ext.set hg _ (λ _=>rfl)
   .cases h
  .cases h
 .cases h
def xi3(n:Nat):dE (.gN (Op.store n)):=by
 intro vs H v H' h;unfold Op.store at h;split at h
 .rcases yj h with⟨_,h⟩|⟨_,h⟩
  .simp only[qj,qk,zf]at h;obtain⟨_,c,_,rfl⟩:=h;exact Um c
  .cases h
 .cases h
def qte(q:aR):dE (.gN (Op.mapUpdate q)):=by
 intro vs H v H' h;unfold Op.mapUpdate at h;split at h
 .rcases yj h with⟨_,h⟩|⟨_,h⟩
  .simp only[qj]at h;have⟨m,hm,r,_,h⟩:=h;have⟨d,c⟩:=g' hm;split at h
   .simp only[qj]at h;have⟨e,_,h⟩:=h;rcases yj h with⟨_,h⟩|⟨_,h⟩
    .injection h with h;injection h with _ h;subst h;exact Ext.set c _ (λ _=>rfl)
    .cases h
   .injection h with h;injection h with _ h;subst h;exact Ext.set c _ (λ _=>rfl)
  .cases h
 .cases h
def xag:dE (.gN Op.bW):=by
 intro vs H v H' h;unfold Op.bW at h;split at h
 .injection h with h;injection h with _ h;subst h;exact Ext.refl _
 .simp only[qj]at h;have⟨m,hm,h⟩:=h;have⟨d,c⟩:=g' hm;injection h with h;injection h with _ h;subst h;exact Ext.set c _ (λ _=>rfl)
 .cases h
def xcx(z:List AV):dE (.gN (Op.bZ z)):=by
 intro vs H v H' h;unfold Op.bZ at h;split at h
 .cases h
 .simp only[qj]at h;have⟨_,_,h⟩:=h;rcases yj h with⟨_,h⟩|⟨_,h⟩
  .injection h with h;injection h with _ h;subst h;exact Ext.refl _
  .simp only[qj,qk,zf]at h;obtain⟨_,_,_,c,_,rfl⟩:=h;exact Um c
 .cases h
def PL{H H':ar}{e s n:Nat}{c:List AV}{fz:Nat×Nat}{v:AV}(h:B1 (dB H e s n c fz)=B1 (v,H')):Ext H H':=by
 injection h with h;injection h with _ h;subst h;exact Ext.alloc _ _ rfl
def xfe(e s z:Nat):dE (.gN (Op.append e s z)):=by
 intro vs H v H' h;unfold Op.append at h;split at h
 .simp only[qj]at h;have⟨n,_,new,_,h⟩:=h;rcases yj h with⟨_,h⟩|⟨_,h⟩
  .unfold de at h;split at h
   .rcases yj h with⟨_,h⟩|⟨_,h⟩
    .injection h with h;injection h with _ h;subst h;exact Ext.refl _
    .rcases yj h with⟨_,h⟩|⟨_,h⟩
     .exact PL h
     .cases h
   .rcases yj h with⟨_,h⟩|⟨_,h⟩
    .rcases yj h with⟨_,h⟩|⟨_,h⟩
     .injection h with h;injection h with _ h;subst h;exact Ext.refl _
     .simp only[qj,qk,zf]at h;obtain⟨_,c,_,rfl⟩:=h;exact Um c
    .rcases yj h with⟨_,h⟩|⟨_,h⟩
     .simp only[qj]at h;have⟨_,_,h⟩:=h;exact PL h
     .cases h
   .rcases yj h with⟨_,h⟩|⟨_,h⟩
    .rcases yj h with⟨_,h⟩|⟨_,h⟩
     .injection h with h;injection h with _ h;subst h;exact Ext.refl _
     .cases h
    .rcases yj h with⟨_,h⟩|⟨_,h⟩
     .rcases yj h with⟨_,h⟩|⟨_,h⟩
      .simp only[qj,qk,zf]at h;obtain⟨_,c,_,rfl⟩:=h;exact Um c
      .rcases yj h with⟨_,h⟩|⟨_,h⟩
       .split at h
        .rcases yj h with⟨_,h⟩|⟨_,h⟩
         .rcases yj h with⟨_,h⟩|⟨_,h⟩
          .exact (Ext.kill _ _).trans (PL (H:=H.kill _) h)
          .rcases yj h with⟨_,h⟩|⟨_,h⟩
           .simp only[qj]at h;have⟨_,_,h⟩:=h;exact(Ext.kill _ _).trans (PL (H:=H.kill _) h)
           .rcases yj h with⟨_,h⟩|⟨_,h⟩
            .simp only[qj]at h;have⟨_,_,h⟩:=h;exact(Ext.kill _ _).trans (PL (H:=H.kill _) h)
            .cases h
         .cases h
        .cases h
       .cases h
     .cases h
   .cases h
  .cases h
 .cases h
end Go.Am
namespace Go.Am
structure Dg(ρ:N0->Km):Prop where
 const:∀v,ρ (.const v)=v
 func:∀f,ρ (.func f)=.func (.func f) #[] #[]
def xP(P:Kc)(o:Qa)(xs:List N0)(f:List AV->Option AV):Prop :=
 ∀(D:Nat->Prop)θ(ρ:N0->Km)w vs v,Dg ρ->bL D θ vs (xs.map ρ)->f vs=B1 v -> ∃c,td P (execOp ρ o) w c w/\VR D θ v c
def uJ(P:Kc)(o:Qa)(xs:List N0)(f:List AV->Option (bC×(Nat->AV))):Prop :=
 ∀(D:Nat->Prop)θ(ρ:N0->Km)w vs ob mk,Dg ρ->bL D θ vs (xs.map ρ)->f vs=B1 (ob,mk) ->
  own ob=B4 /\ ∃w0 co ext c,(execOp ρ o).run P w=.ok (.value c) (w0.alloc co)/\nZ w w0 /\
   ∀(D':Nat->Prop)θ' id,Ag D θ θ'->(∀b,D b->D' b)->D' id -> θ'.b9 id=w.heap.size -> θ'.off id=0 -> θ'.ext id=ext->oH P D' θ' id ob co/\VR D' θ' (mk id) c
structure dW(P:Kc):Prop where
 names:∀(f:FuncId)(fn:Func),P.funcs[f]? = B1 fn->fn.name≠ "runtime.NumGoroutine"
 mixed:P.follows .mixedOrders=B4
def sr(P:Kc)(o:Qa)(xs:List N0):fJ->Prop
 | .pure f=>xP P o xs f
 | .read f=>rO P o xs f
 | .alloc f=>uJ P o xs f/\dE (.alloc f)
 | .gN f=>sE P o xs f/\dE (.gN f)
 | .iq f=>∃c fn b,o.op=.call c/\c.callee=.value (.func f)/\xs=c.args.toList/\P.funcs[f]? = B1 fn/\fn.body=B1 b
 | .ik=>∃c x,o.op=.call c/\c.callee=.value x/\xs=x::c.args.toList
 | .invoke m=>∃c x,o.op=.call c/\c.callee=.invoke x m/\xs=x::c.args.toList
 | .recover=>∃c,o.op=.call c/\c.callee=.builtin .recover/\xs=c.args.toList
 | .defer=>∃c x,o.op=.defer c/\c.callee=.value x/\xs=x::c.args.toList
 | .panic=>(∃x,o.op=.panic x/\xs=[x]) \/ ∃c,o.op=.call c/\c.callee=.builtin .panic/\xs=c.args.toList
def xi2{e:Nat}{z:List AV}:dE (.alloc (Op.alloc e z)):=by
 intro vs c mk h;unfold Op.alloc at h;split at h
 .injection h with h;injection h with h _;subst h;rfl
 .cases h
def ah5{e:Nat}:dE (.alloc (Op.box e)):=by
 intro vs c mk h;unfold Op.box at h;split at h
 .injection h with h;injection h with h _;subst h;rfl
 .cases h
def q5i{e n:Nat}{z:List AV}{c:List (Nat×Nat)}:dE (.alloc (Op.buildSlice e n z c)):=by
 intro vs d mk h;simp only[Op.buildSlice,qj]at h;have⟨_,_,h⟩:=h;injection h with h;injection h with h _;subst h;rfl
def xcy{e b:Nat}{z:List AV}:dE (.alloc (Op.mkSlice e b z)):=by
 intro vs c mk h;unfold Op.mkSlice at h;split at h
 .rcases yj h with⟨_,h⟩|⟨_,h⟩
  .injection h with h;injection h with h _;subst h;rfl
  .cases h
 .cases h
def t_:dE (.alloc Op.mkMap):=by
 intro vs c mk h;unfold Op.mkMap at h;split at h
 .injection h with h;injection h with h _;subst h;rfl
 .cases h
section
variable{P:Kc}{o:Qa}{xs:List N0}
def di.up{f:List AV->Option AV}(h:di P o xs f):xP P o xs f:=λ D θ ρ w vs v _=>h D θ ρ w vs v
def mi.up{f:List AV->Option (bC×(Nat->AV))}(h:mi P o xs f):uJ P o xs f:=λ D θ ρ w vs c mk _=>h D θ ρ w vs c mk
def I7{src dst:Ma}{x:N0}(ho:o.op=.convert src dst x){r:List N0×fJ}(h:Ff P src dst x=B1 r):sr P o r.1 r.2:=by
 unfold Ff at h;split at h
 .rename_i c d;cases h;exact(xmt ho c d).up
 .cases h
def _B{t:Ma}{x y:N0}{k:wC}(h:HK P t x y=B1 k):xE P t x y k:=by
 unfold HK at h;simp only[Vg]at h;split at h
 .rename_i hu;cases h;exact hu
 .rename_i e hu;split at h
  .rename_i n hs;cases h;exact⟨e,n,hu,hs⟩
  .cases h
 .rename_i e hu;cases h;exact⟨e,hu⟩
 .rename_i k e hu;cases h;exact⟨k,e,hu⟩
 .rename_i a b c hu;cases h;exact⟨a,b,c,hu⟩
 .rename_i ms hu;split at h
  .cases h;exact⟨ms,hu,.inl ⟨_,rfl⟩⟩
  .cases h;exact⟨ms,hu,.inr ⟨_,rfl⟩⟩
  .cases h;refine⟨⟨ms,hu⟩,λ u q d=>?_⟩;simp only[qj]at d;have⟨i,g,d⟩:=d;split at d
   .rename_i f;exact⟨d,i,g,f⟩
   .cases d
 .rename_i fs hu;split at h
  .cases h
  .rename_i hg;simp only[qj,qk]at h;obtain⟨q,d,rfl⟩:=h;exact⟨by simpa using hg,d,.inl ⟨fs,hu⟩⟩
 .rename_i n e hu;split at h
  .cases h
  .rename_i hg;simp only[qj,qk]at h;obtain⟨q,d,rfl⟩:=h;exact⟨by simpa using hg,d,.inr ⟨n,e,hu⟩⟩
 .cases h
def LG{op:BinOp}{t c:Ma}{x y:N0}(ho:o.op=.binOp op t x y c){r:List N0×fJ}(h:LU P op t x y=B1 r):sr P o r.1 r.2:=by
 unfold LU at h;split at h
 .cases h;exact(xha ho).up
 .cases h;exact(xha ho).up
 .split at h
  .simp only[qj,qk]at h;obtain⟨k,hk,rfl⟩:=h;exact uK (neg:=B2) (by simpa using ho) (_B hk)
  .simp only[qj,qk]at h;obtain⟨k,hk,rfl⟩:=h;exact uK (neg:=B4) (by simpa using ho) (_B hk)
  .cases h
def xh7{c:Call}{b:Builtin}(ho:o.op=.call c)(hc:c.callee=.builtin b){r:List N0×fJ}(h:Wi P b c.argTypes c.args.toList=B1 r):sr P o r.1 r.2:=by
 have f:∀{d:TypeDesc},(c.argTypes[0]?).bind P.underlying=B1 d -> ∃t,c.argTypes[0]? = B1 t/\P.underlying t=B1 d:=λ h=>by simpa[qj]using h
 unfold Wi at h;split at h
 .split at h
  .rename_i hu;have⟨t,g,hu⟩:=f hu;cases h;exact(xjd ho hc rfl g hu).up
  .cases h
 .split at h
  .rename_i t tx j;split at h
   .rename_i e e' hu p;simp only[qj]at h;have⟨n,hn,z,l,q,m,h⟩:=h;split at h
    .rename_i hl;cases h;exact⟨xid ho hc rfl j hu (.inl ⟨_,p⟩) hn l m hl,xfe _ _ _⟩
    .cases h
   .cases h
  .cases h
 .cases h;exact(xfl (mx:=B2) ho hc rfl).up
 .split at h
  .rename_i hu;have⟨t,g,hu⟩:=f hu;simp only[qj,qk]at h;obtain⟨z,l,rfl⟩:=h;exact⟨xep ho hc rfl g hu l,xcx _⟩
  .rename_i hu;have⟨t,g,hu⟩:=f hu;cases h;exact⟨xb0 ho hc rfl g hu,xag⟩
  .cases h
 .cases h;exact⟨c,ho,hc,rfl⟩
 .cases h;exact .inr ⟨c,ho,hc,rfl⟩
 .cases h
def ag5{fn:Func}(n:String)(hn:fn.name=n)(ho:fn.origin = "") {e:Array Ma->Array Ma->Array Ma->Array Km->Sem Km}
 (d:∀(c rs:Array Ma),(((Extern.allNextRows.lookup n).map (· c rs)) <|> ((Extern.allNextRows.lookup "").map (· c rs)))=B5)
 (f:∀(ts c rs:Array Ma),((Extern.allGenericRows.lookup n).map (· ts c rs) <|> (Extern.allTypedRows.lookup n).map (· c rs) <|> Extern.allRows.lookup n)=B1 (e ts c rs)) :
 Extern.findNext fn=B5/\Extern.find fn=B1 (e fn.targs fn.params fn.resultTypes):=by
 unfold Extern.findNext Extern.find;rw[hn,ho];refine⟨d fn.params fn.resultTypes,?_⟩;show(((Extern.allGenericRows.lookup n).map (· fn.targs fn.params fn.resultTypes) <|> (Extern.allTypedRows.lookup n).map (· fn.params fn.resultTypes) <|> Extern.allRows.lookup n) <|> _)=_;rw[f];rfl
def KD{c:Call}{f:FuncId}{fn:Func}(hn:fn.name≠ "runtime.NumGoroutine") (ho:o.op=.call c) (hc:c.callee=.value (.func f)) (j:P.funcs[f]? = B1 fn) (hb:fn.body=B5) {r:List N0×fJ}
 (h:LF P fn c.args.toList=B1 r):sr P o r.1 r.2:=by
 unfold LF at h;split at h
 .cases h
 .rename_i g;have g:fn.origin = "" := by simpa using g
  split at h
  .rename_i d;have d:=eq_of_beq d;cases h;have⟨e1,e2⟩:=ag5 (e:=λ _ _ _=>Extern.BytealgIndexByte.indexByte) _ d g (λ m rs=>by kernel_rfl) (λ ts m rs=>by kernel_rfl);intro D θ ρ w vs v l;exact qso ho hc j hb hn e1 e2 rfl D θ ρ w vs v (l.func f)
  .cases h
def HO(e:dW P){c:Call}(ho:o.op=.call c){r:List N0×fJ}(h:Dj P c=B1 r):sr P o r.1 r.2:=by
 unfold Dj at h;split at h
 .rename_i f hc;simp only[qj]at h;have⟨fn,d,h⟩:=h;split at h
  .rename_i b hb;cases h;exact⟨c,fn,b,ho,hc,rfl,d,hb⟩
  .rename_i hb;exact KD (e.names f fn d) ho hc d hb h
 .rename_i x _ hc;cases h;exact⟨c,_,ho,hc,rfl⟩
 .rename_i hc;cases h;exact⟨c,_,ho,hc,rfl⟩
 .rename_i b hc;exact xh7 ho hc h
def Q7(F:dW P){r:List N0×fJ}(h:Ro P o.op=B1 r):sr P o r.1 r.2:=by
 unfold Ro at h;split at h
 .rename_i ho;cases h;exact(N_ (.inl ho)).up
 .rename_i ho;cases h;exact(N_ (.inr ho)).up
 .rename_i ho;cases h;exact(xms ho).up
 .rename_i ho;simp only[qj,qk]at h;obtain⟨z,j,rfl⟩:=h;exact⟨(xd9 ho j).up,xi2⟩
 .rename_i ho;cases h;exact⟨(xkg ho).up,ah5⟩
 .rename_i t parts ho;simp only[qj]at h;have⟨z,j,h⟩:=h;split at h
  .rename_i fs hu;split at h
   .rename_i p;simp only[qj,qk]at h;obtain⟨E,g,rfl⟩:=h;refine(qye ho j hu (λ f u=>?_) g).up;have:=Ce.1 p f (Array.mem_toList_iff.2 u);exact Option.isSome_iff_exists.1 this
   .cases h
  .rename_i hu;simp only[qj,qk]at h;obtain⟨n,hn,E,g,rfl⟩:=h;exact(q0z ho j hu hn g).up
  .cases h
 .rename_i t len parts ho;split at h
  .rename_i e hu;simp only[qj]at h;have⟨n,hn,z,j,E,g,h⟩:=h;split at h
   .rename_i hc;cases h;exact⟨(qzn ho hu hn j g hc.1 hc.2).up,q5i⟩
   .cases h
  .cases h
 .rename_i t a ho;simp only[qj]at h;have⟨J,hr,h⟩:=h;split at h
  .cases h;exact xje ho hr
  .cases h;exact xjf ho hr
 .rename_i t a x ho;simp only[qj,qk]at h;obtain⟨n,hn,rfl⟩:=h;exact⟨xle ho hn,xi3 _⟩
 .rename_i ho;cases h;exact(xas ho).up
 .rename_i ho;exact LG ho h
 .rename_i ho;cases h;exact(Ht ho).up
 .rename_i ho;exact I7 ho h
 .rename_i t x ho;split at h
  .cases h
  .rename_i d G hu;cases h;exact(xdb ho ⟨d,hu,by cases d<;>first|rfl|exact(G _ rfl).elim⟩).up
  .cases h
 .rename_i ho;cases h;exact(xfm ho).up
 .rename_i ho;cases h;exact⟨λ D θ ρ w vs B mk A=>d_ ho (.inl rfl) (λ _=>trivial) D θ ρ w vs B mk A.const,t_⟩
 .rename_i t k n ho;split at h
  .rename_i a b hu;cases h;exact⟨λ D θ ρ w vs B mk A=>d_ ho (.inr ⟨k,n,rfl,a,b,hu⟩) (λ _=>trivial) D θ ρ w vs B mk A.const,t_⟩
  .cases h
 .rename_i t l c ho;split at h
  .rename_i e hu;simp only[qj]at h;have⟨b,hb,z,j,n,hn,h⟩:=h;split at h
   .rename_i hc;cases h;exact⟨(q80 ho hu hb hn j hc).up,xcy⟩
   .cases h
  .cases h
 .rename_i t x lo I mx ho;split at h
  .rename_i e hu;simp only[qj,qk]at h;obtain⟨n,hn,rfl⟩:=h;exact(xdd ho hu hn).up
  .rename_i k e hu;simp only[qj,qk]at h;obtain⟨n,hn,rfl⟩:=h;exact(xat ho hu hn).up
  .cases h
 .rename_i t x i ho;split at h
  .rename_i fs hu;simp only[qj]at h;have⟨f,u,n,hn,h⟩:=h;split at h
   .cases h
   .rename_i y;cases h;exact(q7j ho hu u hn (by simpa using y)).up
  .cases h
 .rename_i t x i ho;split at h
  .rename_i e hu;simp only[qj,qk]at h;obtain⟨n,hn,rfl⟩:=h;exact(xda ho hu hn).up
  .rename_i k e hu;simp only[qj,qk]at h;obtain⟨n,hn,rfl⟩:=h;exact(xaq ho hu hn).up
  .cases h
 .rename_i t x i ho;split at h
  .rename_i hu;cases h;exact(xar ho hu).up
  .rename_i k e hu;simp only[qj,qk]at h;obtain⟨n,hn,a,ha,rfl⟩:=h;exact(xap ho hu hn ha).up
  .cases h
 .rename_i t m k ok ho;split at h
  .rename_i C e hu;simp only[qj,qk]at h;obtain⟨q,s,z,j,rfl⟩:=h;exact xfp ho hu s j
  .cases h
 .rename_i t m k v ho;split at h
  .rename_i C e hu;simp only[qj,qk]at h;obtain⟨q,s,rfl⟩:=h;exact⟨H_ (.inl ho) hu s,qte _⟩
  .cases h
 .rename_i t m k v ho;split at h
  .rename_i C e hu;simp only[qj,qk]at h;obtain⟨q,s,rfl⟩:=h;exact⟨H_ (.inr ho) hu s,qte _⟩
  .cases h
 .rename_i ho;cases h;exact(xc9 ho).up
 .rename_i c ho;exact HO F ho h
 .rename_i c ho;split at h
  .rename_i f hc;cases h;exact⟨c,f,ho,hc,rfl⟩
  .cases h
 .rename_i x ho;cases h;exact .inl ⟨x,ho,rfl⟩
 .cases h
def sr.mono{c:fJ}(h:sr P o xs c):dE c:=by
 cases c with
 |alloc f=>exact h.2
 |gN f=>exact h.2
 |_=>trivial
def D4(o:Qa)(aop:fJ):Prop:=(∀c,o.op≠ .defer c)\/aop=.defer\/aop=.pure Op.fail
def MH{r:List N0×fJ}(h:Ro P o.op=B1 r):D4 o r.2:=by
 by_cases d:∃c,o.op=.defer c
 .have ⟨c,hc⟩:=d;rw[hc]at h;simp only[Ro]at h;split at h
  .cases h;exact .inr (.inl rfl)
  .cases h
 .exact .inl λ c hc=>d ⟨c,hc⟩
def OK(e:dW P){r:List bJ×fJ}(h:gy P o=B1 r):∃xs,nS P.globals.size xs=B1 r.1/\sr P o xs r.2/\D4 o r.2:=by
 unfold gy at h;split at h
 .rename_i f hr;cases h;simp only[qj,qk]at hr;obtain⟨q,d,args,c,rfl⟩:=hr;exact⟨q.1,c,Q7 e d,MH d⟩
 .cases h;exact⟨[],rfl,(xmr []).up,.inr (.inr rfl)⟩
end
end Go.Am
namespace Go.Am
def hC(D:Nat->Prop)(θ:Th):List aM->List Deferred->Prop
 |[],[]=>True
 |d::ds,e::es=>WC D θ d e/\hC D θ ds es
 |_,_=>False
def K5(D:Nat->Prop)(θ:Th)(e:AV×Bool)(p:PanicEntry):Prop:=VR D θ e.1 p.v/\p.recovered=e.2/\p.goexit=B2
def fK(D:Nat->Prop)(θ:Th):aG->List PanicEntry->Prop
 |[],[]=>True
 |e::es,p::ps=>K5 D θ e p/\fK D θ es ps
 |_,_=>False
def rI(D:Nat->Prop)(θ:Th)(c:aG)(m:FrameMode):Prop :=
 match m with
 | .run=>False
 | .returning=>c=[]
 | .panicking ps=>c≠[]/\fK D θ c ps
def qZ(D:Nat->Prop)(θ:Th)(kind:CallKind):Option aG->List Oa->Prop
 |none,_=>kind=.normal
 |some ch,c::_=>kind=.deferred/\rI D θ ch c.mode
 |some _,[]=>False
def fC:Option aG->List Oa->List Oa->Prop
 |none,cs,cs'=>cs'=cs
 |some _,c::rest,cs'=>∃u,cs' = {c with mode:=u}::rest
 |some _,[],_=>False
def Ar(D:Nat->Prop)(θ:Th)(ro:Option Nat):Option Nat->Prop
 |none=>ro=B5
 |some l=>D l/\ro=B1 (θ.b9 l)
def Ed(D:Nat->Prop)(θ:Th):aX->Exit->Prop
 | .normal,.normal=>True
 | .exit i,.exit j=>j=i
 | .goto i,.goto j=>j=i
 | .ret,.ret=>True
 | .panic c,.panic ps=>c≠[]/\fK D θ c ps
 |_,_=>False
def O2(D:Nat->Prop)(θ:Th):bH->Ending->Prop
 | .ret v,.returned c=>VR D θ v c
 | .panic c,.panicked ps=>c≠[]/\fK D θ c ps
 |_,_=>False
section
variable{D D':Nat->Prop}{θ θ':Th}
def hC.up(ha:Ag D θ θ')(g:∀b,D b->D' b):∀{l:List aM}{m:List Deferred},hC D θ l m->hC D' θ' l m
 |[],[],_=>trivial
 |d::ds,e::es,⟨h1,h2⟩=>by
  refine⟨?_,hC.up ha g h2⟩;cases d with
  |jJ b=>exact⟨g b h1.1,by rw[(ha b h1.1).1];exact h1.2⟩
  |fn f args =>
   have⟨c,cap,p,n,q⟩:=h1;refine⟨c,cap,?_,λ θ'' j=>?_,q.up ha g⟩
   .rw [p,n θ' ha]
   .rw [n θ'' (ha.trans j g),n θ' ha]
 |[],_::_,h=>h.elim
 |_::_,[],h=>h.elim
def fK.up(ha:Ag D θ θ')(c:∀b,D b->D' b):∀{l:aG}{m:List PanicEntry},fK D θ l m->fK D' θ' l m
 |[],[],_=>trivial
 |e::es,p::ps,⟨⟨h1,h2,h3⟩,h⟩=>⟨⟨h1.up ha c,h2,h3⟩,fK.up ha c h⟩
 |[],_::_,h=>h.elim
 |_::_,[],h=>h.elim
def rI.up(ha:Ag D θ θ')(d:∀b,D b->D' b){c:aG}{m:FrameMode}(h:rI D θ c m):rI D' θ' c m:=by
 cases m with
 |run=>exact h.elim
 |returning=>exact h
 |panicking ps=>exact⟨h.1,fK.up ha d h.2⟩
def qZ.up(ha:Ag D θ θ')(d:∀b,D b->D' b){k:CallKind}{u:Option aG}{cs:List Oa}(h:qZ D θ k u cs):qZ D' θ' k u cs:=by
 cases u with
 |none=>exact h
 |some ch =>
  cases cs with
  |nil=>exact h.elim
  |cons c r=>exact⟨h.1,rI.up ha d h.2⟩
def Ar.up(ha:Ag D θ θ')(c:∀b,D b->D' b){ro r:Option Nat}(h:Ar D θ ro r):Ar D' θ' ro r:=by
 cases r with
 |none=>exact h
 |some l=>exact⟨c l h.1,by rw[(ha l h.1).1];exact h.2⟩
def fC.refl{D:Nat->Prop}{θ:Th}{k:CallKind}{u:Option aG}{cs:List Oa}(h:qZ D θ k u cs):fC u cs cs:=by
 cases u with
 |none=>rfl
 |some ch =>
  cases cs with
  |nil=>exact h.elim
  |cons c r=>exact⟨c.mode,rfl⟩
def fC.trans{u e:Option aG}(hu:e.isSome=u.isSome){cs cs' d:List Oa}(h:fC u cs cs')(f:fC e cs' d):fC u cs d:=by
 cases u with
 |none =>
  cases e with
  |none=>exact Eq.trans f h
  |some _=>cases hu
 |some ch =>
  cases e with
  |none=>cases hu
  |some ch' =>
   cases cs with
   |nil=>exact h.elim
   |cons c r =>
    obtain⟨m,rfl⟩:=h;obtain⟨g,rfl⟩:=f;exact⟨g,rfl⟩
def pW.up(ha:Ag D θ θ')(d:∀b,D b->D' b){tm:T AV}{a:Array Km}(h:pW D θ tm a):pW D' θ' tm a:=λ t v e =>
 let⟨c,h1,h2⟩:=h t v e;⟨c,h1,h2.up ha d⟩
def pW.put{tm:T AV}{a:Array Km}(h:pW D θ tm a){d:Nat}(g:d<a.size){v:AV}{c:Km}(j:VR D θ v c):pW D θ (tm.set d v) (a.setIfInBounds d c):=by
 intro t x f;rw[T.aJ]at f;rw[NK]
 by_cases e:d=t
 .subst e;simp only[oO,qk]at f;subst f;exact⟨c,by simp[g],j⟩
 .simp only[e,vk]at f⊢;exact h t x f
def pW.forget{a:Array Km}:∀(ds:List Nat){tm:T AV},pW D θ tm a->pW D θ (forget ds tm) a
 |[],_,h=>h
 |d::ds,tm,h=>pW.forget ds (tm:=tm.put d B5) (λ t v c=>by
  rw[T.kG]at c;split at c
  .cases c
  .exact h t v c)
def T.rC:∀(ds:List Nat)(tm:T AV)(t:Nat),(forget ds tm).get t=if t∈ds then B5 else tm.get t
 |[],tm,t=>by simp[Am.forget]
 |d::ds,tm,t=>by
  rw[Am.forget,T.rC ds,T.kG]
  by_cases f:t∈ds
  .simp [f]
  .by_cases c:d=t
   .simp [c]
   .have g:¬t=d:=λ e=>c e.symm;simp[f,c,g]
end
section
variable{P:Kc}{base:Nat}{D:Nat->Prop}{θ:Th}{H:ar}{w:Nl}{a:Act}{tm:T AV}
def BR(l:HR P base D θ H w)(m:pW D θ tm a.tmps){x:N0}{y:bJ}(hc:rD P.globals.size x=B1 y){v:AV}(d:rQ tm y=B1 v):VR D θ v (a.eval x):=by
 cases x with
 |tmp t =>
  cases hc;have⟨c,e,h⟩:=m t v d
  simpa[Act.eval,e]using h
 |const k =>
  simp only[rD,qj,qk]at hc;obtain⟨u,hu,rfl⟩:=hc;cases d;exact Sv hu
 |global g =>
  simp only[rD]at hc;split at hc
  .rename_i hg;cases hc;cases d;have⟨e,h,j⟩:=l.eF g (by simpa[uH]using hg);have:=VR.ptr (θ:=θ) (o:=0) e;rw[h,j]at this;exact this
  .cases hc
 |func f =>
  cases hc;cases d;exact λ _ _=>rfl
def Kb(d:HR P base D θ H w)(e:pW D θ tm a.tmps):∀{xs:List N0}{ys:List bJ},nS P.globals.size xs=B1 ys -> ∀{vs:List AV},mB tm ys=B1 vs->bL D θ vs (xs.map a.eval)
 |[],ys,hc,vs,hv=>by
  cases hc;cases hv;exact .nil
 |x::xs,ys,hc,vs,hv=>by
  simp only[nS,qj,qk]at hc;obtain⟨y,h,l,c,rfl⟩:=hc;simp only[mB,qj,qk]at hv;obtain⟨v,f,j,g,rfl⟩:=hv;exact .cons (BR d e h f) (Kb d e c g)
def Je(x:bJ)(tm:T AV):(Om x).run tm=rQ tm x:=by
 cases x<;>simp[Om,rQ,T.jT,T.get]
def Hl:∀(xs:List bJ)(tm:T AV),(u7 xs).run tm=mB tm xs
 |[],_=>rfl
 |[x],tm=>by simp[u7,mB,Je]
 |x::y::xs,tm=>by
  rw[u7,mB]
  .simp only[Je,Hl (y::xs) tm]
  .simp
def SN(a:Act):Dg a.eval:=⟨λ _=>rfl,λ _=>rfl⟩
def ZD(d:Option Nat)(v:AV)(tm:T AV):(lM d).run v tm=eH d v tm:=by
 cases d<;>simp[lM,eH,T.CX,T.set,T.put]
end
inductive im where
 |val (v:AV) (aZ:List aM) (up:Option aG) (H:ar)
 |panic (c:aG) (H:ar)
def nH(aZ:List aM)(up:Option aG)(r:bH×ar):im :=
 match r.1 with
 | .ret v=>.val v aZ up r.2
 | .panic c=>.panic c r.2
def iB(rt:RT)(st:St)(vs:List AV):fJ->Option im
 | .pure f=>(f vs).bind λ v=>B1 (.val v st.aZ st.up st.H)
 | .read f=>(f vs st.H).bind λ v=>B1 (.val v st.aZ st.up st.H)
 | .alloc f=>(f vs).bind λ r=>B1 (.val (r.2 st.H.au) st.aZ st.up (st.H.alloc r.1))
 | .gN f=>(f vs st.H).bind λ r=>B1 (.val r.1 st.aZ st.up r.2)
 | .iq f=>(cV rt.call rt.round (.func f) vs st.H).bind λ r=>B1 (nH st.aZ st.up r)
 | .ik=>match vs with
  | .fn (.func f) first cap::args=>(cV rt.call rt.round (.func f) (first++(args++cap)) st.H).bind λ r=>B1 (nH st.aZ st.up r)
  | .fn (.yield l) first []::args=>(cV rt.call rt.round (.yield l) (first++args) st.H).bind λ r=>B1 (nH st.aZ st.up r)
  |_=>B5
 | .invoke name=>match vs with
  | .iface t v::args=>(rt.AP.kF t name).bind λ f=>(cV rt.call rt.round (.func f) (v::args) st.H).bind λ r=>B1 (nH st.aZ st.up r)
  |_=>B5
 | .recover=>match rt.ctx.round with
  |some _=>B5
  |none=>match vs with
   |[]=>match st.up with
    |some ((v,B2)::older)=>B1 (.val v st.aZ (B1 ((v,B4)::older)) st.H)
    |_=>B1 (.val .nili st.aZ st.up st.H)
   |_=>B5
 | .defer=>match rt.ctx.round with
  |some _=>B5
  |none=>match vs with
   | .fn (.func f) first cap::args=>B1 (.val .undef (.fn (.func f) (first++(args++cap))::st.aZ) st.up st.H)
   |_=>B5
 | .panic=>match vs with
  |[.iface t v]=>B1 (.panic [(.iface t v,B2)] st.H)
  |_=>B5
def u6(put:AV->T AV->T AV)(cA:Option (List Nat))(st:St)(k:St->gQ):im->gQ
 | .val v aZ up H=>k ⟨put v st.tm,aZ,up,H⟩
 | .panic c H=>cA.bind λ ds=>B1 (.panic c,⟨forget ds st.tm,st.aZ,st.up,H⟩)
def Q8(put:AV->T AV->T AV)(cA:Option (List Nat))(st:St)(k:St->gQ)(r:bH×ar):fI put cA st k r=u6 put cA st k (nH st.aZ st.up r):=by
 unfold fI nH;split<;>rename_i h<;>rw[h]<;>rfl
def xmm(put:AV->T AV->T AV)(cA:Option (List Nat))(rt:RT)(st:St)(k:St->gQ)(vs:List AV)(op:fJ) :
 (ri put cA op).run rt st k vs=(iB rt st vs op).bind (u6 put cA st k):=by
 cases op with
 |pure f=>simp only[ri,EE,iB,kz,qr];rfl
 |read f=>simp only[ri,Cr,iB,kz,qr];rfl
 |alloc f=>simp only[ri,xC,iB,kz,qr];rfl
 |gN f=>simp only[ri,Lp,iB,kz,qr];rfl
 |iq f=>simp only[ri,Cy,iB,kz,qr,Q8]
 |ik =>
  simp only[ri,CZ,iB];split
  .simp only[kz,qr,Q8]
  .simp only[kz,qr,Q8]
  .rename_i c e;split
   .exact (c _ _ _ _ rfl).elim
   .exact (e _ _ _ rfl).elim
   .rfl
 |invoke name =>
  simp only[ri,tJ,iB];split
  .simp only[kz,qr,Q8]
  .rename_i c;split
   .exact (c _ _ _ rfl).elim
   .rfl
 |recover =>
  simp only[ri,UE,iB];cases rt.ctx.round with
  |some l=>rfl
  |none =>
   cases vs with
   |cons x xs=>rfl
   |nil =>
    rcases hu:st.up with _|_|⟨⟨v,_|_⟩,d⟩<;>simp only[Sg,hu]<;>rfl
 |defer =>
  simp only[ri,wL,iB];cases rt.ctx.round with
  |some l=>rfl
  |none =>
   simp only;split
   .rfl
   .rename_i h;split
    .exact (h _ _ _ _ rfl).elim
    .rfl
 |panic =>
  simp only[ri,vZ,iB];split
  .simp only[Q8,nH,qr]
  .rename_i h;split
   .exact (h _ _ rfl).elim
   .rfl
end Go.Am
namespace Go.Am
section moves
variable{P:Kc}{b:Oa}{a:Act}{k:List Item}{cs cs':List Oa}{w w':Nl}{ops:Array Qa}{i:Nat}{rest:List Nat}{o:Qa}
def NN(ho:ops[i]? = B1 o)(v:Km):(b.atR a (.inRegion ops (i::rest)::k)).finish v=b.atR (a.put o.dst v) (.inRegion ops rest::k):=by
 rw[Oa.finish_atR,ho];rfl
def KY(ho:ops[i]? = B1 o)(hw:A8 o (yielded ops a.tmps)=B4){v:Km}(hr:(o.semAt b.roundOf a.eval).run P w=.ok (.value v) w') :
 step P (lone (b.atR a (.inRegion ops (i::rest)::k)) cs w)=.next (lone (b.atR (a.put o.dst v) (.inRegion ops rest::k)) cs w') :=
 step_lone_go (by rw[stepGR_op ho hw,<-NN ho];simp[C7,hr])
def OO(ho:ops[i]? = B1 o)(hw:A8 o (yielded ops a.tmps)=B4)(hr:(o.semAt b.roundOf a.eval).run P w=.ok .skip w') :
 step P (lone (b.atR a (.inRegion ops (i::rest)::k)) cs w)=.next (lone (b.atR (a.put o.dst undef) (.inRegion ops rest::k)) cs w') :=
 step_lone_go (by rw[stepGR_op ho hw,<-NN ho];simp[C7,hr])
def ah3(ho:ops[i]? = B1 o)(hw:A8 o (yielded ops a.tmps)=B4){d:Deferred}(hr:(o.semAt b.roundOf a.eval).run P w=.ok (.defer d) w') :
 step P (lone (b.atR a (.inRegion ops (i::rest)::k)) cs w)=.next (lone (b.atR (({a with defers:=d::a.defers}:Act).put o.dst undef) (.inRegion ops rest::k)) cs w'):=by
 refine step_lone_go ?_;have:({b.atR a (.inRegion ops (i::rest)::k)with defers:=d::a.defers}:Oa).finish undef =
  b.atR ({a with defers:=d::a.defers}.put o.dst undef) (.inRegion ops rest::k):=by
  have:=Oa.finish_atR b {a with defers:=d::a.defers} ops i rest k undef;rw[ho]at this;exact this
 rw[stepGR_op ho hw];simp only[C7,Sem.runT_eq,hr,GStep.bare_after];exact congrArg (λ fr=>GStep.go {frame:=fr,callers:=cs,status:=.running,dying:=B5} w') this
def Xg(ho:ops[i]? = B1 o)(hw:A8 o (yielded ops a.tmps)=B4){f:FuncId}{args:Array Km}(hr:(o.semAt b.roundOf a.eval).run P w=.ok (.enter f args) w') :
 step P (lone (b.atR a (.inRegion ops (i::rest)::k)) cs w)=.next (lone (Frame.enter P f args .normal) (b.atR a (.inRegion ops (i::rest)::k)::cs) w') :=
 step_lone_go (by rw[stepGR_op ho hw];simp[C7,hr,C1])
def Fc(ho:ops[i]? = B1 o)(hw:A8 o (yielded ops a.tmps)=B4){l:Nat}{f:FuncId}{tmps:Array Km}{as body:Code}(hr:(o.semAt b.roundOf a.eval).run P w=.ok (.round l f tmps as body) w') :
 step P (lone (b.atR a (.inRegion ops (i::rest)::k)) cs w)=.next (lone (Frame.round l f tmps as body .normal) (b.atR a (.inRegion ops (i::rest)::k)::cs) w') :=
 step_lone_go (by rw[stepGR_op ho hw];simp[C7,hr,C1])
def ag0(ho:ops[i]? = B1 o)(hw:A8 o (yielded ops a.tmps)=B4){v:Km}(hr:(o.semAt b.roundOf a.eval).run P w=.halt (.panic v) w') :
 step P (lone (b.atR a (.inRegion ops (i::rest)::k)) cs w)=.next (lone {b.atR a (.inRegion ops (i::rest)::k)with mode:=.panicking [{v,recovered:=B2}]} cs w') :=
 step_lone_go (by rw[stepGR_op ho hw,<-Ci];simp[C7,hr])
def xh4(ho:ops[i]? = B1 o)(hw:A8 o (yielded ops a.tmps)=B4)(hb:b.roundOf=B5)(hr:(o.semAt b.roundOf a.eval).run P w=.ok .recover w'){v:Km}
 (d:tryRecover (b.atR a (.inRegion ops (i::rest)::k)) cs=B1 (v,cs')) :
 step P (lone (b.atR a (.inRegion ops (i::rest)::k)) cs w)=.next (lone (b.atR (a.put o.dst v) (.inRegion ops rest::k)) cs' w') :=
 step_lone_go (by
  rw[stepGR_op ho hw,<-NN ho];have c:(b.atR a (.inRegion ops (i::rest)::k)).roundOf=none:=hb;simp[C7,hr,c,d])
def q3n(ho:ops[i]? = B1 o)(hw:A8 o (yielded ops a.tmps)=B4)(hb:b.roundOf=B5)(hr:(o.semAt b.roundOf a.eval).run P w=.ok .recover w')
 (d:tryRecover (b.atR a (.inRegion ops (i::rest)::k)) cs=B5) :
 step P (lone (b.atR a (.inRegion ops (i::rest)::k)) cs w)=.next (lone (b.atR (a.put o.dst .nilIface) (.inRegion ops rest::k)) cs w') :=
 step_lone_go (by
  rw[stepGR_op ho hw,<-NN ho];have c:(b.atR a (.inRegion ops (i::rest)::k)).roundOf=none:=hb;simp[C7,hr,c,d])
end moves
def rS(P:Kc)(base:Nat)(call:bY):Prop :=
 ∀(D:Nat->Prop)θ H w f vs(args:Array Km)up H' e up' kind cs,HR P base D θ H w->bL D θ vs args.toList->qZ D θ kind up cs->call f vs up H=B1 (e,up',H')->d9 D H.au H'.au ->
  (∃fn c,P.funcs[f]? = B1 fn/\fn.body=B1 c) /\
  ∃θ' w' cs' fr e',Steps P (lone (Frame.enter P f args kind) cs w) (lone fr cs' w')/\fr.kind=kind/\fr.fn=f/\fr.going P w' e'/\O2 (Up D H.au H'.au) θ' e e' /\
   HR P base (Up D H.au H'.au) θ' H' w'/\bD D H θ w H' θ' w'/\up'.isSome=up.isSome/\fC up cs cs'/\qZ (Up D H.au H'.au) θ' kind up' cs'
def xM(P:Kc)(base:Nat)(round:iT):Prop :=
 ∀(D:Nat->Prop)θ H w l vs(args:Array Km)H' e(c:Oa)cs,HR P base D θ H w->bL D θ vs args.toList->round vs l H=B1 (e,H')->d9 D H.au H'.au ->
  ∃f tmps as body,(Instr.yield (θ.b9 l) args).run P w=.ok (.round (θ.b9 l) f tmps as body) w /\
  ∃θ' w' fin,Steps P (lone (Frame.round (θ.b9 l) f tmps as body .normal) (c::cs) w) (lone fin cs w') /\
   (match e with
    | .ret v=>∃cv,VR (Up D H.au H'.au) θ' v cv/\fin=c.finish cv
    | .panic ch=>∃ps,ch≠[]/\fK (Up D H.au H'.au) θ' ch ps/\fin=c.raise ps) /\
   HR P base (Up D H.au H'.au) θ' H' w'/\bD D H θ w H' θ' w'
def im.heap:im->ar
 | .val _ _ _ H=>H
 | .panic _ H=>H
def JX(P:Kc)(base:Nat)(D:Nat->Prop)(θ:Th)(st:St)(b:Oa)(a:Act)(ops:Array Qa)(i:Nat)(rest:List Nat)(k:List Item)(cs:List Oa)(w:Nl)(o:Qa):im->Prop
 | .val v aZ up H'=>∃θ' w' c cs' ds,Steps P (lone (b.atR a (.inRegion ops (i::rest)::k)) cs w) (lone (b.atR (({a with defers:=ds}:Act).put o.dst c) (.inRegion ops rest::k)) cs' w') /\
  HR P base (Up D st.H.au H'.au) θ' H' w'/\bD D st.H θ w H' θ' w'/\VR (Up D st.H.au H'.au) θ' v c/\hC (Up D st.H.au H'.au) θ' aZ ds/\up.isSome=st.up.isSome /\
  qZ (Up D st.H.au H'.au) θ' b.kind up cs'/\fC st.up cs cs'
 | .panic ch H'=>∃θ' w' ps todo,Steps P (lone (b.atR a (.inRegion ops (i::rest)::k)) cs w) (lone {b.atR a todo with mode:=.panicking ps} cs w') /\
  HR P base (Up D st.H.au H'.au) θ' H' w'/\bD D st.H θ w H' θ' w'/\ch≠[]/\fK (Up D st.H.au H'.au) θ' ch ps
section
variable{P:Kc}{base:Nat}{D:Nat->Prop}{θ:Th}
def TW{fr:Oa}{w:Nl}{e:Ending}(h:fr.going P w e)(hk:fr.kind=.normal):fr.leaving P w e:=by
 cases e with
 |returned v=>have⟨d,f,g⟩:=h;exact⟨d,f,hk,g⟩
 |panicked c=>exact h
 |outgrown=>trivial
def O0{f:FuncId}{fn:Func}{c:Code}{args:Array Km}{w:Nl}(e:dW P)(d:P.funcs[f]? = B1 fn)(hb:fn.body=B1 c):(callFunc f args).run P w=.ok (.enter f args) w:=by
 simp[callFunc,d,hb,e.names f fn d]
def xjl{t:Ma}{name:String}{f:Nat}(h:yY P t name=B1 f)(v:Km)(w:Nl):(method (P.types.size+Made.depth) t v name).run P w=.ok (f,v) w:=by
 unfold yY at h;simp only[qj]at h;have⟨i,l,m,hm,h⟩:=h;split at h
 .cases h
 .rename_i g;simp only[qj]at h;have⟨p,hp,h⟩:=h;have e:m.path.toList=[]:=by
   have:m.path.isEmpty=true:=by simpa using g
   simpa using this
  obtain⟨n,hn⟩:∃n,P.types.size+Made.depth=n+1:=⟨P.types.size+99,rfl⟩
  rw[hn];have⟨q,j⟩:=p;have c:(typeInfo t).run P w=.ok i w:=by simp[typeInfo,l]
  simp only[method,Nn,c,N8,hm,e,follow,Q1,hp];cases hu:P.underlying t with
  |none=>rw[hu]at h;cases h
  |some d =>
   rw[hu]at h;have hr:∀wr,d=d->(receiverAt t (.val v) j wr).run P w=.ok v w/\q=f:=by
    intro wr _;cases d<;>cases j<;>simp only[reduceCtorEq,qk]at h<;>exact⟨by simp[receiverAt,yd hu,Place.get],h⟩
   simp[(hr _ rfl).1,(hr B5 rfl).2]
def Vb{call:bY}(hc:rS P base call){st:St}{b:Oa}{a:Act}{ops:Array Qa}{i:Nat}{rest:List Nat}{k:List Item}{cs:List Oa}{w:Nl}{o:Qa}
 (ho:ops[i]? = B1 o) (z:HR P base D θ st.H w) (x:hC D θ st.aZ a.defers) (hu:qZ D θ b.kind st.up cs) {f:Nat} {vs:List AV} {args:Array Km} (A:bL D θ vs args.toList)
 (hs:(∃fn c,P.funcs[f]? = B1 fn/\fn.body=B1 c)->step P (lone (b.atR a (.inRegion ops (i::rest)::k)) cs w)=.next (lone (Frame.enter P f args .normal) (b.atR a (.inRegion ops (i::rest)::k)::cs) w))
 {r:bH×ar} {u:Option aG} (hr:call f vs B5 st.H=B1 (r.1,u,r.2)) (y:d9 D st.H.au r.2.au) :
 JX P base D θ st b a ops i rest k cs w o (nH st.aZ st.up r):=by
 have⟨l,θ',w',cs',fr,e',m,q,B,s,g,n,h,C,t,p⟩:=hc D θ st.H w f vs args B5 r.2 r.1 u .normal (b.atR a (.inRegion ops (i::rest)::k)::cs) z A rfl hr y;have j:cs'=b.atR a (.inRegion ops (i::rest)::k)::cs:=t;subst j;have d:=hs l;have hl:=TW s q;have⟨e,H'⟩:=r;cases e with
 |ret v =>
  cases e' with
  |returned c =>
   refine⟨θ',w',c,cs,a.defers,.head d (m.trans (.one ?_)),n,h,g,hC.up h.ag Up.of x,rfl,qZ.up h.ag Up.of hu,fC.refl hu⟩;rw[step_leave_returned hl,NN ho]
  |panicked c=>exact g.elim
  |outgrown=>exact g.elim
 |panic ch =>
  cases e' with
  |returned c=>exact g.elim
  |panicked ps =>
   refine⟨θ',w',ps,.inRegion ops (i::rest)::k,.head d (m.trans (.one ?_)),n,h,g.1,g.2⟩;rw[step_leave_panicked hl,Ci]
  |outgrown=>exact g.elim
def S7{f:mA}{first cap:List AV}{c:Km}(h:VR D θ (.fn f first cap) c):∃x y:List Km,c=.func (fP θ f) x.toArray y.toArray/\bL D θ first x/\bL D θ cap y/\(∀θ',Ag D θ θ'->fP θ' f=fP θ f):=by
 refine⟨bS θ first,bS θ cap,h.now.symm,λ θ' ha=>?_,λ θ' ha=>?_,λ θ' ha=>?_⟩ <;>
 .have:=(h θ' ha).trans h.now.symm;simp only[aw,Value.func.injEq]at this
  first
  |exact this.1
  |(have:=this.2.1;simpa using this)
  |(have:=this.2.2;simpa using this)
set_option maxHeartbeats 1000000 in
def YN(hP:dW P){rt:RT}(E:rS P base rt.call)(V:xM P base rt.round)(hAP:rt.AP=aW P){o:Qa}{I:fJ}{xs:List N0}(B:sr P o xs I)(hdef:D4 o I)
 {ops:Array Qa} {i:Nat} {rest:List Nat} {a:Act} (ho:ops[i]? = B1 o) (hw:A8 o (yielded ops a.tmps)=B4) {st:St} {w:Nl} {b:Oa} {k:List Item} {cs:List Oa} {vs:List AV} {r:im}
 (J:HR P base D θ st.H w) (M:hC D θ st.aZ a.defers) (hu:qZ D θ b.kind st.up cs) (hb:Ar D θ b.roundOf rt.ctx.round) (R:bL D θ vs (xs.map a.eval)) (hr:iB rt st vs I=B1 r)
 (hf:d9 D st.H.au r.heap.au):JX P base D θ st b a ops i rest k cs w o r:=by
 have d:Up D st.H.au st.H.au=D:=Up.none;have U:I≠ .defer->I≠ .pure Op.fail->o.semAt b.roundOf a.eval=execOp a.eval o:=λ L W=>Bo _ _ _ (by
  rcases hdef with h|h|h
  .exact h
  .exact absurd h L
  .exact absurd h W)
 cases I with
 |pure f =>
  simp only[iB,qj,qk]at hr;obtain⟨v,s,rfl⟩:=hr;have⟨c,A,C⟩:=B D θ a.eval w vs v (SN a) R s;have g:o.semAt b.roundOf a.eval=execOp a.eval o:=U (by intro q;cases q) (by intro q;cases q;cases s);refine⟨θ,w,c,cs,a.defers,.one ?_,by rw[d];exact J,.refl _ _ _ _,by rw[d];exact C,by rw[d];exact M,rfl,by rw[d];exact hu,fC.refl hu⟩;rcases A with A|⟨A,rfl⟩
  .exact KY ho hw (by rw[g];exact A)
  .exact OO ho hw (by rw[g];exact A)
 |read f =>
  simp only[iB,qj,qk]at hr;obtain⟨v,s,rfl⟩:=hr;have⟨c,A,C⟩:=B base D θ st.H a.eval w vs v J R s;have g:o.semAt b.roundOf a.eval=execOp a.eval o:=U (by intro q;cases q) (by intro q;cases q);refine⟨θ,w,c,cs,a.defers,.one ?_,by rw[d];exact J,.refl _ _ _ _,by rw[d];exact C,by rw[d];exact M,rfl,by rw[d];exact hu,fC.refl hu⟩;rcases A with A|⟨A,rfl⟩
  .exact KY ho hw (by rw[g];exact A)
  .exact OO ho hw (by rw[g];exact A)
 |alloc f =>
  simp only[iB,qj,qk]at hr;obtain⟨⟨ob,mk⟩,s,rfl⟩:=hr;have⟨hown,w0,co,ext,c,A,C,X⟩:=B.1 D θ a.eval w vs ob mk (SN a) R s;have g:o.semAt b.roundOf a.eval=execOp a.eval o:=U (by intro q;cases q) (by intro q;cases q);have hn:¬D st.H.au:=hf _ (qm _) (zz _);have hag:=Th.hO θ st.H.au w0.heap.size 0 ext hn;have⟨e1,e2,e3⟩:=Th.eL θ st.H.au w0.heap.size 0 ext;have⟨k1,k2⟩:=X (Up D st.H.au (st.H.au+1)) (θ.add st.H.au w0.heap.size 0 ext) st.H.au hag Up.of (.inr ⟨qm _,zz _⟩) (by rw[e1,C.heap]) e2 e3;have hh0:HR P base D θ st.H w0:=J.draw C.heap;refine⟨θ.add st.H.au w0.heap.size 0 ext,w0.alloc co,c,cs,a.defers,.one (KY ho hw (by rw[g];exact A)),?_,?_,k2,hC.up hag Up.of M,rfl,qZ.up hag Up.of hu,fC.refl hu⟩
  .refine hh0.alloc hn ?_ ?_ (qm _) ?_ k1
   .rw [Dm];simp
   .intro j hj;rw[Dm,qt (KP hj)]
   .simp
  .exact (bD.draw (w:=w) (w':=w0) C.heap C.os C.tape C.output).trans (bD.alloc (w:=w0) hh0 hn _ _ _ _) (λ _ h=>h)
 |gN f =>
  simp only[iB,qj,qk]at hr;obtain⟨⟨v,H'⟩,s,rfl⟩:=hr;have⟨θ',w',c,A,C,X,g4⟩:=B.1 base D θ st.H a.eval w vs v H' J R s hf;have g:o.semAt b.roundOf a.eval=execOp a.eval o:=U (by intro q;cases q) (by intro q;cases q);refine⟨θ',w',c,cs,a.defers,.one ?_,C,X,g4,hC.up X.ag Up.of M,rfl,qZ.up X.ag Up.of hu,fC.refl hu⟩;rcases A with A|⟨A,rfl⟩
  .exact KY ho hw (by rw[g];exact A)
  .exact OO ho hw (by rw[g];exact A)
 |iq f =>
  obtain⟨c,fn,body,s,K,rfl,h3,h4⟩:=B;simp only[iB,cV,kz,qr,qj,qk]at hr;obtain⟨⟨e,u,H'⟩,hc,rfl⟩:=hr;have g:o.semAt b.roundOf a.eval=execOp a.eval o:=Bo _ _ _ (λ c'=>by rw[s];simp);refine Vb E ho J M hu (args:=c.args.map a.eval) (by simpa using R) (λ _=>Xg ho hw ?_) hc (by cases e<;>exact hf);rw[g];simp[execOp,s,resolve,K,Act.eval,Bb,invoke,O0 hP h3 h4]
 |ik =>
  obtain⟨c,x,s,K,rfl⟩:=B;have g:o.semAt b.roundOf a.eval=execOp a.eval o:=Bo _ _ _ (λ c'=>by rw[s];simp);simp only[iB]at hr;split at hr
  .rename_i f first cap args
   simp only[cV,kz,qr,qj,qk]at hr;obtain⟨⟨e,u,H'⟩,hc,rfl⟩:=hr;have⟨cf,ca,z,L,W⟩:=R.eC;simp only[jw,zx]at z;obtain⟨rfl,rfl⟩:=z;have⟨fi,ci,S,Z,q5,_⟩:=S7 L;refine Vb E ho J M hu (args:=(fi.toArray++c.args.map a.eval)++ci.toArray) ?_ (λ hfn=>Xg ho hw ?_) hc (by cases e<;>exact hf)
   .simpa using Z.app (W.app q5)
   .have ⟨fn,body,h3,h4⟩:=hfn;rw[g];simp[execOp,s,resolve,K,S,fP,Bb,invoke,O0 hP h3 h4]
  .rename_i l first args
   simp only[cV,qj,qk]at hr;obtain⟨⟨e,H'⟩,hc,rfl⟩:=hr;have⟨cf,ca,z,L,W⟩:=R.eC;simp only[jw,zx]at z;obtain⟨rfl,rfl⟩:=z;have⟨fi,ci,S,Z,q5,_⟩:=S7 L;have hf':d9 D st.H.au H'.au:=by cases e<;>exact hf
   have⟨f,tmps,as,body,A,θ',w',fin,C,X,g4,g5⟩:=V D θ st.H w l (first++args) (fi.toArray++c.args.map a.eval) H' e (b.atR a (.inRegion ops (i::rest)::k)) cs J (by simpa using Z.app W) hc hf';have N:=Fc (P:=P) (b:=b) (k:=k) (cs:=cs) (w:=w) (rest:=rest) ho hw (l:=θ.b9 l) (f:=f) (tmps:=tmps) (as:=as) (body:=body) (w':=w) (by
    rw[g];simp[execOp,s,resolve,K,S,fP,Bb,invoke,A])
   cases e with
   |ret v =>
    obtain⟨cv,k1,rfl⟩:=X;refine⟨θ',w',cv,cs,a.defers,.head N ?_,g4,g5,k1,hC.up g5.ag Up.of M,rfl,qZ.up g5.ag Up.of hu,fC.refl hu⟩;rw[NN ho]at C;exact C
   |panic ch =>
    obtain⟨Y,k0,k1,rfl⟩:=X;refine⟨θ',w',Y,.inRegion ops (i::rest)::k,.head N ?_,g4,g5,k0,k1⟩;rw[Ci]at C;exact C
  .cases hr
 |invoke m =>
  obtain⟨c,x,s,K,rfl⟩:=B;have g:o.semAt b.roundOf a.eval=execOp a.eval o:=Bo _ _ _ (λ c'=>by rw[s];simp);simp only[iB]at hr;split at hr
  .rename_i t v args;simp only[cV,kz,qr,qj,qk]at hr;obtain⟨f,hm,⟨e,u,H'⟩,hc,rfl⟩:=hr;have⟨cf,ca,z,L,W⟩:=R.eC;simp only[jw,zx]at z;obtain⟨rfl,rfl⟩:=z;have⟨cv,S,Z⟩:=L.mr;rw[hAP]at hm;have hm':yY P t m=B1 f:=hm;refine Vb E ho J M hu (args:=#[cv]++c.args.map a.eval) (by simpa using bL.cons Z W) (λ hfn=>Xg ho hw ?_) hc (by cases e<;>exact hf);have⟨fn,body,h3,h4⟩:=hfn;rw[g];have hx:(#[Km.iface t cv]++c.args.map a.eval)[0]? = B1 (.iface t cv):=by
    rw[Array.getElem?_append];simp
   have hx2:(#[Km.iface t cv]++c.args.map a.eval).extract 1 (#[Km.iface t cv]++c.args.map a.eval).size=c.args.map a.eval:=by
    apply Hf;rw[Array.toList_extract,Array.toList_append];simp[List.extract,zp]
   simp only[execOp,s,resolve,K,Nn,Q1,N8,invoke,S,hx,hx2,callMethod,program,Sem.run,xjl hm',O0 hP h3 h4]
  .cases hr
 |recover =>
  obtain⟨c,s,K,rfl⟩:=B;have g:o.semAt b.roundOf a.eval=execOp a.eval o:=Bo _ _ _ (λ c'=>by rw[s];simp);simp only[iB]at hr;split at hr
  .cases hr
  .rename_i F;rw[F]at hb;have hb:b.roundOf=none:=hb;have G:(o.semAt b.roundOf a.eval).run P w=.ok .recover w:=by
    rw[g];have⟨cc,hE⟩:=L7 (ρ:=a.eval) s K;rw[hE];rfl
   split at hr
   .split at hr
    .rename_i v older O;cases hr;rw[O]at hu;cases cs with
     |nil=>exact hu.elim
     |cons c0 kC =>
      have⟨hk,hm⟩:=hu;cases n:c0.mode with
      |run=>rw[n]at hm;exact hm.elim
      |returning=>rw[n]at hm;cases hm
      |panicking Y =>
       rw[n]at hm;have⟨_,hm⟩:=hm;cases Y with
       |nil=>exact hm.elim
       |cons p Y =>
        have⟨⟨m1,m2,m3⟩,m4⟩:=hm;have⟨pv,pr,pg⟩:=p;simp only at m1 m2 m3;subst m2;subst m3;refine⟨θ,w,pv,{c0 with mode:=.panicking ({v:=pv,recovered:=B4}::Y)}::kC,a.defers,.one ?_,by rw[d];exact J,.refl _ _ _ _,by rw[d];exact m1,by rw[d];exact M,by rw[O];rfl,?_,?_⟩
        .refine xh4 ho hw hb G ?_;simp[tryRecover,C1,hk,n]
        .rw [d];exact⟨hk,by simp,⟨m1,rfl,rfl⟩,m4⟩
        .rw [O];exact⟨_,rfl⟩
    .rename_i O;cases hr;refine⟨θ,w,.nilIface,cs,a.defers,.one (q3n ho hw hb G ?_),by rw[d];exact J,.refl _ _ _ _,λ _ _=>rfl,by rw[d];exact M,rfl,by rw[d];exact hu,fC.refl hu⟩;unfold tryRecover;cases Q:st.up with
     |none =>
      rw[Q]at hu;have hk:b.kind=.normal:=hu;simp[C1,hk]
     |some ch =>
      rw[Q]at hu;cases cs with
      |nil=>exact hu.elim
      |cons c0 kC =>
       have⟨hk,hm⟩:=hu;cases n:c0.mode with
       |run=>rw[n]at hm;exact hm.elim
       |returning=>simp[C1,hk,n]
       |panicking Y =>
        rw[n]at hm;have⟨_,hm⟩:=hm;cases Y with
        |nil=>simp[C1,hk,n]
        |cons p Y =>
         cases ch with
         |nil=>exact hm.elim
         |cons e es =>
          have⟨⟨m1,m2,m3⟩,m4⟩:=hm;have⟨pv,pr,pg⟩:=p;have⟨ev,er⟩:=e;simp only at m2 m3;subst m2;subst m3;cases pr with
          |false=>exact absurd Q (O _ _)
          |true=>simp[C1,hk,n]
   .cases hr
 |defer =>
  obtain⟨c,x,s,K,rfl⟩:=B;simp only[iB]at hr;split at hr
  .cases hr
  .rename_i F;rw[F]at hb;have hb:b.roundOf=none:=hb;split at hr
   .rename_i f first cap args
    cases hr;have⟨cf,ca,z,L,W⟩:=R.eC;simp only[jw,zx]at z;obtain⟨rfl,rfl⟩:=z;have⟨fi,ci,S,Z,q5,q6⟩:=S7 L;refine⟨θ,w,undef,cs,{target:=.fn (.func f) ci.toArray,args:=fi.toArray++c.args.map a.eval}::a.defers,.one ?_,by rw[d];exact J,.refl _ _ _ _,.undef,?_,rfl,by rw[d];exact hu,fC.refl hu⟩
    .refine ah3 ho hw ?_;rw[hb,Qa.semAt_none];simp[execOp,s,resolve,K,S,fP,Bb]
    .rw [d];exact⟨⟨_,_,rfl,λ _ _=>rfl,by simpa using Z.app (W.app q5)⟩,M⟩
   .cases hr
 |panic =>
  simp only[iB]at hr;split at hr
  .rename_i t v;cases hr;obtain⟨x,rfl,L⟩:=R.qB;have⟨cv,S,Z⟩:=L.mr;have G:(o.semAt b.roundOf a.eval).run P w=.halt (.panic (a.eval x)) w:=by
    rcases B with⟨y,s,hy⟩|⟨c,s,K,hy⟩
    .simp only[zx,sj]at hy;subst hy;rw[Bo _ _ _ (λ c'=>by rw[s];simp)];simp[execOp,s,S,Instr.panic,goPanic]
    .rw [Bo _ _ _ (λ c'=>by rw[s];simp)];have⟨cc,hE⟩:=L7 (ρ:=a.eval) s K;rw[hE,AL hy.symm];simp[builtin,S,Instr.panic,goPanic]
   refine⟨θ,w,[{v:=a.eval x,recovered:=B2}],.inRegion ops (i::rest)::k,.one (ag0 ho hw G),by rw[d];exact J,.refl _ _ _ _,by simp,?_⟩;rw[d];exact⟨⟨L,rfl,rfl⟩,trivial⟩
  .cases hr
end
end Go.Am
namespace Go.Am
def dt(s:aO)(tm:T AV):Option Bool :=
 match s.guard with
 |none=>B1 B4
 |some g=>cP g.2 (tm.get g.1)
def Ww(s:aO)(hc:s.ij=B2)(rt:RT)(K:St->gQ)(st:St) :
 (gR s).run rt K st=(dt s st.tm).bind λ w=>cond w ((mB st.tm s.args).bind λ vs=>(iB rt st vs s.op).bind (u6 (eH s.dst) s.cA st K)) (K ⟨eH s.dst .undef st.tm,st.aZ,st.up,st.H⟩):=by
 have c:(lM s.dst).run=eH s.dst:=by funext v tm;exact ZD _ _ _
 unfold gR dt;rw[hc];cases hg:s.guard with
 |none=>simp only[qr,xw,Hl,xmm,c]
 |some g=>simp only[Hl,xmm,c,T.jT,T.get]
def lx(s:aO)(hc:s.ij=B4){d:Nat}(e:s.dst=B1 d)(rt:RT)(K:St->gQ)(st:St) :
 (gR s).run rt K st=(dt s st.tm).bind λ w=>cond w ((mB st.tm s.args).bind λ vs=>cond (rL (λ t=>t.get d) st vs s.op) (K st) B5) (K st):=by
 have c:(T.oP (α:=AV) (T.path d)).run=λ t=>t.get d:=by funext t;exact T.jT _ _
 unfold gR dt;rw[hc,e];cases hg:s.guard with
 |none=>simp only[qr,xw,Hl,c]
 |some g =>
  simp only[Hl,c];rw[show(T.oP (T.path g.1)).run st.tm=st.tm.get g.1 from T.jT _ _]
def _G(s:aO)(hc:s.ij=B4)(c:s.dst=B5)(rt:RT)(K:St->gQ)(st:St):(gR s).run rt K st=none:=by
 unfold gR;rw[hc,c];cases s.guard<;>rfl
def pX(call:bY):Prop:=∀f vs up H e up' H',call f vs up H=B1 (e,up',H')->Ext H H'
def Af(round:iT):Prop:=∀vs l H e H',round vs l H=B1 (e,H')->Ext H H'
def ua:ai->Prop
 | .region steps=>∀s∈steps,dE s.op
 | .seq a b=>ua a/\ua b
 | .cond _ a b=>ua a/\ua b
 | .block _ b=>ua b
 | .loop _ b=>ua b
 | .scope b=>ua b
 |_=>True
def af6(fn:bV):Prop:=ua fn.body /\ ∀lp∈fn.loops,ua lp.assign/\ua lp.body
def Tc(AP:jQ):Prop:=∀f fn,AP.func f=B1 fn->af6 fn
section
variable{rt:RT}(hc:pX rt.call)(hr:Af rt.round)
include hc hr
def VI{op:fJ}(ho:dE op){st:St}{vs:List AV}{r:im}(h:iB rt st vs op=B1 r):Ext st.H r.heap:=by
 have c:∀(q:bH×ar),Ext st.H q.2->Ext st.H (nH st.aZ st.up q).heap:=by
  intro q g;have⟨e,H'⟩:=q;cases e<;>exact g
 cases op with
 |pure f=>simp only[iB,qj,qk]at h;obtain⟨_,_,rfl⟩:=h;exact Ext.refl _
 |read f=>simp only[iB,qj,qk]at h;obtain⟨_,_,rfl⟩:=h;exact Ext.refl _
 |alloc f=>simp only[iB,qj,qk]at h;obtain⟨⟨j,mk⟩,d,rfl⟩:=h;exact Ext.alloc _ _ (ho _ _ _ d)
 |gN f=>simp only[iB,qj,qk]at h;obtain⟨⟨v,H'⟩,d,rfl⟩:=h;exact ho _ _ _ _ d
 |iq f =>
  simp only[iB,cV,kz,qr,qj,qk]at h;obtain⟨⟨e,u,H'⟩,d,rfl⟩:=h;exact c _ (hc _ _ _ _ _ _ _ d)
 |ik =>
  simp only[iB]at h;split at h
  .simp only[cV,kz,qr,qj,qk]at h;obtain⟨⟨e,u,H'⟩,d,rfl⟩:=h;exact c _ (hc _ _ _ _ _ _ _ d)
  .simp only[cV,qj,qk]at h;obtain⟨⟨e,H'⟩,d,rfl⟩:=h;exact c _ (hr _ _ _ _ _ d)
  .cases h
 |invoke m =>
  simp only[iB]at h;split at h
  .simp only[cV,kz,qr,qj,qk]at h;obtain⟨_,_,⟨e,u,H'⟩,d,rfl⟩:=h;exact c _ (hc _ _ _ _ _ _ _ d)
  .cases h
 |recover =>
  simp only[iB]at h;split at h
  .cases h
  .split at h
   .split at h<;>(cases h;exact Ext.refl _)
   .cases h
 |defer =>
  simp only[iB]at h;split at h
  .cases h
  .split at h
   .cases h;exact Ext.refl _
   .cases h
 |panic =>
  simp only[iB]at h;split at h
  .cases h;exact Ext.refl _
  .cases h
def xg9{op:fJ}(ho:dE op){st:St}{vs:List AV}{r:im}(h:iB rt st vs op=B1 r):st.H.au<=r.heap.au:=(VI hc hr ho h).1
def xm6{s:aO}(ho:dE s.op){K:St->gQ}(f:∀st r,K st=B1 r->Ext st.H r.2.H){st:St}{r:aX×St}(h:(gR s).run rt K st=B1 r):Ext st.H r.2.H:=by
 cases e:s.ij with
 |false =>
  rw[Ww s e,qj]at h;have⟨w,hw,h⟩:=h;cases w with
  |false =>
   simp only[zm]at h;have l:=f _ _ h;exact l
  |true =>
   simp only[xw,qj]at h;have⟨vs,_,q,m,h⟩:=h;have g:=VI hc hr ho m;cases q with
   |val v d u H'=>exact Ext.trans g (f _ _ h)
   |panic c H' =>
    simp only[u6,qj,qk]at h;obtain⟨_,_,rfl⟩:=h;exact g
 |true =>
  cases j:s.dst with
  |none=>rw[_G s e j]at h;cases h
  |some d =>
   rw[lx s e j,qj]at h;have⟨w,hw,h⟩:=h;cases w with
   |false =>
    simp only[zm]at h;exact f _ _ h
   |true =>
    simp only[xw,qj]at h;have⟨vs,_,h⟩:=h;rcases yj h with⟨_,h⟩|⟨_,h⟩
    .exact f _ _ h
    .cases h
def Wn:∀{l:List aO},(∀s∈l,dE s.op) -> ∀{st:St}{r:aX×St},(gW l).run rt st=B1 r->Ext st.H r.2.H
 |[],_,st,r,h=>by cases h;exact Ext.refl _
 |s::l,ho,st,r,h=>xm6 hc hr (ho s (by simp)) (λ st r h=>Wn (λ s hs=>ho s (by simp[hs])) h) h
def xf1{l:List aO}(hl:∀s∈l,dE s.op){st:St}{r:aX×St}(h:(gW l).run rt st=B1 r):st.H.au<=r.2.H.au:=(Wn hc hr hl h).1
omit hc hr in
def XQ{body:St->gQ}(hb:∀st r,body st=B1 r->Ext st.H r.2.H)(ah:Option (List Nat)):∀(n:Nat)(st:St)(r:aX×St),gT ah body n st=B1 r->Ext st.H r.2.H
 |0,st,r,h=>by cases h
 |n+1,st,r,h=>by
  simp only[gT,qj]at h;have⟨q,d,h⟩:=h;have c:=hb _ _ d;have c:Ext st.H q.2.H:=by cases ah<;>exact c
  split at h
  .exact Ext.trans c (XQ hb ah n _ _ h)
  .cases h;exact c
omit hc hr in
def xi1{body:St->gQ}(hb:∀st r,body st=B1 r->Ext st.H r.2.H)(ah:Option (List Nat))(n:Nat)(st:St)(r:aX×St)(h:gT ah body n st=B1 r):st.H.au<=r.2.H.au:=(XQ hb ah n st r h).1
omit hr in
def YG{st:St}{k:Nat}{H0:ar}{aZ:List aM}{d:Nat}{v:AV}{r:aX×St}(f:Ext st.H H0)(h:jB rt.call rt.round rt.ctx st k H0 aZ d v=B1 r):Ext st.H r.2.H:=by
 unfold jB at h;split at h
 .simp only[cV,kz,qr,qj]at h;have⟨⟨e,u,H'⟩,g,h⟩:=h;have c:=(f.trans (Ext.alloc _ _ rfl)).trans (hc _ _ _ _ _ _ _ g);unfold N9 at h;split at h
  .cases h;exact c
  .split at h
   .cases h
   .rename_i hg;cases h;exact c.trans (Ext.set hg _ (λ _=>rfl))
   .cases h
 .cases h
omit hr in
def xfn{st:St}{k:Nat}{H0:ar}{aZ:List aM}{d:Nat}{v:AV}{r:aX×St}(c:Ext st.H H0)(h:jB rt.call rt.round rt.ctx st k H0 aZ d v=B1 r):st.H.au<=r.2.H.au:=(YG hc c h).1
def AX:∀{c:ai},ua c -> ∀{st:St}{r:aX×St},(bG c).run rt st=B1 r->Ext st.H r.2.H
 | .skip,_,st,r,h=>by cases h;exact Ext.refl _
 | .label _,_,st,r,h=>by cases h;exact Ext.refl _
 | .region steps,hm,st,r,h=>Wn hc hr hm h
 | .seq a b,hm,st,r,h=>by
  simp only[bG,qj]at h;have⟨q,g,h⟩:=h;have e:=AX hm.1 g;unfold uR at h;split at h
  .exact Ext.trans e (AX hm.2 h)
  .cases h;exact e
 | .cond c a b,hm,st,r,h=>by
  simp only[bG,qj]at h;have⟨v,j,h⟩:=h;unfold uD at h;split at h
  .rcases yj h with⟨_,h⟩|⟨_,h⟩
   .exact AX hm.1 h
   .exact AX hm.2 h
  .cases h
 | .block id b,hm,st,r,h=>by
  simp only[bG,qj]at h;have⟨q,g,h⟩:=h;have e:=AX (c:=b) hm g;unfold kM at h;split at h<;>(cases h;exact e)
 | .loop ah b,hm,st,r,h=>XQ (λ st r h=>AX (c:=b) hm h) ah _ _ _ h
 | .exit _,_,st,r,h=>by cases h;exact Ext.refl _
 | .goto _,_,st,r,h=>by cases h;exact Ext.refl _
 | .ret,_,st,r,h=>by cases h;exact Ext.refl _
 | .stuck,_,st,r,h=>by cases h
 | .scope b,hm,st,r,h=>by
  simp only[bG,qj]at h;have⟨q,g,h⟩:=h;have e:=AX (c:=b) hm g;unfold lW at h;split at h
  .rcases yj h with⟨_,h⟩|⟨_,h⟩
   .cases h
   .cases h;exact e
  .cases h;exact e
 | .rangeFunc f k,_,st,r,h=>by
  simp only[bG,qj]at h;have⟨v,j,h⟩:=h;unfold rE at h;split at h
  .exact YG hc (Ext.alloc _ _ rfl) h
  .simp only[qj]at h;have⟨d,_,h⟩:=h;exact YG hc (Ext.refl _) h
def N7{c:ai}(hm:ua c){st:St}{r:aX×St}(h:(bG c).run rt st=B1 r):st.H.au<=r.2.H.au:=(AX hc hr hm h).1
end
def T2{call:bY}(hc:pX call){rs:List ei}{tm:T AV}:∀{ds:List aM}{m:Option aG}{H:ar}{r:bH×ar},cm call rs tm ds m H=B1 r->Ext H r.2
 |[],B5,H,r,h=>by
  simp only[cm,qj,qk]at h;obtain⟨_,_,rfl⟩:=h;exact Ext.refl _
 |[],B1 c,H,r,h=>by cases h;exact Ext.refl _
 | .jJ b::ds,m,H,r,h=>by
  simp only[cm]at h;split at h
  .rename_i hg;exact(Ext.set hg _ (λ _=>rfl)).trans (T2 (H:=H.set b _) hc h)
  .cases h
 | .fn (.func f) args::ds,m,H,r,h=>by
  simp only[cm,qj]at h;have⟨⟨e,u,H'⟩,d,h⟩:=h;have g:=hc _ _ _ _ _ _ _ d;split at h
  .simp only[qj]at h;have⟨j,_,h⟩:=h;exact Ext.trans g (T2 hc h)
  .cases h
 | .fn (.yield _) _::_,_,_,_,h=>by simp[cm]at h
def i'{call:bY}(hc:pX call){rs:List ei}{tm:T AV}{ds:List aM}{m:Option aG}{H:ar}{r:bH×ar}(h:cm call rs tm ds m H=B1 r):H.au<=r.2.au:=(T2 hc h).1
def xfv{H H':ar}{l:Nat}{s:mV}{p:Option ic}(h:cO H l s p=B1 H'):Ext H H':=by
 unfold cO at h;split at h
 .rename_i hg;cases h;exact Ext.set hg _ (λ _=>rfl)
 .cases h
def q6m{H H':ar}{l:Nat}(h:beginRound H l=B1 H'):Ext H H':=by
 unfold beginRound at h;split at h
 .rename_i hg;cases h;exact Ext.set hg _ (λ _=>rfl)
 .cases h
def xdn{H H':ar}{l:Nat}{s:mV}{p:Option ic}(h:cO H l s p=B1 H'):H'.au=H.au:=by
 unfold cO at h;split at h
 .cases h;rfl
 .cases h
def q3q{H H':ar}{l:Nat}(h:beginRound H l=B1 H'):H'.au=H.au:=by
 unfold beginRound at h;split at h
 .cases h;rfl
 .cases h
def Ug{AP:jQ}(hp:Tc AP){call:bY}(hc:pX call)(m:Nat):∀n,Af (rounds AP call m n)
 |0=>λ vs l H e H' h=>by cases h
 |n+1=>λ vs l H e H' h=>by
  have u:=Ug hp hc m n;simp only[rounds,roundOf]at h;split at h
  .rename_i st C f k tm d hg;simp only[qj]at h;have⟨fn,r,lp,g,A,_,q,y,h⟩:=h;have c:ua lp.assign/\ua lp.body:=(hp f fn r).2 lp (by rw[kE]at g;exact zj g);have j:=AX (rt:=⟨AP,call,rounds AP call m n,m,⟨B1 l,f⟩⟩) hc u c.1 y;have j:Ext H q.2.H:=j;split at h
   .simp only[qj]at h;have⟨v,hb,z,s,h⟩:=h;have p:=AX (rt:=⟨AP,call,rounds AP call m n,m,⟨B1 l,f⟩⟩) hc u c.2 s;have p:Ext v z.2.H:=p;have t:=(j.trans (q6m hb)).trans p;rcases yj h with⟨_,h⟩|⟨_,h⟩
    .unfold Gn at h;split at h
     .injection h with h;injection h with _ h;subst h
      exact t
     .simp only[qj,qk,zf]at h;obtain⟨B,x,_,rfl⟩:=h;exact t.trans (xfv x)
    .cases h
   .cases h
  .cases h
def xa0{AP:jQ}(hp:Tc AP){call:bY}(j:pX call)(n:Nat):pX (Iz AP call n) :=
 λ f vs up H e l H' h=>by
  simp only[Iz,qj]at h;have⟨fn,g,q,p,h⟩:=h;have d:=AX (rt:=⟨AP,call,rounds AP call n n,n,⟨B5,f⟩⟩) j (Ug hp j n n) (hp f fn g).1 p;have d:Ext H q.2.H:=d;have c:∀m,((cm call fn.results q.2.tm q.2.aZ m q.2.H).bind λ z=>B1 (z.1,q.2.up,z.2))=B1 (e,l,H')->Ext H H':=by
   intro m h;simp only[qj,qk,zf]at h;obtain⟨z,r,_,_,rfl⟩:=h;exact Ext.trans d (T2 j r)
  unfold qG at h;split at h
  .exact c _ h
  .exact c _ h
  .exact c _ h
  .cases h
def _C{AP:jQ}(hp:Tc AP){told:bY}(c:pX told):∀n,pX (kI AP told n)
 |0=>c
 |n+1=>λ f vs up H e d H' h=>by
  simp only[kI]at h;split at h
  .rename_i r hr;cases h;exact c _ _ _ _ _ _ _ hr
  .exact xa0 hp (_C hp c n) n _ _ _ _ _ _ _ h
end Go.Am
namespace Go.Am
abbrev oR:Machine->Prop:=λ _=>True
structure SR(P:Kc)(base:Nat)(D:Nat->Prop)(θ:Th)(b:Oa)(nt:Nat)(rd:Option Nat)(st:St)(a:Act)(cs:List Oa)(w:Nl):Prop where
 heap:HR P base D θ st.H w
 uX:pW D θ st.tm a.tmps
 size:nt<=a.tmps.size
 aZ:hC D θ st.aZ a.defers
 up:qZ D θ b.kind st.up cs
 round:Ar D θ b.roundOf rd
def Out(P:Kc)(base:Nat)(D:Nat->Prop)(θ:Th)(b:Oa)(nt:Nat)(rd:Option Nat)(k:List Item)(st:St)(cs:List Oa)(w:Nl)(m:Machine)(e:aX)(st':St):Prop :=
 ∃θ' a' w' cs' e',ArrivesIn oR P m b k cs' e' a' w'/\SR P base (Up D st.H.au st'.H.au) θ' b nt rd st' a' cs' w'/\bD D st.H θ w st'.H θ' w'/\Ed (Up D st.H.au st'.H.au) θ' e e' /\
  st'.up.isSome=st.up.isSome/\fC st.up cs cs'
section
variable{P:Kc}{base:Nat}{D:Nat->Prop}{θ:Th}
def Out.after{b:Oa}{l:Nat}{rd:Option Nat}{k:List Item}{st cW c:St}{cs d:List Oa}{w w1:Nl}{m j:Machine}{e:aX}{θ1:Th}(hs:Steps P m j)
 (hg:bD D st.H θ w cW.H θ1 w1) (hu:cW.up.isSome=st.up.isSome) (t:fC st.up cs d) (hn:cW.H.au<=c.H.au)
 (h:Out P base (Up D st.H.au cW.H.au) θ1 b l rd k cW d w1 j e c):Out P base D θ b l rd k st cs w m e c:=by
 have⟨θ',n,w',cs',e',p,f,q,g,r,s⟩:=h;rw[Up.up hg.au hn]at f g;exact⟨θ',n,w',cs',e',.of_steps (Bp hs) p,f,hg.trans q Up.of,g,r.trans hu,fC.trans hu t s⟩
def zS{α:Type}:∀{l:List (Option α)}{r:List α},du l=B1 r->r.length=l.length /\ ∀(i:Nat)(x:α),r[i]? = B1 x->l[i]? = B1 (B1 x)
 |[],r,h=>by cases h;exact⟨rfl,λ i x c=>by simp at c⟩
 |y::l,r,h=>by
  simp only[du,qj,qk]at h;obtain⟨a,rfl,f,hl,rfl⟩:=h;have⟨d,e⟩:=zS hl;refine⟨by simp[d],λ i x c=>?_⟩;cases i with
  |zero=>simpa using c
  |succ i=>simpa using e i x (by simpa using c)
def Nr{ops:Array Qa}{l:List (List bJ×fJ)}{safe:Nat->Option (List Nat)}{q:Bool×Nat}{s:aO}(h:jL ops l safe q=B1 s) :
 ∃o a g,ops[q.2]? = B1 o/\l[q.2]? = B1 a/\guardOf ops o.guard=B1 g/\s = {ij:=q.1,dst:=o.dst,guard:=g,args:=a.1,op:=a.2,cA:=safe q.2}:=by
 simp only[jL,qj,qk]at h;obtain⟨o,ho,a,ha,g,hg,rfl⟩:=h;exact⟨o,a,g,ho,ha,hg,rfl⟩
def Xq{ops:Array Qa}{o:Qa}{s:aO}(hg:guardOf ops o.guard=B1 s.guard){tm:T AV}{a:Array Km}(m:pW D θ tm a){q:Bool}(h:dt s tm=B1 q) :
 A8 o (yielded ops a)=q:=by
 unfold dt at h;unfold A8;cases ho:o.guard with
 |none =>
  rw[ho]at hg;injection hg with hg
  rw[<-hg]at h;injection h
 |some g =>
  have⟨j,want⟩:=g;rw[ho]at hg;simp only[guardOf,qj,qk]at hg;have⟨t,⟨r,f,l⟩,hg⟩:=hg;rw[<-hg]at h;simp only at h;have n:((ops[j]?).bind (·.dst)).bind (a[·]?)=a[t]?:=by rw[f];simp[l]
  simp only[yielded,n];unfold cP at h;split at h
  .rename_i p hp;have⟨c,d,e⟩:=m t _ hp;injection h with h
   rw[d,<-e.now];simp only[aw];cases p<;>cases want<;>cases q<;>simp_all
  .rename_i hp;have⟨c,d,e⟩:=m t _ hp;injection h with h
   rw[d,<-e.now];simp only[aw];subst h;rfl
  .cases h
def Jl{e:Nat}{tm:T AV}{a:Act}{dst:Option Nat}(g:∀d,dst=B1 d->d<e)(hs:e<=a.tmps.size)(f:pW D θ tm a.tmps){v:AV}{c:Km}(h:VR D θ v c) :
 pW D θ (eH dst v tm) (a.put dst c).tmps/\e<=(a.put dst c).tmps.size/\(a.put dst c).defers=a.defers:=by
 cases dst with
 |none=>exact⟨f,hs,rfl⟩
 |some d =>
  refine⟨f.put (qn (g d rfl) hs) h,?_,rfl⟩
  simpa[Act.put]using hs
def xjt(hP:dW P){rt:RT}(x:rS P base rt.call)(n:xM P base rt.round)(O:rt.AP=aW P)(R:pX rt.call)(V:Af rt.round)
 {ops:Array Qa} {o:Qa} {i:Nat} {rest:List Nat} {s:aO} {ca:List bJ×fJ} (ho:ops[i]? = B1 o) (Q:gy P o=B1 ca) (hg:guardOf ops o.guard=B1 s.guard) (h1:s.ij=B2) (h2:s.dst=o.dst) (h3:s.args=ca.1) (h4:s.op=ca.2)
 {b:Oa} {y:Nat} (g:pC y o=B4) {k:List Item} {st:St} {a:Act} {cs:List Oa} {w:Nl} (e:SR P base D θ b y rt.ctx.round st a cs w) {K:St->gQ} {r:aX×St}
 (A:∀st r,K st=B1 r->st.H.au<=r.2.H.au) (h:(gR s).run rt K st=B1 r) (S:d9 D st.H.au r.2.H.au)
 (j:∀I θ1 cW a1 t w1,SR P base I θ1 b y rt.ctx.round cW a1 t w1->K cW=B1 r->d9 I cW.H.au r.2.H.au->Out P base I θ1 b y rt.ctx.round k cW t w1 (lone (b.atR a1 (.inRegion ops rest::k)) t w1) r.1 r.2) :
 Out P base D θ b y rt.ctx.round k st cs w (lone (b.atR a (.inRegion ops (i::rest)::k)) cs w) r.1 r.2:=by
 have B:∀d,o.dst=B1 d->d<y:=by
  intro d hd;unfold pC at g;rw[hd]at g
  simpa[uH]using g
 rw[Ww s h1,qj]at h;have⟨q,hq,h⟩:=h;have m:=Xq hg e.uX hq;cases q with
 |false =>
  simp only[zm]at h;have⟨X,Y,Z⟩:=Jl (dst:=o.dst) B e.size e.uX (VR.undef (D:=D) (θ:=θ));rw[h2]at h;have hn:=A _ _ h;have F:=stepR_op_skip (P:=P) (b:=b) (a:=a) (k:=k) (cs:=cs) (w:=w) (ops:=ops) (i:=i) (rest:=rest) (by simp[ho,m]);rw[ho]at F;refine Out.after (.one F) (bD.refl D st.H θ w) rfl (fC.refl e.up) hn ?_;rw[Up.none];exact j D θ ⟨eH o.dst .undef st.tm,st.aZ,st.up,st.H⟩ _ cs w ⟨e.heap,X,Y,by rw[show(a.put ((B1 o).bind (·.dst)) undef).defers=a.defers from Z];exact e.aZ,e.up,e.round⟩ h S
 |true =>
  simp only[xw,qj]at h;have⟨vs,G,res,l,h⟩:=h;have⟨xs,W,E,C⟩:=OK hP Q;rw[h3]at G;rw[h4]at l;have hv:=Kb (a:=a) e.heap e.uX W G;have U:=xg9 R V E.mono l;have hle:res.heap.au<=r.2.H.au:=by
   cases res with
   |val v d u H'=>exact A _ _ h
   |panic c H' =>
    simp only[u6,qj,qk]at h;obtain⟨_,_,rfl⟩:=h;exact qm _
  have p:=YN hP x n O E C (rest:=rest) (k:=k) ho m e.heap e.aZ e.up e.round hv l (S.left hle);cases res with
  |val v d u H' =>
   have⟨θ',w',c,cs',ds,J,L,z,M,N,g6,g7,g8⟩:=p;simp only[u6,h2]at h;have f:=z.ag;have⟨X,Y,Z⟩:=Jl (a:={a with defers:=ds}) (dst:=o.dst) B e.size (e.uX.up f Up.of) M;refine Out.after (cW:=⟨eH o.dst v st.tm,d,u,H'⟩) J z g6 g8 hle ?_;exact j _ θ' _ _ cs' w' ⟨L,X,Y,by rw[Z];exact N,g7,Ar.up f Up.of e.round⟩ h (S.right U)
  |panic c H' =>
   have⟨θ',w',ps,todo,J,L,z,M,N⟩:=p;simp only[u6,qj,qk]at h;obtain⟨ds,hds,rfl⟩:=h;have f:=z.ag;refine⟨θ',a,w',cs,.panic ps,⟨todo,Bp J⟩,⟨L,pW.forget ds (e.uX.up f Up.of),e.size,hC.up f Up.of e.aZ,qZ.up f Up.of e.up,Ar.up f Up.of e.round⟩,z,⟨M,N⟩,rfl,fC.refl e.up⟩
def VN(e:dW P){ops:Array Qa}{l:List (List bJ×fJ)}(hl:du (ops.toList.map (gy P))=B1 l){safe:Nat->Option (List Nat)}{qs:List (Bool×Nat)}{steps:List aO}
 (h:du (qs.map (jL ops l safe))=B1 steps):∀s∈steps,dE s.op:=by
 intro s hs;have⟨i,f⟩:=Md hs;have:=(zS h).2 i s f;rw[xk,xm]at this;have⟨q,_,j⟩:=this;obtain⟨o,a,g,ho,ha,_,rfl⟩:=Nr j;have:=(zS hl).2 _ a ha;rw[xk,xm]at this;have⟨o',_,c⟩:=this;have⟨xs,_,d,_⟩:=OK e c;exact d.mono
def C'(u:dW P){rt:RT}(d:rS P base rt.call)(c:xM P base rt.round)(n:rt.AP=aW P)(f:pX rt.call)(m:Af rt.round)
 {ops:Array Qa} {t:Nat} (e:ops.toList.all (pC t)=B4) {l:List (List bJ×fJ)} (hl:du (ops.toList.map (gy P))=B1 l) {b:Oa} {k:List Item} {safe:Nat->Option (List Nat)} :
 ∀(todo:List Nat){steps:List aO},du (todo.map λ i=>jL ops l safe (B2,i))=B1 steps -> ∀{D:Nat->Prop}{θ:Th}{st:St}{a:Act}{cs:List Oa}{w:Nl}{r:aX×St},
  SR P base D θ b t rt.ctx.round st a cs w->(gW steps).run rt st=B1 r->d9 D st.H.au r.2.H.au->Out P base D θ b t rt.ctx.round k st cs w (lone (b.atR a (.inRegion ops todo::k)) cs w) r.1 r.2
 |[],steps,hs,D,θ,st,a,cs,w,r,hS,h,hf=>by
  cases hs;cases h;refine⟨θ,a,w,cs,.normal,StepsIn.one trivial stepR_region_end,by rw[Up.none];exact hS,bD.refl _ _ _ _,trivial,rfl,fC.refl hS.up⟩
 |i::todo,steps,hs,D,θ,st,a,cs,w,r,hS,h,hf=>by
  simp only[jw,du,qj,qk]at hs;obtain⟨s,A,rest,q,rfl⟩:=hs;obtain⟨o,ca,g,ho,z,hg,rfl⟩:=Nr A;have x:gy P o=B1 ca:=by
   have:=(zS hl).2 _ ca z;rw[xk,kh,ho]at this
   simpa using this
  have p:pC t o=true:=by
   rw[Ce]at e;exact e o (by have:=Array.mem_of_getElem? ho;simpa using this)
  have j:∀s∈rest,dE s.op:=by
   have E:du ((todo.map λ i=>(B2,i)).map (jL ops l safe))=B1 rest:=by rw[wv];exact q
   exact VN u hl E
  exact xjt u d c n f m (K:=(gW rest).run rt) ho x hg rfl rfl rfl rfl p hS (λ st r h=>xf1 f m j h) h hf
   (λ F θ1 cW G B w1 v C y=>C' u d c n f m e hl todo q v C y)
end
end Go.Am
namespace Go.Am
def NX(P:Kc)(base:Nat)(rt:RT):Prop :=
 ∀(nt id:Nat)(ops:Array Qa)(c:ai),iU P nt ops B4=B1 c -> ∀(D:Nat->Prop)θ(b:Oa)k st a cs w r,SR P base D θ b nt rt.ctx.round st a cs w->(bG c).run rt st=B1 r ->
  d9 D st.H.au r.2.H.au->Out P base D θ b nt rt.ctx.round k st cs w (lone (b.atR a (.code (.region id ops B4)::k)) cs w) r.1 r.2
section
variable{P:Kc}{base:Nat}
def xjg{d:Nat}{ops:Array Qa}{c:ai}(h:iU P d ops B2=B1 c):∃l steps,ops.toList.all (pC d)=B4/\du (ops.toList.map (gy P))=B1 l /\
 du ((N1 ops.size).map λ i=>jL ops l (λ _=>B1 []) (B2,i))=B1 steps/\c=.region steps:=by
 unfold iU at h;split at h
 .rename_i e;simp only[qj]at h;have⟨l,hl,h⟩:=h;simp only[zw,vk,qj,qk]at h;obtain⟨steps,hs,rfl⟩:=h;exact⟨l,steps,e,hl,hs,rfl⟩
 .cases h
def xfq(d:dW P){e:Nat}{ops:Array Qa}{draw:Bool}{c:ai}(h:iU P e ops draw=B1 c):ua c:=by
 unfold iU at h;split at h
 .simp only[qj]at h;have⟨l,hl,h⟩:=h;split at h
  .rcases yj h with⟨_,h⟩|⟨_,h⟩
   .simp only[qj,qk]at h;obtain⟨steps,hs,rfl⟩:=h;exact VN d hl hs
   .cases h;trivial
  .simp only[qj,qk]at h;obtain⟨steps,hs,rfl⟩:=h;exact VN (safe:=λ _=>B1 []) (qs:=(N1 ops.size).map λ i=>(B2,i)) d hl (by rw[wv];exact hs)
 .cases h
def vU(j:dW P){s:Nat}:∀(c:Code){kk:Nat}{ac:ai}{L:List dM},cq P s kk c=B1 (ac,L)->ua ac /\ ∀lp∈L,ua lp.assign/\ua lp.body
 | .skip,kk,ac,L,h=>by cases h;exact⟨trivial,by simp⟩
 | .region _ ops draw,kk,ac,L,h=>by
  simp only[cq,qj,qk,zf]at h;obtain⟨c,hc,rfl,rfl⟩:=h;exact⟨xfq j hc,by simp⟩
 | .seq a b,kk,ac,L,h=>by
  simp only[cq,qj,qk,zf]at h;obtain⟨⟨x,p⟩,g,⟨y,q⟩,n,rfl,rfl⟩:=h;have⟨l,m⟩:=vU j a g;have⟨d,e⟩:=vU j b n;exact⟨⟨l,d⟩,λ lp hl=>by rcases z6.1 hl with hl|hl;exact m lp hl;exact e lp hl⟩
 | .cond c a b,kk,ac,L,h=>by
  simp only[cq,qj,qk,zf]at h;obtain⟨r,_,⟨x,p⟩,g,⟨y,q⟩,n,rfl,rfl⟩:=h;have⟨l,m⟩:=vU j a g;have⟨d,e⟩:=vU j b n;exact⟨⟨l,d⟩,λ lp hl=>by rcases z6.1 hl with hl|hl;exact m lp hl;exact e lp hl⟩
 | .block id b,kk,ac,L,h=>by
  simp only[cq,qj,qk,zf]at h;obtain⟨⟨x,p⟩,g,rfl,rfl⟩:=h;have⟨d,e⟩:=vU j b g;exact⟨d,e⟩
 | .loop b,kk,ac,L,h=>by
  simp only[cq,qj,qk,zf]at h;obtain⟨⟨x,p⟩,g,rfl,rfl⟩:=h;have⟨d,e⟩:=vU j b g;exact⟨d,e⟩
 | .rangeFunc f ps a b,kk,ac,L,h=>by
  simp only[cq,qj]at h;have⟨r,_,⟨x,p⟩,g,⟨y,q⟩,n,h⟩:=h;split at h
  .cases h;have⟨l,m⟩:=vU j a g;have⟨d,e⟩:=vU j b n;refine⟨trivial,λ lp hl=>?_⟩;rcases ji.1 hl with rfl|hl
   .exact ⟨l,d⟩
   .rcases z6.1 hl with hl|hl
    .exact m lp hl
    .exact e lp hl
  .cases h
 | .exit _,kk,ac,L,h=>by cases h;exact⟨trivial,by simp⟩
 | .scope b,kk,ac,L,h=>by
  simp only[cq,qj,qk,zf]at h;obtain⟨⟨x,p⟩,g,rfl,rfl⟩:=h;have⟨d,e⟩:=vU j b g;exact⟨d,e⟩
 | .label _,kk,ac,L,h=>by cases h;exact⟨trivial,by simp⟩
 | .goto _,kk,ac,L,h=>by cases h;exact⟨trivial,by simp⟩
 | .ret,kk,ac,L,h=>by cases h;exact⟨trivial,by simp⟩
 | .refuse _,kk,ac,L,h=>by cases h;exact⟨trivial,by simp⟩
def WS(d:dW P):Tc (aW P):=by
 intro f e h;simp only[aW,qj]at h;have⟨fn,_,h⟩:=h;simp only[uQ,qj,qk]at h;obtain⟨b,_,⟨c,L⟩,hc,_,_,rfl⟩:=h;exact vU d b hc
def Z2{r:Nat}:∀(c:Code){kk:Nat}{ac:ai}{L:List dM},cq P r kk c=B1 (ac,L) -> ∀l,FY ac l=(findLabel c l).isSome
 | .skip,kk,ac,L,h,l=>by injection h with h;injection h with d g;subst d;rfl
 | .region _ ops draw,kk,ac,L,h,l=>by
  simp only[cq,qj,qk,zf]at h;obtain⟨c,hc,rfl,rfl⟩:=h;unfold iU at hc;split at hc
  .simp only[qj]at hc;have⟨l,hl,hc⟩:=hc;split at hc
   .rcases yj hc with⟨_,hc⟩|⟨_,hc⟩
    .simp only[qj,qk]at hc;obtain⟨_,_,rfl⟩:=hc;rfl
    .cases hc;rfl
   .simp only[qj,qk]at hc;obtain⟨_,_,rfl⟩:=hc;rfl
  .cases hc
 | .seq a b,kk,ac,L,h,l=>by
  simp only[cq,qj,qk,zf]at h;obtain⟨⟨x,m⟩,j,⟨y,p⟩,n,rfl,rfl⟩:=h;have d:=Z2 a j l;have g:=Z2 b n l;simp only[FY,findLabel,d,g];cases findLabel a l<;>simp
 | .cond c a b,kk,ac,L,h,l=>by
  simp only[cq,qj,qk,zf]at h;obtain⟨q,_,⟨x,m⟩,j,⟨y,p⟩,n,rfl,rfl⟩:=h;rfl
 | .block id b,kk,ac,L,h,l=>by
  simp only[cq,qj,qk,zf]at h;obtain⟨⟨x,m⟩,j,rfl,rfl⟩:=h;rfl
 | .loop b,kk,ac,L,h,l=>by
  simp only[cq,qj,qk,zf]at h;obtain⟨⟨x,m⟩,j,rfl,rfl⟩:=h;rfl
 | .rangeFunc f ps a b,kk,ac,L,h,l=>by
  simp only[cq,qj]at h;have⟨q,_,⟨x,m⟩,j,⟨y,p⟩,n,h⟩:=h;split at h
  .injection h with h;injection h with d g;subst d;rfl
  .cases h
 | .exit _,kk,ac,L,h,l=>by injection h with h;injection h with d g;subst d;rfl
 | .scope b,kk,ac,L,h,l=>by
  simp only[cq,qj,qk,zf]at h;obtain⟨⟨x,m⟩,j,rfl,rfl⟩:=h;rfl
 | .label l',kk,ac,L,h,l=>by
  injection h with h;injection h with d g;subst d
  simp only[FY,findLabel]
  by_cases e:l'=l
  .simp [e]
  .simp only[G2,e,vk,LZ];cases hb:J3 l' l with
   |false=>rfl
   |true=>simp only[jv]at hb;exact absurd hb e
 | .goto _,kk,ac,L,h,l=>by injection h with h;injection h with d g;subst d;rfl
 | .ret,kk,ac,L,h,l=>by injection h with h;injection h with d g;subst d;rfl
 | .refuse _,kk,ac,L,h,l=>by injection h with h;injection h with d g;subst d;rfl
def xa1{b:Oa}{a:Act}{body:Code}{k:List Item}{cs:List Oa}{w:Nl}:step P (lone (b.atR a (.inScope body::k)) cs w)=.next (lone (b.atR a k) cs w) :=
 step_lone_go (by simp[stepG,stepG.exec,C1])
def xfy{b:Oa}{a:Act}{body:Code}{k:List Item}{cs:List Oa}{w:Nl}:step P (lone (b.atR a (.code (.scope body)::k)) cs w)=.next (lone (b.atR a (.code body::.inScope body::k)) cs w) :=
 step_lone_go (by simp[stepG,stepG.exec,C1])
def Out.pass{D:Nat->Prop}{θ:Th}{b:Oa}{f:Nat}{rd:Option Nat}{x:Item}(s:x.plain=B4){k:List Item}{st:St}{cs:List Oa}{w:Nl}{m:Machine}{e:aX}{c:St}(he:zZ e=B2)
 (h:Out P base D θ b f rd (x::k) st cs w m e c):Out P base D θ b f rd k st cs w m e c:=by
 have⟨θ',g,w',cs',e',j,l,n,d,p,r⟩:=h;refine⟨θ',g,w',cs',e',.pass s (λ _ _=>.inl ?_) j,l,n,d,p,r⟩;intro q;subst q;cases e<;>first|exact d.elim|cases he
def Out.here{D:Nat->Prop}{θ:Th}{b:Oa}{d:Nat}{rd:Option Nat}{k:List Item}{st:St}{a:Act}{cs:List Oa}{w:Nl}{m:Machine}{e:aX}{e':Exit}(c:SR P base D θ b d rd st a cs w)
 (f:ArrivesIn oR P m b k cs e' a w) (g:Ed D θ e e'):Out P base D θ b d rd k st cs w m e st :=
 ⟨θ,a,w,cs,e',f,by rw[Up.none];exact c,bD.refl _ _ _ _,by rw[Up.none];exact g,rfl,fC.refl c.up⟩
def qt7{w:Nl}(fn:FuncId)(tmps:Array Km)(c:Array Tmp)(as body:Code){l:Nat}{r:Loop}(h:w.heap[l]? = B1 (.loop r)) :
 (Instr.enterLoop fn tmps c as body (B1 l)).run P w=.ok (w.heap.size,[]) (w.alloc (.loop {state:=.ready,pending:=B5,fn,tmps,params:=c,assign:=as,body,defers:=r.defers})):=by
 unfold Instr.enterLoop;simp only[Nn,run_getLoop h,run_newObj_alloc,Result.andThen,Q1]
def q6x{d:Nat}{c:Code}{kk:Nat}{ac:ai}{L:List dM}(h:cq P d kk c=B1 (ac,L)){l:Nat}(hl:FY ac l=B2):findLabel c l=none:=by
 rw[Z2 c h l]at hl
 simpa using hl
def _r{b:Oa}{a:Act}{k:List Item}{cs:List Oa}{w:Nl}(id:Nat):ArrivesIn oR P (lone (b.atR a (.code (.exit id)::k)) cs w) b k cs (.exit id) a w :=
 ⟨λ _ hk=>.one trivial (stepR_exit hk),λ _ hk=>⟨k,hk,.refl _⟩⟩
def T_{b:Oa}{a:Act}{k:List Item}{cs:List Oa}{w:Nl}(l:Nat):ArrivesIn oR P (lone (b.atR a (.code (.goto l)::k)) cs w) b k cs (.goto l) a w :=
 ⟨λ _ hk=>.one trivial (stepR_goto hk),λ _ hk=>⟨k,hk,.refl _⟩⟩
def yb{b:Oa}{a:Act}{k:List Item}{cs:List Oa}{w:Nl}:ArrivesIn oR P (lone (b.atR a (.code .ret::k)) cs w) b k cs .ret a w :=
 ⟨λ hn=>⟨_,.one trivial (stepR_ret hn)⟩,λ _=>⟨k,.refl _⟩⟩
def xcg{D:Nat->Prop}{θ:Th}{b:Oa}{a:Act}{k:List Item}{cs:List Oa}{w:Nl}(p:Option ic):∃e',Ed D θ (rN p) e' /\
 ArrivesIn oR P (lone (b.atR a (((p.map mE).map Item.code).toList++k)) cs w) b k cs e' a w:=by
 cases p with
 |none=>exact⟨.normal,trivial,.refl _⟩
 |some j =>
  cases j with
  |exit id=>exact⟨.exit id,rfl,_r id⟩
  |goto l=>exact⟨.goto l,rfl,T_ l⟩
  |ret=>exact⟨.ret,trivial,yb⟩
def _D{call:bY}{round:iT}{ctx:Ctx}(M:rS P base call){D:Nat->Prop}{θ:Th}{b:Oa}{nt:Nat}{st:St}{a:Act}{cs:List Oa}{w:Nl}{k:List Item}{H0:ar}{aZ:List aM}{w0:Nl}{mark:List Deferred}{d:Nat}
 (hP:dW P) {g:N0} {B:Array Tmp} {as body:Code} {kk:Nat} {v:AV} {r:aX×St} {θ0:Th}
 (h0:HR P base (Up D st.H.au H0.au) θ0 H0 w0) (g0:bD D st.H θ w H0 θ0 w0) (S:st.H.au<=H0.au) (G:SR P base D θ b nt ctx.round st a cs w) (hv:VR D θ v (a.eval g)) (hd:Up D st.H.au H0.au d)
 (hdf:hC (Up D st.H.au H0.au) θ0 aZ (mark++a.defers)) (O:wU P ctx.fn kk a.tmps.size B as body) (hfn:b.fn=ctx.fn)
 (he:(Instr.enterLoop b.fn a.tmps B as body b.roundOf).run P w=.ok (w0.heap.size,mark) (w0.alloc (.loop {state:=.ready,pending:=B5,fn:=b.fn,tmps:=a.tmps,params:=B,assign:=as,body,defers:=θ0.b9 d})))
 (hr:jB call round ctx st kk H0 aZ d v=B1 r) (hf:d9 D st.H.au r.2.H.au) (hm:pX call) :
 Out P base D θ b nt ctx.round k st cs w (lone (b.atR a (.code (.rangeFunc g B as body)::k)) cs w) r.1 r.2:=by
 unfold jB at hr;split at hr
 .rename_i f first cap
  simp only[cV,kz,qr,qj]at hr;have⟨⟨e,u,H'⟩,hcl,hr⟩:=hr;have Q:H0.au+1<=H'.au:=(hm _ _ _ _ _ _ _ hcl).1;have hrn:r.2.H.au=H'.au/\r.2.aZ=aZ/\r.2.tm=st.tm/\r.2.up=st.up:=by
   unfold N9 at hr;split at hr
   .cases hr;exact⟨rfl,rfl,rfl,rfl⟩
   .split at hr
    .cases hr
    .cases hr;exact⟨rfl,rfl,rfl,rfl⟩
    .cases hr
  rw[hrn.1]at hf;have hn:¬Up D st.H.au H0.au H0.au:=λ q=>by
   rcases q with q|⟨_,q⟩
   .exact hf _ S (by omega) q
   .omega
  -- the record
  have hag0:=g0.ag;have I:=Th.hO θ0 H0.au w0.heap.size 0 0 hn;have⟨e1,e2,e3⟩:=Th.eL θ0 H0.au w0.heap.size 0 0;have n:∀x,D x->Up (Up D st.H.au H0.au) H0.au (H0.au+1) x:=λ x A=>.inl (.inl A);have X:Up (Up D st.H.au H0.au) H0.au (H0.au+1) H0.au:=.inr ⟨qm _,zz _⟩;have s:Ag D θ (θ0.add H0.au w0.heap.size 0 0):=hag0.trans I (λ x A=>.inl A);have hR:oH P (Up (Up D st.H.au H0.au) H0.au (H0.au+1)) (θ0.add H0.au w0.heap.size 0 0) H0.au (.loop .ready B5 ctx.fn kk st.tm d)
   (.loop {state:=.ready,pending:=B5,fn:=b.fn,tmps:=a.tmps,params:=B,assign:=as,body,defers:=θ0.b9 d}) :=
   ⟨_,rfl,rfl,rfl,hfn,G.uX.up s n,O,.inl hd,((I d hd).1).symm⟩
  have h1:=h0.alloc hn (w':=w0.alloc (.loop {state:=.ready,pending:=B5,fn:=b.fn,tmps:=a.tmps,params:=B,assign:=as,body,defers:=θ0.b9 d})) (co:=.loop {state:=.ready,pending:=B5,fn:=b.fn,tmps:=a.tmps,params:=B,assign:=as,body,defers:=θ0.b9 d}) (k:=w0.heap.size) (off:=0) (ext:=0) (by rw[Dm];simp)
   (λ j hj=>by rw[Dm,qt (KP hj)]) (qm _) (by simp) hR
  have g1:=bD.alloc (base:=base) h0 hn (.loop .ready B5 ctx.fn kk st.tm d) (.loop {state:=.ready,pending:=B5,fn:=b.fn,tmps:=a.tmps,params:=B,assign:=as,body,defers:=θ0.b9 d}) 0 0
  -- the call
  have⟨fi,ci,q3,q4,q5,q6⟩:=S7 hv;have J:bL (Up (Up D st.H.au H0.au) H0.au (H0.au+1)) (θ0.add H0.au w0.heap.size 0 0) (first++(.fn (.yield H0.au) [] []::cap)) ((fi.toArray ++ #[Value.func (.yield w0.heap.size) #[] #[]])++ci.toArray).toList:=by
   simp only[Array.toList_append,zy];refine(q4.up s n).app (.cons (λ θ'' h''=>?_) (q5.up s n));simp only[aw,fP,bS];rw[(h'' _ X).1,e1]
  have⟨⟨fn,c,k1,k2⟩,θ',w',cs',fr,e',s1,s2,s3,s4,V,s6,s7,s8,s9,s10⟩:=M _ _ _ _ f _ ((fi.toArray ++ #[Value.func (.yield w0.heap.size) #[] #[]])++ci.toArray) B5 H' e u .normal
   (b.atR {a with defers:=mark++a.defers} (.inRangeFunc w0.heap.size::k)::cs) h1 J rfl hcl (λ x h3 h4 W=>by
    rw[Up.up S (ke _)]at W;rcases W with W|⟨_,W⟩
    .exact hf x (by have:H0.au+1<=x:=h3;omega) h4 W
    .have:H0.au+1<=x:=h3;omega)
  have hcs:cs'=b.atR {a with defers:=mark++a.defers} (.inRangeFunc w0.heap.size::k)::cs:=s9;subst hcs;have y:=stepR_rangeFunc (P:=P) (b:=b) (a:=a) (k:=k) (cs:=cs) (w:=w) (g:=g) (l:=w0.heap.size) (d:={target:=.fn (.func f) ci.toArray,args:=fi.toArray ++ #[Value.func (.yield w0.heap.size) #[] #[]]}) he
   (by
   show(Bb (a.eval g) (#[N0.const (.func (.yield w0.heap.size) #[] #[])].map a.eval)).run P _=_;rw[q3];simp[Bb,fP,Act.eval];rfl) (by
    show(callFunc f (_++ci.toArray)).run P _=_;exact O0 hP k1 k2)
  have hl:=TW s4 s2;have hupa:Up (Up (Up D st.H.au H0.au) H0.au (H0.au+1)) (H0.au+1) H'.au=Up D st.H.au H'.au:=by
   rw[Up.up (ke _) Q,Up.up S (by omega)]
  have z:(H0.alloc (.loop .ready B5 ctx.fn kk st.tm d)).au=H0.au+1:=rfl;rw[z,hupa]at V s6 s10;have h:bD D st.H θ w H' θ' w':=(g0.trans g1 Up.of).trans s7 n;have Y:∀x,Up D st.H.au H0.au x->Up D st.H.au H'.au x:=λ x A=>by
   rcases A with A|⟨h1,h2⟩
   .exact .inl A
   .exact .inr ⟨h1,by omega⟩
  have hagf:Ag (Up D st.H.au H0.au) θ0 θ':=I.trans s7.ag (λ x A=>.inl A);have Z:∀(F:ar)(U:Nl),HR P base (Up D st.H.au H'.au) θ' F U->SR P base (Up D st.H.au H'.au) θ' b nt ctx.round {st with aZ:=aZ,H:=F} {a with defers:=mark++a.defers} cs U:=λ F U hh =>
   ⟨hh,G.uX.up h.ag Up.of,G.size,hC.up hagf Y hdf,qZ.up h.ag Up.of G.up,Ar.up h.ag Up.of G.round⟩
  unfold N9 at hr;cases e with
  |panic ch =>
   cases hr;cases e' with
   |returned _=>exact V.elim
   |outgrown=>exact V.elim
   |panicked ps' =>
    refine⟨θ',_,w',cs,.panic ps',⟨.inRangeFunc w0.heap.size::k,Bp (.head y (s1.trans (.one (by rw[step_leave_panicked hl,Ci]))))⟩,Z _ _ s6,h,V,rfl,fC.refl G.up⟩
  |ret x =>
   cases e' with
   |panicked _=>exact V.elim
   |outgrown=>exact V.elim
   |returned cx =>
    have K:Steps P (lone (b.atR a (.code (.rangeFunc g B as body)::k)) cs w) (lone (b.atR {a with defers:=mark++a.defers} (.endRangeFunc w0.heap.size::k)) cs w'):=by
     exact .head y (s1.trans (.one (by rw[step_leave_returned hl,finish_atR_inRangeFunc])))
    simp only at hr;split at hr
    .cases hr
    .rename_i ls p f2 k2' tm2 d2 R m;cases hr;obtain⟨hDl',co,hco,rl,rfl,r1,r2,r3,r4,r5,r6,r7⟩:=s6.obj _ _ m;have t:θ'.b9 H0.au=w0.heap.size:=by rw[(s7.ag _ X).1,e1]
     rw[t]at hco;have L:rl.state≠ .busy:=by
      intro q;rw[r1]at q;cases ls with
      |busy=>first|exact R _ _ _ _ _ rfl|exact R rfl|exact R
      |ready=>cases q
      |done=>cases q
      |exhausted=>cases q
     have hend:=run_endLoop (P:=P) hco L;have N:=stepR_endRangeFunc (b:=b) (a:={a with defers:=mark++a.defers}) (k:=k) (cs:=cs) hend;have E:=s6.set (o':=.loop .exhausted p f2 k2' tm2 d2) (co':=.loop {rl with state:=.exhausted}) m rfl rfl ⟨_,rfl,rfl,r2,r3,r4,r5,r6,r7⟩;rw[t]at E;have C:bD (Up D st.H.au H'.au) H' θ' w' (H'.set H0.au (.loop .exhausted p f2 k2' tm2 d2)) θ' (fD w' (θ'.b9 H0.au) (.loop {rl with state:=.exhausted})):=bD.set m rfl (s6.lt m);rw[t]at C;have⟨e'',k3,k4⟩:=xcg (P:=P) (D:=Up D st.H.au H'.au) (θ:=θ') (b:=b) (a:={a with defers:=mark++a.defers}) (k:=k) (cs:=cs) (w:=fD w' w0.heap.size (.loop {rl with state:=.exhausted})) p;rw[<-r2]at k4;exact⟨θ',_,_,cs,e'',.of_steps (Bp (K.trans (.one N))) k4,Z _ _ E,h.trans C Up.of,k3,rfl,fC.refl G.up⟩
    .cases hr
 .cases hr
def Out.normal{D:Nat->Prop}{θ:Th}{b:Oa}{e:Nat}{rd:Option Nat}{k:List Item}{st:St}{cs:List Oa}{w:Nl}{m:Machine}{c:St}(h:Out P base D θ b e rd k st cs w m .normal c) :
 ∃θ' d w' cs',Steps P m (lone (b.atR d k) cs' w')/\SR P base (Up D st.H.au c.H.au) θ' b e rd c d cs' w'/\bD D st.H θ w c.H θ' w'/\c.up.isSome=st.up.isSome/\fC st.up cs cs':=by
 have⟨θ',d,w',cs',e',f,g,j,l,n,p⟩:=h;cases e'<;>first|exact⟨θ',d,w',cs',BV f,g,j,n,p⟩|exact l.elim
def Out.head{D:Nat->Prop}{θ:Th}{b:Oa}{f:Nat}{rd:Option Nat}{k:List Item}{st:St}{cs:List Oa}{w:Nl}{m d:Machine}{e:aX}{c:St}(hs:step P m=.next d)
 (h:Out P base D θ b f rd k st cs w d e c):Out P base D θ b f rd k st cs w m e c:=by
 have⟨θ',g,w',cs',e',j,l,n,p,q,r⟩:=h;exact⟨θ',g,w',cs',e',.of_steps (StepsIn.one trivial hs) j,l,n,p,q,r⟩
def qs9(id c:Nat)(k:List Item):exitTo c (.inBlock id::k)=if id=c then B1 k else exitTo c k:=by
 simp[exitTo]
def Ol{α:Type}(a b:List α)(i:Nat):nth (a++b) i=if i<a.length then nth a i else nth b (i-a.length):=by
 simp only[kE,List.getElem?_append]
set_option maxHeartbeats 1000000 in
def AM(R:dW P){rt:RT}(m:rS P base rt.call)(f:xM P base rt.round)(I:rt.AP=aW P)(z:pX rt.call)(C:Af rt.round)(t:NX P base rt)
 {fn:Func} {af:bV} (K:P.funcs[rt.ctx.fn]? = B1 fn) (J:uQ P fn=B1 af):∀(c:Code){kk:Nat}{ac:ai}{L:List dM},cq P fn.ntmps kk c=B1 (ac,L)->(∀i l,nth L i=B1 l->nth af.loops (kk+i)=B1 l) ->
 ∀{D:Nat->Prop}{θ:Th}{b:Oa}{k:List Item}{st:St}{a:Act}{cs:List Oa}{w:Nl}{r:aX×St},SR P base D θ b fn.ntmps rt.ctx.round st a cs w->b.fn=rt.ctx.fn->(bG ac).run rt st=B1 r ->
  d9 D st.H.au r.2.H.au->Out P base D θ b fn.ntmps rt.ctx.round k st cs w (lone (b.atR a (.code c::k)) cs w) r.1 r.2
 | .skip,kk,ac,L,h,hL,D,θ,b,k,st,a,cs,w,r,s,hb,hr,B=>by
  injection h with h;injection h with u E;subst u
  injection hr with hr;subst hr
  exact .here s (e':=.normal) (StepsIn.one trivial stepR_skip) trivial
 | .label _,kk,ac,L,h,hL,D,θ,b,k,st,a,cs,w,r,s,hb,hr,B=>by
  injection h with h;injection h with u E;subst u
  injection hr with hr;subst hr
  exact .here s (e':=.normal) (StepsIn.one trivial stepR_label) trivial
 | .exit id,kk,ac,L,h,hL,D,θ,b,k,st,a,cs,w,r,s,hb,hr,B=>by
  injection h with h;injection h with u E;subst u
  injection hr with hr;subst hr
  exact .here s (_r id) rfl
 | .goto l,kk,ac,L,h,hL,D,θ,b,k,st,a,cs,w,r,s,hb,hr,B=>by
  injection h with h;injection h with u E;subst u
  injection hr with hr;subst hr
  exact .here s (T_ l) rfl
 | .ret,kk,ac,L,h,hL,D,θ,b,k,st,a,cs,w,r,s,hb,hr,B=>by
  injection h with h;injection h with u E;subst u
  injection hr with hr;subst hr
  exact .here s yb trivial
 | .refuse _,kk,ac,L,h,hL,D,θ,b,k,st,a,cs,w,r,s,hb,hr,B=>by
  injection h with h;injection h with u E;subst u
  cases hr
 | .region id ops draw,kk,ac,L,h,hL,D,θ,b,k,st,a,cs,w,r,s,hb,hr,B=>by
  simp only[cq,qj,qk,zf]at h;obtain⟨c,hc,rfl,rfl⟩:=h;cases draw with
  |false =>
   obtain⟨l,steps,u,E,N,rfl⟩:=xjg hc;exact .head stepR_region (C' R m f I z C u E _ N s hr B)
  |true=>exact t _ id ops c hc D θ b k st a cs w r s hr B
 | .seq x y,kk,ac,L,h,hL,D,θ,b,k,st,a,cs,w,r,s,hb,hr,B=>by
  simp only[cq,qj,qk,zf]at h;obtain⟨⟨ax,M⟩,G,⟨ay,ly⟩,hy,rfl,rfl⟩:=h;simp only[bG,qj]at hr;obtain⟨⟨e,cW⟩,V,hr⟩:=hr;have hmy:=(vU R y hy).1;have X:=N7 z C (vU R x G).1 V;have W:∀i l,nth M i=B1 l->nth af.loops (kk+i)=B1 l:=λ i l hl=>hL i l (by
   rw[Ol,xb]
   .exact hl
   .rw [kE]at hl;exact(qo.1 hl).1)
  have hLy:∀i l,nth ly i=B1 l->nth af.loops (kk+M.length+i)=B1 l:=λ i l hl=>by
   rw[wT];exact hL (M.length+i) l (by
    show nth (M++ly) (M.length+i)=_;rw[Ol,qt (by omega),ve];exact hl)
  refine .head stepR_seq ?_
  by_cases he:e=.normal
  .subst he;simp only[uR]at hr;have A:=N7 z C hmy hr;obtain⟨θ',Q,w',cs',u,E,N,F,O⟩:=(AM R m f I z C t K J x G W (k:=.code y::k) s hb V (B.left A)).normal;exact Out.after u N F O A (AM R m f I z C t K J y hy hLy E hb hr (B.right X))
  .have hn:zZ e=false:=by cases e<;>first|rfl|exact absurd rfl he
   have hr':r=(e,cW):=by
    cases e<;>first|exact absurd rfl he|(injection hr with hr;exact hr.symm)
   subst hr';exact Out.pass (x:=.code y) rfl hn (AM R m f I z C t K J x G W s hb V B)
 | .cond c x y,kk,ac,L,h,hL,D,θ,b,k,st,a,cs,w,r,s,hb,hr,B=>by
  simp only[cq,qj,qk,zf]at h;obtain⟨cc,hcc,⟨ax,M⟩,G,⟨ay,ly⟩,hy,rfl,rfl⟩:=h;simp only[bG,qj]at hr;obtain⟨v,hv,hr⟩:=hr;rw[Je]at hv;have hvr:=BR (a:=a) s.heap s.uX hcc hv;have W:∀i l,nth M i=B1 l->nth af.loops (kk+i)=B1 l:=λ i l hl=>hL i l (by
   rw[Ol,xb]
   .exact hl
   .rw [kE]at hl;exact(qo.1 hl).1)
  have hLy:∀i l,nth ly i=B1 l->nth af.loops (kk+M.length+i)=B1 l:=λ i l hl=>by
   rw[wT];exact hL (M.length+i) l (by
    show nth (M++ly) (M.length+i)=_;rw[Ol,qt (by omega),ve];exact hl)
  unfold uD at hr;split at hr
  .rename_i q;refine .head (stepR_cond hvr.now.symm) ?_;cases q with
   |true=>exact AM R m f I z C t K J x G W s hb hr B
   |false=>exact AM R m f I z C t K J y hy hLy s hb hr B
  .cases hr
 | .block id x,kk,ac,L,h,hL,D,θ,b,k,st,a,cs,w,r,s,hb,hr,B=>by
  simp only[cq,qj,qk,zf]at h;obtain⟨⟨ax,M⟩,G,rfl,rfl⟩:=h;simp only[bG,qj]at hr;obtain⟨⟨e,cW⟩,V,hr⟩:=hr;have Z:r.2=cW:=by
   unfold kM at hr;split at hr<;>(injection hr with hr;subst hr;rfl)
  obtain⟨θ',Q,w',cs',e',u,E,N,F,O,S⟩:=AM R m f I z C t K J x G hL (k:=.inBlock id::k) s hb V (Z▸B);refine .head stepR_block ?_;rw[Z];unfold kM at hr;cases e with
  |normal =>
   injection hr with hr;subst hr
   cases e'<;>try exact F.elim
   exact⟨θ',Q,w',cs',.normal,StepsIn.trans u (.one trivial stepR_inBlock),E,N,trivial,O,S⟩
  |exit id' =>
   injection hr with hr;subst hr
   cases e'<;>try exact F.elim
   rename_i j;have F:j=id':=F;subst F;cases hbq:J3 id j with
   |true =>
    simp only[jv]at hbq;subst hbq;exact⟨θ',Q,w',cs',.normal,u.1 k (by rw[qs9,xb rfl]),E,N,trivial,O,S⟩
   |false =>
    have hne:¬id=j:=by intro q;subst q;simp at hbq
    have G:exitTo j (.inBlock id::k)=exitTo j k:=by rw[qs9,qt hne]
    exact⟨θ',Q,w',cs',.exit j,⟨λ k' hk=>u.1 k' (by rw[G];exact hk),λ hr hk=>u.2 hr (by rw[G];exact hk)⟩,E,N,rfl,O,S⟩
  |goto l =>
   injection hr with hr;subst hr
   cases e'<;>try exact F.elim
   rename_i j;have G:gotoIn j (.inBlock id::k)=gotoIn j k:=rfl;exact⟨θ',Q,w',cs',.goto j,⟨λ k' hk=>u.1 k' (by rw[G];exact hk),λ hr hk=>u.2 hr (by rw[G];exact hk)⟩,E,N,F,O,S⟩
  |ret =>
   injection hr with hr;subst hr
   cases e'<;>try exact F.elim
   exact⟨θ',Q,w',cs',.ret,u,E,N,trivial,O,S⟩
  |panic ch =>
   injection hr with hr;subst hr
   cases e'<;>try exact F.elim
   rename_i ps;exact⟨θ',Q,w',cs',.panic ps,u,E,N,F,O,S⟩
 | .scope x,kk,ac,L,h,hL,D,θ,b,k,st,a,cs,w,r,s,hb,hr,B=>by
  simp only[cq,qj,qk,zf]at h;obtain⟨⟨ax,M⟩,G,rfl,rfl⟩:=h;simp only[bG,qj]at hr;obtain⟨⟨e,cW⟩,V,hr⟩:=hr;have Z:r=(e,cW) /\ ∀l,e=.goto l->FY ax l=false:=by
   unfold lW at hr;split at hr
   .rename_i l he;simp only at he;rcases yj hr with⟨_,hr⟩|⟨hl,hr⟩
    .cases hr
    .injection hr with hr;subst he;exact⟨hr.symm,λ l' h'=>by injection h' with h';subst h';exact hl⟩
   .rename_i hne;injection hr with hr;exact⟨hr.symm,λ l' h'=>(hne l' h').elim⟩
  obtain⟨rfl,hlab⟩:=Z;obtain⟨θ',Q,w',cs',e',u,E,N,F,O,S⟩:=AM R m f I z C t K J x G hL (k:=.inScope x::k) s hb V B;refine .head xfy ?_;cases e with
  |normal =>
   cases e'<;>try exact F.elim
   exact⟨θ',Q,w',cs',.normal,StepsIn.trans u (.one trivial xa1),E,N,trivial,O,S⟩
  |exit id' =>
   cases e'<;>try exact F.elim
   rename_i j;have G:exitTo j (.inScope x::k)=exitTo j k:=rfl;exact⟨θ',Q,w',cs',.exit j,⟨λ k' hk=>u.1 k' (by rw[G];exact hk),λ hr hk=>u.2 hr (by rw[G];exact hk)⟩,E,N,F,O,S⟩
  |goto l =>
   cases e'<;>try exact F.elim
   rename_i j;have F:j=l:=F;subst F;have hfl:=q6x G (hlab j rfl);have hg:gotoIn j (.inScope x::k)=gotoIn j k:=by simp[gotoIn,hfl]
   exact⟨θ',Q,w',cs',.goto j,⟨λ k' hk=>u.1 k' (by rw[hg];exact hk),λ hr hk=>u.2 hr (by rw[hg];exact hk)⟩,E,N,rfl,O,S⟩
  |ret =>
   cases e'<;>try exact F.elim
   exact⟨θ',Q,w',cs',.ret,u,E,N,trivial,O,S⟩
  |panic ch =>
   cases e'<;>try exact F.elim
   rename_i ps;exact⟨θ',Q,w',cs',.panic ps,u,E,N,F,O,S⟩
 | .loop x,kk,ac,L,h,hL,D,θ,b,k,st,a,cs,w,r,s,hb,hr,B=>by
  simp only[cq,qj,qk,zf]at h;obtain⟨⟨ax,M⟩,G,rfl,rfl⟩:=h;simp only[bG]at hr;refine .head stepR_loop ?_;have X:=(vU R x G).1;have key:∀(n:Nat)(D:Nat->Prop)(θ:Th)(st:St)(a:Act)(cs:List Oa)(w:Nl)(r:aX×St),SR P base D θ b fn.ntmps rt.ctx.round st a cs w->gT B5 ((bG ax).run rt) n st=B1 r->d9 D st.H.au r.2.H.au ->
   Out P base D θ b fn.ntmps rt.ctx.round k st cs w (lone (b.atR a (.code x::.inLoop x::k)) cs w) r.1 r.2:=by
   intro n
   induction n with
   |zero=>intro D θ st a cs w r _ hr _;cases hr
   |succ n ih =>
    intro D θ st a cs w r s hr B;simp only[gT,qj]at hr;obtain⟨⟨e,cW⟩,V,hr⟩:=hr;have hm1:=N7 z C X V
    by_cases he:e=.normal
    .subst he;simp only at hr;have A:=xi1 (λ st r h=>AX z C X h) B5 n _ _ hr;obtain⟨θ',Q,w',cs',u,E,N,F,O⟩:=(AM R m f I z C t K J x G hL (k:=.inLoop x::k) s hb V (B.left A)).normal;exact Out.after (u.trans (.one stepR_inLoop)) N F O A (ih _ θ' cW Q cs' w' r E hr (B.right hm1))
    .have hn:zZ e=false:=by cases e<;>first|rfl|exact absurd rfl he
     have hr':r=(e,cW):=by
      cases e<;>first|exact absurd rfl he|(injection hr with hr;exact hr.symm)
     subst hr';exact Out.pass (x:=.inLoop x) rfl hn (AM R m f I z C t K J x G hL s hb V B)
  exact key _ D θ st a cs w r s hr B
 | .rangeFunc g ps x y,kk,ac,L,h,hL,D,θ,b,k,st,a,cs,w,r,s,hb,hr,B=>by
  simp only[cq,qj]at h;obtain⟨cg,hcg,⟨ax,M⟩,G,⟨ay,ly⟩,hy,h⟩:=h;split at h
  .rename_i Y;have Y:∀p∈ps.toList,p<fn.ntmps:=λ p hp=>by
    rw[Ce]at Y
    simpa[uH]using Y p hp
   injection h with h;injection h with u E;subst u;subst E
   simp only[bG,qj]at hr;obtain⟨v,hv,hr⟩:=hr;rw[Je]at hv;have hvr:=BR (a:=a) s.heap s.uX hcg hv;have U:wU P rt.ctx.fn kk a.tmps.size ps x y:=by
    refine⟨fn,af,_,kk+1,kk+1+M.length,M,ly,K,J,hL 0 _ rfl,rfl,Y,s.size,G,λ i l hl=>?_,hy,λ i l hl=>?_⟩
    .rw [wT];refine hL (1+i) l ?_;rw[Nat.add_comm 1 i,kE,zr,<-kE,Ol,xb]
     .exact hl
     .rw [kE]at hl;exact(qo.1 hl).1
    .rw [wT,wT];refine hL (1+(M.length+i)) l ?_;rw[Nat.add_comm 1 _,kE,zr,<-kE];show nth (M++ly) (M.length+i)=_;rw[Ol,qt (by omega),ve];exact hl
   unfold rE at hr;split at hr
   .rename_i hnone;have hro:b.roundOf=none:=by have:=s.round;rw[hnone]at this;exact this
    have A:st.H.au+1<=r.2.H.au:=by
     have:(st.H.alloc (.deferred (B1 []))).au<=r.2.H.au:=xfn (st:={st with H:=st.H.alloc (.deferred (B1 []))}) z (Ext.refl _) hr;exact this
    have hn:¬D st.H.au:=B _ (qm _) A;have hag:=Th.hO θ st.H.au w.heap.size 0 0 hn;obtain⟨e1,e2,e3⟩:=Th.eL θ st.H.au w.heap.size 0 0;have hDn:Up D st.H.au (st.H.au+1) st.H.au:=.inr ⟨qm _,zz _⟩;have h0:=s.heap.alloc hn (w':=w.alloc (.deferred (B1 []))) (co:=.deferred (B1 [])) (o:=.deferred (B1 [])) (k:=w.heap.size) (off:=0) (ext:=0) (by rw[Dm];simp)
     (λ j hj=>by rw[Dm,qt (KP hj)]) (qm _) (by simp) ⟨B1 [],rfl,rfl,rfl⟩
    have g0:=bD.alloc (base:=base) s.heap hn (.deferred (B1 [])) (.deferred (B1 [])) 0 0;refine _D m R (H0:=st.H.alloc (.deferred (B1 []))) (aZ:=.jJ st.H.au::st.aZ) (d:=st.H.au) (mark:=[{target:=.collected w.heap.size,args:=#[]}]) h0 g0 (ke _) s hvr hDn ⟨⟨hDn,by rw[e1]⟩,hC.up hag Up.of s.aZ⟩ U hb ?_ hr B z;rw[hro,run_enterLoop_outer,e1];simp
   .rename_i l hl;simp only[qj]at hr;obtain⟨d,hd,hr⟩:=hr;unfold BH at hd;split at hd
    .rename_i f2 k2 tm2 d2 hget;injection hd with hd;subst hd
     obtain⟨hDl,co,hco,rl,rfl,r1,r2,r3,r4,r5,r6,r7⟩:=s.heap.obj _ _ hget;have hro:b.roundOf=B1 (θ.b9 l):=by have:=s.round;rw[hl]at this;exact this.2
     refine _D m R (mark:=[]) (d:=d2) (by rw[Up.none];exact s.heap) (bD.refl _ _ _ _) (qm _) s hvr (by rw[Up.none];exact r6) (by rw[Up.none];exact s.aZ) U hb ?_ hr B z;rw[hro,qt7 _ _ _ _ _ hco,r7]
    .cases hd
  .cases h
end
end Go.Am
