import Derived.Test.YtgjdmncoonceaaaGreatDoorAmTZa
import Derived.Deep.Upon
import Derived.Lib.UnsafeStr
import Derived.Defers
import Derived.RangeFuncRecord
import Derived.ControlIn
import Derived.RangeFuncIn
set_option linter.defProp false
set_option linter.unusedVariables false
set_option linter.unusedSimpArgs false
open Bool renaming false→B2,true→B4
open Go renaming Frame→NM,MapEntry→Bh,Oper→P7,Operand→M7,Program→Jl,TypeId→Lx,Value→K1,World→N6
open Go.Addr.mk renaming injEq→C5
open Go.Builtin renaming append_→C2,clear_→Cj,firstCells→CN,zeroCells→BM
open Go.Deferred renaming ofValue→BX
open Go.Frame renaming atR→CH,raise_atR→Ch
open Go.Instr renaming sameBits→Bg,sureAddr→CE
open Go.Oper renaming semAt_eq→C0
open Go.Region renaming wanted→B9
open Go.Result renaming andThen_ok→NA
open Go.Sem renaming run_bind→NG,run_pure→B8
open Go.StepsIn renaming of_steps→C1,steps→BT
open Go.Value.slice renaming injEq→BO
open Go.stepG renaming apply→CG
open List renaming range→MX,replicate→Ji
open Nat renaming beq→JW,ble→Nu,blt→OO
open Option renaming none→B5,some→B1
open Prod.mk renaming inj→Cw
namespace Go.Am
def sI(P:Jl)(o:P7)(xs:List M7)(f:List AV->ar->Option (AV×ar)):Prop :=
 ∀base(D:Nat->Prop)θ H(ρ:M7->K1)w vs v H',HR P base D θ H w->bN D θ vs (xs.map ρ)->f vs H=B1 (v,H')->eG D H.au H'.au ->
  ∃θ' w' c,sV P (execOp ρ o) w c w'/\HR P base (Up D H.au H'.au) θ' H' w'/\bG D H θ w H' θ' w'/\VR (Up D H.au H'.au) θ' v c
section
variable{P:Jl}{base:Nat}{D:Nat->Prop}{θ:Th}{H:ar}{w:N6}
def xdw{fz:Nat×Nat}{o n:Nat}(h:dG fz o n=B4):∀j,j<n -> ¬(fz.1<=o+j/\o+j<fz.2):=by
 intro j c;unfold dG at h;simp only[GW,ub]at h;omega
def V2(pre cs post new:List K1)(o:Nat)(h:o+new.length<=cs.length) :
 ((pre++cs++post).toArray.toList.take (pre.length+o)++new++(pre++cs++post).toArray.toList.drop (pre.length+o+new.length))=pre++(cs.take o++new++cs.drop (o+new.length))++post:=by
 have e1:(pre++cs++post).take (pre.length+o)=pre++cs.take o:=by
  rw[ku,PC,PC];have:pre.length+o-pre.length-cs.length=0:=by omega
  simp_all[za]
 have e2:(pre++cs++post).drop (pre.length+o+new.length)=cs.drop (o+new.length)++post:=by
  grind [Ij,List.drop_of_length_le]
 grind
theorem HR.store(r:HR P base D θ H w){b o:Nat}{new:List AV}{cs:List K1}{H':ar}(v:bN D θ new cs)(h:H.store b o new=B1 H') :
 ∃w',(storeCells ⟨θ.cq b,θ.off b+o,B5⟩ cs).run P w=.ok () w'/\HR P base D θ H' w'/\bG D H θ w H' θ w'/\H'.au=H.au:=by
 unfold ar.store at h;cases n:aL new with
 |false=>grind
 |true =>
  rw[n]at h;simp only[xt]at h;have y:=q3n v n;have hlen:=v.length;split at h
  .rename_i c e fz hg;obtain⟨E,co,hc,hr⟩:=r.obj b _ hg;obtain⟨pre,d,post,p,G,rfl,l,q,z⟩:=hr;obtain⟨rfl,rfl,rfl,t⟩:=z rfl;have x:=q.length;cases u:dG fz o (cV new)with
   |false=>grind
   |true =>
    rw[u]at h;simp only[xt,AQ]at h;split at h
    .rename_i hle;simp only[qr,qk]at h;subst h;have f:=xdw u;rw[Ie]at f;have g:=Sb (P:=P) (θ.off b+o) cs 0 _ w hc (by grind) (λ j L=>by
      have:=f j (by omega);simp only[jq]at l;rcases t with t|⟨I,J⟩<;>omega) y
     rw[Ah,<-l,V2 [] d [] cs o (by omega)]at g;rw[<-l];refine⟨_,g,?_,?_,rfl⟩
     .refine r.set hg rfl rfl ⟨[],d.take o++cs++d.drop (o+cs.length),[],p,_,rfl,l,?_,λ _=>(by grind)⟩;rw[hlen];exact((q.take o).app v).app (q.drop _)
     .exact bG.set hg rfl (r.lt hg)
    grind
  .rename_i m s c e fz hg;obtain⟨E,co,hc,hr⟩:=r.obj b _ hg;obtain⟨pre,d,post,p,rfl,l,q,z,A,B,C,K⟩:=hr;have x:=q.length;cases u:dG fz o (cV new)with
   |false=>grind
   |true =>
    rw[u]at h;simp only[xt,AQ]at h;split at h
    .rename_i hle;simp only[qr,qk]at h;subst h;have f:=xdw u;rw[Ie]at f;have g:=Sb (P:=P) (θ.off b+o) cs 0 _ w hc (by grind) (by grind [IK]) y;rw[Ah,<-l,V2 pre d post cs o (by omega)]at g;rw[<-l];refine⟨_,g,?_,?_,rfl⟩
     .have F:(d.take o++cs++d.drop (o+cs.length)).length=d.length:=by grind
      refine r.set hg rfl rfl ⟨pre,d.take o++cs++d.drop (o+cs.length),post,p,rfl,l,?_,?_,A,B,C,?_⟩
      .rw [hlen];exact((q.take o).app v).app (q.drop _)
      .grind
      grind
     .exact bG.set hg rfl (r.lt hg)
    grind
  grind
def xlg{o:P7}{t:Lx}{x y:M7}{n:Nat}(ho:o.op=.store t x y)(hs:bV P t=B1 n):sI P o [x,y] (Op.store n):=by
 intro base D θ H ρ w vs v H' l h c j;unfold Op.store at c;split at c
 .rename_i b off a;obtain⟨q,r,he,ha,hb⟩:=h.rE;simp only[zz,uj]at he;obtain⟨rfl,rfl⟩:=he;cases hn:JW (cV a.cells) n with
  |false=>grind
  |true =>
   rw[hn]at c;simp only[xt,qj,qk,zh]at c;obtain⟨H1,g,rfl,rfl⟩:=c;obtain⟨w',e,m,f,p⟩:=l.store hb.cells g;have hl:=hb.cells.length;simp only[Ie,jy]at hn;have d:(ρ y).cells.size=n:=by grind
   refine⟨θ,w',_,.inr ⟨?_,rfl⟩,by grind [Up.none],f,.undef⟩;simp only[execOp,ho,<-ha.now,aB,Instr.storeAt,CE,storeVar,NG,B8,NA,uw hs,d,ne_eq,not_true_eq_false,wn,e]
 grind
def ZL{w:N6}{r:Nat}{o:Obj}{ms:Array Bh}{c:Nat}(h:w.heap[r]? = B1 (.map ms c)):(setObj r o).run P w=.ok () (fI w r o):=by
 simp[setObj,Sem.run,h,fI]
def HR.wR(d:HR P base D θ H w){b:Nat}{m:List (AV×AV×Nat)×Nat}(hm:H.fC b=B1 m){es:List (AV×AV×Nat)}{ms:List Bh}{c:Nat}(h:dD D θ es ms) :
 HR P base D θ (H.set b (.map es c)) (fI w (θ.cq b) (.map ms.toArray c))/\bG D H θ w (H.set b (.map es c)) θ (fI w (θ.cq b) (.map ms.toArray c)):=by
 obtain⟨hg,_,_⟩:=d.fC hm;exact⟨d.set hg rfl rfl ⟨ms,rfl,h⟩,bG.set hg rfl (d.lt hg)⟩
def xb3{o:P7}{c:Call}{xs:List M7}{t s e:Lx}(ho:o.op=.call c)(hc:c.callee=.builtin .clear)(n:c.args.toList=xs)(l:c.argTypes[0]? = B1 t)
 (hu:P.underlying t=B1 (.map s e)):sI P o xs Op.bW:=by
 intro base D θ H ρ w vs v H' j h d p;obtain⟨u,g⟩:=Kr (ρ:=ρ) ho hc;unfold Op.bW at d;split at d
 .obtain ⟨x,rfl,ha⟩:=h.pO;simp only[qk,zh]at d;obtain⟨rfl,rfl⟩:=d;refine⟨θ,w,.tuple #[],.inl ?_,by grind [Up.none],.refl _ _ _ _,.tuple .nil⟩;rw[g,AO n];simp[builtin,Cj,l,<-ha.now,aB,kq hu]
 .rename_i b;obtain⟨x,rfl,ha⟩:=h.pO;simp only[qj,qk,zh]at d;obtain⟨m,hm,rfl,rfl⟩:=d;obtain⟨_,_,ms,f,y⟩:=j.fC hm;obtain⟨q,r⟩:=j.wR hm (c:=m.2) (es:=[]) (ms:=[]) trivial;refine⟨θ,_,.tuple #[],.inl ?_,by rw[show(H.set b (.map [] m.2)).au=H.au from rfl,Up.none];exact q,r,.tuple .nil⟩;rw[g,AO n];simp[builtin,Cj,l,<-ha.now,aB,kq hu,Kl f,ZL f]
 grind
def Φ{n:Nat}{a b:AV}{ca c:K1}(ha:VR D θ a ca)(hb:VR D θ b c)(h:Op.uV a b=B4):Bg n ca c=true:=by
 rw[<-ha.now,<-hb.now];cases a<;>cases b<;>simp only[Op.uV,ja]at h
 .grind [aB,Bg]
 .simp_all [DC,Sv,aB,Bg]
 simp_all[K5,aB,Bg,beq_toListBytes]
def G'{n:Nat}:∀{a b:List AV}{ca c:List K1},bN D θ a ca->bN D θ b c->Op.fp a b=B4->ca.length=c.length/\((ca.zip c).all λ(x,y)=>Bg n x y)=B4
 |[],[],ca,c,ha,hb,_=>by rw[ha.mC,hb.mC];simp
 |a::x,b::y,ca,c,ha,hb,h=>by
  obtain⟨m,d,rfl,f,j⟩:=ha.eI;obtain⟨p,e,rfl,g,l⟩:=hb.eI;simp only[Op.fp]at h;cases hs:Op.uV a b with
  |false=>grind
  |true =>
   rw[hs]at h;obtain⟨e1,e2⟩:=G' (n:=n) j l h;simp only[zu,e1,List.zip_cons_cons,List.all_cons,Φ f g hs,Bool.true_and,e2,and_self]
 |[],_::_,_,_,_,_,h=>by cases h
 |_::_,[],_,_,_,_,h=>by cases h
theorem xjt{n:Nat}{a b:AV}{ca d:K1}(ha:VR D θ a ca)(hb:VR D θ b d)(h:Op.stays a b=B4):Bg (n+1) ca d=true:=by
 by_cases c:(∃l,a=.agg l) /\ ∃l,b=.agg l
 .obtain ⟨⟨l,rfl⟩,⟨g,rfl⟩⟩:=c;obtain⟨cs,rfl,e⟩:=ha.fE;obtain⟨cs',rfl,f⟩:=hb.fE;obtain⟨e1,e2⟩:=G' (n:=n) e f h
  grind [Bg]
 .refine Φ ha hb ?_;cases a<;>cases b<;>first|exact h|grind
def dD.get{D:Nat->Prop}{θ:Th}:∀(es:List (AV×AV×Nat))(ms:List Bh)(i:Nat)(e:AV×AV×Nat),dD D θ es ms->es[i]? = B1 e -> ∃m,ms[i]? = B1 m/\RS D θ e m
 |_::_,m::_,0,e,⟨h,_⟩,he=>(by grind)
 |_::es,_::ms,i+1,e,⟨_,h⟩,he=>by simpa using dD.get es ms i e h (by simpa using he)
 |[],_,_,_,_,he=>by grind
 |_::_,[],_,_,h,_=>h.elim
def dD.modify{D:Nat->Prop}{θ:Th}{k v:AV}{c cv:K1}(hk:VR D θ k c)(d:VR D θ v cv):∀(es:List (AV×AV×Nat))(ms:List Bh)(i:Nat),dD D θ es ms ->
 dD D θ (es.modify i λ e=>(k,v,e.2.2)) (ms.modify i λ e=>{e with key:=c,val:=cv})
 |[],[],_,_=>by grind
 |_::_,_::_,0,⟨⟨_,_,h3⟩,h⟩=>by simpa[dD]using⟨⟨hk,d,h3⟩,h⟩
 |_::es,_::ms,i+1,⟨h1,h⟩=>by simpa[dD]using⟨h1,dD.modify hk d es ms i h⟩
 |[],_::_,_,h=>h.elim
 |_::_,[],_,h=>h.elim
def dD.push{D:Nat->Prop}{θ:Th}{k v:AV}{d cv:K1}{c:Nat}(hk:VR D θ k d)(e:VR D θ v cv):∀(es:List (AV×AV×Nat))(ms:List Bh),dD D θ es ms ->
 dD D θ (es ++ [(k,v,c)]) (ms ++ [{key:=d,val:=cv,born:=c}])
 |[],[],_=>⟨⟨hk,e,rfl⟩,trivial⟩
 |_::es,_::ms,⟨h1,h⟩=>⟨h1,dD.push hk e es ms h⟩
 |[],_::_,h=>h.elim
 |_::_,[],h=>h.elim
def He{o:P7}{t I e:Lx}{x y z:M7}{q:aT}(ho:o.op=.mapUpdate t x y z\/o.op=.insert t x y z)(hu:P.underlying t=B1 (.map I e))(G:pZ P I=B1 q) :
 sI P o [x,y,z] (Op.mapUpdate q):=by
 intro base D θ H ρ w vs v H' s h d L;unfold Op.mapUpdate at d;split at d
 .rename_i b k K;obtain⟨R,v0,N,he,ha,hb,hc⟩:=h.sG;simp only[zz,uj]at he;obtain⟨rfl,rfl,rfl⟩:=he;cases f:dh q k with
  |false=>rw[f]at d;cases d
  |true =>
   rw[f]at d;simp only[xt,qj]at d;obtain⟨m,hm,r,hr,d⟩:=d;obtain⟨_,_,ms,j,l⟩:=s.fC hm;have hk:=λ em=>XQ (em:=em) (w:=w) G hb f;obtain⟨J,F,g⟩:=_1 (w:=w) G hb l hr;cases r with
   |none =>
    cases J with
    |some _=>exact g.elim
    |none =>
     simp only[qk,zh]at d;obtain⟨rfl,rfl⟩:=d;obtain⟨C,E⟩:=s.wR hm (c:=m.2+1) (dD.push (c:=m.2) hb hc _ _ l);refine⟨θ,_,_,.inr ⟨?_,rfl⟩,by rw[show(H.set b (.map (m.1 ++ [(k,K,m.2)]) (m.2+1))).au=H.au from rfl,Up.none];exact C,E,.undef⟩;rcases ho with ho|ho<;>simp[execOp,ho,Instr.mapUpdate,<-ha.now,aB,kq hu,hk,F,Kl j,ZL j]
   |some p =>
    obtain⟨i,pv⟩:=p;cases J with
    |none=>exact g.elim
    |some p' =>
     obtain⟨Q,pc⟩:=p';obtain⟨rfl,g⟩:=g;simp only[qj,jN]at d;obtain⟨en,n,d⟩:=d;cases B:Op.stays en.1 k with
     |false=>grind
     |true =>
      rw[B]at d;simp only[xt,qk,zh]at d;obtain⟨rfl,rfl⟩:=d;obtain⟨me,A,⟨e1,e2,O⟩⟩:=dD.get _ _ i en l n;have M:Bg 10000 me.key (ρ y)=true:=(by grind [xjt])
      have u:(Instr.keyThatStays me.key (ρ y)).run P w=.ok (ρ y) w:=by simp_all[Instr.keyThatStays]
      obtain⟨C,E⟩:=s.wR hm (c:=m.2) (dD.modify hb hc _ _ i l);refine⟨θ,_,_,.inr ⟨?_,rfl⟩,by rw[show(H.set b (.map (m.1.modify i λ e=>(k,K,e.2.2)) m.2)).au=H.au from rfl,Up.none];exact C,E,.undef⟩;rcases ho with ho|ho<;>simp[execOp,ho,Instr.mapUpdate,<-ha.now,aB,kq hu,hk,F,Kl j,ZL j,A,u]
 grind
end
end Go.Am
namespace Go.Am
section
variable{P:Jl}{base:Nat}{D:Nat->Prop}{θ:Th}{H:ar}{w:N6}
def HR.sub(h:HR P base D θ H w){H':ar}(hs:∀b o,H'.get b=B1 o->H.get b=B1 o):HR P base D θ H' w :=
 ⟨λ b o hb=>h.obj b o (hs b o hb),λ b d o o' hb c=>h.inj b d o o' (hs b o hb) (hs d o' c),λ b o hb=>h.lR b o (hs b o hb),h.eO,h.low⟩
theorem UW(H:ar)(k:Nat):∀b o,(H.kill k).get b=B1 o->H.get b=B1 o:=by
 grind [ar.qH]
def bG.kill(H:ar)(k:Nat):bG D H θ w (H.kill k) θ w :=
 ⟨qm _,Ag.refl _ _,qm _,rfl,rfl,rfl,λ _ _ _=>rfl,λ b o h ho _=>(by grind [UW])⟩
def HR.move(h:HR P base D θ H w)(hn:¬D H.au){b:Nat}{o o':bE}{co':Obj}{off ext:Nat}(hb:H.get b=B1 o)(ho:own o=B4)(F:own o'=B4)
 (hr:oP P (Up D H.au (H.au+1)) (θ.add H.au (θ.cq b) off ext) H.au o' co') :
 HR P base (Up D H.au (H.au+1)) (θ.add H.au (θ.cq b) off ext) ((H.kill b).alloc o') (fI w (θ.cq b) co') /\
 bG D H θ w ((H.kill b).alloc o') (θ.add H.au (θ.cq b) off ext) (fI w (θ.cq b) co'):=by
 have p:=h.lt hb;have m:=Th.ia θ H.au (θ.cq b) off ext hn;have⟨e1,e2,I⟩:=Th.eV θ H.au (θ.cq b) off ext;have old:∀x c,H.get x=B1 c->(θ.add H.au (θ.cq b) off ext).cq x = θ.cq x:=λ x c f=>(m x (h.obj x c f).1).1;have d:∀x c,((H.kill b).alloc o').get x=B1 c->(x=H.au/\c=o')\/(x≠H.au/\x≠b/\H.get x=B1 c):=by
  intro x c f;rw[ar.bO,ar.qH]at f
  by_cases e:H.au=x
  .rw [xg (show(H.kill b).au=x from e)]at f
   grind
  .rw [qy (show¬(H.kill b).au=x from e)]at f
   grind
 refine⟨⟨λ x c f=>?_,λ x y c q f G l v=>?_,λ x c f l=>?_,λ g hg=>?_,by rw[TK];exact h.low⟩,⟨kc _,m,by simp_all[TK],rfl,rfl,rfl,λ k hk E=>?_,λ x c f l A=>?_⟩⟩
 .rcases d x c f with⟨rfl,rfl⟩|⟨z,s,j⟩
  .exact ⟨.inr ⟨qm _,zr _⟩,co',by rw[e1,K6 _ _ _ _ p];simp,hr⟩
  .have ⟨n,co,t,u⟩:=h.obj x c j;refine⟨.inl n,co,?_,u.up n m Up.of⟩;rw[old x c j,K6 _ _ _ _ p,qy (h.inj b x o c hb j ho (by omega))];exact t
 .rcases d x c f with⟨rfl,rfl⟩|⟨z,s,j⟩<;>rcases d y q G with⟨rfl,rfl⟩|⟨J,K,r⟩
  .omega
  .rw [e1,old y q r];exact h.inj b y o q hb r ho (by omega)
  .rw [e1,old x c j];exact h.inj x b c o j hb l s
  .rw [old x c j,old y q r];exact h.inj x y c q j r l v
 .rcases d x c f with⟨rfl,rfl⟩|⟨z,s,j⟩
  .rw [e1];exact h.lR b o hb ho
  .rw [old x c j];exact h.lR x c j l
 .have ⟨n,t,u⟩:=h.eO g hg;have⟨B,C,_⟩:=m g n;exact⟨.inl n,B.trans t,C.trans u⟩
 .simp_all [K6]
 grind
def Lh(t:HR P base D θ H w){tx:Lx}(hk:(∃e',P.underlying tx=B1 (.slice e'))\/P.underlying tx=B1 .string){x:AV}{c:K1}{size k:Nat}{l:List AV}
 (p:VR D θ x c) (hl:eN x=B1 k) (h:firstCells H size k x=B1 l) (C:aL l=B4):∃cs,Src P size tx c k cs w/\bN D θ l cs:=by
 cases hs:isStr x with
 |true =>
  cases x<;>try (cases hs)
  rename_i s;simp only[eN,Ie,qk]at hl;subst hl;simp only[firstCells,LU]at h;cases f:JW size 1 with
  |false=>grind
  |true =>
  rw[f]at h;simp only[xt,qk]at h;subst h;simp only[jy]at f;subst f;rw[<-p.now];show∃cs,Src P 1 tx (.string ⟨s.toArray⟩) s.length cs w/\bN D θ _ cs;have r:∀w:N6,(CN 1 s.length (.string ⟨s.toArray⟩)).run P w=.ok (s.map λ b=>K1.int .u8 b.toNat).toArray w:=by
   intro w;have:=firstCells_string (P:=P) ⟨s.toArray⟩ w;rw[LP]at this;exact this
  refine⟨s.map λ b=>.int .u8 b.toNat,⟨hk,λ w'=>?_,r w,r w.drew,by simp,λ u hu=>?_⟩,λ θ' _=>by rw[vV,AF];rfl⟩
  .show Result.ok (ByteArray.size ⟨s.toArray⟩) w'=_;rw[LP]
  .obtain ⟨_,_,rfl⟩:=Fx.1 hu;rfl
 |false =>
  obtain⟨a,len,cap,rfl,rfl,e⟩:=X9 t p hl (qm _) hs h;obtain⟨J,v,q,j,rfl,d⟩:=X9 (t.draw (w':=w.drew) rfl) p hl (qm _) hs h;injection j with m E n;subst m;subst n
  rcases e with⟨rfl,rfl,_,F⟩|⟨ad,cs,rfl,z,g,A⟩
  .exact ⟨[],⟨hk,λ _=>rfl,rfl,rfl,by grind,by simp⟩,.nil⟩
  .rcases d with⟨B,_⟩|⟨y,cs',he,G,I,K⟩
   .cases B
   .cases he;have:cs'=cs:=by rw[<-I.now,<-g.now]
    subst this;exact⟨cs',⟨hk,λ _=>rfl,z,G,by rw[g.length];exact A,q3n g C⟩,g⟩
def Uu{t tx ty e:Lx}{i:TypeInfo}(g:P.underlying t=B1 (.slice e))(f:P.info? e=B1 i){a:Addr}{sLen sCap n:Nat}{x:K1}{news:List K1}(hs:Src P i.size tx x n news w)
 (c:sLen+n<=sCap) {w':N6} (d:(storeCells (a.add (sLen*i.size)) news).run P w=.ok () w') :
 (C2 #[t,tx] ty #[.slice (B1 a) sLen sCap,x]).run P w=.ok (.slice (B1 a) (sLen+n) sCap) w':=by
 rcases hs.kind with⟨e',hk⟩|hk<;>simp[C2,run_underlying g,run_underlying hk,sizeOf,typeInfo,f,hs.len,c,hs.cells,d]
def xbb(z:Array K1)(n:Nat):(BM z n).size=n*z.size:=by simp[BM]
def xi4{D':Nat->Prop}{θ':Th}{id m size:Nat}{cells:List AV}{cs rest:List K1}{e:Lx}{fz:Nat×Nat}(h:bN D' θ' cells cs)(ho:θ'.off id=0)(hl:cells.length=m*size)
 (hr:rest.length = θ'.ext id*size) (c:0<size) (hm:m + θ'.ext id<=maxLen):oP P D' θ' id (.grown m size cells e fz) (.cells (cs++rest).toArray e (0,0)) :=
 ⟨[],cs,rest,(0,0),by simp,by grind,h,hl,hr,c,hm,.inl rfl⟩
def HR.grow(E:HR P base D θ H w)(hn:¬D H.au){t tx ty e:Lx}{i:TypeInfo}{z:K1}(J:P.underlying t=B1 (.slice e))(I:P.info? e=B1 i)(K:i.zero=B1 z)(B:z.cells.size=i.size)
 (G:0<i.size) {bs:Option Addr} {sLen sCap n:Nat} {x:K1} {old new:List AV} {olds news:List K1} (hold:(CN i.size sLen (.slice bs sLen sCap)).run P w.drew=.ok olds.toArray w.drew)
 (hs:Src P i.size tx x n news w) (hg:sCap<sLen+n) (r:fits (sLen+n) i.bytes=B4) (ho:bN D θ old olds) (j:bN D θ new news) (y:old.length=sLen*i.size) (fz:Nat×Nat) :
 ∃θ' w' c,(C2 #[t,tx] ty #[.slice bs sLen sCap,x]).run P w=.ok c w'/\HR P base (Up D H.au (H.au+1)) θ' (dE H e i.size (sLen+n) (kE old new) fz).2 w' /\
  bG D H θ w (dE H e i.size (sLen+n) (kE old new) fz).2 θ' w'/\VR (Up D H.au (H.au+1)) θ' (dE H e i.size (sLen+n) (kE old new) fz).1 c:=by
 unfold fits at r;simp only[zm,ub]at r;have⟨F,L⟩:=r;have d:=run_append_grow_src (P:=P) w t tx ty e i z J I K bs sLen sCap olds hold x n news hs hg (by omega) (growslice_fits hg F);have g:=grownCap_ge w (sLen+n) sCap e;have p:=grownCap_le_maxLen w (sLen+n) sCap e (by unfold maxLen;omega);generalize grownCap w (sLen+n) sCap e=cap at d g p;have v:=hs.newsLen;have hlen:(kE old new).length=(sLen+n)*i.size:=by
  rw[pq,xe,y,<-j.length,v,vz]
 have q:(Obj.cells ((olds++news).toArray++BM z.cells (cap-(sLen+n))) e:Obj)=.cells ((olds++news)++(BM z.cells (cap-(sLen+n))).toList).toArray e (0,0):=by
  simp_all
 have l:=Th.ia θ H.au w.drew.heap.size 0 (cap-(sLen+n)) hn;have A:bN (Up D H.au (H.au+1)) (θ.add H.au w.drew.heap.size 0 (cap-(sLen+n))) (kE old new) (olds++news):=by
  rw[pq];exact(ho.app j).up l Up.of
 have⟨e1,e2,C⟩:=Th.eV θ H.au w.drew.heap.size 0 (cap-(sLen+n));have hR:=xi4 (P:=P) (id:=H.au) (m:=sLen+n) (size:=i.size) (e:=e) (fz:=fz) (rest:=(BM z.cells (cap-(sLen+n))).toList) A e2 hlen
  (by rw[C,Array.length_toList,xbb,B]) G (by rw[C];omega)
 rw[<-q]at hR;refine⟨_,_,_,d,HR.alloc (w:=w.drew) (E.draw rfl) hn ?_ ?_ (qm _) ?_ hR,?_,?_⟩
 .rw [EY];simp
 .simp_all [EY,MF]
 .simp_all
 .exact (bG.draw (w:=w) (w':=w.drew) rfl rfl rfl rfl).trans (bG.alloc (w:=w.drew) (E.draw rfl) hn _ _ _ _) (λ _ h=>h)
 .have u:(Up D H.au (H.au+1)) H.au:=.inr ⟨qm _,zr _⟩;have:=VR.gslice (θ:=θ.add H.au w.drew.heap.size 0 (cap-(sLen+n))) (i:=0) (m:=sLen+n) (s:=i.size) (alt:=0) (n:=sLen+n) u;intro θ'' f;show aB θ'' (.gslice H.au 0 (sLen+n) i.size 0 (sLen+n))=_;rw[this θ'' f];simp_all[aB]
def OT{b i m s alt n:Nat}{c:K1}(h:VR D θ (.gslice b i m s alt n) c):c=.slice (B1 ⟨θ.cq b,θ.off b+(if(m-i) + θ.ext b=0 then alt else i*s),B5⟩) n ((m-i) + θ.ext b):=by
 rw[<-h.now];rfl
theorem Kq{b o n d:Nat}{c:K1}(h:VR D θ (.slice b o n d) c):c=.slice (B1 ⟨θ.cq b,θ.off b+o,B5⟩) n d:=by
 rw[<-h.now];rfl
def HR.Md(O:HR P base D θ H w)(hn:¬D H.au){t tx ty e:Lx}{i:TypeInfo}{z:K1}(ht:P.underlying t=B1 (.slice e))(hi:P.info? e=B1 i)(hz:i.zero=B1 z)(X:z.cells.size=i.size)
 (Y:0<i.size) {b k m sLen n:Nat} {c:List AV} {fz d:Nat×Nat} {alt:Nat} {s x:K1} {old new:List AV} {news:List K1} (hg:H.get b=B1 (.grown m i.size c e fz))
 (V:VR D θ (.gslice b k m i.size alt sLen) s) (hs:Src P i.size tx x n news w) (p:bN D θ new news) (hn0:0<n) (hkm:k+sLen<=m) (Z:m<k+sLen+n) (hf:fits (sLen+n) i.bytes=B4)
 (hold:fZ c (k*i.size) (sLen*i.size)=B1 old)
 (N:(fz.2<fz.1\/fz.2<=(k+sLen)*i.size)/\((k=0/\d=fz)\/(fz.2<=k*i.size/\d=cond (JW fz.1 fz.2) (0,0) (1,0)))) :
 ∃θ' w' v,(C2 #[t,tx] ty #[s,x]).run P w=.ok v w'/\HR P base (Up D H.au (H.au+1)) θ' (dE (H.kill b) e i.size (sLen+n) (kE old new) d).2 w' /\
  bG D H θ w (dE (H.kill b) e i.size (sLen+n) (kE old new) d).2 θ' w'/\VR (Up D H.au (H.au+1)) θ' (dE (H.kill b) e i.size (sLen+n) (kE old new) d).1 v:=by
 have U:=OT V;subst U;obtain⟨hd,co,hc,pre,cs,post,g,rfl,r2,r3,r4,r5,r6,r7,r8⟩:=O.obj b _ hg;have B:=r3.length;have C:=hs.newsLen;rw[tR]at hold;have hle:sLen*i.size<=c.length-k*i.size:=by
  grind
 rw[xg hle]at hold;cases hold;have r:bN D θ ((c.drop (k*i.size)).take (sLen*i.size)) ((cs.drop (k*i.size)).take (sLen*i.size)):=(r3.drop _).take _;have hkc:(k+sLen)*i.size<=c.length:=by simp_all[j8]
 have R:(k+sLen)*i.size=k*i.size+sLen*i.size:=vz _ _ _
 by_cases u:sLen+n<=(m-k) + θ.ext b
 .-- in place
  have f:¬(m-k) + θ.ext b=0:=by omega
  rw[qy f];have htot:(k+sLen+n)*i.size<=cs.length+post.length:=by
   rw[B,r4,r5,<-vz];exact j8 _ (by omega)
  have J:(k+sLen+n)*i.size=k*i.size+sLen*i.size+n*i.size:=by grind
  have F:=Sb (P:=P) (θ.off b+k*i.size+sLen*i.size) news 0 _ w hc (by grind) (by grind [IK]) hs.one;rw[Ah]at F;have E:=Uu (ty:=ty) ht hi (a:=⟨θ.cq b,θ.off b+k*i.size,B5⟩) (sLen:=sLen) (sCap:=(m-k) + θ.ext b) hs u (by rw[zJ];exact F)
  -- the block's cells from the slice's head on
  have hw:((pre++cs++post).take (θ.off b+k*i.size+sLen*i.size)++news++(pre++cs++post).drop (θ.off b+k*i.size+sLen*i.size+news.length)) =
   (pre++cs.take (k*i.size))++((cs.drop (k*i.size)).take (sLen*i.size)++news)++(pre++cs++post).drop (θ.off b+k*i.size+sLen*i.size+news.length):=by
   have e1:(pre++cs++post).take (θ.off b+k*i.size+sLen*i.size)=pre++cs.take (k*i.size)++(cs.drop (k*i.size)).take (sLen*i.size):=by
    rw[ku,PC,za (l:=pre) (by omega),ku,show θ.off b+k*i.size+sLen*i.size-pre.length=k*i.size+sLen*i.size from by omega,PC,
     show k*i.size+sLen*i.size-cs.length=0 from by omega,yf,zp,List.take_add]
   grind
  have L:((pre++cs++post).drop (θ.off b+k*i.size+sLen*i.size+news.length)).length=((m-k) + θ.ext b-(sLen+n))*i.size:=by
   rw[yk,xe,xe,C,Nat.sub_mul,vz,vz,Nat.sub_mul,B,r4,r5,r2];omega
  have K:=Th.ia θ H.au (θ.cq b) (θ.off b+k*i.size) ((m-k) + θ.ext b-(sLen+n)) hn;have⟨e1,e2,e3⟩:=Th.eV θ H.au (θ.cq b) (θ.off b+k*i.size) ((m-k) + θ.ext b-(sLen+n));have W:((cs.drop (k*i.size)).take (sLen*i.size)).length=sLen*i.size:=by rw[js,yk];omega
  have⟨G,I⟩:=O.move hn (o':=.grown (sLen+n) i.size (kE ((c.drop (k*i.size)).take (sLen*i.size)) new) e d) (co':=.cells ((pre++cs.take (k*i.size))++((cs.drop (k*i.size)).take (sLen*i.size)++news)++(pre++cs++post).drop (θ.off b+k*i.size+sLen*i.size+news.length)).toArray e g)
   (off:=θ.off b+k*i.size) (ext:=(m-k) + θ.ext b-(sLen+n)) hg rfl rfl ⟨_,_,_,g,rfl,by grind,by rw[pq];exact(r.app p).up K Up.of,
    by rw[pq,xe,<-r.length,W,<-p.length,C,vz],by grind,Y,by omega,by
     rw[e2];have j:(pre++cs.take (k*i.size)).length+((cs.drop (k*i.size)).take (sLen*i.size)++news).length+((pre++cs++post).drop (θ.off b+k*i.size+sLen*i.size+news.length)).length=pre.length+cs.length+post.length:=by
      rw[<-xe,<-xe,<-hw];simp;omega
     rw[j];obtain⟨_,q|⟨q1,q2⟩⟩:=N
     .simp_all
     .unfold IK at r8⊢;cases A:JW fz.1 fz.2 with
      |true =>
       simp only[jy]at A;omega
      |false =>
       rw[A]at q2;subst q2;have:¬fz.1=fz.2:=by grind [Nat.beq_refl]
       simp only[zn];omega⟩
  refine⟨θ.add H.au (θ.cq b) (θ.off b+k*i.size) ((m-k) + θ.ext b-(sLen+n)),_,_,E,?_,?_,?_⟩
  .rw [show(pre++cs++post).toArray.toList=pre++cs++post from rfl,hw];exact G
  .rw [show(pre++cs++post).toArray.toList=pre++cs++post from rfl,hw];exact I
  .have Q:(Up D H.au (H.au+1)) H.au:=.inr ⟨qm _,zr _⟩;have:=VR.gslice (θ:=θ.add H.au (θ.cq b) (θ.off b+k*i.size) ((m-k) + θ.ext b-(sLen+n))) (i:=0) (m:=sLen+n) (s:=i.size) (alt:=0) (n:=sLen+n) Q;intro θ'' y;show aB θ'' (.gslice H.au 0 (sLen+n) i.size 0 (sLen+n))=_;rw[this θ'' y];simp_all[aB]
 .have M:(CN i.size sLen (.slice (B1 ⟨θ.cq b,θ.off b+(if(m-k) + θ.ext b=0 then alt else k*i.size),B5⟩) sLen ((m-k) + θ.ext b))).run P w.drew=.ok ((cs.drop (k*i.size)).take (sLen*i.size)).toArray w.drew:=by
   by_cases S:sLen=0
   .subst S;show(loadCells _ (0*i.size)).run P w.drew=_;rw[AN,yf];rfl
   .have f:¬(m-k) + θ.ext b=0:=by omega
    rw[qy f];show(loadCells _ (sLen*i.size)).run P w.drew=_;have:=xdn (P:=P) (w:=w.drew) (k:=θ.cq b) (fz:=g) (e:=e) (arr:=(pre++cs++post).toArray) hc (pre.length+k*i.size) (sLen*i.size) (by grind);rw[xg6 pre cs post _ _ (by omega),r2]at this;exact this
  have:=(O.sub (UW H b)).grow (ty:=ty) (H:=H.kill b) hn ht hi hz X Y M hs (by omega) hf r p (by rw[js,yk];omega) d;have⟨θ',w',v,G,I,g3,g4⟩:=this;exact⟨θ',w',v,G,I,(bG.kill H b).trans g3 (λ _ h=>h),g4⟩
def HC{e:Lx}{n z:Nat}{g:AV}(hs:bV P e=B1 n)(hb:nC P e=B1 z)(c:zeroOf P e=B1 g)(m:g.cells.length=n) :
 ∃i d,P.info? e=B1 i/\i.size=n/\i.bytes=z/\i.zero=B1 d/\d.cells.size=n:=by
 have⟨i,f,h⟩:=hQ hs;unfold nC at hb;rw[f]at hb;simp only[qr,qk]at hb;unfold zeroOf at c;rw[f]at c;simp only[qr,qj]at c;have⟨d,j,l⟩:=c;refine⟨i,d,f,h,hb,j,?_⟩;have:=(Sh (D:=λ _=>False) (θ:=⟨λ _=>0,λ _=>0,λ _=>0⟩) l).cells.length
 grind
def xm8{b o n d:Nat}{c:K1}(h:VR D θ (.slice b o n d) c)(n':Nat):VR D θ (.slice b o n' d) (.slice (B1 ⟨θ.cq b,θ.off b+o,B5⟩) n' d):=λ θ' ha=>by
 have:=(h θ' ha).trans h.now.symm;simp_all[aB]
def xij{b i m s alt n:Nat}{c:K1}(h:VR D θ (.gslice b i m s alt n) c)(n':Nat):VR D θ (.gslice b i m s alt n') (.slice (B1 ⟨θ.cq b,θ.off b+(if(m-i) + θ.ext b=0 then alt else i*s),B5⟩) n' ((m-i) + θ.ext b)):=λ θ' ha=>by
 have:=(h θ' ha).trans h.now.symm;simp only[aB,BO,qk,C5,uj,FO]at this
 grind [aB]
def xif{o:P7}{c:Call}{xs:List M7}{t tx e:Lx}{sz z:Nat}{zv:AV}(ho:o.op=.call c)(hc:c.callee=.builtin .append)(hx:c.args.toList=xs)(hts:c.argTypes.toList=[t,tx])
 (hu:P.underlying t=B1 (.slice e)) (hk:(∃e',P.underlying tx=B1 (.slice e'))\/(P.underlying tx=B1 .string)) (hs:bV P e=B1 sz) (hb:nC P e=B1 z) (hz:zeroOf P e=B1 zv) (hzn:zv.cells.length=sz) :
 sI P o xs (Op.append e sz z):=by
 intro base D θ H ρ w vs v H' L h d S;obtain⟨cc,hE⟩:=Kr (ρ:=ρ) ho hc;have hats:c.argTypes = #[t,tx]:=by grind
 obtain⟨i,zc,X,rfl,rfl,U,W⟩:=HC hs hb hz hzn;unfold Op.append at d;split at d
 .rename_i a b;obtain⟨x,y,rfl,ha,hbv⟩:=h.rE;simp only[qj]at d;obtain⟨n,hn,new,Z,d⟩:=d;cases M:aL new with
  |false=>grind
  |true =>
   rw[M]at d;simp only[xt]at d;obtain⟨news,j,A⟩:=Lh L (tx:=tx) hk hbv hn Z M;have g:∀(I:K1)(w':N6),(C2 #[t,tx] o.type #[ρ x,ρ y]).run P w=.ok I w'->(execOp ρ o).run P w=.ok (.value I) w':=by
    simp_all[AO,builtin]
   have hnl:=j.newsLen;have hnlen:=A.length;have f:n=0 -> ∀bs len J,ρ x=.slice bs len J->len<=J->(C2 #[t,tx] o.type #[ρ x,ρ y]).run P w=.ok (ρ x) w:=by
    intro p bs len J he hle;simp_all[run_append_nothing]
   unfold cS at d;split at d
   .-- nil
    cases p:JW n 0 with
    |true =>
     rw[p]at d;simp only[xt,qk,zh]at d;obtain⟨rfl,rfl⟩:=d;exact⟨θ,w,ρ x,.inl (g _ _ (f (by simpa using p) B5 0 0 ha.now.symm (qm _))),by grind [Up.none],.refl _ _ _ _,by grind [Up.none]⟩
    |false =>
     rw[p]at d;simp only[zn]at d;cases B:(fits n i.bytes && OO 0 i.size)with
     |false=>grind
     |true =>
      rw[B]at d;simp only[xt,qk]at d;simp only[zm,A6]at B;have hn0:n≠0:=by intro q;simp_all
      obtain⟨θ',w',I,N,s,u,l⟩:=L.grow (ty:=o.type) (S H.au (qm _) (by rw[<-(Cw d).2];exact zr _)) hu X U W B.2 (bs:=B5) (sLen:=0) (sCap:=0) (old:=[]) (olds:=[]) rfl j (by omega) (by grind) .nil A (by simp) (0,0);rw[show kE ([]:List AV) new=new from rfl,yg]at s u l;rw[d]at s u l;have:H'.au=H.au+1:=by rw[<-(Cw d).2];rfl
      rw[<-this]at s l;refine⟨θ',w',I,.inl (g _ _ ?_),s,u,l⟩;rw[<-ha.now];exact N
   .-- a slice of a row
    rename_i bb oo len J;cases hle:Nu (len+n) J with
    |true =>
     rw[hle]at d;simp only[ub]at hle;simp only[xt]at d;cases p:JW n 0 with
     |true =>
      rw[p]at d;simp only[xt,qk,zh]at d;obtain⟨rfl,rfl⟩:=d;simp only[jy]at p;subst p;exact⟨θ,w,ρ x,.inl (g _ _ (f rfl _ len J (Kq ha) (by omega))),by grind [Up.none],.refl _ _ _ _,by grind [Up.none]⟩
     |false =>
      rw[p]at d;simp only[zn,qj,qk,zh]at d;obtain⟨H1,h1,rfl,rfl⟩:=d;obtain⟨w',N,s,u,l⟩:=L.store A h1;refine⟨θ,w',_,.inl (g _ _ ?_),by grind [Up.none],u,by rw[l,Up.none];exact xm8 ha _⟩;rw[Kq ha];exact Uu hu X j hle (by grind [zJ])
    |false =>
     rw[hle]at d;have Y:¬len+n<=J:=by grind [Nat.ble_eq_true_of_le]
     simp only[zn]at d;cases B:(fits (len+n) i.bytes && Nu J (len+n) && OO 0 i.size)with
     |false=>grind
     |true =>
      rw[B]at d;simp only[xt,qj,qk]at d;obtain⟨old,hold,d⟩:=d;simp only[zm,A6]at B;obtain⟨olds,k1,k2,k3⟩:∃olds:List K1,(CN i.size len (ρ x)).run P w.drew=.ok olds.toArray w.drew/\bN D θ old olds/\old.length=len*i.size:=by
       obtain⟨ad,len',cap',O,hl',Q⟩:=X9 (L.draw (w':=w.drew) rfl) ha (n:=len) rfl (qm _) rfl hold;rcases Q with⟨rfl,rfl,_,p⟩|⟨ad',cs',rfl,k1,k2,k3⟩
       .rw [Kq ha]at O;cases O
       .exact ⟨cs',by rw[O];exact k1,k2,k3⟩
      rw[Kq ha]at k1;obtain⟨θ',w',I,N,s,u,l⟩:=L.grow (ty:=o.type) (S H.au (qm _) (by rw[<-(Cw d).2];exact zr _)) hu X U W B.2 k1 j (by omega) B.1.1 k2 A k3 (0,0);rw[d]at s u l;have:H'.au=H.au+1:=by rw[<-(Cw d).2];rfl
      rw[<-this]at s l;refine⟨θ',w',I,.inl (g _ _ ?_),s,u,l⟩
      grind [Kq]
   .-- a slice of a grown row
    rename_i bb ii m sz alt len;cases p:JW n 0 with
    |true =>
     rw[p]at d;simp only[xt]at d;cases F:Nu (ii+len) m with
     |false=>grind
     |true =>
     rw[F]at d;simp only[xt,qk,zh]at d;obtain⟨rfl,rfl⟩:=d;simp only[jy]at p;subst p;simp only[ub]at F;exact⟨θ,w,ρ x,.inl (g _ _ (f rfl _ len _ (OT ha) (by omega))),by grind [Up.none],.refl _ _ _ _,by grind [Up.none]⟩
    |false =>
     rw[p]at d;have hn0:n≠0:=by intro q;simp_all
     simp only[zn]at d;cases r:(JW sz i.size && Nu (ii+len) m && OO 0 i.size)with
     |false=>grind
     |true =>
      rw[r]at d;simp only[zm,jy,ub,A6]at r;obtain⟨⟨rfl,F⟩,hsz⟩:=r;simp only[xt]at d;cases hle:Nu (ii+len+n) m with
      |true =>
       rw[hle]at d;simp only[ub]at hle;simp only[xt,qj,qk,zh]at d;obtain⟨H1,h1,rfl,rfl⟩:=d;obtain⟨w',N,s,u,l⟩:=L.store A h1;refine⟨θ,w',_,.inl (g _ _ ?_),by grind [Up.none],u,by rw[l,Up.none];exact xij ha _⟩;rw[OT ha];refine Uu hu X j (by omega) ?_;rw[qy (by omega),zJ,Ad,<-vz];exact N
      |false =>
       rw[hle]at d;have Y:¬ii+len+n<=m:=by grind [Nat.ble_eq_true_of_le]
       simp only[zn]at d;cases B:fits (len+n) i.bytes with
       |false=>grind
       |true =>
        rw[B]at d;simp only[xt]at d;split at d
        .rename_i m' sz' c0 e' fz K;cases r:(JW m m' && JW i.size sz' && JW e' e)with
         |false=>grind
         |true =>
          rw[r]at d;simp only[zm,jy]at r;obtain⟨⟨rfl,rfl⟩,rfl⟩:=r;simp only[xt]at d;have R:∀old E,fZ c0 (ii*i.size) (len*i.size)=B1 old->((fz.2<fz.1\/fz.2<=(ii+len)*i.size)/\((ii=0/\E=fz)\/(fz.2<=ii*i.size/\E=cond (JW fz.1 fz.2) (0,0) (1,0)))) ->
           dE (H.kill bb) e' i.size (len+n) (kE old new) E=(v,H') -> ∃θ' w' c,sV P (execOp ρ o) w c w'/\HR P base (Up D H.au H'.au) θ' H' w'/\bG D H θ w H' θ' w'/\VR (Up D H.au H'.au) θ' v c:=by
           intro old E hold hfz d;have hnx:H'.au=H.au+1:=by rw[<-(Cw d).2];rfl
           obtain⟨θ',w',I,N,s,u,l⟩:=L.Md (ty:=o.type) (S H.au (qm _) (by omega)) hu X U W hsz K ha j A (by omega) F (by omega) B hold hfz;rw[d]at s u l;rw[<-hnx]at s l;exact⟨θ',w',I,.inl (g _ _ N),s,u,l⟩
          cases C:(JW ii 0 && JW len m && Nu fz.2 (m*i.size))with
          |true =>
           rw[C]at d;simp only[zm,jy,ub]at C;obtain⟨⟨rfl,rfl⟩,C⟩:=C;simp only[xt,qk]at d;obtain⟨_,co,_,pre,cs,post,cfz,_,_,_,r4,_⟩:=L.obj bb _ K;refine R c0 fz ?_ (by grind) d;rw[tR,AN,<-r4,xg (by omega),yw,LU]
          |false =>
           rw[C]at d;simp only[zn]at d;cases V:Nu fz.2 (ii*i.size)with
           |true =>
            rw[V]at d;simp only[ub]at V;simp only[xt,qj,qk]at d
            grind
           |false =>
            rw[V]at d;simp only[zn]at d;cases G:(JW ii 0 && Nu fz.2 (len*i.size))with
            |false=>grind
            |true =>
             rw[G]at d;simp only[zm,jy,ub]at G;obtain⟨rfl,G⟩:=G;simp only[xt,qj,qk]at d
             grind
        grind
   grind
 grind
def xev{o:P7}{c:Call}{xs:List M7}{t e:Lx}{z:AV}(ho:o.op=.call c)(hc:c.callee=.builtin .clear)(B:c.args.toList=xs)(J:c.argTypes[0]? = B1 t)
 (hu:P.underlying t=B1 (.slice e)) (K:zeroOf P e=B1 z):sI P o xs (Op.bS z.cells):=by
 intro base D θ H ρ w vs v H' F h f E;have⟨O,A⟩:=Kr (ρ:=ρ) ho hc;unfold Op.bS at f;split at f
 .cases f
 .rename_i d I;obtain⟨x,rfl,ha⟩:=h.pO;simp only[qj]at f;have⟨n,hn,f⟩:=f;cases j:JW n 0 with
  |true =>
   rw[j]at f;simp only[xt,qk,zh]at f;obtain⟨rfl,rfl⟩:=f;simp only[jy]at j;subst j;refine⟨θ,w,.tuple #[],.inl ?_,by grind [Up.none],.refl _ _ _ _,.tuple .nil⟩;rw[A,AO B];have q:∃bs y,ρ x=.slice bs 0 y:=by
    cases d<;>simp only[eN,reduceCtorEq,qk]at hn
    .grind
    .exact ⟨B5,0,ha.now.symm⟩
    .subst hn;exact⟨_,_,Kq ha⟩
    .subst hn;exact⟨_,_,OT ha⟩
    .exact ⟨_,_,ha.now.symm⟩
   have⟨bs,y,r⟩:=q;cases bs<;>simp[builtin,Cj,J,kq hu,r]
  |false =>
   rw[j]at f;simp only[zn,qj,qk,zh]at f;obtain⟨p,hp,H1,C,rfl,rfl⟩:=f;have⟨n',U,u,Q,R,S⟩:=q4f ha hp;rw[AN,Nat.sub_zero]at u;have⟨l,L,s⟩:=KV (w:=w) K;have g:bN D θ (fY n z.cells) (Ji n l.cells.toList).flatten:=YT (s D θ).cells n;have⟨w',V,W,N,X⟩:=F.store g C;refine⟨θ,w',.tuple #[],.inl ?_,by grind [Up.none],N,.tuple .nil⟩;rw[A,AO B];have m:n'=n:=by
    cases d<;>simp only[eN,reduceCtorEq,qk]at hn
    .grind
    .simp_all
    .subst hn;rw[Kq ha]at u;grind
    .subst hn;rw[OT ha]at u;grind
    .cases hp
   subst m;have M:(BM l.cells n').toList=(Ji n' l.cells.toList).flatten:=by
    have:=WT l.cells.toList n';simp_all[BM]
   have G:n'≠0:=by omega
   simp_all[builtin,Cj,kq]
 grind
def Mp.join{fz c:Nat×Nat}(h:Mp fz c)(o n:Nat)(hn:n≠0):Mp (Op.mW fz o n) (if c.1 == c.2 then(o,o+n)else(min c.1 o,max c.2 (o+n))):=by
 unfold Mp at h⊢;unfold Op.mW
 by_cases hc:c.1=c.2
 .grind
 .rw [qy (by simpa using hc)];have hb:JW fz.1 fz.2=false:=by
   grind [jy]
  grind
def IK.join{fz c:Nat×Nat}{off size:Nat}(h:IK fz c off size)(d:fz.1<=fz.2)(o n:Nat)(hn:n≠0):IK (Op.mW fz o n) (if c.1 == c.2 then(off+o,off+o+n)else(min c.1 (off+o),max c.2 (off+o+n))) off size:=by
 unfold IK at h⊢;unfold Op.mW
 by_cases hc:c.1=c.2
 .grind
 .rw [qy (by simpa using hc)];have hb:JW fz.1 fz.2=false:=by
   grind [jy]
  grind
end
end Go.Am
namespace Go.Am
def Ext(H H':ar):Prop:=H.au<=H'.au /\ ∀b o,H'.get b=B1 o->(∃o',H.get b=B1 o'/\(own o'=B4->own o=B4))\/(H.au<=b/\b<H'.au/\own o=B4)
theorem Ext.refl(H:ar):Ext H H:=⟨qm _,λ b o h=>.inl ⟨o,h,λ h=>h⟩⟩
theorem Ext.trans{H H' c:ar}(h:Ext H H')(e:Ext H' c):Ext H c:=by
 refine⟨xx h.1 e.1,λ b o hb=>?_⟩;rcases e.2 b o hb with⟨o',f,j⟩|⟨f,l,d⟩
 .rcases h.2 b o' f with⟨n,d,g⟩|⟨d,g,m⟩
  .grind
  .exact .inr ⟨d,qn g e.1,j m⟩
 .exact .inr ⟨xx h.1 f,l,d⟩
theorem Ext.set{H:ar}{b:Nat}{o:bE}(h:H.get b=B1 o)(o':bE)(ho:own o=B4->own o'=B4):Ext H (H.set b o'):=by
 refine⟨qm _,λ x d c=>?_⟩
 grind [ar.aK]
theorem Ext.alloc(H:ar)(o:bE)(ho:own o=B4):Ext H (H.alloc o):=by
 refine⟨kc _,λ x d c=>?_⟩;rw[ar.bO]at c;split at c
 .rename_i e;subst e;cases c;exact .inr ⟨qm _,zr _,ho⟩
 grind
def Ext.kill(H:ar)(b:Nat):Ext H (H.kill b):=⟨qm _,λ x d c=>(by grind [UW])⟩
def ο{H:ar}{b:Nat}{m:List (AV×AV×Nat)×Nat}(h:H.fC b=B1 m):∃o,H.get b=B1 o:=by
 grind [ar.fC]
def dK:fP->Prop
 | .alloc f=>∀vs ob mk,f vs=B1 (ob,mk)->own ob=B4
 | .gT f=>∀vs H v H',f vs H=B1 (v,H')->Ext H H'
 |_=>True
def yi{α:Type}{c:Bool}{a b:Option α}{x:α}(h:cond c a b=B1 x):(c=B4/\a=B1 x)\/(c=B2/\b=B1 x):=by
 grind
theorem SM{H H':ar}{b o:Nat}{l:List AV}(h:H.store b o l=B1 H'):Ext H H':=by
 unfold ar.store at h;rcases yi h with⟨_,h⟩|⟨_,h⟩
 .split at h
  .rename_i hg;rcases yi h with⟨_,h⟩|⟨_,h⟩
   .simp only[qj,qk]at h;obtain⟨_,_,rfl⟩:=h;exact Ext.set hg _ (λ _=>rfl)
   grind
  .rename_i hg;rcases yi h with⟨_,h⟩|⟨_,h⟩
   .simp only[qj,qk]at h;obtain⟨_,_,rfl⟩:=h;exact Ext.set hg _ (λ _=>rfl)
   grind
  grind
 grind
def xi2(n:Nat):dK (.gT (Op.store n)):=by
 intro vs H v H' h;unfold Op.store at h;split at h
 .rcases yi h with⟨_,h⟩|⟨_,h⟩
  .grind [qj,SM]
  grind
 grind
def v_(q:aT):dK (.gT (Op.mapUpdate q)):=by
 intro vs H v H' h;unfold Op.mapUpdate at h;split at h
 .rcases yi h with⟨_,h⟩|⟨_,h⟩
  .simp only[qj]at h;have⟨m,hm,r,_,h⟩:=h;have⟨d,c⟩:=ο hm;split at h
   .simp only[qj]at h;have⟨e,_,h⟩:=h;rcases yi h with⟨_,h⟩|⟨_,h⟩
    .injection h with h;injection h with _ h;subst h;exact Ext.set c _ (λ _=>rfl)
    grind
   .injection h with h;injection h with _ h;subst h;exact Ext.set c _ (λ _=>rfl)
  grind
 grind
def xak:dK (.gT Op.bW):=by
 intro vs H v H' h;unfold Op.bW at h;split at h
 .grind [Ext.refl]
 .simp only[qj]at h;have⟨m,hm,h⟩:=h;have⟨d,c⟩:=ο hm;injection h with h;injection h with _ h;subst h;exact Ext.set c _ (λ _=>rfl)
 grind
def xc2(z:List AV):dK (.gT (Op.bS z)):=by
 intro vs H v H' h;unfold Op.bS at h;split at h
 .cases h
 .simp only[qj]at h;have⟨_,_,h⟩:=h;rcases yi h with⟨_,h⟩|⟨_,h⟩
  .grind [Ext.refl]
  grind [qj,SM]
 grind
theorem Rj{H H':ar}{e s n:Nat}{c:List AV}{fz:Nat×Nat}{v:AV}(h:B1 (dE H e s n c fz)=B1 (v,H')):Ext H H':=by
 injection h with h;injection h with _ h;subst h;exact Ext.alloc _ _ rfl
def xfl(e s z:Nat):dK (.gT (Op.append e s z)):=by
 intro vs H v H' h;unfold Op.append at h;split at h
 .simp only[qj]at h;have⟨n,_,new,_,h⟩:=h;rcases yi h with⟨_,h⟩|⟨_,h⟩
  .unfold cS at h;split at h
   .rcases yi h with⟨_,h⟩|⟨_,h⟩
    .grind [Ext.refl]
    .rcases yi h with⟨_,h⟩|⟨_,h⟩
     .exact Rj h
     grind
   .rcases yi h with⟨_,h⟩|⟨_,h⟩
    .rcases yi h with⟨_,h⟩|⟨_,h⟩
     .grind [Ext.refl]
     grind [qj,SM]
    .rcases yi h with⟨_,h⟩|⟨_,h⟩
     .grind [qj,Rj]
     grind
   .rcases yi h with⟨_,h⟩|⟨_,h⟩
    .rcases yi h with⟨_,h⟩|⟨_,h⟩
     .grind [Ext.refl]
     grind
    .rcases yi h with⟨_,h⟩|⟨_,h⟩
     .rcases yi h with⟨_,h⟩|⟨_,h⟩
      .grind [qj,SM]
      .rcases yi h with⟨_,h⟩|⟨_,h⟩
       .split at h
        .rcases yi h with⟨_,h⟩|⟨_,h⟩
         .rcases yi h with⟨_,h⟩|⟨_,h⟩
          .exact (Ext.kill _ _).trans (Rj (H:=H.kill _) h)
          .rcases yi h with⟨_,h⟩|⟨_,h⟩
           .simp only[qj]at h;have⟨_,_,h⟩:=h;exact(Ext.kill _ _).trans (Rj (H:=H.kill _) h)
           .rcases yi h with⟨_,h⟩|⟨_,h⟩
            .simp only[qj]at h;have⟨_,_,h⟩:=h;exact(Ext.kill _ _).trans (Rj (H:=H.kill _) h)
            grind
         grind
        grind
       grind
     grind
   grind
  grind
 grind
end Go.Am
namespace Go.Am
structure Dd(ρ:M7->K1):Prop where
 const:∀v,ρ (.const v)=v
 func:∀f,ρ (.func f)=.func (.func f) #[] #[]
def zI(P:Jl)(o:P7)(xs:List M7)(f:List AV->Option AV):Prop :=
 ∀(D:Nat->Prop)θ(ρ:M7->K1)w vs v,Dd ρ->bN D θ vs (xs.map ρ)->f vs=B1 v -> ∃c,sV P (execOp ρ o) w c w/\VR D θ v c
def vI(P:Jl)(o:P7)(xs:List M7)(f:List AV->Option (bE×(Nat->AV))):Prop :=
 ∀(D:Nat->Prop)θ(ρ:M7->K1)w vs ob mk,Dd ρ->bN D θ vs (xs.map ρ)->f vs=B1 (ob,mk) ->
  own ob=B4 /\ ∃w0 co ext c,(execOp ρ o).run P w=.ok (.value c) (w0.alloc co)/\lK w w0 /\
   ∀(D':Nat->Prop)θ' id,Ag D θ θ'->(∀b,D b->D' b)->D' id -> θ'.cq id=w.heap.size -> θ'.off id=0 -> θ'.ext id=ext->oP P D' θ' id ob co/\VR D' θ' (mk id) c
structure d9(P:Jl):Prop where
 names:∀(f:FuncId)(fn:Func),P.funcs[f]? = B1 fn->fn.name≠ "runtime.NumGoroutine"
 mixed:P.follows .mixedOrders=B4
def sr(P:Jl)(o:P7)(xs:List M7):fP->Prop
 | .pure f=>zI P o xs f
 | .read f=>qW P o xs f
 | .alloc f=>vI P o xs f/\dK (.alloc f)
 | .gT f=>sI P o xs f/\dK (.gT f)
 | .ij f=>∃c fn b,o.op=.call c/\c.callee=.value (.func f)/\xs=c.args.toList/\P.funcs[f]? = B1 fn/\fn.body=B1 b
 | .iq=>∃c x,o.op=.call c/\c.callee=.value x/\xs=x::c.args.toList
 | .invoke m=>∃c x,o.op=.call c/\c.callee=.invoke x m/\xs=x::c.args.toList
 | .recover=>∃c,o.op=.call c/\c.callee=.builtin .recover/\xs=c.args.toList
 | .defer=>∃c x,o.op=.defer c/\c.callee=.value x/\xs=x::c.args.toList
 | .panic=>(∃x,o.op=.panic x/\xs=[x]) \/ ∃c,o.op=.call c/\c.callee=.builtin .panic/\xs=c.args.toList
def xi1{e:Nat}{z:List AV}:dK (.alloc (Op.alloc e z)):=by
 intro vs c mk h;unfold Op.alloc at h;split at h
 .injection h with h;injection h with h _;subst h;rfl
 grind
def ag3{e:Nat}:dK (.alloc (Op.box e)):=by
 intro vs c mk h;unfold Op.box at h;split at h
 .injection h with h;injection h with h _;subst h;rfl
 grind
def q5l{e n:Nat}{z:List AV}{c:List (Nat×Nat)}:dK (.alloc (Op.buildSlice e n z c)):=by
 intro vs d mk h;simp only[Op.buildSlice,qj]at h;have⟨_,_,h⟩:=h;injection h with h;injection h with h _;subst h;rfl
def xc3{e b:Nat}{z:List AV}:dK (.alloc (Op.mkSlice e b z)):=by
 intro vs c mk h;unfold Op.mkSlice at h;split at h
 .rcases yi h with⟨_,h⟩|⟨_,h⟩
  .injection h with h;injection h with h _;subst h;rfl
  grind
 grind
def q8k:dK (.alloc Op.mkMap):=by
 intro vs c mk h;unfold Op.mkMap at h;split at h
 .injection h with h;injection h with h _;subst h;rfl
 grind
section
variable{P:Jl}{o:P7}{xs:List M7}
theorem dv.up{f:List AV->Option AV}(h:dv P o xs f):zI P o xs f:=λ D θ ρ w vs v _=>h D θ ρ w vs v
theorem mB.up{f:List AV->Option (bE×(Nat->AV))}(h:mB P o xs f):vI P o xs f:=λ D θ ρ w vs c mk _=>h D θ ρ w vs c mk
theorem Il{src dst:Lx}{x:M7}(ho:o.op=.convert src dst x){r:List M7×fP}(h:EJ P src dst x=B1 r):sr P o r.1 r.2:=by
 unfold EJ at h;split at h
 .rename_i c d;cases h;exact(xmv ho c d).up
 .cases h
def xlm{t:Lx}{x y:M7}{k:wM}(h:Ip P t x y=B1 k):wI P t x y k:=by
 unfold Ip at h;simp only[Vt]at h;split at h
 .rename_i hu;cases h;exact hu
 .rename_i e hu;split at h
  .rename_i n hs;cases h;exact⟨e,n,hu,hs⟩
  grind
 .rename_i e hu;cases h;exact⟨e,hu⟩
 .rename_i k e hu;cases h;exact⟨k,e,hu⟩
 .rename_i a b c hu;cases h;exact⟨a,b,c,hu⟩
 .rename_i ms hu;split at h
  .cases h;exact⟨ms,hu,.inl ⟨_,rfl⟩⟩
  .cases h;exact⟨ms,hu,.inr ⟨_,rfl⟩⟩
  .cases h;refine⟨⟨ms,hu⟩,λ u q d=>?_⟩
   grind [qj]
 .rename_i fs hu;split at h
  .cases h
  .rename_i hg;simp only[qj,qk]at h;obtain⟨q,d,rfl⟩:=h;exact⟨by simpa using hg,d,.inl ⟨fs,hu⟩⟩
 .rename_i n e hu;split at h
  .cases h
  .rename_i hg;simp only[qj,qk]at h;obtain⟨q,d,rfl⟩:=h;exact⟨by simpa using hg,d,.inr ⟨n,e,hu⟩⟩
 grind
theorem MS{op:BinOp}{t c:Lx}{x y:M7}(ho:o.op=.binOp op t x y c){r:List M7×fP}(h:Kw P op t x y=B1 r):sr P o r.1 r.2:=by
 unfold Kw at h;split at h
 .cases h;exact(τ ho).up
 .cases h;exact(τ ho).up
 .split at h
  .simp only[qj,qk]at h;obtain⟨k,hk,rfl⟩:=h;exact G_ (neg:=B2) (by simpa using ho) (xlm hk)
  .simp only[qj,qk]at h;obtain⟨k,hk,rfl⟩:=h;exact G_ (neg:=B4) (by simpa using ho) (xlm hk)
  grind
theorem xh8{c:Call}{b:Builtin}(ho:o.op=.call c)(hc:c.callee=.builtin b){r:List M7×fP}(h:Vs P b c.argTypes c.args.toList=B1 r):sr P o r.1 r.2:=by
 have f:∀{d:TypeDesc},(c.argTypes[0]?).bind P.underlying=B1 d -> ∃t,c.argTypes[0]? = B1 t/\P.underlying t=B1 d:=λ h=>by grind
 unfold Vs at h;split at h
 .split at h
  .rename_i hu;have⟨t,g,hu⟩:=f hu;cases h;exact(xjf ho hc rfl g hu).up
  .cases h
 .split at h
  .rename_i t tx j;split at h
   .rename_i e e' hu p;simp only[qj]at h;have⟨n,hn,z,l,q,m,h⟩:=h;split at h
    .rename_i hl;cases h;exact⟨xif ho hc rfl j hu (.inl ⟨_,p⟩) hn l m hl,xfl _ _ _⟩
    grind
   .cases h
  .cases h
 .cases h;exact(xfs (mx:=B2) ho hc rfl).up
 .split at h
  .rename_i hu;have⟨t,g,hu⟩:=f hu;simp only[qj,qk]at h;obtain⟨z,l,rfl⟩:=h;exact⟨xev ho hc rfl g hu l,xc2 _⟩
  .rename_i hu;have⟨t,g,hu⟩:=f hu;cases h;exact⟨xb3 ho hc rfl g hu,xak⟩
  grind
 .cases h;exact⟨c,ho,hc,rfl⟩
 .cases h;exact .inr ⟨c,ho,hc,rfl⟩
 grind
def ag0{fn:Func}(n:String)(hn:fn.name=n)(ho:fn.origin = "") {e:Array Lx->Array Lx->Array Lx->Array K1->Sem K1}
 (d:∀(c rs:Array Lx),(((Extern.allNextRows.lookup n).map (· c rs)) <|> ((Extern.allNextRows.lookup "").map (· c rs)))=B5)
 (f:∀(ts c rs:Array Lx),((Extern.allGenericRows.lookup n).map (· ts c rs) <|> (Extern.allTypedRows.lookup n).map (· c rs) <|> Extern.allRows.lookup n)=B1 (e ts c rs)) :
 Extern.findNext fn=B5/\Extern.find fn=B1 (e fn.targs fn.params fn.resultTypes):=by
 unfold Extern.findNext Extern.find;rw[hn,ho];refine⟨d fn.params fn.resultTypes,?_⟩
 grind
def Ms{c:Call}{f:FuncId}{fn:Func}(hn:fn.name≠ "runtime.NumGoroutine") (ho:o.op=.call c) (hc:c.callee=.value (.func f)) (j:P.funcs[f]? = B1 fn) (hb:fn.body=B5) {r:List M7×fP}
 (h:Lf P fn c.args.toList=B1 r):sr P o r.1 r.2:=by
 unfold Lf at h;split at h
 .cases h
 .rename_i g;have g:fn.origin = "" := by simpa using g
  split at h
  .rename_i d;have d:=eq_of_beq d;cases h;have⟨e1,e2⟩:=ag0 (e:=λ _ _ _=>Extern.BytealgIndexByte.indexByte) _ d g (λ m rs=>by kernel_rfl) (λ ts m rs=>by kernel_rfl);intro D θ ρ w vs v l;exact qss ho hc j hb hn e1 e2 rfl D θ ρ w vs v (l.func f)
  .cases h
theorem HS(e:d9 P){c:Call}(ho:o.op=.call c){r:List M7×fP}(h:EW P c=B1 r):sr P o r.1 r.2:=by
 unfold EW at h;split at h
 .rename_i f hc;simp only[qj]at h;have⟨fn,d,h⟩:=h;split at h
  .rename_i b hb;cases h;exact⟨c,fn,b,ho,hc,rfl,d,hb⟩
  .rename_i hb;exact Ms (e.names f fn d) ho hc d hb h
 .rename_i x _ hc;cases h;exact⟨c,_,ho,hc,rfl⟩
 .rename_i hc;cases h;exact⟨c,_,ho,hc,rfl⟩
 grind [xh8]
theorem Qa(G:d9 P){r:List M7×fP}(h:PO P o.op=B1 r):sr P o r.1 r.2:=by
 unfold PO at h;split at h
 .rename_i ho;cases h;exact(xde (.inl ho)).up
 .rename_i ho;cases h;exact(xde (.inr ho)).up
 .rename_i ho;cases h;exact(xmu ho).up
 .rename_i ho;simp only[qj,qk]at h;obtain⟨z,j,rfl⟩:=h;exact⟨(xee ho j).up,xi1⟩
 .rename_i ho;cases h;exact⟨(xki ho).up,ag3⟩
 .rename_i t parts ho;simp only[qj]at h;have⟨z,j,h⟩:=h;split at h
  .rename_i fs hu;split at h
   .rename_i A;simp only[qj,qk]at h;obtain⟨E,g,rfl⟩:=h;refine(qye ho j hu (λ f B=>?_) g).up
    grind [Option.isSome_iff_exists]
   grind
  .rename_i hu;simp only[qj,qk]at h;obtain⟨n,hn,E,g,rfl⟩:=h;exact(q03 ho j hu hn g).up
  grind
 .rename_i t len parts ho;split at h
  .rename_i e hu;simp only[qj]at h;have⟨n,hn,z,j,E,g,h⟩:=h;split at h
   .rename_i hc;cases h;exact⟨(qzr ho hu hn j g hc.1 hc.2).up,q5l⟩
   grind
  grind
 .rename_i t a ho;simp only[qj]at h;have⟨J,hr,h⟩:=h;split at h
  .cases h;exact xjg ho hr
  .cases h;exact xjh ho hr
 .rename_i t a x ho;simp only[qj,qk]at h;obtain⟨n,hn,rfl⟩:=h;exact⟨xlg ho hn,xi2 _⟩
 .rename_i ho;cases h;exact(xav ho).up
 .grind [MS]
 .rename_i ho;cases h;exact(Iq ho).up
 .grind [Il]
 .rename_i t x ho;split at h
  .cases h
  .rename_i d F hu;cases h;exact(xdd ho ⟨d,hu,by cases d<;>first|rfl|exact(F _ rfl).elim⟩).up
  grind
 .rename_i ho;cases h;exact(xft ho).up
 .rename_i ho;cases h;exact⟨λ D θ ρ w vs y mk u=>_r ho (.inl rfl) (λ _=>trivial) D θ ρ w vs y mk u.const,q8k⟩
 .rename_i t k n ho;split at h
  .rename_i a b hu;cases h;exact⟨λ D θ ρ w vs y mk u=>_r ho (by grind) (λ _=>trivial) D θ ρ w vs y mk u.const,q8k⟩
  grind
 .rename_i t l c ho;split at h
  .rename_i e hu;simp only[qj]at h;have⟨b,hb,z,j,n,hn,h⟩:=h;split at h
   .rename_i hc;cases h;exact⟨(q87 ho hu hb hn j hc).up,xc3⟩
   grind
  grind
 .rename_i t x lo I mx ho;split at h
  .rename_i e hu;simp only[qj,qk]at h;obtain⟨n,hn,rfl⟩:=h;exact(xdf ho hu hn).up
  .rename_i k e hu;simp only[qj,qk]at h;obtain⟨n,hn,rfl⟩:=h;exact(xaw ho hu hn).up
  grind
 .rename_i t x i ho;split at h
  .rename_i fs hu;simp only[qj]at h;have⟨f,B,n,hn,h⟩:=h;split at h
   .cases h
   .rename_i s;cases h;exact(q7r ho hu B hn (by simpa using s)).up
  .cases h
 .rename_i t x i ho;split at h
  .rename_i e hu;simp only[qj,qk]at h;obtain⟨n,hn,rfl⟩:=h;exact(xdc ho hu hn).up
  .rename_i k e hu;simp only[qj,qk]at h;obtain⟨n,hn,rfl⟩:=h;exact(xat ho hu hn).up
  grind
 .rename_i t x i ho;split at h
  .rename_i hu;cases h;exact(xau ho hu).up
  .rename_i k e hu;simp only[qj,qk]at h;obtain⟨n,hn,a,ha,rfl⟩:=h;exact(xas ho hu hn ha).up
  grind
 .rename_i t m k ok ho;split at h
  .rename_i C e hu;simp only[qj,qk]at h;obtain⟨q,p,z,j,rfl⟩:=h;exact xfv ho hu p j
  grind
 .rename_i t m k v ho;split at h
  .rename_i C e hu;simp only[qj,qk]at h;obtain⟨q,p,rfl⟩:=h;exact⟨He (.inl ho) hu p,v_ _⟩
  grind
 .rename_i t m k v ho;split at h
  .rename_i C e hu;simp only[qj,qk]at h;obtain⟨q,p,rfl⟩:=h;exact⟨He (.inr ho) hu p,v_ _⟩
  .cases h
 .rename_i ho;cases h;exact(xdb ho).up
 .grind [HS]
 .rename_i c ho;split at h
  .rename_i f hc;cases h;exact⟨c,f,ho,hc,rfl⟩
  grind
 .rename_i x ho;cases h;exact .inl ⟨x,ho,rfl⟩
 grind
def sr.mono{c:fP}(h:sr P o xs c):dK c:=by
 cases c with
 |alloc f=>exact h.2
 |gT f=>exact h.2
 |_=>trivial
def EN(o:P7)(aop:fP):Prop:=(∀c,o.op≠ .defer c)\/aop=.defer\/aop=.pure Op.fail
theorem Ml{r:List M7×fP}(h:PO P o.op=B1 r):EN o r.2:=by
 by_cases d:∃c,o.op=.defer c
 .have ⟨c,hc⟩:=d;rw[hc]at h;simp only[PO]at h;split at h
  .cases h;exact .inr (.inl rfl)
  grind
 .exact .inl λ c hc=>d ⟨c,hc⟩
def Nz(d:d9 P){r:List bM×fP}(h:gE P o=B1 r):∃xs,og P.globals.size xs=B1 r.1/\sr P o xs r.2/\EN o r.2:=by
 unfold gE at h;split at h
 .rename_i f hr;cases h;simp only[qj,qk]at hr;obtain⟨q,e,args,c,rfl⟩:=hr
  grind [Qa,Ml]
 .cases h;exact⟨[],rfl,(xmt []).up,.inr (.inr rfl)⟩
end
end Go.Am
namespace Go.Am
def ib(D:Nat->Prop)(θ:Th):List aN->List Deferred->Prop
 |[],[]=>True
 |d::ds,e::es=>Xt D θ d e/\ib D θ ds es
 |_,_=>False
def Ko(D:Nat->Prop)(θ:Th)(e:AV×Bool)(p:PanicEntry):Prop:=VR D θ e.1 p.v/\p.recovered=e.2/\p.goexit=B2
def fU(D:Nat->Prop)(θ:Th):aI->List PanicEntry->Prop
 |[],[]=>True
 |e::es,p::ps=>Ko D θ e p/\fU D θ es ps
 |_,_=>False
def rj(D:Nat->Prop)(θ:Th)(c:aI)(m:FrameMode):Prop :=
 match m with
 | .run=>False
 | .returning=>c=[]
 | .panicking ps=>c≠[]/\fU D θ c ps
def rH(D:Nat->Prop)(θ:Th)(kind:CallKind):Option aI->List NM->Prop
 |none,_=>kind=.normal
 |some ch,c::_=>kind=.deferred/\rj D θ ch c.mode
 |some _,[]=>False
def fG:Option aI->List NM->List NM->Prop
 |none,cs,cs'=>cs'=cs
 |some _,c::rest,cs'=>∃u,cs' = {c with mode:=u}::rest
 |some _,[],_=>False
def AE(D:Nat->Prop)(θ:Th)(ro:Option Nat):Option Nat->Prop
 |none=>ro=B5
 |some l=>D l/\ro=B1 (θ.cq l)
def Ce(D:Nat->Prop)(θ:Th):aX->Exit->Prop
 | .normal,.normal=>True
 | .exit i,.exit j=>j=i
 | .goto i,.goto j=>j=i
 | .ret,.ret=>True
 | .panic c,.panic ps=>c≠[]/\fU D θ c ps
 |_,_=>False
def RR(D:Nat->Prop)(θ:Th):bP->Ending->Prop
 | .ret v,.returned c=>VR D θ v c
 | .panic c,.panicked ps=>c≠[]/\fU D θ c ps
 |_,_=>False
section
variable{D D':Nat->Prop}{θ θ':Th}
theorem ib.up(ha:Ag D θ θ')(g:∀b,D b->D' b):∀{l:List aN}{m:List Deferred},ib D θ l m->ib D' θ' l m
 |[],[],_=>trivial
 |d::ds,e::es,⟨h1,h2⟩=>by
  refine⟨?_,ib.up ha g h2⟩;cases d with
  |jC b=>exact⟨g b h1.1,by rw[(ha b h1.1).1];exact h1.2⟩
  |fn f args =>
   have⟨c,cap,q,n,p⟩:=h1;refine⟨c,cap,?_,λ θ'' j=>?_,p.up ha g⟩
   .grind
   .rw [n θ'' (ha.trans j g),n θ' ha]
 |[],_::_,h=>h.elim
 |_::_,[],h=>h.elim
theorem fU.up(ha:Ag D θ θ')(c:∀b,D b->D' b):∀{l:aI}{m:List PanicEntry},fU D θ l m->fU D' θ' l m
 |[],[],_=>trivial
 |e::es,p::ps,⟨⟨h1,h2,h3⟩,h⟩=>⟨⟨h1.up ha c,h2,h3⟩,fU.up ha c h⟩
 |[],_::_,h=>h.elim
 |_::_,[],h=>h.elim
theorem rj.up(ha:Ag D θ θ')(d:∀b,D b->D' b){c:aI}{m:FrameMode}(h:rj D θ c m):rj D' θ' c m:=by
 cases m with
 |run=>exact h.elim
 |returning=>exact h
 |panicking ps=>exact⟨h.1,fU.up ha d h.2⟩
theorem rH.up(ha:Ag D θ θ')(d:∀b,D b->D' b){k:CallKind}{u:Option aI}{cs:List NM}(h:rH D θ k u cs):rH D' θ' k u cs:=by
 cases u with
 |none=>exact h
 |some ch =>
  cases cs with
  |nil=>exact h.elim
  |cons c r=>exact⟨h.1,rj.up ha d h.2⟩
theorem AE.up(ha:Ag D θ θ')(c:∀b,D b->D' b){ro r:Option Nat}(h:AE D θ ro r):AE D' θ' ro r:=by
 cases r with
 |none=>exact h
 |some l=>exact⟨c l h.1,by rw[(ha l h.1).1];exact h.2⟩
theorem fG.refl{D:Nat->Prop}{θ:Th}{k:CallKind}{u:Option aI}{cs:List NM}(h:rH D θ k u cs):fG u cs cs:=by
 cases u with
 |none=>rfl
 |some ch =>
  cases cs with
  |nil=>exact h.elim
  |cons c r=>exact⟨c.mode,rfl⟩
theorem fG.trans{u e:Option aI}(hu:e.isSome=u.isSome){cs cs' d:List NM}(h:fG u cs cs')(f:fG e cs' d):fG u cs d:=by
 cases u with
 |none =>
  cases e with
  |none=>exact Eq.trans f h
  |some _=>cases hu
 |some ch =>
  cases e with
  |none=>cases hu
  |some ch' =>
   cases cs with
   |nil=>exact h.elim
   |cons c r =>
    obtain⟨m,rfl⟩:=h;obtain⟨g,rfl⟩:=f;exact⟨g,rfl⟩
theorem pR.up(ha:Ag D θ θ')(d:∀b,D b->D' b){tm:T AV}{a:Array K1}(h:pR D θ tm a):pR D' θ' tm a:=λ t v e =>
 let⟨c,h1,h2⟩:=h t v e;⟨c,h1,h2.up ha d⟩
theorem pR.put{tm:T AV}{a:Array K1}(h:pR D θ tm a){d:Nat}(g:d<a.size){v:AV}{c:K1}(j:VR D θ v c):pR D θ (tm.set d v) (a.setIfInBounds d c):=by
 intro t x f;rw[T.aK]at f;rw[Array.getElem?_setIfInBounds]
 by_cases e:d=t
 .grind
 .simp only[e,wn]at f⊢;exact h t x f
def pR.forget{a:Array K1}:∀(ds:List Nat){tm:T AV},pR D θ tm a->pR D θ (forget ds tm) a
 |[],_,h=>h
 |d::ds,tm,h=>pR.forget ds (tm:=tm.put d B5) (λ t v c=>by
  rw[T.kO]at c;split at c
  .cases c
  .exact h t v c)
def T.rM:∀(ds:List Nat)(tm:T AV)(t:Nat),(forget ds tm).get t=if t∈ds then B5 else tm.get t
 |[],tm,t=>by simp[Am.forget]
 |d::ds,tm,t=>by
  rw[Am.forget,T.rM ds,T.kO]
  by_cases f:t∈ds
  .simp [f]
  .by_cases c:d=t
   .simp [c]
   .have g:¬t=d:=λ e=>c e.symm;simp[f,c,g]
end
section
variable{P:Jl}{base:Nat}{D:Nat->Prop}{θ:Th}{H:ar}{w:N6}{a:Act}{tm:T AV}
def Df(l:HR P base D θ H w)(m:pR D θ tm a.tmps){x:M7}{y:bM}(hc:rz P.globals.size x=B1 y){v:AV}(d:rR tm y=B1 v):VR D θ v (a.eval x):=by
 cases x with
 |tmp t =>
  cases hc;have⟨c,e,h⟩:=m t v d
  simpa[Act.eval,e]using h
 |const k =>
  simp only[rz,qj,qk]at hc;obtain⟨u,hu,rfl⟩:=hc;cases d;exact Sh hu
 |global g =>
  simp only[rz]at hc;split at hc
  .rename_i hg;cases hc;cases d;have⟨e,h,j⟩:=l.eO g (by simp_all);have:=VR.ptr (θ:=θ) (o:=0) e;rw[h,j]at this;exact this
  grind
 |func f =>
  cases hc;cases d;exact λ _ _=>rfl
def JL(d:HR P base D θ H w)(e:pR D θ tm a.tmps):∀{xs:List M7}{ys:List bM},og P.globals.size xs=B1 ys -> ∀{vs:List AV},mF tm ys=B1 vs->bN D θ vs (xs.map a.eval)
 |[],ys,hc,vs,hv=>by
  cases hc;cases hv;exact .nil
 |x::xs,ys,hc,vs,hv=>by
  simp only[og,qj,qk]at hc;obtain⟨y,h,l,c,rfl⟩:=hc;simp only[mF,qj,qk]at hv;obtain⟨v,f,j,g,rfl⟩:=hv;exact .cons (Df d e h f) (JL d e c g)
def JU(x:bM)(tm:T AV):(Nh x).run tm=rR tm x:=by
 cases x<;>simp[Nh,rR,T.jO,T.get]
def HZ:∀(xs:List bM)(tm:T AV),(vH xs).run tm=mF tm xs
 |[],_=>rfl
 |[x],tm=>by simp[vH,mF,JU]
 |x::y::xs,tm=>by
  rw[vH,mF]
  .simp only[JU,HZ (y::xs) tm]
  .simp
def SZ(a:Act):Dd a.eval:=⟨λ _=>rfl,λ _=>rfl⟩
theorem WN(d:Option Nat)(v:AV)(tm:T AV):(lW d).run v tm=eM d v tm:=by
 cases d<;>simp[lW,eM,T.Be,T.set,T.put]
end
inductive iR where
 |val (v:AV) (aZ:List aN) (up:Option aI) (H:ar)
 |panic (c:aI) (H:ar)
def oE(aZ:List aN)(up:Option aI)(r:bP×ar):iR :=
 match r.1 with
 | .ret v=>.val v aZ up r.2
 | .panic c=>.panic c r.2
def iD(rt:RT)(st:St)(vs:List AV):fP->Option iR
 | .pure f=>(f vs).bind λ v=>B1 (.val v st.aZ st.up st.H)
 | .read f=>(f vs st.H).bind λ v=>B1 (.val v st.aZ st.up st.H)
 | .alloc f=>(f vs).bind λ r=>B1 (.val (r.2 st.H.au) st.aZ st.up (st.H.alloc r.1))
 | .gT f=>(f vs st.H).bind λ r=>B1 (.val r.1 st.aZ st.up r.2)
 | .ij f=>(dg rt.call rt.round (.func f) vs st.H).bind λ r=>B1 (oE st.aZ st.up r)
 | .iq=>match vs with
  | .fn (.func f) first cap::args=>(dg rt.call rt.round (.func f) (first++(args++cap)) st.H).bind λ r=>B1 (oE st.aZ st.up r)
  | .fn (.yield l) first []::args=>(dg rt.call rt.round (.yield l) (first++args) st.H).bind λ r=>B1 (oE st.aZ st.up r)
  |_=>B5
 | .invoke name=>match vs with
  | .iface t v::args=>(rt.AP.kI t name).bind λ f=>(dg rt.call rt.round (.func f) (v::args) st.H).bind λ r=>B1 (oE st.aZ st.up r)
  |_=>B5
 | .recover=>match rt.ctx.round with
  |some _=>B5
  |none=>match vs with
   |[]=>match st.up with
    |some ((v,B2)::older)=>B1 (.val v st.aZ (B1 ((v,B4)::older)) st.H)
    |_=>B1 (.val .nili st.aZ st.up st.H)
   |_=>B5
 | .defer=>match rt.ctx.round with
  |some _=>B5
  |none=>match vs with
   | .fn (.func f) first cap::args=>B1 (.val .undef (.fn (.func f) (first++(args++cap))::st.aZ) st.up st.H)
   |_=>B5
 | .panic=>match vs with
  |[.iface t v]=>B1 (.panic [(.iface t v,B2)] st.H)
  |_=>B5
def u6(put:AV->T AV->T AV)(cP:Option (List Nat))(st:St)(k:St->gY):iR->gY
 | .val v aZ up H=>k ⟨put v st.tm,aZ,up,H⟩
 | .panic c H=>cP.bind λ ds=>B1 (.panic c,⟨forget ds st.tm,st.aZ,st.up,H⟩)
theorem Se(put:AV->T AV->T AV)(cP:Option (List Nat))(st:St)(k:St->gY)(r:bP×ar):fR put cP st k r=u6 put cP st k (oE st.aZ st.up r):=by
 unfold fR oE;split<;>rename_i h<;>rw[h]<;>rfl
def t6(put:AV->T AV->T AV)(cP:Option (List Nat))(rt:RT)(st:St)(k:St->gY)(vs:List AV)(op:fP) :
 (rB put cP op).run rt st k vs=(iD rt st vs op).bind (u6 put cP st k):=by
 cases op with
 |pure f=>simp only[rB,EP,iD,yq,qr];rfl
 |read f=>simp only[rB,Ds,iD,yq,qr];rfl
 |alloc f=>simp only[rB,wG,iD,yq,qr];rfl
 |gT f=>simp only[rB,Lp,iD,yq,qr];rfl
 |ij f=>grind [rB,El,iD,Se]
 |iq =>
  simp only[rB,Bf,iD]
  grind [Se]
 |invoke name =>
  simp only[rB,ti,iD];split
  .simp_all [yq,Se]
  grind
 |recover =>
  simp only[rB,SF,iD];cases rt.ctx.round with
  |some l=>rfl
  |none =>
   cases vs with
   |cons x xs=>rfl
   |nil =>
    rcases hu:st.up with _|_|⟨⟨v,_|_⟩,c⟩<;>simp only[PI,hu]<;>rfl
 |defer =>
  simp only[rB,wD,iD];cases rt.ctx.round with
  |some l=>rfl
  |none =>
   simp only;split
   .rfl
   grind
 |panic =>
  simp only[rB,wC,iD]
  grind [Se,oE]
end Go.Am
namespace Go.Am
section moves
variable{P:Jl}{b:NM}{a:Act}{k:List Item}{cs cs':List NM}{w w':N6}{ops:Array P7}{i:Nat}{rest:List Nat}{o:P7}
def Ni(ho:ops[i]? = B1 o)(v:K1):(b.atR a (.inRegion ops (i::rest)::k)).finish v=b.atR (a.put o.dst v) (.inRegion ops rest::k):=by
 grind [NM.finish_atR]
def Ka(ho:ops[i]? = B1 o)(hw:B9 o (yielded ops a.tmps)=B4){v:K1}(hr:(o.semAt b.roundOf a.eval).run P w=.ok (.value v) w') :
 step P (lone (b.atR a (.inRegion ops (i::rest)::k)) cs w)=.next (lone (b.atR (a.put o.dst v) (.inRegion ops rest::k)) cs w') :=
 step_lone_go (by simp_all[stepGR_op,Ni,CG])
def PB(ho:ops[i]? = B1 o)(hw:B9 o (yielded ops a.tmps)=B4)(hr:(o.semAt b.roundOf a.eval).run P w=.ok .skip w') :
 step P (lone (b.atR a (.inRegion ops (i::rest)::k)) cs w)=.next (lone (b.atR (a.put o.dst undef) (.inRegion ops rest::k)) cs w') :=
 step_lone_go (by simp_all[stepGR_op,Ni,CG])
def ad0(ho:ops[i]? = B1 o)(hw:B9 o (yielded ops a.tmps)=B4){d:Deferred}(hr:(o.semAt b.roundOf a.eval).run P w=.ok (.defer d) w') :
 step P (lone (b.atR a (.inRegion ops (i::rest)::k)) cs w)=.next (lone (b.atR (({a with defers:=d::a.defers}:Act).put o.dst undef) (.inRegion ops rest::k)) cs w'):=by
 refine step_lone_go ?_;have:({b.atR a (.inRegion ops (i::rest)::k)with defers:=d::a.defers}:NM).finish undef =
  b.atR ({a with defers:=d::a.defers}.put o.dst undef) (.inRegion ops rest::k):=by
  have:=NM.finish_atR b {a with defers:=d::a.defers} ops i rest k undef;rw[ho]at this;exact this
 rw[stepGR_op ho hw];simp only[CG,Sem.runT_eq,hr,GStep.bare_after];exact congrArg (λ fr=>GStep.go {frame:=fr,callers:=cs,status:=.running,dying:=B5} w') this
def Ws(ho:ops[i]? = B1 o)(hw:B9 o (yielded ops a.tmps)=B4){f:FuncId}{args:Array K1}(hr:(o.semAt b.roundOf a.eval).run P w=.ok (.enter f args) w') :
 step P (lone (b.atR a (.inRegion ops (i::rest)::k)) cs w)=.next (lone (Frame.enter P f args .normal) (b.atR a (.inRegion ops (i::rest)::k)::cs) w') :=
 step_lone_go (by rw[stepGR_op ho hw];simp[CG,hr,CH])
def Et(ho:ops[i]? = B1 o)(hw:B9 o (yielded ops a.tmps)=B4){l:Nat}{f:FuncId}{tmps:Array K1}{as body:Code}(hr:(o.semAt b.roundOf a.eval).run P w=.ok (.round l f tmps as body) w') :
 step P (lone (b.atR a (.inRegion ops (i::rest)::k)) cs w)=.next (lone (Frame.round l f tmps as body .normal) (b.atR a (.inRegion ops (i::rest)::k)::cs) w') :=
 step_lone_go (by rw[stepGR_op ho hw];simp_all[CG])
def Ek(ho:ops[i]? = B1 o)(hw:B9 o (yielded ops a.tmps)=B4){v:K1}(hr:(o.semAt b.roundOf a.eval).run P w=.halt (.panic v) w') :
 step P (lone (b.atR a (.inRegion ops (i::rest)::k)) cs w)=.next (lone {b.atR a (.inRegion ops (i::rest)::k)with mode:=.panicking [{v,recovered:=B2}]} cs w') :=
 step_lone_go (by simp_all[stepGR_op,Ch,CG])
def xh5(ho:ops[i]? = B1 o)(hw:B9 o (yielded ops a.tmps)=B4)(hb:b.roundOf=B5)(hr:(o.semAt b.roundOf a.eval).run P w=.ok .recover w'){v:K1}
 (d:tryRecover (b.atR a (.inRegion ops (i::rest)::k)) cs=B1 (v,cs')) :
 step P (lone (b.atR a (.inRegion ops (i::rest)::k)) cs w)=.next (lone (b.atR (a.put o.dst v) (.inRegion ops rest::k)) cs' w') :=
 step_lone_go (by
  rw[stepGR_op ho hw,<-Ni ho];have c:(b.atR a (.inRegion ops (i::rest)::k)).roundOf=none:=hb;simp_all[CG])
def q3q(ho:ops[i]? = B1 o)(hw:B9 o (yielded ops a.tmps)=B4)(hb:b.roundOf=B5)(hr:(o.semAt b.roundOf a.eval).run P w=.ok .recover w')
 (d:tryRecover (b.atR a (.inRegion ops (i::rest)::k)) cs=B5) :
 step P (lone (b.atR a (.inRegion ops (i::rest)::k)) cs w)=.next (lone (b.atR (a.put o.dst .nilIface) (.inRegion ops rest::k)) cs w') :=
 step_lone_go (by
  rw[stepGR_op ho hw,<-Ni ho];have c:(b.atR a (.inRegion ops (i::rest)::k)).roundOf=none:=hb;simp_all[CG])
end moves
def rX(P:Jl)(base:Nat)(call:b9):Prop :=
 ∀(D:Nat->Prop)θ H w f vs(args:Array K1)up H' e up' kind cs,HR P base D θ H w->bN D θ vs args.toList->rH D θ kind up cs->call f vs up H=B1 (e,up',H')->eG D H.au H'.au ->
  (∃fn c,P.funcs[f]? = B1 fn/\fn.body=B1 c) /\
  ∃θ' w' cs' fr e',Steps P (lone (Frame.enter P f args kind) cs w) (lone fr cs' w')/\fr.kind=kind/\fr.fn=f/\fr.going P w' e'/\RR (Up D H.au H'.au) θ' e e' /\
   HR P base (Up D H.au H'.au) θ' H' w'/\bG D H θ w H' θ' w'/\up'.isSome=up.isSome/\fG up cs cs'/\rH (Up D H.au H'.au) θ' kind up' cs'
def xQ(P:Jl)(base:Nat)(round:iW):Prop :=
 ∀(D:Nat->Prop)θ H w l vs(args:Array K1)H' e(c:NM)cs,HR P base D θ H w->bN D θ vs args.toList->round vs l H=B1 (e,H')->eG D H.au H'.au ->
  ∃f tmps as body,(Instr.yield (θ.cq l) args).run P w=.ok (.round (θ.cq l) f tmps as body) w /\
  ∃θ' w' fin,Steps P (lone (Frame.round (θ.cq l) f tmps as body .normal) (c::cs) w) (lone fin cs w') /\
   (match e with
    | .ret v=>∃cv,VR (Up D H.au H'.au) θ' v cv/\fin=c.finish cv
    | .panic ch=>∃ps,ch≠[]/\fU (Up D H.au H'.au) θ' ch ps/\fin=c.raise ps) /\
   HR P base (Up D H.au H'.au) θ' H' w'/\bG D H θ w H' θ' w'
def iR.heap:iR->ar
 | .val _ _ _ H=>H
 | .panic _ H=>H
def Jb(P:Jl)(base:Nat)(D:Nat->Prop)(θ:Th)(st:St)(b:NM)(a:Act)(ops:Array P7)(i:Nat)(rest:List Nat)(k:List Item)(cs:List NM)(w:N6)(o:P7):iR->Prop
 | .val v aZ up H'=>∃θ' w' c cs' ds,Steps P (lone (b.atR a (.inRegion ops (i::rest)::k)) cs w) (lone (b.atR (({a with defers:=ds}:Act).put o.dst c) (.inRegion ops rest::k)) cs' w') /\
  HR P base (Up D st.H.au H'.au) θ' H' w'/\bG D st.H θ w H' θ' w'/\VR (Up D st.H.au H'.au) θ' v c/\ib (Up D st.H.au H'.au) θ' aZ ds/\up.isSome=st.up.isSome /\
  rH (Up D st.H.au H'.au) θ' b.kind up cs'/\fG st.up cs cs'
 | .panic ch H'=>∃θ' w' ps todo,Steps P (lone (b.atR a (.inRegion ops (i::rest)::k)) cs w) (lone {b.atR a todo with mode:=.panicking ps} cs w') /\
  HR P base (Up D st.H.au H'.au) θ' H' w'/\bG D st.H θ w H' θ' w'/\ch≠[]/\fU (Up D st.H.au H'.au) θ' ch ps
section
variable{P:Jl}{base:Nat}{D:Nat->Prop}{θ:Th}
def ZT{fr:NM}{w:N6}{e:Ending}(h:fr.going P w e)(hk:fr.kind=.normal):fr.leaving P w e:=by
 cases e with
 |returned v=>have⟨d,f,g⟩:=h;exact⟨d,f,hk,g⟩
 |panicked c=>exact h
 |outgrown=>trivial
theorem QT{f:FuncId}{fn:Func}{c:Code}{args:Array K1}{w:N6}(e:d9 P)(d:P.funcs[f]? = B1 fn)(hb:fn.body=B1 c):(callFunc f args).run P w=.ok (.enter f args) w:=by
 simp[callFunc,d,hb,e.names f fn d]
def xjn{t:Lx}{name:String}{f:Nat}(h:xT P t name=B1 f)(v:K1)(w:N6):(method (P.types.size+Made.depth) t v name).run P w=.ok (f,v) w:=by
 unfold xT at h;simp only[qj]at h;have⟨i,j,m,hm,h⟩:=h;split at h
 .cases h
 .rename_i l;simp only[qj]at h;have⟨p,hp,h⟩:=h;have e:m.path.toList=[]:=by
   grind
  obtain⟨n,hn⟩:∃n,P.types.size+Made.depth=n+1:=⟨P.types.size+99,rfl⟩
  rw[hn];have⟨q,g⟩:=p;have c:(typeInfo t).run P w=.ok i w:=by simp[typeInfo,j]
  simp only[method,NG,c,NA,hm,e,follow,B8,hp];cases hu:P.underlying t with
  |none=>grind
  |some d =>
   rw[hu]at h;have hr:∀wr,d=d->(receiverAt t (.val v) g wr).run P w=.ok v w/\q=f:=by
    intro wr _;cases d<;>cases g<;>simp only[reduceCtorEq,qk]at h<;>exact(by simp_all[receiverAt,kq,Place.get])
   simp[(hr _ rfl).1,(hr B5 rfl).2]
def Xr{call:b9}(hc:rX P base call){st:St}{b:NM}{a:Act}{ops:Array P7}{i:Nat}{rest:List Nat}{k:List Item}{cs:List NM}{w:N6}{o:P7}
 (ho:ops[i]? = B1 o) (z:HR P base D θ st.H w) (x:ib D θ st.aZ a.defers) (hu:rH D θ b.kind st.up cs) {f:Nat} {vs:List AV} {args:Array K1} (A:bN D θ vs args.toList)
 (hs:(∃fn c,P.funcs[f]? = B1 fn/\fn.body=B1 c)->step P (lone (b.atR a (.inRegion ops (i::rest)::k)) cs w)=.next (lone (Frame.enter P f args .normal) (b.atR a (.inRegion ops (i::rest)::k)::cs) w))
 {r:bP×ar} {u:Option aI} (hr:call f vs B5 st.H=B1 (r.1,u,r.2)) (y:eG D st.H.au r.2.au) :
 Jb P base D θ st b a ops i rest k cs w o (oE st.aZ st.up r):=by
 have⟨l,θ',w',cs',fr,e',m,q,B,s,g,n,h,C,t,p⟩:=hc D θ st.H w f vs args B5 r.2 r.1 u .normal (b.atR a (.inRegion ops (i::rest)::k)::cs) z A rfl hr y;have j:cs'=b.atR a (.inRegion ops (i::rest)::k)::cs:=t;subst j;have d:=hs l;have hl:=ZT s q;have⟨e,H'⟩:=r;cases e with
 |ret v =>
  cases e' with
  |returned c =>
   refine⟨θ',w',c,cs,a.defers,.head d (m.trans (.one ?_)),n,h,g,ib.up h.ag Up.of x,rfl,rH.up h.ag Up.of hu,fG.refl hu⟩;rw[step_leave_returned hl,Ni ho]
  |panicked c=>exact g.elim
  |outgrown=>exact g.elim
 |panic ch =>
  cases e' with
  |returned c=>exact g.elim
  |panicked ps =>
   refine⟨θ',w',ps,.inRegion ops (i::rest)::k,.head d (m.trans (.one ?_)),n,h,g.1,g.2⟩;rw[step_leave_panicked hl,Ch]
  |outgrown=>exact g.elim
def R8{f:mE}{first cap:List AV}{c:K1}(h:VR D θ (.fn f first cap) c):∃x y:List K1,c=.func (fQ θ f) x.toArray y.toArray/\bN D θ first x/\bN D θ cap y/\(∀θ',Ag D θ θ'->fQ θ' f=fQ θ f):=by
 refine⟨cw θ first,cw θ cap,h.now.symm,λ θ' ha=>?_,λ θ' ha=>?_,λ θ' ha=>?_⟩ <;>
 .have:=(h θ' ha).trans h.now.symm
  grind [aB]
set_option maxHeartbeats 1000000 in
def Zr(hP:d9 P){rt:RT}(E:rX P base rt.call)(V:xQ P base rt.round)(hAP:rt.AP=bq P){o:P7}{I:fP}{xs:List M7}(B:sr P o xs I)(hdef:EN o I)
 {ops:Array P7} {i:Nat} {rest:List Nat} {a:Act} (ho:ops[i]? = B1 o) (hw:B9 o (yielded ops a.tmps)=B4) {st:St} {w:N6} {b:NM} {k:List Item} {cs:List NM} {vs:List AV} {r:iR}
 (J:HR P base D θ st.H w) (M:ib D θ st.aZ a.defers) (hu:rH D θ b.kind st.up cs) (hb:AE D θ b.roundOf rt.ctx.round) (R:bN D θ vs (xs.map a.eval)) (hr:iD rt st vs I=B1 r)
 (hf:eG D st.H.au r.heap.au):Jb P base D θ st b a ops i rest k cs w o r:=by
 have d:Up D st.H.au st.H.au=D:=Up.none;have U:I≠ .defer->I≠ .pure Op.fail->o.semAt b.roundOf a.eval=execOp a.eval o:=λ L W=>C0 _ _ _ (by
  rcases hdef with h|h|h
  .exact h
  .exact absurd h L
  .exact absurd h W)
 cases I with
 |pure f =>
  simp only[iD,qj,qk]at hr;obtain⟨v,s,rfl⟩:=hr;have⟨c,A,C⟩:=B D θ a.eval w vs v (SZ a) R s;have g:o.semAt b.roundOf a.eval=execOp a.eval o:=U (by intro q;cases q) (by intro q;cases q;cases s);refine⟨θ,w,c,cs,a.defers,.one ?_,by rw[d];exact J,.refl _ _ _ _,by rw[d];exact C,by rw[d];exact M,rfl,by rw[d];exact hu,fG.refl hu⟩;rcases A with A|⟨A,rfl⟩
  .exact Ka ho hw (by rw[g];exact A)
  .exact PB ho hw (by rw[g];exact A)
 |read f =>
  simp only[iD,qj,qk]at hr;obtain⟨v,s,rfl⟩:=hr;have⟨c,A,C⟩:=B base D θ st.H a.eval w vs v J R s;have g:o.semAt b.roundOf a.eval=execOp a.eval o:=U (by intro q;cases q) (by intro q;cases q);refine⟨θ,w,c,cs,a.defers,.one ?_,by rw[d];exact J,.refl _ _ _ _,by rw[d];exact C,by rw[d];exact M,rfl,by rw[d];exact hu,fG.refl hu⟩;rcases A with A|⟨A,rfl⟩
  .exact Ka ho hw (by rw[g];exact A)
  .exact PB ho hw (by rw[g];exact A)
 |alloc f =>
  simp only[iD,qj,qk]at hr;obtain⟨⟨ob,mk⟩,s,rfl⟩:=hr;have⟨hown,w0,co,ext,c,A,C,X⟩:=B.1 D θ a.eval w vs ob mk (SZ a) R s;have g:o.semAt b.roundOf a.eval=execOp a.eval o:=U (by intro q;cases q) (by intro q;cases q);have hn:¬D st.H.au:=hf _ (qm _) (zr _);have hag:=Th.ia θ st.H.au w0.heap.size 0 ext hn;have⟨e1,e2,e3⟩:=Th.eV θ st.H.au w0.heap.size 0 ext;have⟨k1,k2⟩:=X (Up D st.H.au (st.H.au+1)) (θ.add st.H.au w0.heap.size 0 ext) st.H.au hag Up.of (.inr ⟨qm _,zr _⟩) (by rw[e1,C.heap]) e2 e3;have hh0:HR P base D θ st.H w0:=J.draw C.heap;refine⟨θ.add st.H.au w0.heap.size 0 ext,w0.alloc co,c,cs,a.defers,.one (Ka ho hw (by rw[g];exact A)),?_,?_,k2,ib.up hag Up.of M,rfl,rH.up hag Up.of hu,fG.refl hu⟩
  .refine hh0.alloc hn ?_ ?_ (qm _) ?_ k1
   .rw [EY];simp
   .intro j hj;rw[EY,qy (MF hj)]
   .simp
  .exact (bG.draw (w:=w) (w':=w0) C.heap C.os C.tape C.output).trans (bG.alloc (w:=w0) hh0 hn _ _ _ _) (λ _ h=>h)
 |gT f =>
  simp only[iD,qj,qk]at hr;obtain⟨⟨v,H'⟩,s,rfl⟩:=hr;have⟨θ',w',c,A,C,X,g4⟩:=B.1 base D θ st.H a.eval w vs v H' J R s hf;have g:o.semAt b.roundOf a.eval=execOp a.eval o:=U (by intro q;cases q) (by intro q;cases q);refine⟨θ',w',c,cs,a.defers,.one ?_,C,X,g4,ib.up X.ag Up.of M,rfl,rH.up X.ag Up.of hu,fG.refl hu⟩;rcases A with A|⟨A,rfl⟩
  .exact Ka ho hw (by rw[g];exact A)
  .exact PB ho hw (by rw[g];exact A)
 |ij f =>
  obtain⟨c,fn,body,s,K,rfl,h3,h4⟩:=B;simp only[iD,dg,yq,qr,qj,qk]at hr;obtain⟨⟨e,u,H'⟩,hc,rfl⟩:=hr;have g:o.semAt b.roundOf a.eval=execOp a.eval o:=C0 _ _ _ (λ c'=>by rw[s];simp);refine Xr E ho J M hu (args:=c.args.map a.eval) (by simpa using R) (λ _=>Ws ho hw ?_) hc (by cases e<;>exact hf);rw[g];simp[execOp,s,resolve,K,Act.eval,BX,invoke,QT hP h3 h4]
 |iq =>
  obtain⟨c,x,s,K,rfl⟩:=B;have g:o.semAt b.roundOf a.eval=execOp a.eval o:=C0 _ _ _ (λ c'=>by rw[s];simp);simp only[iD]at hr;split at hr
  .rename_i f first cap args
   simp only[dg,yq,qr,qj,qk]at hr;obtain⟨⟨e,u,H'⟩,hc,rfl⟩:=hr;have⟨cf,ca,z,L,W⟩:=R.eI;simp only[kh,zz]at z;obtain⟨rfl,rfl⟩:=z;have⟨fi,ci,S,Z,q5,_⟩:=R8 L;refine Xr E ho J M hu (args:=(fi.toArray++c.args.map a.eval)++ci.toArray) ?_ (λ hfn=>Ws ho hw ?_) hc (by cases e<;>exact hf)
   .simpa using Z.app (W.app q5)
   .have ⟨fn,body,h3,h4⟩:=hfn;rw[g];simp[execOp,s,resolve,K,S,fQ,BX,invoke,QT hP h3 h4]
  .rename_i l first args
   simp only[dg,qj,qk]at hr;obtain⟨⟨e,H'⟩,hc,rfl⟩:=hr;have⟨cf,ca,z,L,W⟩:=R.eI;simp only[kh,zz]at z;obtain⟨rfl,rfl⟩:=z;have⟨fi,ci,S,Z,q5,_⟩:=R8 L;have hf':eG D st.H.au H'.au:=by cases e<;>exact hf
   have⟨f,tmps,as,body,A,θ',w',fin,C,X,g4,g5⟩:=V D θ st.H w l (first++args) (fi.toArray++c.args.map a.eval) H' e (b.atR a (.inRegion ops (i::rest)::k)) cs J (by simpa using Z.app W) hc hf';have N:=Et (P:=P) (b:=b) (k:=k) (cs:=cs) (w:=w) (rest:=rest) ho hw (l:=θ.cq l) (f:=f) (tmps:=tmps) (as:=as) (body:=body) (w':=w) (by
    rw[g];simp[execOp,s,resolve,K,S,fQ,BX,invoke,A])
   cases e with
   |ret v =>
    obtain⟨cv,k1,rfl⟩:=X;refine⟨θ',w',cv,cs,a.defers,.head N ?_,g4,g5,k1,ib.up g5.ag Up.of M,rfl,rH.up g5.ag Up.of hu,fG.refl hu⟩;rw[Ni ho]at C;exact C
   |panic ch =>
    obtain⟨Y,k0,k1,rfl⟩:=X;refine⟨θ',w',Y,.inRegion ops (i::rest)::k,.head N ?_,g4,g5,k0,k1⟩;rw[Ch]at C;exact C
  .cases hr
 |invoke m =>
  obtain⟨c,x,s,K,rfl⟩:=B;have g:o.semAt b.roundOf a.eval=execOp a.eval o:=C0 _ _ _ (λ c'=>by rw[s];simp);simp only[iD]at hr;split at hr
  .rename_i t v args;simp only[dg,yq,qr,qj,qk]at hr;obtain⟨f,hm,⟨e,u,H'⟩,hc,rfl⟩:=hr;have⟨cf,ca,z,L,W⟩:=R.eI;simp only[kh,zz]at z;obtain⟨rfl,rfl⟩:=z;have⟨cv,S,Z⟩:=L.mr;rw[hAP]at hm;have hm':xT P t m=B1 f:=hm;refine Xr E ho J M hu (args:=#[cv]++c.args.map a.eval) (by simpa using bN.cons Z W) (λ hfn=>Ws ho hw ?_) hc (by cases e<;>exact hf);have⟨fn,body,h3,h4⟩:=hfn;rw[g];have hx:(#[K1.iface t cv]++c.args.map a.eval)[0]? = B1 (.iface t cv):=by
    rw[Array.getElem?_append];simp
   have hx2:(#[K1.iface t cv]++c.args.map a.eval).extract 1 (#[K1.iface t cv]++c.args.map a.eval).size=c.args.map a.eval:=by
    apply Array.ext';rw[Array.toList_extract,Array.toList_append];simp[List.extract,za]
   simp only[execOp,s,resolve,K,NG,B8,NA,invoke,S,hx,hx2,callMethod,program,Sem.run,xjn hm',QT hP h3 h4]
  .cases hr
 |recover =>
  obtain⟨c,s,K,rfl⟩:=B;have g:o.semAt b.roundOf a.eval=execOp a.eval o:=C0 _ _ _ (λ c'=>by rw[s];simp);simp only[iD]at hr;split at hr
  .cases hr
  .rename_i F;rw[F]at hb;have hb:b.roundOf=none:=hb;have G:(o.semAt b.roundOf a.eval).run P w=.ok .recover w:=by
    rw[g];have⟨cc,hE⟩:=Kr (ρ:=a.eval) s K;rw[hE];rfl
   split at hr
   .split at hr
    .rename_i v older O;cases hr;rw[O]at hu;cases cs with
     |nil=>exact hu.elim
     |cons c0 kX =>
      have⟨hk,hm⟩:=hu;cases n:c0.mode with
      |run=>rw[n]at hm;exact hm.elim
      |returning=>rw[n]at hm;cases hm
      |panicking Y =>
       rw[n]at hm;have⟨_,hm⟩:=hm;cases Y with
       |nil=>exact hm.elim
       |cons p Y =>
        have⟨⟨m1,m2,m3⟩,m4⟩:=hm;have⟨pv,pr,pg⟩:=p;simp only at m1 m2 m3;subst m2;subst m3;refine⟨θ,w,pv,{c0 with mode:=.panicking ({v:=pv,recovered:=B4}::Y)}::kX,a.defers,.one ?_,by rw[d];exact J,.refl _ _ _ _,by rw[d];exact m1,by rw[d];exact M,by rw[O];rfl,?_,?_⟩
        .refine xh5 ho hw hb G ?_;simp[tryRecover,CH,hk,n]
        .rw [d];exact⟨hk,by simp,⟨m1,rfl,rfl⟩,m4⟩
        .rw [O];exact⟨_,rfl⟩
    .rename_i O;cases hr;refine⟨θ,w,.nilIface,cs,a.defers,.one (q3q ho hw hb G ?_),by rw[d];exact J,.refl _ _ _ _,λ _ _=>rfl,by rw[d];exact M,rfl,by rw[d];exact hu,fG.refl hu⟩;unfold tryRecover;cases Q:st.up with
     |none =>
      rw[Q]at hu;have hk:b.kind=.normal:=hu;simp[CH,hk]
     |some ch =>
      rw[Q]at hu;cases cs with
      |nil=>exact hu.elim
      |cons c0 kX =>
       have⟨hk,hm⟩:=hu;cases n:c0.mode with
       |run=>rw[n]at hm;exact hm.elim
       |returning=>simp[CH,hk,n]
       |panicking Y =>
        rw[n]at hm;have⟨_,hm⟩:=hm;cases Y with
        |nil=>simp[CH,hk,n]
        |cons p Y =>
         cases ch with
         |nil=>exact hm.elim
         |cons e es =>
          have⟨⟨m1,m2,m3⟩,m4⟩:=hm;have⟨pv,pr,pg⟩:=p;have⟨ev,er⟩:=e;simp only at m2 m3;subst m2;subst m3;cases pr with
          |false=>exact absurd Q (O _ _)
          |true=>simp[CH,hk,n]
   .cases hr
 |defer =>
  obtain⟨c,x,s,K,rfl⟩:=B;simp only[iD]at hr;split at hr
  .cases hr
  .rename_i F;rw[F]at hb;have hb:b.roundOf=none:=hb;split at hr
   .rename_i f first cap args
    cases hr;have⟨cf,ca,z,L,W⟩:=R.eI;simp only[kh,zz]at z;obtain⟨rfl,rfl⟩:=z;have⟨fi,ci,S,Z,q5,q6⟩:=R8 L;refine⟨θ,w,undef,cs,{target:=.fn (.func f) ci.toArray,args:=fi.toArray++c.args.map a.eval}::a.defers,.one ?_,by rw[d];exact J,.refl _ _ _ _,.undef,?_,rfl,by rw[d];exact hu,fG.refl hu⟩
    .refine ad0 ho hw ?_;rw[hb,P7.semAt_none];simp[execOp,s,resolve,K,S,fQ,BX]
    .rw [d];exact⟨⟨_,_,rfl,λ _ _=>rfl,by simpa using Z.app (W.app q5)⟩,M⟩
   .cases hr
 |panic =>
  simp only[iD]at hr;split at hr
  .rename_i t v;cases hr;obtain⟨x,rfl,L⟩:=R.pO;have⟨cv,S,Z⟩:=L.mr;have G:(o.semAt b.roundOf a.eval).run P w=.halt (.panic (a.eval x)) w:=by
    rcases B with⟨y,s,hy⟩|⟨c,s,K,hy⟩
    .simp only[zz,uj]at hy;subst hy;rw[C0 _ _ _ (λ c'=>by rw[s];simp)];simp[execOp,s,S,Instr.panic,goPanic]
    .rw [C0 _ _ _ (λ c'=>by rw[s];simp)];have⟨cc,hE⟩:=Kr (ρ:=a.eval) s K;rw[hE,AO hy.symm];simp[builtin,S,Instr.panic,goPanic]
   refine⟨θ,w,[{v:=a.eval x,recovered:=B2}],.inRegion ops (i::rest)::k,.one (Ek ho hw G),by rw[d];exact J,.refl _ _ _ _,by simp,?_⟩;rw[d];exact⟨⟨L,rfl,rfl⟩,trivial⟩
  .cases hr
end
end Go.Am
namespace Go.Am
def dA(s:aP)(tm:T AV):Option Bool :=
 match s.guard with
 |none=>B1 B4
 |some g=>cX g.2 (tm.get g.1)
def ZH(s:aP)(hc:s.iB=B2)(rt:RT)(K:St->gY)(st:St) :
 (gZ s).run rt K st=(dA s st.tm).bind λ w=>cond w ((mF st.tm s.args).bind λ vs=>(iD rt st vs s.op).bind (u6 (eM s.dst) s.cP st K)) (K ⟨eM s.dst .undef st.tm,st.aZ,st.up,st.H⟩):=by
 have c:(lW s.dst).run=eM s.dst:=by grind [WN]
 unfold gZ dA;rw[hc];cases hg:s.guard with
 |none=>simp_all[HZ,t6]
 |some g=>simp_all[HZ,t6,T.jO,T.get]
def U_(s:aP)(hc:s.iB=B4){d:Nat}(e:s.dst=B1 d)(rt:RT)(K:St->gY)(st:St) :
 (gZ s).run rt K st=(dA s st.tm).bind λ w=>cond w ((mF st.tm s.args).bind λ vs=>cond (rk (λ t=>t.get d) st vs s.op) (K st) B5) (K st):=by
 have c:(T.oK (α:=AV) (T.path d)).run=λ t=>t.get d:=by funext t;exact T.jO _ _
 unfold gZ dA;rw[hc,e];cases hg:s.guard with
 |none=>simp_all[HZ]
 |some g =>
  simp only[HZ,c];rw[show(T.oK (T.path g.1)).run st.tm=st.tm.get g.1 from T.jO _ _]
theorem qto(s:aP)(hc:s.iB=B4)(c:s.dst=B5)(rt:RT)(K:St->gY)(st:St):(gZ s).run rt K st=none:=by
 grind [gZ]
def p9(call:b9):Prop:=∀f vs up H e up' H',call f vs up H=B1 (e,up',H')->Ext H H'
def Aq(round:iW):Prop:=∀vs l H e H',round vs l H=B1 (e,H')->Ext H H'
def ui:ai->Prop
 | .region steps=>∀s∈steps,dK s.op
 | .seq a b=>ui a/\ui b
 | .cond _ a b=>ui a/\ui b
 | .block _ b=>ui b
 | .loop _ b=>ui b
 | .scope b=>ui b
 |_=>True
def Du(fn:cj):Prop:=ui fn.body /\ ∀lp∈fn.loops,ui lp.assign/\ui lp.body
def R5(AP:jW):Prop:=∀f fn,AP.func f=B1 fn->Du fn
section
variable{rt:RT}(hc:p9 rt.call)(hr:Aq rt.round)
include hc hr
def Xg{op:fP}(ho:dK op){st:St}{vs:List AV}{r:iR}(h:iD rt st vs op=B1 r):Ext st.H r.heap:=by
 have c:∀(q:bP×ar),Ext st.H q.2->Ext st.H (oE st.aZ st.up q).heap:=by
  intro q g;have⟨e,H'⟩:=q;cases e<;>exact g
 cases op with
 |pure f=>simp only[iD,qj,qk]at h;obtain⟨_,_,rfl⟩:=h;exact Ext.refl _
 |read f=>simp only[iD,qj,qk]at h;obtain⟨_,_,rfl⟩:=h;exact Ext.refl _
 |alloc f=>simp only[iD,qj,qk]at h;obtain⟨⟨j,mk⟩,d,rfl⟩:=h;exact Ext.alloc _ _ (ho _ _ _ d)
 |gT f=>simp only[iD,qj,qk]at h;obtain⟨⟨v,H'⟩,d,rfl⟩:=h;exact ho _ _ _ _ d
 |ij f =>
  simp only[iD,dg,yq,qr,qj,qk]at h;obtain⟨⟨e,u,H'⟩,d,rfl⟩:=h;exact c _ (hc _ _ _ _ _ _ _ d)
 |iq =>
  simp only[iD]at h;split at h
  .simp only[dg,yq,qr,qj,qk]at h;obtain⟨⟨e,u,H'⟩,d,rfl⟩:=h;exact c _ (hc _ _ _ _ _ _ _ d)
  .simp only[dg,qj,qk]at h;obtain⟨⟨e,H'⟩,d,rfl⟩:=h;exact c _ (hr _ _ _ _ _ d)
  grind
 |invoke m =>
  simp only[iD]at h;split at h
  .simp only[dg,yq,qr,qj,qk]at h;obtain⟨_,_,⟨e,u,H'⟩,d,rfl⟩:=h;exact c _ (hc _ _ _ _ _ _ _ d)
  grind
 |recover =>
  simp only[iD]at h;split at h
  .cases h
  .split at h
   .split at h<;>(cases h;exact Ext.refl _)
   grind
 |defer =>
  simp only[iD]at h;split at h
  .cases h
  .split at h
   .cases h;exact Ext.refl _
   grind
 |panic =>
  simp only[iD]at h;split at h
  .cases h;exact Ext.refl _
  grind
def xhb{op:fP}(ho:dK op){st:St}{vs:List AV}{r:iR}(h:iD rt st vs op=B1 r):st.H.au<=r.heap.au:=(Xg hc hr ho h).1
def xm9{s:aP}(ho:dK s.op){K:St->gY}(g:∀st r,K st=B1 r->Ext st.H r.2.H){st:St}{r:aX×St}(h:(gZ s).run rt K st=B1 r):Ext st.H r.2.H:=by
 cases e:s.iB with
 |false =>
  rw[ZH s e,qj]at h;have⟨w,hw,h⟩:=h;cases w with
  |false =>
   grind
  |true =>
   simp only[xt,qj]at h;have⟨vs,_,q,l,h⟩:=h;have f:=Xg hc hr ho l;cases q with
   |val v d u H'=>exact Ext.trans f (g _ _ h)
   |panic c H' =>
    simp only[u6,qj,qk]at h;obtain⟨_,_,rfl⟩:=h;exact f
 |true =>
  cases j:s.dst with
  |none=>grind [qto]
  |some d =>
   rw[U_ s e j,qj]at h;have⟨w,hw,h⟩:=h;cases w with
   |false =>
    grind
   |true =>
    simp only[xt,qj]at h
    grind
def VE:∀{l:List aP},(∀s∈l,dK s.op) -> ∀{st:St}{r:aX×St},(ic l).run rt st=B1 r->Ext st.H r.2.H
 |[],_,st,r,h=>by cases h;exact Ext.refl _
 |s::l,ho,st,r,h=>xm9 hc hr (by grind) (λ st r h=>VE (by grind) h) h
def xf5{l:List aP}(hl:∀s∈l,dK s.op){st:St}{r:aX×St}(h:(ic l).run rt st=B1 r):st.H.au<=r.2.H.au:=(VE hc hr hl h).1
omit hc hr in
def Vh{body:St->gY}(hb:∀st r,body st=B1 r->Ext st.H r.2.H)(ah:Option (List Nat)):∀(n:Nat)(st:St)(r:aX×St),gV ah body n st=B1 r->Ext st.H r.2.H
 |0,st,r,h=>by cases h
 |n+1,st,r,h=>by
  simp only[gV,qj]at h;have⟨q,d,h⟩:=h;have c:=hb _ _ d;have c:Ext st.H q.2.H:=by cases ah<;>exact c
  split at h
  .exact Ext.trans c (Vh hb ah n _ _ h)
  .cases h;exact c
omit hc hr in
def xi0{body:St->gY}(hb:∀st r,body st=B1 r->Ext st.H r.2.H)(ah:Option (List Nat))(n:Nat)(st:St)(r:aX×St)(h:gV ah body n st=B1 r):st.H.au<=r.2.H.au:=(Vh hb ah n st r h).1
omit hr in
def Vi{st:St}{k:Nat}{H0:ar}{aZ:List aN}{d:Nat}{v:AV}{r:aX×St}(f:Ext st.H H0)(h:jJ rt.call rt.round rt.ctx st k H0 aZ d v=B1 r):Ext st.H r.2.H:=by
 unfold jJ at h;split at h
 .simp only[dg,yq,qr,qj]at h;have⟨⟨e,u,H'⟩,g,h⟩:=h;have c:=(f.trans (Ext.alloc _ _ rfl)).trans (hc _ _ _ _ _ _ _ g);unfold Nt at h;split at h
  .cases h;exact c
  .split at h
   .cases h
   .rename_i hg;cases h;exact c.trans (Ext.set hg _ (λ _=>rfl))
   .cases h
 .cases h
omit hr in
def xfu{st:St}{k:Nat}{H0:ar}{aZ:List aN}{d:Nat}{v:AV}{r:aX×St}(c:Ext st.H H0)(h:jJ rt.call rt.round rt.ctx st k H0 aZ d v=B1 r):st.H.au<=r.2.H.au:=(Vi hc c h).1
def A5:∀{c:ai},ui c -> ∀{st:St}{r:aX×St},(bH c).run rt st=B1 r->Ext st.H r.2.H
 | .skip,_,st,r,h=>by cases h;exact Ext.refl _
 | .label _,_,st,r,h=>by cases h;exact Ext.refl _
 | .region steps,hm,st,r,h=>VE hc hr hm h
 | .seq a b,hm,st,r,h=>by
  simp only[bH,qj]at h;have⟨q,e,h⟩:=h;have g:=A5 hm.1 e;unfold uO at h;split at h
  .exact Ext.trans g (A5 hm.2 h)
  grind
 | .cond c a b,hm,st,r,h=>by
  simp only[bH,qj]at h;have⟨v,j,h⟩:=h;unfold uz at h;split at h
  .rcases yi h with⟨_,h⟩|⟨_,h⟩
   .exact A5 hm.1 h
   .exact A5 hm.2 h
  grind
 | .block id b,hm,st,r,h=>by
  simp only[bH,qj]at h;have⟨q,e,h⟩:=h;have g:=A5 (c:=b) hm e
  grind [kJ]
 | .loop ah b,hm,st,r,h=>Vh (λ st r h=>A5 (c:=b) hm h) ah _ _ _ h
 | .exit _,_,st,r,h=>by cases h;exact Ext.refl _
 | .goto _,_,st,r,h=>by cases h;exact Ext.refl _
 | .ret,_,st,r,h=>by cases h;exact Ext.refl _
 | .stuck,_,st,r,h=>by cases h
 | .scope b,hm,st,r,h=>by
  simp only[bH,qj]at h;have⟨q,e,h⟩:=h;have g:=A5 (c:=b) hm e;unfold mq at h
  grind
 | .rangeFunc f k,_,st,r,h=>by
  simp only[bH,qj]at h;have⟨v,j,h⟩:=h;unfold ri at h;split at h
  .exact Vi hc (Ext.alloc _ _ rfl) h
  .simp only[qj]at h;have⟨d,_,h⟩:=h;exact Vi hc (Ext.refl _) h
def M6{c:ai}(hm:ui c){st:St}{r:aX×St}(h:(bH c).run rt st=B1 r):st.H.au<=r.2.H.au:=(A5 hc hr hm h).1
end
theorem Ug{call:b9}(hc:p9 call){rs:List eE}{tm:T AV}:∀{ds:List aN}{m:Option aI}{H:ar}{r:bP×ar},cz call rs tm ds m H=B1 r->Ext H r.2
 |[],B5,H,r,h=>by
  grind [cz,qj,Ext.refl]
 |[],B1 c,H,r,h=>by cases h;exact Ext.refl _
 | .jC b::ds,m,H,r,h=>by
  simp only[cz]at h;split at h
  .rename_i hg;exact(Ext.set hg _ (λ _=>rfl)).trans (Ug (H:=H.set b _) hc h)
  grind
 | .fn (.func f) args::ds,m,H,r,h=>by
  simp only[cz,qj]at h;have⟨⟨e,u,H'⟩,d,h⟩:=h;have g:=hc _ _ _ _ _ _ _ d;split at h
  .simp only[qj]at h;have⟨j,_,h⟩:=h;exact Ext.trans g (Ug hc h)
  grind
 | .fn (.yield _) _::_,_,_,_,h=>by grind [cz]
def qzq{call:b9}(hc:p9 call){rs:List eE}{tm:T AV}{ds:List aN}{m:Option aI}{H:ar}{r:bP×ar}(h:cz call rs tm ds m H=B1 r):H.au<=r.2.au:=(Ug hc h).1
def xf1{H H':ar}{l:Nat}{s:ng}{p:Option ik}(h:da H l s p=B1 H'):Ext H H':=by
 unfold da at h;split at h
 .rename_i hg;cases h;exact Ext.set hg _ (λ _=>rfl)
 grind
def q6r{H H':ar}{l:Nat}(h:beginRound H l=B1 H'):Ext H H':=by
 unfold beginRound at h;split at h
 .rename_i hg;cases h;exact Ext.set hg _ (λ _=>rfl)
 grind
theorem xdr{H H':ar}{l:Nat}{s:ng}{p:Option ik}(h:da H l s p=B1 H'):H'.au=H.au:=by
 unfold da at h;split at h
 .cases h;rfl
 grind
def q3t{H H':ar}{l:Nat}(h:beginRound H l=B1 H'):H'.au=H.au:=by
 unfold beginRound at h;split at h
 .cases h;rfl
 grind
def Tq{AP:jW}(hp:R5 AP){call:b9}(hc:p9 call)(m:Nat):∀n,Aq (rounds AP call m n)
 |0=>λ vs l H e H' h=>by cases h
 |n+1=>λ vs l H e H' h=>by
  have s:=Tq hp hc m n;simp only[rounds,roundOf]at h;split at h
  .rename_i st C f k tm d hg;simp only[qj]at h;have⟨fn,p,lp,x,A,_,q,y,h⟩:=h;have c:ui lp.assign/\ui lp.body:=(hp f fn p).2 lp (by grind [jN]);have g:=A5 (rt:=⟨AP,call,rounds AP call m n,m,⟨B1 l,f⟩⟩) hc s c.1 y;have g:Ext H q.2.H:=g;split at h
   .simp only[qj]at h;have⟨t,hb,z,r,h⟩:=h;have j:=A5 (rt:=⟨AP,call,rounds AP call m n,m,⟨B1 l,f⟩⟩) hc s c.2 r;have j:Ext t z.2.H:=j;have u:=(g.trans (q6r hb)).trans j;rcases yi h with⟨_,h⟩|⟨_,h⟩
    .unfold GN at h;split at h
     .grind
     .simp only[qj,qk,zh]at h;obtain⟨B,v,_,rfl⟩:=h;exact u.trans (xf1 v)
    grind
   grind
  grind
def xa4{AP:jW}(hp:R5 AP){call:b9}(l:p9 call)(n:Nat):p9 (Gh AP call n) :=
 λ f vs up H e d H' h=>by
  simp only[Gh,qj]at h;have⟨fn,c,q,p,h⟩:=h;have g:=A5 (rt:=⟨AP,call,rounds AP call n n,n,⟨B5,f⟩⟩) l (Tq hp l n n) (hp f fn c).1 p;have g:Ext H q.2.H:=g;have j:∀m,((cz call fn.results q.2.tm q.2.aZ m q.2.H).bind λ z=>B1 (z.1,q.2.up,z.2))=B1 (e,d,H')->Ext H H':=by
   intro m h;simp only[qj,qk,zh]at h;obtain⟨z,r,_,_,rfl⟩:=h
   grind [Ext.trans,Ug]
  grind [qC]
def T'{AP:jW}(hp:R5 AP){told:b9}(c:p9 told):∀n,p9 (nA AP told n)
 |0=>c
 |n+1=>λ f vs up H e d H' h=>by
  simp only[nA]at h;split at h
  .rename_i r hr;cases h;exact c _ _ _ _ _ _ _ hr
  .exact xa4 hp (T' hp c n) n _ _ _ _ _ _ _ h
end Go.Am
namespace Go.Am
abbrev pe:Machine->Prop:=λ _=>True
structure SR(P:Jl)(base:Nat)(D:Nat->Prop)(θ:Th)(b:NM)(nt:Nat)(rd:Option Nat)(st:St)(a:Act)(cs:List NM)(w:N6):Prop where
 heap:HR P base D θ st.H w
 vA:pR D θ st.tm a.tmps
 size:nt<=a.tmps.size
 aZ:ib D θ st.aZ a.defers
 up:rH D θ b.kind st.up cs
 round:AE D θ b.roundOf rd
def Out(P:Jl)(base:Nat)(D:Nat->Prop)(θ:Th)(b:NM)(nt:Nat)(rd:Option Nat)(k:List Item)(st:St)(cs:List NM)(w:N6)(m:Machine)(e:aX)(st':St):Prop :=
 ∃θ' a' w' cs' e',ArrivesIn pe P m b k cs' e' a' w'/\SR P base (Up D st.H.au st'.H.au) θ' b nt rd st' a' cs' w'/\bG D st.H θ w st'.H θ' w'/\Ce (Up D st.H.au st'.H.au) θ' e e' /\
  st'.up.isSome=st.up.isSome/\fG st.up cs cs'
section
variable{P:Jl}{base:Nat}{D:Nat->Prop}{θ:Th}
def Out.after{b:NM}{l:Nat}{rd:Option Nat}{k:List Item}{st dp c:St}{cs d:List NM}{w w1:N6}{m j:Machine}{e:aX}{θ1:Th}(hs:Steps P m j)
 (hg:bG D st.H θ w dp.H θ1 w1) (hu:dp.up.isSome=st.up.isSome) (t:fG st.up cs d) (hn:dp.H.au<=c.H.au)
 (h:Out P base (Up D st.H.au dp.H.au) θ1 b l rd k dp d w1 j e c):Out P base D θ b l rd k st cs w m e c:=by
 have⟨θ',n,w',cs',e',p,f,q,g,r,s⟩:=h;rw[Up.up hg.au hn]at f g;exact⟨θ',n,w',cs',e',.of_steps (C1 hs) p,f,hg.trans q Up.of,g,r.trans hu,fG.trans hu t s⟩
def zZ{α:Type}:∀{l:List (Option α)}{r:List α},dB l=B1 r->r.length=l.length /\ ∀(i:Nat)(x:α),r[i]? = B1 x->l[i]? = B1 (B1 x)
 |[],r,h=>by cases h;grind
 |y::l,r,h=>by
  simp only[dB,qj,qk]at h;obtain⟨a,rfl,e,hl,rfl⟩:=h;have⟨c,d⟩:=zZ hl
  grind
def Nv{ops:Array P7}{l:List (List bM×fP)}{safe:Nat->Option (List Nat)}{q:Bool×Nat}{s:aP}(h:jD ops l safe q=B1 s) :
 ∃o a g,ops[q.2]? = B1 o/\l[q.2]? = B1 a/\guardOf ops o.guard=B1 g/\s = {iB:=q.1,dst:=o.dst,guard:=g,args:=a.1,op:=a.2,cP:=safe q.2}:=by
 grind [jD,qj]
def VG{ops:Array P7}{o:P7}{s:aP}(hg:guardOf ops o.guard=B1 s.guard){tm:T AV}{a:Array K1}(f:pR D θ tm a){q:Bool}(h:dA s tm=B1 q) :
 B9 o (yielded ops a)=q:=by
 unfold dA at h;unfold B9;cases ho:o.guard with
 |none =>
  rw[ho]at hg;injection hg with hg
  grind
 |some g =>
  have⟨j,want⟩:=g;rw[ho]at hg;simp only[guardOf,qj,qk]at hg;have⟨t,⟨r,l,m⟩,hg⟩:=hg;rw[<-hg]at h;simp only at h;have n:((ops[j]?).bind (·.dst)).bind (a[·]?)=a[t]?:=by grind
  simp only[yielded,n];unfold cX at h;split at h
  .rename_i p hp;have⟨c,d,e⟩:=f t _ hp;injection h with h
   rw[d,<-e.now];simp only[aB];cases p<;>cases want<;>cases q<;>simp_all
  .rename_i hp;have⟨c,d,e⟩:=f t _ hp;injection h with h
   rw[d,<-e.now]
   grind [aB]
  grind
def IY{e:Nat}{tm:T AV}{a:Act}{dst:Option Nat}(h:∀d,dst=B1 d->d<e)(hs:e<=a.tmps.size)(f:pR D θ tm a.tmps){v:AV}{c:K1}(g:VR D θ v c) :
 pR D θ (eM dst v tm) (a.put dst c).tmps/\e<=(a.put dst c).tmps.size/\(a.put dst c).defers=a.defers:=by
 cases dst with
 |none=>exact⟨f,hs,rfl⟩
 |some d =>
  refine⟨f.put (by grind) g,?_,rfl⟩
  simpa[Act.put]using hs
def xjv(hP:d9 P){rt:RT}(t:rX P base rt.call)(m:xQ P base rt.round)(M:rt.AP=bq P)(O:p9 rt.call)(S:Aq rt.round)
 {ops:Array P7} {o:P7} {i:Nat} {rest:List Nat} {s:aP} {ca:List bM×fP} (ho:ops[i]? = B1 o) (N:gE P o=B1 ca) (hg:guardOf ops o.guard=B1 s.guard) (h1:s.iB=B2) (Z:s.dst=o.dst) (h3:s.args=ca.1) (h4:s.op=ca.2)
 {b:NM} {x:Nat} (hdst:py x o=B4) {k:List Item} {st:St} {a:Act} {cs:List NM} {w:N6} (e:SR P base D θ b x rt.ctx.round st a cs w) {K:St->gY} {r:aX×St}
 (z:∀st r,K st=B1 r->st.H.au<=r.2.H.au) (h:(gZ s).run rt K st=B1 r) (Q:eG D st.H.au r.2.H.au)
 (g:∀G θ1 dp X p w1,SR P base G θ1 b x rt.ctx.round dp X p w1->K dp=B1 r->eG G dp.H.au r.2.H.au->Out P base G θ1 b x rt.ctx.round k dp p w1 (lone (b.atR X (.inRegion ops rest::k)) p w1) r.1 r.2) :
 Out P base D θ b x rt.ctx.round k st cs w (lone (b.atR a (.inRegion ops (i::rest)::k)) cs w) r.1 r.2:=by
 have A:∀d,o.dst=B1 d->d<x:=by
  grind [py,A6]
 rw[ZH s h1,qj]at h;have⟨q,hq,h⟩:=h;have l:=VG hg e.vA hq;cases q with
 |false =>
  simp only[zn]at h;have⟨V,W,p3⟩:=IY (dst:=o.dst) A e.size e.vA (VR.undef (D:=D) (θ:=θ));rw[Z]at h;have hn:=z _ _ h;have E:=stepR_op_skip (P:=P) (b:=b) (a:=a) (k:=k) (cs:=cs) (w:=w) (ops:=ops) (i:=i) (rest:=rest) (by simp[ho,l]);rw[ho]at E;refine Out.after (.one E) (bG.refl D st.H θ w) rfl (fG.refl e.up) hn ?_;rw[Up.none];exact g D θ ⟨eM o.dst .undef st.tm,st.aZ,st.up,st.H⟩ _ cs w ⟨e.heap,V,W,by rw[show(a.put ((B1 o).bind (·.dst)) undef).defers=a.defers from p3];exact e.aZ,e.up,e.round⟩ h Q
 |true =>
  simp only[xt,qj]at h;have⟨vs,F,res,j,h⟩:=h;have⟨xs,U,C,B⟩:=Nz hP N;rw[h3]at F;rw[h4]at j;have hv:=JL (a:=a) e.heap e.vA U F;have R:=xhb O S C.mono j;have hle:res.heap.au<=r.2.H.au:=by
   cases res with
   |val v d u H'=>exact z _ _ h
   |panic c H' =>
    simp only[u6,qj,qk]at h;obtain⟨_,_,rfl⟩:=h;exact qm _
  have n:=Zr hP t m M C B (rest:=rest) (k:=k) ho l e.heap e.aZ e.up e.round hv j (Q.left hle);cases res with
  |val v d u H' =>
   have⟨θ',w',c,cs',ds,I,J,y,L,Y,g6,g7,g8⟩:=n;simp only[u6,Z]at h;have f:=y.ag;have⟨V,W,p3⟩:=IY (a:={a with defers:=ds}) (dst:=o.dst) A e.size (e.vA.up f Up.of) L;refine Out.after (dp:=⟨eM o.dst v st.tm,d,u,H'⟩) I y g6 g8 hle ?_;exact g _ θ' _ _ cs' w' ⟨J,V,W,by grind,g7,AE.up f Up.of e.round⟩ h (Q.right R)
  |panic c H' =>
   have⟨θ',w',ps,todo,I,J,y,L,Y⟩:=n;simp only[u6,qj,qk]at h;obtain⟨ds,hds,rfl⟩:=h;have f:=y.ag;refine⟨θ',a,w',cs,.panic ps,⟨todo,C1 I⟩,⟨J,pR.forget ds (e.vA.up f Up.of),e.size,ib.up f Up.of e.aZ,rH.up f Up.of e.up,AE.up f Up.of e.round⟩,y,⟨L,Y⟩,rfl,fG.refl e.up⟩
theorem Yu(e:d9 P){ops:Array P7}{l:List (List bM×fP)}(hl:dB (ops.toList.map (gE P))=B1 l){safe:Nat->Option (List Nat)}{qs:List (Bool×Nat)}{steps:List aP}
 (h:dB (qs.map (jD ops l safe))=B1 steps):∀s∈steps,dK s.op:=by
 intro s hs;have⟨i,f⟩:=LY hs;have:=(zZ h).2 i s f;rw[xq,xr]at this;have⟨q,_,j⟩:=this;obtain⟨o,a,g,ho,ha,_,rfl⟩:=Nv j;have:=(zZ hl).2 _ a ha;rw[xq,xr]at this;have⟨o',_,c⟩:=this;have⟨xs,_,d,_⟩:=Nz e c;exact d.mono
def oM(A:d9 P){rt:RT}(d:rX P base rt.call)(c:xQ P base rt.round)(m:rt.AP=bq P)(e:p9 rt.call)(j:Aq rt.round)
 {ops:Array P7} {t:Nat} (n:ops.toList.all (py t)=B4) {l:List (List bM×fP)} (hl:dB (ops.toList.map (gE P))=B1 l) {b:NM} {k:List Item} {safe:Nat->Option (List Nat)} :
 ∀(todo:List Nat){steps:List aP},dB (todo.map λ i=>jD ops l safe (B2,i))=B1 steps -> ∀{D:Nat->Prop}{θ:Th}{st:St}{a:Act}{cs:List NM}{w:N6}{r:aX×St},
  SR P base D θ b t rt.ctx.round st a cs w->(ic steps).run rt st=B1 r->eG D st.H.au r.2.H.au->Out P base D θ b t rt.ctx.round k st cs w (lone (b.atR a (.inRegion ops todo::k)) cs w) r.1 r.2
 |[],steps,hs,D,θ,st,a,cs,w,r,hS,h,hf=>by
  cases hs;cases h;refine⟨θ,a,w,cs,.normal,StepsIn.one trivial stepR_region_end,by grind [Up.none],bG.refl _ _ _ _,trivial,rfl,fG.refl hS.up⟩
 |i::todo,steps,hs,D,θ,st,a,cs,w,r,hS,h,hf=>by
  simp only[kh,dB,qj,qk]at hs;obtain⟨s,z,rest,q,rfl⟩:=hs;obtain⟨o,ca,g,ho,y,hg,rfl⟩:=Nv z;have v:gE P o=B1 ca:=by
   have:=(zZ hl).2 _ ca y
   grind
  have p:py t o=true:=by
   grind
  have f:∀s∈rest,dK s.op:=by
   have G:dB ((todo.map λ i=>(B2,i)).map (jD ops l safe))=B1 rest:=by rw[AF];exact q
   grind [Yu]
  exact xjv A d c m e j (K:=(ic rest).run rt) ho v hg rfl rfl rfl rfl p hS (λ st r h=>xf5 e j f h) h hf
   (λ E θ1 dp F B w1 u C x=>oM A d c m e j n hl todo q u C x)
end
end Go.Am
namespace Go.Am
def NO(P:Jl)(base:Nat)(rt:RT):Prop :=
 ∀(nt id:Nat)(ops:Array P7)(c:ai),iS P nt ops B4=B1 c -> ∀(D:Nat->Prop)θ(b:NM)k st a cs w r,SR P base D θ b nt rt.ctx.round st a cs w->(bH c).run rt st=B1 r ->
  eG D st.H.au r.2.H.au->Out P base D θ b nt rt.ctx.round k st cs w (lone (b.atR a (.code (.region id ops B4)::k)) cs w) r.1 r.2
section
variable{P:Jl}{base:Nat}
def xji{d:Nat}{ops:Array P7}{c:ai}(h:iS P d ops B2=B1 c):∃l steps,ops.toList.all (py d)=B4/\dB (ops.toList.map (gE P))=B1 l /\
 dB ((MX ops.size).map λ i=>jD ops l (λ _=>B1 []) (B2,i))=B1 steps/\c=.region steps:=by
 unfold iS at h;split at h
 .rename_i e;simp only[qj]at h;have⟨l,hl,h⟩:=h;simp only[ja,wn,qj,qk]at h
  grind
 grind
theorem xfw(d:d9 P){e:Nat}{ops:Array P7}{draw:Bool}{c:ai}(h:iS P e ops draw=B1 c):ui c:=by
 unfold iS at h;split at h
 .simp only[qj]at h;have⟨l,hl,h⟩:=h;split at h
  .rcases yi h with⟨_,h⟩|⟨_,h⟩
   .simp only[qj,qk]at h;obtain⟨steps,hs,rfl⟩:=h;exact Yu d hl hs
   .cases h;trivial
  .simp only[qj,qk]at h;obtain⟨steps,hs,rfl⟩:=h;exact Yu (safe:=λ _=>B1 []) (qs:=(MX ops.size).map λ i=>(B2,i)) d hl (by rw[AF];exact hs)
 grind
def vL(g:d9 P){s:Nat}:∀(c:Code){kk:Nat}{ac:ai}{L:List dZ},cJ P s kk c=B1 (ac,L)->ui ac /\ ∀lp∈L,ui lp.assign/\ui lp.body
 | .skip,kk,ac,L,h=>by cases h;exact⟨trivial,by simp⟩
 | .region _ ops draw,kk,ac,L,h=>by
  grind [cJ,qj,xfw]
 | .seq a b,kk,ac,L,h=>by
  simp only[cJ,qj,qk,zh]at h;obtain⟨⟨x,m⟩,d,⟨y,q⟩,l,rfl,rfl⟩:=h;have⟨n,p⟩:=vL g a d;have⟨e,j⟩:=vL g b l;exact⟨⟨n,e⟩,λ lp hl=>by grind⟩
 | .cond c a b,kk,ac,L,h=>by
  simp only[cJ,qj,qk,zh]at h;obtain⟨r,_,⟨x,m⟩,d,⟨y,q⟩,l,rfl,rfl⟩:=h;have⟨n,p⟩:=vL g a d;have⟨e,j⟩:=vL g b l;exact⟨⟨n,e⟩,λ lp hl=>by grind⟩
 | .block id b,kk,ac,L,h=>by
  simp only[cJ,qj,qk,zh]at h;obtain⟨⟨x,m⟩,d,rfl,rfl⟩:=h;have⟨e,j⟩:=vL g b d;exact⟨e,j⟩
 | .loop b,kk,ac,L,h=>by
  simp only[cJ,qj,qk,zh]at h;obtain⟨⟨x,m⟩,d,rfl,rfl⟩:=h;have⟨e,j⟩:=vL g b d;exact⟨e,j⟩
 | .rangeFunc f ps a b,kk,ac,L,h=>by
  simp only[cJ,qj]at h;have⟨r,_,⟨x,m⟩,d,⟨y,q⟩,l,h⟩:=h;split at h
  .cases h;have⟨n,p⟩:=vL g a d;have⟨e,j⟩:=vL g b l;refine⟨trivial,λ lp hl=>?_⟩
   grind
  grind
 | .exit _,kk,ac,L,h=>by cases h;exact⟨trivial,by simp⟩
 | .scope b,kk,ac,L,h=>by
  simp only[cJ,qj,qk,zh]at h;obtain⟨⟨x,m⟩,d,rfl,rfl⟩:=h;have⟨e,j⟩:=vL g b d;exact⟨e,j⟩
 | .label _,kk,ac,L,h=>by cases h;exact⟨trivial,by simp⟩
 | .goto _,kk,ac,L,h=>by cases h;exact⟨trivial,by simp⟩
 | .ret,kk,ac,L,h=>by cases h;exact⟨trivial,by simp⟩
 | .refuse _,kk,ac,L,h=>by cases h;exact⟨trivial,by simp⟩
def YX(d:d9 P):R5 (bq P):=by
 intro f e h;simp only[bq,qj]at h;have⟨fn,_,h⟩:=h;simp only[uH,qj,qk]at h;obtain⟨b,_,⟨c,L⟩,hc,_,_,rfl⟩:=h;exact vL d b hc
def XY{r:Nat}:∀(c:Code){kk:Nat}{ac:ai}{L:List dZ},cJ P r kk c=B1 (ac,L) -> ∀l,FF ac l=(findLabel c l).isSome
 | .skip,kk,ac,L,h,l=>by injection h with h;injection h with d g;subst d;rfl
 | .region _ ops draw,kk,ac,L,h,l=>by
  simp only[cJ,qj,qk,zh]at h;obtain⟨c,hc,rfl,rfl⟩:=h;unfold iS at hc;split at hc
  .simp only[qj]at hc;have⟨l,hl,hc⟩:=hc;split at hc
   .rcases yi hc with⟨_,hc⟩|⟨_,hc⟩
    .simp only[qj,qk]at hc;obtain⟨_,_,rfl⟩:=hc;rfl
    .cases hc;rfl
   .simp only[qj,qk]at hc;obtain⟨_,_,rfl⟩:=hc;rfl
  grind
 | .seq a b,kk,ac,L,h,l=>by
  simp only[cJ,qj,qk,zh]at h;obtain⟨⟨x,m⟩,j,⟨y,p⟩,n,rfl,rfl⟩:=h;have d:=XY a j l;have g:=XY b n l
  grind [FF,findLabel]
 | .cond c a b,kk,ac,L,h,l=>by
  simp only[cJ,qj,qk,zh]at h;obtain⟨q,_,⟨x,m⟩,j,⟨y,p⟩,n,rfl,rfl⟩:=h;rfl
 | .block id b,kk,ac,L,h,l=>by
  simp only[cJ,qj,qk,zh]at h;obtain⟨⟨x,m⟩,j,rfl,rfl⟩:=h;rfl
 | .loop b,kk,ac,L,h,l=>by
  simp only[cJ,qj,qk,zh]at h;obtain⟨⟨x,m⟩,j,rfl,rfl⟩:=h;rfl
 | .rangeFunc f ps a b,kk,ac,L,h,l=>by
  simp only[cJ,qj]at h;have⟨q,_,⟨x,m⟩,j,⟨y,p⟩,n,h⟩:=h;split at h
  .injection h with h;injection h with d g;subst d;rfl
  grind
 | .exit _,kk,ac,L,h,l=>by injection h with h;injection h with d g;subst d;rfl
 | .scope b,kk,ac,L,h,l=>by
  simp only[cJ,qj,qk,zh]at h;obtain⟨⟨x,m⟩,j,rfl,rfl⟩:=h;rfl
 | .label l',kk,ac,L,h,l=>by
  injection h with h;injection h with d g;subst d
  simp only[FF,findLabel]
  by_cases e:l'=l
  .simp [e]
  .simp only[beq_iff_eq,e,wn,Nn]
   grind [jy]
 | .goto _,kk,ac,L,h,l=>by injection h with h;injection h with d g;subst d;rfl
 | .ret,kk,ac,L,h,l=>by injection h with h;injection h with d g;subst d;rfl
 | .refuse _,kk,ac,L,h,l=>by injection h with h;injection h with d g;subst d;rfl
def xa5{b:NM}{a:Act}{body:Code}{k:List Item}{cs:List NM}{w:N6}:step P (lone (b.atR a (.inScope body::k)) cs w)=.next (lone (b.atR a k) cs w) :=
 step_lone_go (by simp[stepG,stepG.exec,CH])
def xf4{b:NM}{a:Act}{body:Code}{k:List Item}{cs:List NM}{w:N6}:step P (lone (b.atR a (.code (.scope body)::k)) cs w)=.next (lone (b.atR a (.code body::.inScope body::k)) cs w) :=
 step_lone_go (by simp[stepG,stepG.exec,CH])
def Out.pass{D:Nat->Prop}{θ:Th}{b:NM}{f:Nat}{rd:Option Nat}{x:Item}(s:x.plain=B4){k:List Item}{st:St}{cs:List NM}{w:N6}{m:Machine}{e:aX}{c:St}(he:Ap e=B2)
 (h:Out P base D θ b f rd (x::k) st cs w m e c):Out P base D θ b f rd k st cs w m e c:=by
 have⟨θ',g,w',cs',e',j,l,n,d,p,r⟩:=h;refine⟨θ',g,w',cs',e',.pass s (λ _ _=>.inl ?_) j,l,n,d,p,r⟩;intro q;subst q;cases e<;>first|exact d.elim|cases he
def Out.here{D:Nat->Prop}{θ:Th}{b:NM}{c:Nat}{rd:Option Nat}{k:List Item}{st:St}{a:Act}{cs:List NM}{w:N6}{m:Machine}{e:aX}{e':Exit}(f:SR P base D θ b c rd st a cs w)
 (d:ArrivesIn pe P m b k cs e' a w) (g:Ce D θ e e'):Out P base D θ b c rd k st cs w m e st :=
 ⟨θ,a,w,cs,e',d,by grind [Up.none],bG.refl _ _ _ _,by grind [Up.none],rfl,fG.refl f.up⟩
def quj{w:N6}(fn:FuncId)(tmps:Array K1)(c:Array Tmp)(as body:Code){l:Nat}{r:Loop}(h:w.heap[l]? = B1 (.loop r)) :
 (Instr.enterLoop fn tmps c as body (B1 l)).run P w=.ok (w.heap.size,[]) (w.alloc (.loop {state:=.ready,pending:=B5,fn,tmps,params:=c,assign:=as,body,defers:=r.defers})):=by
 simp_all[Instr.enterLoop,run_getLoop]
def q64{d:Nat}{c:Code}{kk:Nat}{ac:ai}{L:List dZ}(h:cJ P d kk c=B1 (ac,L)){l:Nat}(hl:FF ac l=B2):findLabel c l=none:=by
 rw[XY c h l]at hl
 simpa using hl
def KF{b:NM}{a:Act}{k:List Item}{cs:List NM}{w:N6}(id:Nat):ArrivesIn pe P (lone (b.atR a (.code (.exit id)::k)) cs w) b k cs (.exit id) a w :=
 ⟨λ _ hk=>.one trivial (stepR_exit hk),λ _ hk=>⟨k,hk,.refl _⟩⟩
def hT{b:NM}{a:Act}{k:List Item}{cs:List NM}{w:N6}(l:Nat):ArrivesIn pe P (lone (b.atR a (.code (.goto l)::k)) cs w) b k cs (.goto l) a w :=
 ⟨λ _ hk=>.one trivial (stepR_goto hk),λ _ hk=>⟨k,hk,.refl _⟩⟩
def q59{b:NM}{a:Act}{k:List Item}{cs:List NM}{w:N6}:ArrivesIn pe P (lone (b.atR a (.code .ret::k)) cs w) b k cs .ret a w :=
 ⟨λ hn=>⟨_,.one trivial (stepR_ret hn)⟩,λ _=>⟨k,.refl _⟩⟩
def xcj{D:Nat->Prop}{θ:Th}{b:NM}{a:Act}{k:List Item}{cs:List NM}{w:N6}(p:Option ik):∃e',Ce D θ (rO p) e' /\
 ArrivesIn pe P (lone (b.atR a (((p.map mK).map Item.code).toList++k)) cs w) b k cs e' a w:=by
 cases p with
 |none=>exact⟨.normal,trivial,.refl _⟩
 |some j =>
  cases j with
  |exit id=>exact⟨.exit id,rfl,KF id⟩
  |goto l=>exact⟨.goto l,rfl,hT l⟩
  |ret=>exact⟨.ret,trivial,q59⟩
def U'{call:b9}{round:iW}{ctx:Ctx}(L:rX P base call){D:Nat->Prop}{θ:Th}{b:NM}{nt:Nat}{st:St}{a:Act}{cs:List NM}{w:N6}{k:List Item}{H0:ar}{aZ:List aN}{w0:N6}{mark:List Deferred}{d:Nat}
 (hP:d9 P) {g:M7} {A:Array Tmp} {as body:Code} {kk:Nat} {v:AV} {r:aX×St} {θ0:Th}
 (h0:HR P base (Up D st.H.au H0.au) θ0 H0 w0) (g0:bG D st.H θ w H0 θ0 w0) (Q:st.H.au<=H0.au) (F:SR P base D θ b nt ctx.round st a cs w) (hv:VR D θ v (a.eval g)) (hd:Up D st.H.au H0.au d)
 (hdf:ib (Up D st.H.au H0.au) θ0 aZ (mark++a.defers)) (N:wO P ctx.fn kk a.tmps.size A as body) (hfn:b.fn=ctx.fn)
 (he:(Instr.enterLoop b.fn a.tmps A as body b.roundOf).run P w=.ok (w0.heap.size,mark) (w0.alloc (.loop {state:=.ready,pending:=B5,fn:=b.fn,tmps:=a.tmps,params:=A,assign:=as,body,defers:=θ0.cq d})))
 (hr:jJ call round ctx st kk H0 aZ d v=B1 r) (hf:eG D st.H.au r.2.H.au) (hm:p9 call) :
 Out P base D θ b nt ctx.round k st cs w (lone (b.atR a (.code (.rangeFunc g A as body)::k)) cs w) r.1 r.2:=by
 unfold jJ at hr;split at hr
 .rename_i f first cap
  simp only[dg,yq,qr,qj]at hr;have⟨⟨e,u,H'⟩,hcl,hr⟩:=hr;have O:H0.au+1<=H'.au:=(hm _ _ _ _ _ _ _ hcl).1;have hrn:r.2.H.au=H'.au/\r.2.aZ=aZ/\r.2.tm=st.tm/\r.2.up=st.up:=by
   unfold Nt at hr;split at hr
   .grind
   .split at hr
    .cases hr
    .cases hr;exact⟨rfl,rfl,rfl,rfl⟩
    grind
  rw[hrn.1]at hf;have hn:¬Up D st.H.au H0.au H0.au:=λ q=>by
   rcases q with q|⟨_,q⟩
   .exact hf _ Q (by omega) q
   .omega
  -- the record
  have Y:=g0.ag;have G:=Th.ia θ0 H0.au w0.heap.size 0 0 hn;have⟨e1,e2,e3⟩:=Th.eV θ0 H0.au w0.heap.size 0 0;have m:∀x,D x->Up (Up D st.H.au H0.au) H0.au (H0.au+1) x:=λ x z=>.inl (.inl z);have V:Up (Up D st.H.au H0.au) H0.au (H0.au+1) H0.au:=.inr ⟨qm _,zr _⟩;have n:Ag D θ (θ0.add H0.au w0.heap.size 0 0):=Y.trans G (λ x z=>.inl z);have hR:oP P (Up (Up D st.H.au H0.au) H0.au (H0.au+1)) (θ0.add H0.au w0.heap.size 0 0) H0.au (.loop .ready B5 ctx.fn kk st.tm d)
   (.loop {state:=.ready,pending:=B5,fn:=b.fn,tmps:=a.tmps,params:=A,assign:=as,body,defers:=θ0.cq d}) :=
   ⟨_,rfl,rfl,rfl,hfn,F.vA.up n m,N,.inl hd,((G d hd).1).symm⟩
  have h1:=h0.alloc hn (w':=w0.alloc (.loop {state:=.ready,pending:=B5,fn:=b.fn,tmps:=a.tmps,params:=A,assign:=as,body,defers:=θ0.cq d})) (co:=.loop {state:=.ready,pending:=B5,fn:=b.fn,tmps:=a.tmps,params:=A,assign:=as,body,defers:=θ0.cq d}) (k:=w0.heap.size) (off:=0) (ext:=0) (by rw[EY];simp)
   (by simp_all[EY,MF]) (qm _) (by simp) hR
  have g1:=bG.alloc (base:=base) h0 hn (.loop .ready B5 ctx.fn kk st.tm d) (.loop {state:=.ready,pending:=B5,fn:=b.fn,tmps:=a.tmps,params:=A,assign:=as,body,defers:=θ0.cq d}) 0 0
  -- the call
  have⟨fi,ci,q3,q4,q5,q6⟩:=R8 hv;have I:bN (Up (Up D st.H.au H0.au) H0.au (H0.au+1)) (θ0.add H0.au w0.heap.size 0 0) (first++(.fn (.yield H0.au) [] []::cap)) ((fi.toArray ++ #[K1.func (.yield w0.heap.size) #[] #[]])++ci.toArray).toList:=by
   simp only[Array.toList_append,ku];refine(q4.up n m).app (.cons (λ θ'' h''=>?_) (q5.up n m));simp only[aB,fQ,cw];rw[(h'' _ V).1,e1]
  have⟨⟨fn,c,k1,k2⟩,θ',w',cs',fr,e',s1,s2,s3,s4,S,s6,s7,s8,s9,s10⟩:=L _ _ _ _ f _ ((fi.toArray ++ #[K1.func (.yield w0.heap.size) #[] #[]])++ci.toArray) B5 H' e u .normal
   (b.atR {a with defers:=mark++a.defers} (.inRangeFunc w0.heap.size::k)::cs) h1 I rfl hcl (λ x h3 h4 U=>by
    rw[Up.up Q (kc _)]at U;rcases U with U|⟨_,U⟩
    .exact hf x (by have:H0.au+1<=x:=h3;omega) h4 U
    .have:H0.au+1<=x:=h3;omega)
  have hcs:cs'=b.atR {a with defers:=mark++a.defers} (.inRangeFunc w0.heap.size::k)::cs:=s9;subst hcs;have t:=stepR_rangeFunc (P:=P) (b:=b) (a:=a) (k:=k) (cs:=cs) (w:=w) (g:=g) (l:=w0.heap.size) (d:={target:=.fn (.func f) ci.toArray,args:=fi.toArray ++ #[K1.func (.yield w0.heap.size) #[] #[]]}) he
   (by
   show(BX (a.eval g) (#[M7.const (.func (.yield w0.heap.size) #[] #[])].map a.eval)).run P _=_;rw[q3];simp[BX,fQ,Act.eval];rfl) (by
    show(callFunc f (_++ci.toArray)).run P _=_;exact QT hP k1 k2)
  have hl:=ZT s4 s2;have hupa:Up (Up (Up D st.H.au H0.au) H0.au (H0.au+1)) (H0.au+1) H'.au=Up D st.H.au H'.au:=by
   rw[Up.up (kc _) O,Up.up Q (by omega)]
  have y:(H0.alloc (.loop .ready B5 ctx.fn kk st.tm d)).au=H0.au+1:=rfl;rw[y,hupa]at S s6 s10;have h:bG D st.H θ w H' θ' w':=(g0.trans g1 Up.of).trans s7 m;have W:∀x,Up D st.H.au H0.au x->Up D st.H.au H'.au x:=λ x z=>by
   rcases z with z|⟨h1,h2⟩
   .exact .inl z
   .exact .inr ⟨h1,by omega⟩
  have Z:Ag (Up D st.H.au H0.au) θ0 θ':=G.trans s7.ag (λ x z=>.inl z);have X:∀(E:ar)(R:N6),HR P base (Up D st.H.au H'.au) θ' E R->SR P base (Up D st.H.au H'.au) θ' b nt ctx.round {st with aZ:=aZ,H:=E} {a with defers:=mark++a.defers} cs R:=λ E R hh =>
   ⟨hh,F.vA.up h.ag Up.of,F.size,ib.up Z W hdf,rH.up h.ag Up.of F.up,AE.up h.ag Up.of F.round⟩
  unfold Nt at hr;cases e with
  |panic ch =>
   cases hr;cases e' with
   |returned _=>exact S.elim
   |outgrown=>exact S.elim
   |panicked ps' =>
    refine⟨θ',_,w',cs,.panic ps',⟨.inRangeFunc w0.heap.size::k,C1 (.head t (s1.trans (.one (by rw[step_leave_panicked hl,Ch]))))⟩,X _ _ s6,h,S,rfl,fG.refl F.up⟩
  |ret x =>
   cases e' with
   |panicked _=>exact S.elim
   |outgrown=>exact S.elim
   |returned cx =>
    have J:Steps P (lone (b.atR a (.code (.rangeFunc g A as body)::k)) cs w) (lone (b.atR {a with defers:=mark++a.defers} (.endRangeFunc w0.heap.size::k)) cs w'):=by
     exact .head t (s1.trans (.one (by rw[step_leave_returned hl,finish_atR_inRangeFunc])))
    simp only at hr;split at hr
    .cases hr
    .rename_i ls p f2 k2' tm2 d2 hnb j;cases hr;obtain⟨hDl',co,hco,rl,rfl,r1,r2,r3,r4,r5,r6,r7⟩:=s6.obj _ _ j;have s:θ'.cq H0.au=w0.heap.size:=by rw[(s7.ag _ V).1,e1]
     rw[s]at hco;have K:rl.state≠ .busy:=by
      intro q;rw[r1]at q;cases ls with
      |busy=>grind
      |ready=>cases q
      |done=>cases q
      |exhausted=>cases q
     have hend:=run_endLoop (P:=P) hco K;have M:=stepR_endRangeFunc (b:=b) (a:={a with defers:=mark++a.defers}) (k:=k) (cs:=cs) hend;have C:=s6.set (o':=.loop .exhausted p f2 k2' tm2 d2) (co':=.loop {rl with state:=.exhausted}) j rfl rfl ⟨_,rfl,rfl,r2,r3,r4,r5,r6,r7⟩;rw[s]at C;have B:bG (Up D st.H.au H'.au) H' θ' w' (H'.set H0.au (.loop .exhausted p f2 k2' tm2 d2)) θ' (fI w' (θ'.cq H0.au) (.loop {rl with state:=.exhausted})):=bG.set j rfl (s6.lt j);rw[s]at B;have⟨e'',k3,k4⟩:=xcj (P:=P) (D:=Up D st.H.au H'.au) (θ:=θ') (b:=b) (a:={a with defers:=mark++a.defers}) (k:=k) (cs:=cs) (w:=fI w' w0.heap.size (.loop {rl with state:=.exhausted})) p;rw[<-r2]at k4;exact⟨θ',_,_,cs,e'',.of_steps (C1 (J.trans (.one M))) k4,X _ _ C,h.trans B Up.of,k3,rfl,fG.refl F.up⟩
    grind
 grind
def Out.normal{D:Nat->Prop}{θ:Th}{b:NM}{e:Nat}{rd:Option Nat}{k:List Item}{st:St}{cs:List NM}{w:N6}{m:Machine}{c:St}(h:Out P base D θ b e rd k st cs w m .normal c) :
 ∃θ' d w' cs',Steps P m (lone (b.atR d k) cs' w')/\SR P base (Up D st.H.au c.H.au) θ' b e rd c d cs' w'/\bG D st.H θ w c.H θ' w'/\c.up.isSome=st.up.isSome/\fG st.up cs cs':=by
 have⟨θ',d,w',cs',e',f,g,j,l,n,p⟩:=h;cases e'<;>first|exact⟨θ',d,w',cs',BT f,g,j,n,p⟩|exact l.elim
def Out.head{D:Nat->Prop}{θ:Th}{b:NM}{f:Nat}{rd:Option Nat}{k:List Item}{st:St}{cs:List NM}{w:N6}{m d:Machine}{e:aX}{c:St}(hs:step P m=.next d)
 (h:Out P base D θ b f rd k st cs w d e c):Out P base D θ b f rd k st cs w m e c:=by
 have⟨θ',g,w',cs',e',j,l,n,p,q,r⟩:=h;exact⟨θ',g,w',cs',e',.of_steps (StepsIn.one trivial hs) j,l,n,p,q,r⟩
def o_(id c:Nat)(k:List Item):exitTo c (.inBlock id::k)=if id=c then B1 k else exitTo c k:=by
 simp[exitTo]
def NU{α:Type}(a b:List α)(i:Nat):nth (a++b) i=if i<a.length then nth a i else nth b (i-a.length):=by
 grind [jN]
set_option maxHeartbeats 1000000 in
def AW(R:d9 P){rt:RT}(m:rX P base rt.call)(f:xQ P base rt.round)(I:rt.AP=bq P)(z:p9 rt.call)(C:Aq rt.round)(t:NO P base rt)
 {fn:Func} {af:cj} (K:P.funcs[rt.ctx.fn]? = B1 fn) (J:uH P fn=B1 af):∀(c:Code){kk:Nat}{ac:ai}{L:List dZ},cJ P fn.ntmps kk c=B1 (ac,L)->(∀i l,nth L i=B1 l->nth af.loops (kk+i)=B1 l) ->
 ∀{D:Nat->Prop}{θ:Th}{b:NM}{k:List Item}{st:St}{a:Act}{cs:List NM}{w:N6}{r:aX×St},SR P base D θ b fn.ntmps rt.ctx.round st a cs w->b.fn=rt.ctx.fn->(bH ac).run rt st=B1 r ->
  eG D st.H.au r.2.H.au->Out P base D θ b fn.ntmps rt.ctx.round k st cs w (lone (b.atR a (.code c::k)) cs w) r.1 r.2
 | .skip,kk,ac,L,h,hL,D,θ,b,k,st,a,cs,w,r,s,hb,hr,B=>by
  injection h with h;injection h with u E;subst u
  injection hr with hr;subst hr
  exact .here s (e':=.normal) (StepsIn.one trivial stepR_skip) trivial
 | .label _,kk,ac,L,h,hL,D,θ,b,k,st,a,cs,w,r,s,hb,hr,B=>by
  injection h with h;injection h with u E;subst u
  injection hr with hr;subst hr
  exact .here s (e':=.normal) (StepsIn.one trivial stepR_label) trivial
 | .exit id,kk,ac,L,h,hL,D,θ,b,k,st,a,cs,w,r,s,hb,hr,B=>by
  injection h with h;injection h with u E;subst u
  injection hr with hr;subst hr
  exact .here s (KF id) rfl
 | .goto l,kk,ac,L,h,hL,D,θ,b,k,st,a,cs,w,r,s,hb,hr,B=>by
  injection h with h;injection h with u E;subst u
  injection hr with hr;subst hr
  exact .here s (hT l) rfl
 | .ret,kk,ac,L,h,hL,D,θ,b,k,st,a,cs,w,r,s,hb,hr,B=>by
  injection h with h;injection h with u E;subst u
  injection hr with hr;subst hr
  exact .here s q59 trivial
 | .refuse _,kk,ac,L,h,hL,D,θ,b,k,st,a,cs,w,r,s,hb,hr,B=>by
  injection h with h;injection h with u E;subst u
  cases hr
 | .region id ops draw,kk,ac,L,h,hL,D,θ,b,k,st,a,cs,w,r,s,hb,hr,B=>by
  simp only[cJ,qj,qk,zh]at h;obtain⟨c,hc,rfl,rfl⟩:=h;cases draw with
  |false =>
   obtain⟨l,steps,u,E,N,rfl⟩:=xji hc;exact .head stepR_region (oM R m f I z C u E _ N s hr B)
  |true=>exact t _ id ops c hc D θ b k st a cs w r s hr B
 | .seq x y,kk,ac,L,h,hL,D,θ,b,k,st,a,cs,w,r,s,hb,hr,B=>by
  simp only[cJ,qj,qk,zh]at h;obtain⟨⟨ax,M⟩,G,⟨ay,ly⟩,hy,rfl,rfl⟩:=h;simp only[bH,qj]at hr;obtain⟨⟨e,dp⟩,V,hr⟩:=hr;have hmy:=(vL R y hy).1;have X:=M6 z C (vL R x G).1 V;have W:∀i l,nth M i=B1 l->nth af.loops (kk+i)=B1 l:=λ i l hl=>hL i l (by
   rw[NU,xg]
   .exact hl
   .rw [jN]at hl;exact(qt.1 hl).1)
  have hLy:∀i l,nth ly i=B1 l->nth af.loops (kk+M.length+i)=B1 l:=λ i l hl=>by
   rw[Ad];exact hL (M.length+i) l (by
    show nth (M++ly) (M.length+i)=_;rw[NU,qy (by omega),Oc];exact hl)
  refine .head stepR_seq ?_
  by_cases he:e=.normal
  .subst he;simp only[uO]at hr;have A:=M6 z C hmy hr;obtain⟨θ',Q,w',cs',u,E,N,F,O⟩:=(AW R m f I z C t K J x G W (k:=.code y::k) s hb V (B.left A)).normal;exact Out.after u N F O A (AW R m f I z C t K J y hy hLy E hb hr (B.right X))
  .have hn:Ap e=false:=by cases e<;>first|rfl|exact absurd rfl he
   have hr':r=(e,dp):=by
    cases e<;>first|exact absurd rfl he|(injection hr with hr;exact hr.symm)
   subst hr';exact Out.pass (x:=.code y) rfl hn (AW R m f I z C t K J x G W s hb V B)
 | .cond c x y,kk,ac,L,h,hL,D,θ,b,k,st,a,cs,w,r,s,hb,hr,B=>by
  simp only[cJ,qj,qk,zh]at h;obtain⟨cc,hcc,⟨ax,M⟩,G,⟨ay,ly⟩,hy,rfl,rfl⟩:=h;simp only[bH,qj]at hr;obtain⟨v,hv,hr⟩:=hr;rw[JU]at hv;have hvr:=Df (a:=a) s.heap s.vA hcc hv;have W:∀i l,nth M i=B1 l->nth af.loops (kk+i)=B1 l:=λ i l hl=>hL i l (by
   rw[NU,xg]
   .exact hl
   .rw [jN]at hl;exact(qt.1 hl).1)
  have hLy:∀i l,nth ly i=B1 l->nth af.loops (kk+M.length+i)=B1 l:=λ i l hl=>by
   rw[Ad];exact hL (M.length+i) l (by
    show nth (M++ly) (M.length+i)=_;rw[NU,qy (by omega),Oc];exact hl)
  unfold uz at hr;split at hr
  .rename_i q;refine .head (stepR_cond hvr.now.symm) ?_;cases q with
   |true=>exact AW R m f I z C t K J x G W s hb hr B
   |false=>exact AW R m f I z C t K J y hy hLy s hb hr B
  .cases hr
 | .block id x,kk,ac,L,h,hL,D,θ,b,k,st,a,cs,w,r,s,hb,hr,B=>by
  simp only[cJ,qj,qk,zh]at h;obtain⟨⟨ax,M⟩,G,rfl,rfl⟩:=h;simp only[bH,qj]at hr;obtain⟨⟨e,dp⟩,V,hr⟩:=hr;have Z:r.2=dp:=by
   unfold kJ at hr;split at hr<;>(injection hr with hr;subst hr;rfl)
  obtain⟨θ',Q,w',cs',e',u,E,N,F,O,S⟩:=AW R m f I z C t K J x G hL (k:=.inBlock id::k) s hb V (Z▸B);refine .head stepR_block ?_;rw[Z];unfold kJ at hr;cases e with
  |normal =>
   injection hr with hr;subst hr
   cases e'<;>try exact F.elim
   exact⟨θ',Q,w',cs',.normal,StepsIn.trans u (.one trivial stepR_inBlock),E,N,trivial,O,S⟩
  |exit id' =>
   injection hr with hr;subst hr
   cases e'<;>try exact F.elim
   rename_i j;have F:j=id':=F;subst F;cases hbq:JW id j with
   |true =>
    simp only[jy]at hbq;subst hbq;exact⟨θ',Q,w',cs',.normal,u.1 k (by rw[o_,xg rfl]),E,N,trivial,O,S⟩
   |false =>
    have hne:¬id=j:=by intro q;subst q;simp at hbq
    have G:exitTo j (.inBlock id::k)=exitTo j k:=by rw[o_,qy hne]
    exact⟨θ',Q,w',cs',.exit j,⟨λ k' hk=>u.1 k' (by rw[G];exact hk),λ hr hk=>u.2 hr (by rw[G];exact hk)⟩,E,N,rfl,O,S⟩
  |goto l =>
   injection hr with hr;subst hr
   cases e'<;>try exact F.elim
   rename_i j;have G:gotoIn j (.inBlock id::k)=gotoIn j k:=rfl;exact⟨θ',Q,w',cs',.goto j,⟨λ k' hk=>u.1 k' (by rw[G];exact hk),λ hr hk=>u.2 hr (by rw[G];exact hk)⟩,E,N,F,O,S⟩
  |ret =>
   injection hr with hr;subst hr
   cases e'<;>try exact F.elim
   exact⟨θ',Q,w',cs',.ret,u,E,N,trivial,O,S⟩
  |panic ch =>
   injection hr with hr;subst hr
   cases e'<;>try exact F.elim
   rename_i ps;exact⟨θ',Q,w',cs',.panic ps,u,E,N,F,O,S⟩
 | .scope x,kk,ac,L,h,hL,D,θ,b,k,st,a,cs,w,r,s,hb,hr,B=>by
  simp only[cJ,qj,qk,zh]at h;obtain⟨⟨ax,M⟩,G,rfl,rfl⟩:=h;simp only[bH,qj]at hr;obtain⟨⟨e,dp⟩,V,hr⟩:=hr;have Z:r=(e,dp) /\ ∀l,e=.goto l->FF ax l=false:=by
   unfold mq at hr;split at hr
   .rename_i l he;simp only at he;rcases yi hr with⟨_,hr⟩|⟨hl,hr⟩
    .cases hr
    .injection hr with hr;subst he;exact⟨hr.symm,λ l' h'=>by injection h' with h';subst h';exact hl⟩
   .rename_i hne;injection hr with hr;exact⟨hr.symm,λ l' h'=>(hne l' h').elim⟩
  obtain⟨rfl,hlab⟩:=Z;obtain⟨θ',Q,w',cs',e',u,E,N,F,O,S⟩:=AW R m f I z C t K J x G hL (k:=.inScope x::k) s hb V B;refine .head xf4 ?_;cases e with
  |normal =>
   cases e'<;>try exact F.elim
   exact⟨θ',Q,w',cs',.normal,StepsIn.trans u (.one trivial xa5),E,N,trivial,O,S⟩
  |exit id' =>
   cases e'<;>try exact F.elim
   rename_i j;have G:exitTo j (.inScope x::k)=exitTo j k:=rfl;exact⟨θ',Q,w',cs',.exit j,⟨λ k' hk=>u.1 k' (by rw[G];exact hk),λ hr hk=>u.2 hr (by rw[G];exact hk)⟩,E,N,F,O,S⟩
  |goto l =>
   cases e'<;>try exact F.elim
   rename_i j;have F:j=l:=F;subst F;have hfl:=q64 G (hlab j rfl);have hg:gotoIn j (.inScope x::k)=gotoIn j k:=by simp[gotoIn,hfl]
   exact⟨θ',Q,w',cs',.goto j,⟨λ k' hk=>u.1 k' (by rw[hg];exact hk),λ hr hk=>u.2 hr (by rw[hg];exact hk)⟩,E,N,rfl,O,S⟩
  |ret =>
   cases e'<;>try exact F.elim
   exact⟨θ',Q,w',cs',.ret,u,E,N,trivial,O,S⟩
  |panic ch =>
   cases e'<;>try exact F.elim
   rename_i ps;exact⟨θ',Q,w',cs',.panic ps,u,E,N,F,O,S⟩
 | .loop x,kk,ac,L,h,hL,D,θ,b,k,st,a,cs,w,r,s,hb,hr,B=>by
  simp only[cJ,qj,qk,zh]at h;obtain⟨⟨ax,M⟩,G,rfl,rfl⟩:=h;simp only[bH]at hr;refine .head stepR_loop ?_;have X:=(vL R x G).1;have key:∀(n:Nat)(D:Nat->Prop)(θ:Th)(st:St)(a:Act)(cs:List NM)(w:N6)(r:aX×St),SR P base D θ b fn.ntmps rt.ctx.round st a cs w->gV B5 ((bH ax).run rt) n st=B1 r->eG D st.H.au r.2.H.au ->
   Out P base D θ b fn.ntmps rt.ctx.round k st cs w (lone (b.atR a (.code x::.inLoop x::k)) cs w) r.1 r.2:=by
   intro n
   induction n with
   |zero=>intro D θ st a cs w r _ hr _;cases hr
   |succ n ih =>
    intro D θ st a cs w r s hr B;simp only[gV,qj]at hr;obtain⟨⟨e,dp⟩,V,hr⟩:=hr;have hm1:=M6 z C X V
    by_cases he:e=.normal
    .subst he;simp only at hr;have A:=xi0 (λ st r h=>A5 z C X h) B5 n _ _ hr;obtain⟨θ',Q,w',cs',u,E,N,F,O⟩:=(AW R m f I z C t K J x G hL (k:=.inLoop x::k) s hb V (B.left A)).normal;exact Out.after (u.trans (.one stepR_inLoop)) N F O A (ih _ θ' dp Q cs' w' r E hr (B.right hm1))
    .have hn:Ap e=false:=by cases e<;>first|rfl|exact absurd rfl he
     have hr':r=(e,dp):=by
      cases e<;>first|exact absurd rfl he|(injection hr with hr;exact hr.symm)
     subst hr';exact Out.pass (x:=.inLoop x) rfl hn (AW R m f I z C t K J x G hL s hb V B)
  exact key _ D θ st a cs w r s hr B
 | .rangeFunc g ps x y,kk,ac,L,h,hL,D,θ,b,k,st,a,cs,w,r,s,hb,hr,B=>by
  simp only[cJ,qj]at h;obtain⟨cg,hcg,⟨ax,M⟩,G,⟨ay,ly⟩,hy,h⟩:=h;split at h
  .rename_i Y;have Y:∀p∈ps.toList,p<fn.ntmps:=λ p hp=>by
    rw[Gn]at Y
    simpa[A6]using Y p hp
   injection h with h;injection h with u E;subst u;subst E
   simp only[bH,qj]at hr;obtain⟨v,hv,hr⟩:=hr;rw[JU]at hv;have hvr:=Df (a:=a) s.heap s.vA hcg hv;have U:wO P rt.ctx.fn kk a.tmps.size ps x y:=by
    refine⟨fn,af,_,kk+1,kk+1+M.length,M,ly,K,J,hL 0 _ rfl,rfl,Y,s.size,G,λ i l hl=>?_,hy,λ i l hl=>?_⟩
    .rw [Ad];refine hL (1+i) l ?_;rw[Nat.add_comm 1 i,jN,z8,<-jN,NU,xg]
     .exact hl
     .rw [jN]at hl;exact(qt.1 hl).1
    .rw [Ad,Ad];refine hL (1+(M.length+i)) l ?_;rw[Nat.add_comm 1 _,jN,z8,<-jN];show nth (M++ly) (M.length+i)=_;rw[NU,qy (by omega),Oc];exact hl
   unfold ri at hr;split at hr
   .rename_i hnone;have hro:b.roundOf=none:=by have:=s.round;rw[hnone]at this;exact this
    have A:st.H.au+1<=r.2.H.au:=by
     have:(st.H.alloc (.deferred (B1 []))).au<=r.2.H.au:=xfu (st:={st with H:=st.H.alloc (.deferred (B1 []))}) z (Ext.refl _) hr;exact this
    have hn:¬D st.H.au:=B _ (qm _) A;have hag:=Th.ia θ st.H.au w.heap.size 0 0 hn;obtain⟨e1,e2,e3⟩:=Th.eV θ st.H.au w.heap.size 0 0;have hDn:Up D st.H.au (st.H.au+1) st.H.au:=.inr ⟨qm _,zr _⟩;have h0:=s.heap.alloc hn (w':=w.alloc (.deferred (B1 []))) (co:=.deferred (B1 [])) (o:=.deferred (B1 [])) (k:=w.heap.size) (off:=0) (ext:=0) (by rw[EY];simp)
     (λ j hj=>by rw[EY,qy (MF hj)]) (qm _) (by simp) ⟨B1 [],rfl,rfl,rfl⟩
    have g0:=bG.alloc (base:=base) s.heap hn (.deferred (B1 [])) (.deferred (B1 [])) 0 0;refine U' m R (H0:=st.H.alloc (.deferred (B1 []))) (aZ:=.jC st.H.au::st.aZ) (d:=st.H.au) (mark:=[{target:=.collected w.heap.size,args:=#[]}]) h0 g0 (kc _) s hvr hDn ⟨⟨hDn,by rw[e1]⟩,ib.up hag Up.of s.aZ⟩ U hb ?_ hr B z;rw[hro,run_enterLoop_outer,e1];simp
   .rename_i l hl;simp only[qj]at hr;obtain⟨d,hd,hr⟩:=hr;unfold Cs at hd;split at hd
    .rename_i f2 k2 tm2 d2 hget;injection hd with hd;subst hd
     obtain⟨hDl,co,hco,rl,rfl,r1,r2,r3,r4,r5,r6,r7⟩:=s.heap.obj _ _ hget;have hro:b.roundOf=B1 (θ.cq l):=by have:=s.round;rw[hl]at this;exact this.2
     refine U' m R (mark:=[]) (d:=d2) (by rw[Up.none];exact s.heap) (bG.refl _ _ _ _) (qm _) s hvr (by rw[Up.none];exact r6) (by rw[Up.none];exact s.aZ) U hb ?_ hr B z;rw[hro,quj _ _ _ _ _ hco,r7]
    .cases hd
  .cases h
end
end Go.Am
