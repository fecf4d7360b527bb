import Derived.Test.YtgjdmncoonceaaaGreatDoorAmFZa
import Derived.Deep.Upon
import Derived.Lib.UnsafeStr
import Derived.Defers
import Derived.RangeFuncRecord
import Derived.ControlIn
import Derived.RangeFuncIn
set_option linter.defProp false
set_option linter.unusedVariables false
set_option linter.unusedSimpArgs false
open Bool renaming false→B2,true→B4
open Go renaming Frame→OE,MapEntry→Bq,Oper→QI,Operand→MS,Program→JL,TypeId→M8,Value→Li,World→MV
open Go.Addr.mk renaming injEq→C5
open Go.Builtin renaming append_→C4,clear_→Ci,firstCells→CO,zeroCells→BV
open Go.Deferred renaming ofValue→Bj
open Go.Frame renaming atR→CG,raise_atR→Ch
open Go.Instr renaming sameBits→Bl,sureAddr→C9
open Go.Oper renaming semAt_eq→Bw
open Go.Region renaming wanted→B0
open Go.Result renaming andThen_ok→NB
open Go.Sem renaming run_bind→Ng,run_pure→A9
open Go.StepsIn renaming of_steps→C0,steps→Be
open Go.Value.slice renaming injEq→BZ
open Go.stepG renaming apply→CE
open List renaming range→MT,replicate→JK
open Nat renaming beq→I6,ble→Oa,blt→PM
open Option renaming none→B5,some→B1
open Prod.mk renaming inj→Cw
namespace Go.Am
def su(P:JL)(o:QI)(xs:List MS)(f:List AV->ar->Option (AV×ar)):Prop :=
 ∀base(D:Nat->Prop)θ H(ρ:MS->Li)w vs v H',HR P base D θ H w->bL D θ vs (xs.map ρ)->f vs H=B1 (v,H')->d9 D H.au H'.au ->
  ∃θ' w' c,sI P (execOp ρ o) w c w'/\HR P base (Up D H.au H'.au) θ' H' w'/\bA D H θ w H' θ' w'/\VR (Up D H.au H'.au) θ' v c
section
variable{P:JL}{base:Nat}{D:Nat->Prop}{θ:Th}{H:ar}{w:MV}
def _9{fz:Nat×Nat}{o n:Nat}(h:eC fz o n=B4):∀j,j<n -> ¬(fz.1<=o+j/\o+j<fz.2):=by
 intro j c;unfold eC at h;simp only[Hq,tQ]at h;omega
def na(pre cs post new:List Li)(o:Nat)(h:o+new.length<=cs.length) :
 ((pre++cs++post).toArray.toList.take (pre.length+o)++new++(pre++cs++post).toArray.toList.drop (pre.length+o+new.length))=pre++(cs.take o++new++cs.drop (o+new.length))++post:=by
 have e1:(pre++cs++post).take (pre.length+o)=pre++cs.take o:=by
  rw[yf,RN,RN];have:pre.length+o-pre.length-cs.length=0:=by omega
  simp_all[ze]
 have e2:(pre++cs++post).drop (pre.length+o+new.length)=cs.drop (o+new.length)++post:=by
  grind [G7,List.drop_of_length_le]
 grind
theorem HR.store(r:HR P base D θ H w){b o:Nat}{new:List AV}{cs:List Li}{H':ar}(v:bL D θ new cs)(h:H.store b o new=B1 H') :
 ∃w',(storeCells ⟨θ.b9 b,θ.off b+o,B5⟩ cs).run P w=.ok () w'/\HR P base D θ H' w'/\bA D H θ w H' θ w'/\H'.au=H.au:=by
 unfold ar.store at h;cases n:aL new with
 |false=>grind
 |true =>
  rw[n]at h;simp only[xu]at h;have y:=ζ v n;have hlen:=v.length;split at h
  .rename_i c e fz hg;obtain⟨E,co,hc,hr⟩:=r.obj b _ hg;obtain⟨pre,d,post,p,G,rfl,l,q,z⟩:=hr;obtain⟨rfl,rfl,rfl,t⟩:=z rfl;have x:=q.length;cases u:eC fz o (cW new)with
   |false=>grind
   |true =>
    rw[u]at h;simp only[xu,FA]at h;split at h
    .rename_i hle;simp only[qr,qk]at h;subst h;have f:=_9 u;rw[Gx]at f;have g:=Uf (P:=P) (θ.off b+o) cs 0 _ w hc (by grind) (λ j L=>by
      have:=f j (by omega);simp only[kr]at l;rcases t with t|⟨I,J⟩<;>omega) y
     rw[AY,<-l,na [] d [] cs o (by omega)]at g;rw[<-l];refine⟨_,g,?_,?_,rfl⟩
     .refine r.set hg rfl rfl ⟨[],d.take o++cs++d.drop (o+cs.length),[],p,_,rfl,l,?_,λ _=>(by grind)⟩;rw[hlen];exact((q.take o).app v).app (q.drop _)
     .exact bA.set hg rfl (r.lt hg)
    grind
  .rename_i m s c e fz hg;obtain⟨E,co,hc,hr⟩:=r.obj b _ hg;obtain⟨pre,d,post,p,rfl,l,q,z,A,B,C,K⟩:=hr;have x:=q.length;cases u:eC fz o (cW new)with
   |false=>grind
   |true =>
    rw[u]at h;simp only[xu,FA]at h;split at h
    .rename_i hle;simp only[qr,qk]at h;subst h;have f:=_9 u;rw[Gx]at f;have g:=Uf (P:=P) (θ.off b+o) cs 0 _ w hc (by grind) (by grind [JY]) y;rw[AY,<-l,na pre d post cs o (by omega)]at g;rw[<-l];refine⟨_,g,?_,?_,rfl⟩
     .have F:(d.take o++cs++d.drop (o+cs.length)).length=d.length:=by grind
      refine r.set hg rfl rfl ⟨pre,d.take o++cs++d.drop (o+cs.length),post,p,rfl,l,?_,?_,A,B,C,?_⟩
      .rw [hlen];exact((q.take o).app v).app (q.drop _)
      .grind
      grind
     .exact bA.set hg rfl (r.lt hg)
    grind
  grind
def xkn{o:QI}{t:M8}{x y:MS}{n:Nat}(ho:o.op=.store t x y)(hs:bQ P t=B1 n):su P o [x,y] (Op.store n):=by
 intro base D θ H ρ w vs v H' l h c j;unfold Op.store at c;split at c
 .rename_i b off a;obtain⟨q,r,he,ha,hb⟩:=h.rq;simp only[zw,tJ]at he;obtain⟨rfl,rfl⟩:=he;cases hn:I6 (cW a.cells) n with
  |false=>grind
  |true =>
   rw[hn]at c;simp only[xu,qj,qk,zh]at c;obtain⟨H1,g,rfl,rfl⟩:=c;obtain⟨w',e,m,f,p⟩:=l.store hb.cells g;have hl:=hb.cells.length;simp only[Gx,jp]at hn;have d:(ρ y).cells.size=n:=by grind
   refine⟨θ,w',_,.inr ⟨?_,rfl⟩,by grind [Up.none],f,.undef⟩;simp only[execOp,ho,<-ha.now,az,Instr.storeAt,C9,storeVar,Ng,A9,NB,uj hs,d,ne_eq,not_true_eq_false,wh,e]
 grind
def Xa{w:MV}{r:Nat}{o:Obj}{ms:Array Bq}{c:Nat}(h:w.heap[r]? = B1 (.map ms c)):(setObj r o).run P w=.ok () (fy w r o):=by
 simp[setObj,Sem.run,h,fy]
def HR.wN(d:HR P base D θ H w){b:Nat}{m:List (AV×AV×Nat)×Nat}(hm:H.eX b=B1 m){es:List (AV×AV×Nat)}{ms:List Bq}{c:Nat}(h:du D θ es ms) :
 HR P base D θ (H.set b (.map es c)) (fy w (θ.b9 b) (.map ms.toArray c))/\bA D H θ w (H.set b (.map es c)) θ (fy w (θ.b9 b) (.map ms.toArray c)):=by
 obtain⟨hg,_,_⟩:=d.eX hm;exact⟨d.set hg rfl rfl ⟨ms,rfl,h⟩,bA.set hg rfl (d.lt hg)⟩
def xbf{o:QI}{c:Call}{xs:List MS}{t s e:M8}(ho:o.op=.call c)(hc:c.callee=.builtin .clear)(n:c.args.toList=xs)(l:c.argTypes[0]? = B1 t)
 (hu:P.underlying t=B1 (.map s e)):su P o xs Op.bS:=by
 intro base D θ H ρ w vs v H' j h d p;obtain⟨u,g⟩:=MI (ρ:=ρ) ho hc;unfold Op.bS at d;split at d
 .obtain ⟨x,rfl,ha⟩:=h.pS;simp only[qk,zh]at d;obtain⟨rfl,rfl⟩:=d;refine⟨θ,w,.tuple #[],.inl ?_,by grind [Up.none],.refl _ _ _ _,.tuple .nil⟩;rw[g,AW n];simp[builtin,Ci,l,<-ha.now,az,j8 hu]
 .rename_i b;obtain⟨x,rfl,ha⟩:=h.pS;simp only[qj,qk,zh]at d;obtain⟨m,hm,rfl,rfl⟩:=d;obtain⟨_,_,ms,f,y⟩:=j.eX hm;obtain⟨q,r⟩:=j.wN hm (c:=m.2) (es:=[]) (ms:=[]) trivial;refine⟨θ,_,.tuple #[],.inl ?_,by rw[show(H.set b (.map [] m.2)).au=H.au from rfl,Up.none];exact q,r,.tuple .nil⟩;rw[g,AW n];simp[builtin,Ci,l,<-ha.now,az,j8 hu,ML f,Xa f]
 grind
def _X{n:Nat}{a b:AV}{ca c:Li}(ha:VR D θ a ca)(hb:VR D θ b c)(h:Op.ui a b=B4):Bl n ca c=true:=by
 rw[<-ha.now,<-hb.now];cases a<;>cases b<;>simp only[Op.ui,zm]at h
 .grind [az,Bl]
 .simp_all [BM,Tm,az,Bl]
 simp_all[Ky,az,Bl,beq_toListBytes]
def mm{n:Nat}:∀{a b:List AV}{ca c:List Li},bL D θ a ca->bL D θ b c->Op.fg a b=B4->ca.length=c.length/\((ca.zip c).all λ(x,y)=>Bl n x y)=B4
 |[],[],ca,c,ha,hb,_=>by rw[ha.my,hb.my];simp
 |a::x,b::y,ca,c,ha,hb,h=>by
  obtain⟨m,d,rfl,f,j⟩:=ha.eE;obtain⟨p,e,rfl,g,l⟩:=hb.eE;simp only[Op.fg]at h;cases hs:Op.ui a b with
  |false=>grind
  |true =>
   rw[hs]at h;obtain⟨e1,e2⟩:=mm (n:=n) j l h;simp only[jd,e1,List.zip_cons_cons,List.all_cons,_X f g hs,Bool.true_and,e2,and_self]
 |[],_::_,_,_,_,_,h=>by cases h
 |_::_,[],_,_,_,_,h=>by cases h
theorem xi1{n:Nat}{a b:AV}{ca d:Li}(ha:VR D θ a ca)(hb:VR D θ b d)(h:Op.stays a b=B4):Bl (n+1) ca d=true:=by
 by_cases c:(∃l,a=.agg l) /\ ∃l,b=.agg l
 .obtain ⟨⟨l,rfl⟩,⟨g,rfl⟩⟩:=c;obtain⟨cs,rfl,e⟩:=ha.fq;obtain⟨cs',rfl,f⟩:=hb.fq;obtain⟨e1,e2⟩:=mm (n:=n) e f h
  grind [Bl]
 .refine _X ha hb ?_;cases a<;>cases b<;>first|exact h|grind
def du.get{D:Nat->Prop}{θ:Th}:∀(es:List (AV×AV×Nat))(ms:List Bq)(i:Nat)(e:AV×AV×Nat),du D θ es ms->es[i]? = B1 e -> ∃m,ms[i]? = B1 m/\RS D θ e m
 |_::_,m::_,0,e,⟨h,_⟩,he=>(by grind)
 |_::es,_::ms,i+1,e,⟨_,h⟩,he=>by simpa using du.get es ms i e h (by simpa using he)
 |[],_,_,_,_,he=>by grind
 |_::_,[],_,_,h,_=>h.elim
def du.modify{D:Nat->Prop}{θ:Th}{k v:AV}{c cv:Li}(hk:VR D θ k c)(d:VR D θ v cv):∀(es:List (AV×AV×Nat))(ms:List Bq)(i:Nat),du D θ es ms ->
 du D θ (es.modify i λ e=>(k,v,e.2.2)) (ms.modify i λ e=>{e with key:=c,val:=cv})
 |[],[],_,_=>by grind
 |_::_,_::_,0,⟨⟨_,_,h3⟩,h⟩=>by simpa[du]using⟨⟨hk,d,h3⟩,h⟩
 |_::es,_::ms,i+1,⟨h1,h⟩=>by simpa[du]using⟨h1,du.modify hk d es ms i h⟩
 |[],_::_,_,h=>h.elim
 |_::_,[],_,h=>h.elim
def du.push{D:Nat->Prop}{θ:Th}{k v:AV}{d cv:Li}{c:Nat}(hk:VR D θ k d)(e:VR D θ v cv):∀(es:List (AV×AV×Nat))(ms:List Bq),du D θ es ms ->
 du D θ (es ++ [(k,v,c)]) (ms ++ [{key:=d,val:=cv,born:=c}])
 |[],[],_=>⟨⟨hk,e,rfl⟩,trivial⟩
 |_::es,_::ms,⟨h1,h⟩=>⟨h1,du.push hk e es ms h⟩
 |[],_::_,h=>h.elim
 |_::_,[],h=>h.elim
def _M{o:QI}{t I e:M8}{x y z:MS}{q:aS}(ho:o.op=.mapUpdate t x y z\/o.op=.insert t x y z)(hu:P.underlying t=B1 (.map I e))(G:pR P I=B1 q) :
 su P o [x,y,z] (Op.mapUpdate q):=by
 intro base D θ H ρ w vs v H' s h d L;unfold Op.mapUpdate at d;split at d
 .rename_i b k K;obtain⟨R,v0,N,he,ha,hb,hc⟩:=h.sO;simp only[zw,tJ]at he;obtain⟨rfl,rfl,rfl⟩:=he;cases f:cZ q k with
  |false=>rw[f]at d;cases d
  |true =>
   rw[f]at d;simp only[xu,qj]at d;obtain⟨m,hm,r,hr,d⟩:=d;obtain⟨_,_,ms,j,l⟩:=s.eX hm;have hk:=λ em=>WG (em:=em) (w:=w) G hb f;obtain⟨J,F,g⟩:=A0 (w:=w) G hb l hr;cases r with
   |none =>
    cases J with
    |some _=>exact g.elim
    |none =>
     simp only[qk,zh]at d;obtain⟨rfl,rfl⟩:=d;obtain⟨C,E⟩:=s.wN hm (c:=m.2+1) (du.push (c:=m.2) hb hc _ _ l);refine⟨θ,_,_,.inr ⟨?_,rfl⟩,by rw[show(H.set b (.map (m.1 ++ [(k,K,m.2)]) (m.2+1))).au=H.au from rfl,Up.none];exact C,E,.undef⟩;rcases ho with ho|ho<;>simp[execOp,ho,Instr.mapUpdate,<-ha.now,az,j8 hu,hk,F,ML j,Xa j]
   |some p =>
    obtain⟨i,pv⟩:=p;cases J with
    |none=>exact g.elim
    |some p' =>
     obtain⟨Q,pc⟩:=p';obtain⟨rfl,g⟩:=g;simp only[qj,lC]at d;obtain⟨en,n,d⟩:=d;cases B:Op.stays en.1 k with
     |false=>grind
     |true =>
      rw[B]at d;simp only[xu,qk,zh]at d;obtain⟨rfl,rfl⟩:=d;obtain⟨me,A,⟨e1,e2,O⟩⟩:=du.get _ _ i en l n;have M:Bl 10000 me.key (ρ y)=true:=(by grind [xi1])
      have u:(Instr.keyThatStays me.key (ρ y)).run P w=.ok (ρ y) w:=by simp_all[Instr.keyThatStays]
      obtain⟨C,E⟩:=s.wN hm (c:=m.2) (du.modify hb hc _ _ i l);refine⟨θ,_,_,.inr ⟨?_,rfl⟩,by rw[show(H.set b (.map (m.1.modify i λ e=>(k,K,e.2.2)) m.2)).au=H.au from rfl,Up.none];exact C,E,.undef⟩;rcases ho with ho|ho<;>simp[execOp,ho,Instr.mapUpdate,<-ha.now,az,j8 hu,hk,F,ML j,Xa j,A,u]
 grind
end
end Go.Am
namespace Go.Am
section
variable{P:JL}{base:Nat}{D:Nat->Prop}{θ:Th}{H:ar}{w:MV}
def HR.sub(h:HR P base D θ H w){H':ar}(hs:∀b o,H'.get b=B1 o->H.get b=B1 o):HR P base D θ H' w :=
 ⟨λ b o hb=>h.obj b o (hs b o hb),λ b d o o' hb c=>h.inj b d o o' (hs b o hb) (hs d o' c),λ b o hb=>h.mh b o (hs b o hb),h.eG,h.low⟩
theorem XB(H:ar)(k:Nat):∀b o,(H.kill k).get b=B1 o->H.get b=B1 o:=by
 grind [ar.qS]
def bA.kill(H:ar)(k:Nat):bA D H θ w (H.kill k) θ w :=
 ⟨qm _,Ag.refl _ _,qm _,rfl,rfl,rfl,λ _ _ _=>rfl,λ b o h ho _=>(by grind [XB])⟩
def HR.move(h:HR P base D θ H w)(hn:¬D H.au){b:Nat}{o o':bD}{co':Obj}{off ext:Nat}(hb:H.get b=B1 o)(ho:own o=B4)(F:own o'=B4)
 (hr:oX P (Up D H.au (H.au+1)) (θ.add H.au (θ.b9 b) off ext) H.au o' co') :
 HR P base (Up D H.au (H.au+1)) (θ.add H.au (θ.b9 b) off ext) ((H.kill b).alloc o') (fy w (θ.b9 b) co') /\
 bA D H θ w ((H.kill b).alloc o') (θ.add H.au (θ.b9 b) off ext) (fy w (θ.b9 b) co'):=by
 have p:=h.lt hb;have m:=Th.hC θ H.au (θ.b9 b) off ext hn;have⟨e1,e2,I⟩:=Th.eK θ H.au (θ.b9 b) off ext;have old:∀x c,H.get x=B1 c->(θ.add H.au (θ.b9 b) off ext).b9 x = θ.b9 x:=λ x c f=>(m x (h.obj x c f).1).1;have d:∀x c,((H.kill b).alloc o').get x=B1 c->(x=H.au/\c=o')\/(x≠H.au/\x≠b/\H.get x=B1 c):=by
  intro x c f;rw[ar.bM,ar.qS]at f
  by_cases e:H.au=x
  .rw [xg (show(H.kill b).au=x from e)]at f
   grind
  .rw [qv (show¬(H.kill b).au=x from e)]at f
   grind
 refine⟨⟨λ x c f=>?_,λ x y c q f G l v=>?_,λ x c f l=>?_,λ g hg=>?_,by rw[Sd];exact h.low⟩,⟨jy _,m,by simp_all[Sd],rfl,rfl,rfl,λ k hk E=>?_,λ x c f l A=>?_⟩⟩
 .rcases d x c f with⟨rfl,rfl⟩|⟨z,s,j⟩
  .exact ⟨.inr ⟨qm _,zp _⟩,co',by rw[e1,K4 _ _ _ _ p];simp,hr⟩
  .have ⟨n,co,t,u⟩:=h.obj x c j;refine⟨.inl n,co,?_,u.up n m Up.of⟩;rw[old x c j,K4 _ _ _ _ p,qv (h.inj b x o c hb j ho (by omega))];exact t
 .rcases d x c f with⟨rfl,rfl⟩|⟨z,s,j⟩<;>rcases d y q G with⟨rfl,rfl⟩|⟨J,K,r⟩
  .omega
  .rw [e1,old y q r];exact h.inj b y o q hb r ho (by omega)
  .rw [e1,old x c j];exact h.inj x b c o j hb l s
  .rw [old x c j,old y q r];exact h.inj x y c q j r l v
 .rcases d x c f with⟨rfl,rfl⟩|⟨z,s,j⟩
  .rw [e1];exact h.mh b o hb ho
  .rw [old x c j];exact h.mh x c j l
 .have ⟨n,t,u⟩:=h.eG g hg;have⟨B,C,_⟩:=m g n;exact⟨.inl n,B.trans t,C.trans u⟩
 .simp_all [K4]
 grind
def KG(t:HR P base D θ H w){tx:M8}(hk:(∃e',P.underlying tx=B1 (.slice e'))\/P.underlying tx=B1 .string){x:AV}{c:Li}{size k:Nat}{l:List AV}
 (p:VR D θ x c) (hl:eR x=B1 k) (h:firstCells H size k x=B1 l) (C:aL l=B4):∃cs,Src P size tx c k cs w/\bL D θ l cs:=by
 cases hs:isStr x with
 |true =>
  cases x<;>try (cases hs)
  rename_i s;simp only[eR,Gx,qk]at hl;subst hl;simp only[firstCells,MG]at h;cases f:I6 size 1 with
  |false=>grind
  |true =>
  rw[f]at h;simp only[xu,qk]at h;subst h;simp only[jp]at f;subst f;rw[<-p.now];show∃cs,Src P 1 tx (.string ⟨s.toArray⟩) s.length cs w/\bL D θ _ cs;have r:∀w:MV,(CO 1 s.length (.string ⟨s.toArray⟩)).run P w=.ok (s.map λ b=>Li.int .u8 b.toNat).toArray w:=by
   intro w;have:=firstCells_string (P:=P) ⟨s.toArray⟩ w;rw[MP]at this;exact this
  refine⟨s.map λ b=>.int .u8 b.toNat,⟨hk,λ w'=>?_,r w,r w.drew,by simp,λ u hu=>?_⟩,λ θ' _=>by rw[vH,wg];rfl⟩
  .show Result.ok (ByteArray.size ⟨s.toArray⟩) w'=_;rw[MP]
  .obtain ⟨_,_,rfl⟩:=As.1 hu;rfl
 |false =>
  obtain⟨a,len,cap,rfl,rfl,e⟩:=YN t p hl (qm _) hs h;obtain⟨J,v,q,j,rfl,d⟩:=YN (t.draw (w':=w.drew) rfl) p hl (qm _) hs h;injection j with m E n;subst m;subst n
  rcases e with⟨rfl,rfl,_,F⟩|⟨ad,cs,rfl,z,g,A⟩
  .exact ⟨[],⟨hk,λ _=>rfl,rfl,rfl,by grind,by simp⟩,.nil⟩
  .rcases d with⟨B,_⟩|⟨y,cs',he,G,I,K⟩
   .cases B
   .cases he;have:cs'=cs:=by rw[<-I.now,<-g.now]
    subst this;exact⟨cs',⟨hk,λ _=>rfl,z,G,by rw[g.length];exact A,ζ g C⟩,g⟩
def Zm{t tx ty e:M8}{i:TypeInfo}(g:P.underlying t=B1 (.slice e))(f:P.info? e=B1 i){a:Addr}{sLen sCap n:Nat}{x:Li}{news:List Li}(hs:Src P i.size tx x n news w)
 (c:sLen+n<=sCap) {w':MV} (d:(storeCells (a.add (sLen*i.size)) news).run P w=.ok () w') :
 (C4 #[t,tx] ty #[.slice (B1 a) sLen sCap,x]).run P w=.ok (.slice (B1 a) (sLen+n) sCap) w':=by
 rcases hs.kind with⟨e',hk⟩|hk<;>simp[C4,run_underlying g,run_underlying hk,sizeOf,typeInfo,f,hs.len,c,hs.cells,d]
def xao(z:Array Li)(n:Nat):(BV z n).size=n*z.size:=by simp[BV]
def xic{D':Nat->Prop}{θ':Th}{id m size:Nat}{cells:List AV}{cs rest:List Li}{e:M8}{fz:Nat×Nat}(h:bL D' θ' cells cs)(ho:θ'.off id=0)(hl:cells.length=m*size)
 (hr:rest.length = θ'.ext id*size) (c:0<size) (hm:m + θ'.ext id<=maxLen):oX P D' θ' id (.grown m size cells e fz) (.cells (cs++rest).toArray e (0,0)) :=
 ⟨[],cs,rest,(0,0),by simp,by grind,h,hl,hr,c,hm,.inl rfl⟩
def HR.grow(E:HR P base D θ H w)(hn:¬D H.au){t tx ty e:M8}{i:TypeInfo}{z:Li}(J:P.underlying t=B1 (.slice e))(I:P.info? e=B1 i)(K:i.zero=B1 z)(B:z.cells.size=i.size)
 (G:0<i.size) {bs:Option Addr} {sLen sCap n:Nat} {x:Li} {old new:List AV} {olds news:List Li} (hold:(CO i.size sLen (.slice bs sLen sCap)).run P w.drew=.ok olds.toArray w.drew)
 (hs:Src P i.size tx x n news w) (hg:sCap<sLen+n) (r:fits (sLen+n) i.bytes=B4) (ho:bL D θ old olds) (j:bL D θ new news) (y:old.length=sLen*i.size) (fz:Nat×Nat) :
 ∃θ' w' c,(C4 #[t,tx] ty #[.slice bs sLen sCap,x]).run P w=.ok c w'/\HR P base (Up D H.au (H.au+1)) θ' (dA H e i.size (sLen+n) (jT old new) fz).2 w' /\
  bA D H θ w (dA H e i.size (sLen+n) (jT old new) fz).2 θ' w'/\VR (Up D H.au (H.au+1)) θ' (dA H e i.size (sLen+n) (jT old new) fz).1 c:=by
 unfold fits at r;simp only[za,tQ]at r;have⟨F,L⟩:=r;have d:=run_append_grow_src (P:=P) w t tx ty e i z J I K bs sLen sCap olds hold x n news hs hg (by omega) (growslice_fits hg F);have g:=grownCap_ge w (sLen+n) sCap e;have p:=grownCap_le_maxLen w (sLen+n) sCap e (by unfold maxLen;omega);generalize grownCap w (sLen+n) sCap e=cap at d g p;have v:=hs.newsLen;have hlen:(jT old new).length=(sLen+n)*i.size:=by
  rw[pe,xr,y,<-j.length,v,vr]
 have q:(Obj.cells ((olds++news).toArray++BV z.cells (cap-(sLen+n))) e:Obj)=.cells ((olds++news)++(BV z.cells (cap-(sLen+n))).toList).toArray e (0,0):=by
  simp_all
 have l:=Th.hC θ H.au w.drew.heap.size 0 (cap-(sLen+n)) hn;have A:bL (Up D H.au (H.au+1)) (θ.add H.au w.drew.heap.size 0 (cap-(sLen+n))) (jT old new) (olds++news):=by
  rw[pe];exact(ho.app j).up l Up.of
 have⟨e1,e2,C⟩:=Th.eK θ H.au w.drew.heap.size 0 (cap-(sLen+n));have hR:=xic (P:=P) (id:=H.au) (m:=sLen+n) (size:=i.size) (e:=e) (fz:=fz) (rest:=(BV z.cells (cap-(sLen+n))).toList) A e2 hlen
  (by rw[C,Array.length_toList,xao,B]) G (by rw[C];omega)
 rw[<-q]at hR;refine⟨_,_,_,d,HR.alloc (w:=w.drew) (E.draw rfl) hn ?_ ?_ (qm _) ?_ hR,?_,?_⟩
 .rw [B6];simp
 .simp_all [B6,J7]
 .simp_all
 .exact (bA.draw (w:=w) (w':=w.drew) rfl rfl rfl rfl).trans (bA.alloc (w:=w.drew) (E.draw rfl) hn _ _ _ _) (λ _ h=>h)
 .have u:(Up D H.au (H.au+1)) H.au:=.inr ⟨qm _,zp _⟩;have:=VR.gslice (θ:=θ.add H.au w.drew.heap.size 0 (cap-(sLen+n))) (i:=0) (m:=sLen+n) (s:=i.size) (alt:=0) (n:=sLen+n) u;intro θ'' f;show az θ'' (.gslice H.au 0 (sLen+n) i.size 0 (sLen+n))=_;rw[this θ'' f];simp_all[az]
def PE{b i m s alt n:Nat}{c:Li}(h:VR D θ (.gslice b i m s alt n) c):c=.slice (B1 ⟨θ.b9 b,θ.off b+(if(m-i) + θ.ext b=0 then alt else i*s),B5⟩) n ((m-i) + θ.ext b):=by
 rw[<-h.now];rfl
theorem J6{b o n d:Nat}{c:Li}(h:VR D θ (.slice b o n d) c):c=.slice (B1 ⟨θ.b9 b,θ.off b+o,B5⟩) n d:=by
 rw[<-h.now];rfl
def HR.KH(O:HR P base D θ H w)(hn:¬D H.au){t tx ty e:M8}{i:TypeInfo}{z:Li}(ht:P.underlying t=B1 (.slice e))(hi:P.info? e=B1 i)(hz:i.zero=B1 z)(X:z.cells.size=i.size)
 (Y:0<i.size) {b k m sLen n:Nat} {c:List AV} {fz d:Nat×Nat} {alt:Nat} {s x:Li} {old new:List AV} {news:List Li} (hg:H.get b=B1 (.grown m i.size c e fz))
 (V:VR D θ (.gslice b k m i.size alt sLen) s) (hs:Src P i.size tx x n news w) (p:bL D θ new news) (hn0:0<n) (hkm:k+sLen<=m) (Z:m<k+sLen+n) (hf:fits (sLen+n) i.bytes=B4)
 (hold:fK c (k*i.size) (sLen*i.size)=B1 old)
 (N:(fz.2<fz.1\/fz.2<=(k+sLen)*i.size)/\((k=0/\d=fz)\/(fz.2<=k*i.size/\d=cond (I6 fz.1 fz.2) (0,0) (1,0)))) :
 ∃θ' w' v,(C4 #[t,tx] ty #[s,x]).run P w=.ok v w'/\HR P base (Up D H.au (H.au+1)) θ' (dA (H.kill b) e i.size (sLen+n) (jT old new) d).2 w' /\
  bA D H θ w (dA (H.kill b) e i.size (sLen+n) (jT old new) d).2 θ' w'/\VR (Up D H.au (H.au+1)) θ' (dA (H.kill b) e i.size (sLen+n) (jT old new) d).1 v:=by
 have U:=PE V;subst U;obtain⟨hd,co,hc,pre,cs,post,g,rfl,r2,r3,r4,r5,r6,r7,r8⟩:=O.obj b _ hg;have B:=r3.length;have C:=hs.newsLen;rw[uJ]at hold;have hle:sLen*i.size<=c.length-k*i.size:=by
  grind
 rw[xg hle]at hold;cases hold;have r:bL D θ ((c.drop (k*i.size)).take (sLen*i.size)) ((cs.drop (k*i.size)).take (sLen*i.size)):=(r3.drop _).take _;have hkc:(k+sLen)*i.size<=c.length:=by simp_all[jw]
 have R:(k+sLen)*i.size=k*i.size+sLen*i.size:=vr _ _ _
 by_cases u:sLen+n<=(m-k) + θ.ext b
 .-- in place
  have f:¬(m-k) + θ.ext b=0:=by omega
  rw[qv f];have htot:(k+sLen+n)*i.size<=cs.length+post.length:=by
   rw[B,r4,r5,<-vr];exact jw _ (by omega)
  have J:(k+sLen+n)*i.size=k*i.size+sLen*i.size+n*i.size:=by grind
  have F:=Uf (P:=P) (θ.off b+k*i.size+sLen*i.size) news 0 _ w hc (by grind) (by grind [JY]) hs.one;rw[AY]at F;have E:=Zm (ty:=ty) ht hi (a:=⟨θ.b9 b,θ.off b+k*i.size,B5⟩) (sLen:=sLen) (sCap:=(m-k) + θ.ext b) hs u (by rw[xY];exact F)
  -- the block's cells from the slice's head on
  have hw:((pre++cs++post).take (θ.off b+k*i.size+sLen*i.size)++news++(pre++cs++post).drop (θ.off b+k*i.size+sLen*i.size+news.length)) =
   (pre++cs.take (k*i.size))++((cs.drop (k*i.size)).take (sLen*i.size)++news)++(pre++cs++post).drop (θ.off b+k*i.size+sLen*i.size+news.length):=by
   have e1:(pre++cs++post).take (θ.off b+k*i.size+sLen*i.size)=pre++cs.take (k*i.size)++(cs.drop (k*i.size)).take (sLen*i.size):=by
    rw[yf,RN,ze (l:=pre) (by omega),yf,show θ.off b+k*i.size+sLen*i.size-pre.length=k*i.size+sLen*i.size from by omega,RN,
     show k*i.size+sLen*i.size-cs.length=0 from by omega,yq,zq,List.take_add]
   grind
  have L:((pre++cs++post).drop (θ.off b+k*i.size+sLen*i.size+news.length)).length=((m-k) + θ.ext b-(sLen+n))*i.size:=by
   rw[yw,xr,xr,C,Nat.sub_mul,vr,vr,Nat.sub_mul,B,r4,r5,r2];omega
  have K:=Th.hC θ H.au (θ.b9 b) (θ.off b+k*i.size) ((m-k) + θ.ext b-(sLen+n)) hn;have⟨e1,e2,e3⟩:=Th.eK θ H.au (θ.b9 b) (θ.off b+k*i.size) ((m-k) + θ.ext b-(sLen+n));have W:((cs.drop (k*i.size)).take (sLen*i.size)).length=sLen*i.size:=by rw[ya,yw];omega
  have⟨G,I⟩:=O.move hn (o':=.grown (sLen+n) i.size (jT ((c.drop (k*i.size)).take (sLen*i.size)) new) e d) (co':=.cells ((pre++cs.take (k*i.size))++((cs.drop (k*i.size)).take (sLen*i.size)++news)++(pre++cs++post).drop (θ.off b+k*i.size+sLen*i.size+news.length)).toArray e g)
   (off:=θ.off b+k*i.size) (ext:=(m-k) + θ.ext b-(sLen+n)) hg rfl rfl ⟨_,_,_,g,rfl,by grind,by rw[pe];exact(r.app p).up K Up.of,
    by rw[pe,xr,<-r.length,W,<-p.length,C,vr],by grind,Y,by omega,by
     rw[e2];have j:(pre++cs.take (k*i.size)).length+((cs.drop (k*i.size)).take (sLen*i.size)++news).length+((pre++cs++post).drop (θ.off b+k*i.size+sLen*i.size+news.length)).length=pre.length+cs.length+post.length:=by
      rw[<-xr,<-xr,<-hw];simp;omega
     rw[j];obtain⟨_,q|⟨q1,q2⟩⟩:=N
     .simp_all
     .unfold JY at r8⊢;cases A:I6 fz.1 fz.2 with
      |true =>
       simp only[jp]at A;omega
      |false =>
       rw[A]at q2;subst q2;have:¬fz.1=fz.2:=by grind [Nat.beq_refl]
       simp only[zo];omega⟩
  refine⟨θ.add H.au (θ.b9 b) (θ.off b+k*i.size) ((m-k) + θ.ext b-(sLen+n)),_,_,E,?_,?_,?_⟩
  .rw [show(pre++cs++post).toArray.toList=pre++cs++post from rfl,hw];exact G
  .rw [show(pre++cs++post).toArray.toList=pre++cs++post from rfl,hw];exact I
  .have Q:(Up D H.au (H.au+1)) H.au:=.inr ⟨qm _,zp _⟩;have:=VR.gslice (θ:=θ.add H.au (θ.b9 b) (θ.off b+k*i.size) ((m-k) + θ.ext b-(sLen+n))) (i:=0) (m:=sLen+n) (s:=i.size) (alt:=0) (n:=sLen+n) Q;intro θ'' y;show az θ'' (.gslice H.au 0 (sLen+n) i.size 0 (sLen+n))=_;rw[this θ'' y];simp_all[az]
 .have M:(CO i.size sLen (.slice (B1 ⟨θ.b9 b,θ.off b+(if(m-k) + θ.ext b=0 then alt else k*i.size),B5⟩) sLen ((m-k) + θ.ext b))).run P w.drew=.ok ((cs.drop (k*i.size)).take (sLen*i.size)).toArray w.drew:=by
   by_cases S:sLen=0
   .subst S;show(loadCells _ (0*i.size)).run P w.drew=_;rw[DQ,yq];rfl
   .have f:¬(m-k) + θ.ext b=0:=by omega
    rw[qv f];show(loadCells _ (sLen*i.size)).run P w.drew=_;have:=xcv (P:=P) (w:=w.drew) (k:=θ.b9 b) (fz:=g) (e:=e) (arr:=(pre++cs++post).toArray) hc (pre.length+k*i.size) (sLen*i.size) (by grind);rw[w_ pre cs post _ _ (by omega),r2]at this;exact this
  have:=(O.sub (XB H b)).grow (ty:=ty) (H:=H.kill b) hn ht hi hz X Y M hs (by omega) hf r p (by rw[ya,yw];omega) d;have⟨θ',w',v,G,I,g3,g4⟩:=this;exact⟨θ',w',v,G,I,(bA.kill H b).trans g3 (λ _ h=>h),g4⟩
def HG{e:M8}{n z:Nat}{g:AV}(hs:bQ P e=B1 n)(hb:nh P e=B1 z)(c:zeroOf P e=B1 g)(m:g.cells.length=n) :
 ∃i d,P.info? e=B1 i/\i.size=n/\i.bytes=z/\i.zero=B1 d/\d.cells.size=n:=by
 have⟨i,f,h⟩:=ZZ hs;unfold nh at hb;rw[f]at hb;simp only[qr,qk]at hb;unfold zeroOf at c;rw[f]at c;simp only[qr,qj]at c;have⟨d,j,l⟩:=c;refine⟨i,d,f,h,hb,j,?_⟩;have:=(Uh (D:=λ _=>False) (θ:=⟨λ _=>0,λ _=>0,λ _=>0⟩) l).cells.length
 grind
def xmc{b o n d:Nat}{c:Li}(h:VR D θ (.slice b o n d) c)(n':Nat):VR D θ (.slice b o n' d) (.slice (B1 ⟨θ.b9 b,θ.off b+o,B5⟩) n' d):=λ θ' ha=>by
 have:=(h θ' ha).trans h.now.symm;simp_all[az]
def xhr{b i m s alt n:Nat}{c:Li}(h:VR D θ (.gslice b i m s alt n) c)(n':Nat):VR D θ (.gslice b i m s alt n') (.slice (B1 ⟨θ.b9 b,θ.off b+(if(m-i) + θ.ext b=0 then alt else i*s),B5⟩) n' ((m-i) + θ.ext b)):=λ θ' ha=>by
 have:=(h θ' ha).trans h.now.symm;simp only[az,BZ,qk,C5,tJ,Fq]at this
 grind [az]
def xhn{o:QI}{c:Call}{xs:List MS}{t tx e:M8}{sz z:Nat}{zv:AV}(ho:o.op=.call c)(hc:c.callee=.builtin .append)(hx:c.args.toList=xs)(hts:c.argTypes.toList=[t,tx])
 (hu:P.underlying t=B1 (.slice e)) (hk:(∃e',P.underlying tx=B1 (.slice e'))\/(P.underlying tx=B1 .string)) (hs:bQ P e=B1 sz) (hb:nh P e=B1 z) (hz:zeroOf P e=B1 zv) (hzn:zv.cells.length=sz) :
 su P o xs (Op.append e sz z):=by
 intro base D θ H ρ w vs v H' L h d S;obtain⟨cc,hE⟩:=MI (ρ:=ρ) ho hc;have hats:c.argTypes = #[t,tx]:=by grind
 obtain⟨i,zc,X,rfl,rfl,U,W⟩:=HG hs hb hz hzn;unfold Op.append at d;split at d
 .rename_i a b;obtain⟨x,y,rfl,ha,hbv⟩:=h.rq;simp only[qj]at d;obtain⟨n,hn,new,Z,d⟩:=d;cases M:aL new with
  |false=>grind
  |true =>
   rw[M]at d;simp only[xu]at d;obtain⟨news,j,A⟩:=KG L (tx:=tx) hk hbv hn Z M;have g:∀(I:Li)(w':MV),(C4 #[t,tx] o.type #[ρ x,ρ y]).run P w=.ok I w'->(execOp ρ o).run P w=.ok (.value I) w':=by
    simp_all[AW,builtin]
   have hnl:=j.newsLen;have hnlen:=A.length;have f:n=0 -> ∀bs len J,ρ x=.slice bs len J->len<=J->(C4 #[t,tx] o.type #[ρ x,ρ y]).run P w=.ok (ρ x) w:=by
    intro p bs len J he hle;simp_all[run_append_nothing]
   unfold de at d;split at d
   .-- nil
    cases p:I6 n 0 with
    |true =>
     rw[p]at d;simp only[xu,qk,zh]at d;obtain⟨rfl,rfl⟩:=d;exact⟨θ,w,ρ x,.inl (g _ _ (f (by simpa using p) B5 0 0 ha.now.symm (qm _))),by grind [Up.none],.refl _ _ _ _,by grind [Up.none]⟩
    |false =>
     rw[p]at d;simp only[zo]at d;cases B:(fits n i.bytes && PM 0 i.size)with
     |false=>grind
     |true =>
      rw[B]at d;simp only[xu,qk]at d;simp only[za,xP]at B;have hn0:n≠0:=by intro q;simp_all
      obtain⟨θ',w',I,N,s,u,l⟩:=L.grow (ty:=o.type) (S H.au (qm _) (by rw[<-(Cw d).2];exact zp _)) hu X U W B.2 (bs:=B5) (sLen:=0) (sCap:=0) (old:=[]) (olds:=[]) rfl j (by omega) (by grind) .nil A (by simp) (0,0);rw[show jT ([]:List AV) new=new from rfl,yu]at s u l;rw[d]at s u l;have:H'.au=H.au+1:=by rw[<-(Cw d).2];rfl
      rw[<-this]at s l;refine⟨θ',w',I,.inl (g _ _ ?_),s,u,l⟩;rw[<-ha.now];exact N
   .-- a slice of a row
    rename_i bb oo len J;cases hle:Oa (len+n) J with
    |true =>
     rw[hle]at d;simp only[tQ]at hle;simp only[xu]at d;cases p:I6 n 0 with
     |true =>
      rw[p]at d;simp only[xu,qk,zh]at d;obtain⟨rfl,rfl⟩:=d;simp only[jp]at p;subst p;exact⟨θ,w,ρ x,.inl (g _ _ (f rfl _ len J (J6 ha) (by omega))),by grind [Up.none],.refl _ _ _ _,by grind [Up.none]⟩
     |false =>
      rw[p]at d;simp only[zo,qj,qk,zh]at d;obtain⟨H1,h1,rfl,rfl⟩:=d;obtain⟨w',N,s,u,l⟩:=L.store A h1;refine⟨θ,w',_,.inl (g _ _ ?_),by grind [Up.none],u,by rw[l,Up.none];exact xmc ha _⟩;rw[J6 ha];exact Zm hu X j hle (by grind [xY])
    |false =>
     rw[hle]at d;have Y:¬len+n<=J:=by grind [Nat.ble_eq_true_of_le]
     simp only[zo]at d;cases B:(fits (len+n) i.bytes && Oa J (len+n) && PM 0 i.size)with
     |false=>grind
     |true =>
      rw[B]at d;simp only[xu,qj,qk]at d;obtain⟨old,hold,d⟩:=d;simp only[za,xP]at B;obtain⟨olds,k1,k2,k3⟩:∃olds:List Li,(CO i.size len (ρ x)).run P w.drew=.ok olds.toArray w.drew/\bL D θ old olds/\old.length=len*i.size:=by
       obtain⟨ad,len',cap',O,hl',Q⟩:=YN (L.draw (w':=w.drew) rfl) ha (n:=len) rfl (qm _) rfl hold;rcases Q with⟨rfl,rfl,_,p⟩|⟨ad',cs',rfl,k1,k2,k3⟩
       .rw [J6 ha]at O;cases O
       .exact ⟨cs',by rw[O];exact k1,k2,k3⟩
      rw[J6 ha]at k1;obtain⟨θ',w',I,N,s,u,l⟩:=L.grow (ty:=o.type) (S H.au (qm _) (by rw[<-(Cw d).2];exact zp _)) hu X U W B.2 k1 j (by omega) B.1.1 k2 A k3 (0,0);rw[d]at s u l;have:H'.au=H.au+1:=by rw[<-(Cw d).2];rfl
      rw[<-this]at s l;refine⟨θ',w',I,.inl (g _ _ ?_),s,u,l⟩
      grind [J6]
   .-- a slice of a grown row
    rename_i bb ii m sz alt len;cases p:I6 n 0 with
    |true =>
     rw[p]at d;simp only[xu]at d;cases F:Oa (ii+len) m with
     |false=>grind
     |true =>
     rw[F]at d;simp only[xu,qk,zh]at d;obtain⟨rfl,rfl⟩:=d;simp only[jp]at p;subst p;simp only[tQ]at F;exact⟨θ,w,ρ x,.inl (g _ _ (f rfl _ len _ (PE ha) (by omega))),by grind [Up.none],.refl _ _ _ _,by grind [Up.none]⟩
    |false =>
     rw[p]at d;have hn0:n≠0:=by intro q;simp_all
     simp only[zo]at d;cases r:(I6 sz i.size && Oa (ii+len) m && PM 0 i.size)with
     |false=>grind
     |true =>
      rw[r]at d;simp only[za,jp,tQ,xP]at r;obtain⟨⟨rfl,F⟩,hsz⟩:=r;simp only[xu]at d;cases hle:Oa (ii+len+n) m with
      |true =>
       rw[hle]at d;simp only[tQ]at hle;simp only[xu,qj,qk,zh]at d;obtain⟨H1,h1,rfl,rfl⟩:=d;obtain⟨w',N,s,u,l⟩:=L.store A h1;refine⟨θ,w',_,.inl (g _ _ ?_),by grind [Up.none],u,by rw[l,Up.none];exact xhr ha _⟩;rw[PE ha];refine Zm hu X j (by omega) ?_;rw[qv (by omega),xY,zZ,<-vr];exact N
      |false =>
       rw[hle]at d;have Y:¬ii+len+n<=m:=by grind [Nat.ble_eq_true_of_le]
       simp only[zo]at d;cases B:fits (len+n) i.bytes with
       |false=>grind
       |true =>
        rw[B]at d;simp only[xu]at d;split at d
        .rename_i m' sz' c0 e' fz K;cases r:(I6 m m' && I6 i.size sz' && I6 e' e)with
         |false=>grind
         |true =>
          rw[r]at d;simp only[za,jp]at r;obtain⟨⟨rfl,rfl⟩,rfl⟩:=r;simp only[xu]at d;have R:∀old E,fK c0 (ii*i.size) (len*i.size)=B1 old->((fz.2<fz.1\/fz.2<=(ii+len)*i.size)/\((ii=0/\E=fz)\/(fz.2<=ii*i.size/\E=cond (I6 fz.1 fz.2) (0,0) (1,0)))) ->
           dA (H.kill bb) e' i.size (len+n) (jT old new) E=(v,H') -> ∃θ' w' c,sI P (execOp ρ o) w c w'/\HR P base (Up D H.au H'.au) θ' H' w'/\bA D H θ w H' θ' w'/\VR (Up D H.au H'.au) θ' v c:=by
           intro old E hold hfz d;have hnx:H'.au=H.au+1:=by rw[<-(Cw d).2];rfl
           obtain⟨θ',w',I,N,s,u,l⟩:=L.KH (ty:=o.type) (S H.au (qm _) (by omega)) hu X U W hsz K ha j A (by omega) F (by omega) B hold hfz;rw[d]at s u l;rw[<-hnx]at s l;exact⟨θ',w',I,.inl (g _ _ N),s,u,l⟩
          cases C:(I6 ii 0 && I6 len m && Oa fz.2 (m*i.size))with
          |true =>
           rw[C]at d;simp only[za,jp,tQ]at C;obtain⟨⟨rfl,rfl⟩,C⟩:=C;simp only[xu,qk]at d;obtain⟨_,co,_,pre,cs,post,cfz,_,_,_,r4,_⟩:=L.obj bb _ K;refine R c0 fz ?_ (by grind) d;rw[uJ,DQ,<-r4,xg (by omega),yo,MG]
          |false =>
           rw[C]at d;simp only[zo]at d;cases V:Oa fz.2 (ii*i.size)with
           |true =>
            rw[V]at d;simp only[tQ]at V;simp only[xu,qj,qk]at d
            grind
           |false =>
            rw[V]at d;simp only[zo]at d;cases G:(I6 ii 0 && Oa fz.2 (len*i.size))with
            |false=>grind
            |true =>
             rw[G]at d;simp only[za,jp,tQ]at G;obtain⟨rfl,G⟩:=G;simp only[xu,qj,qk]at d
             grind
        grind
   grind
 grind
def xd0{o:QI}{c:Call}{xs:List MS}{t e:M8}{z:AV}(ho:o.op=.call c)(hc:c.callee=.builtin .clear)(B:c.args.toList=xs)(J:c.argTypes[0]? = B1 t)
 (hu:P.underlying t=B1 (.slice e)) (K:zeroOf P e=B1 z):su P o xs (Op.bX z.cells):=by
 intro base D θ H ρ w vs v H' F h f E;have⟨O,A⟩:=MI (ρ:=ρ) ho hc;unfold Op.bX at f;split at f
 .cases f
 .rename_i d I;obtain⟨x,rfl,ha⟩:=h.pS;simp only[qj]at f;have⟨n,hn,f⟩:=f;cases j:I6 n 0 with
  |true =>
   rw[j]at f;simp only[xu,qk,zh]at f;obtain⟨rfl,rfl⟩:=f;simp only[jp]at j;subst j;refine⟨θ,w,.tuple #[],.inl ?_,by grind [Up.none],.refl _ _ _ _,.tuple .nil⟩;rw[A,AW B];have q:∃bs y,ρ x=.slice bs 0 y:=by
    cases d<;>simp only[eR,reduceCtorEq,qk]at hn
    .grind
    .exact ⟨B5,0,ha.now.symm⟩
    .subst hn;exact⟨_,_,J6 ha⟩
    .subst hn;exact⟨_,_,PE ha⟩
    .exact ⟨_,_,ha.now.symm⟩
   have⟨bs,y,r⟩:=q;cases bs<;>simp[builtin,Ci,J,j8 hu,r]
  |false =>
   rw[j]at f;simp only[zo,qj,qk,zh]at f;obtain⟨p,hp,H1,C,rfl,rfl⟩:=f;have⟨n',U,u,Q,R,S⟩:=q3q ha hp;rw[DQ,Nat.sub_zero]at u;have⟨l,L,s⟩:=L9 (w:=w) K;have g:bL D θ (fV n z.cells) (JK n l.cells.toList).flatten:=Yh (s D θ).cells n;have⟨w',V,W,N,X⟩:=F.store g C;refine⟨θ,w',.tuple #[],.inl ?_,by grind [Up.none],N,.tuple .nil⟩;rw[A,AW B];have m:n'=n:=by
    cases d<;>simp only[eR,reduceCtorEq,qk]at hn
    .grind
    .simp_all
    .subst hn;rw[J6 ha]at u;grind
    .subst hn;rw[PE ha]at u;grind
    .cases hp
   subst m;have M:(BV l.cells n').toList=(JK n' l.cells.toList).flatten:=by
    have:=UB l.cells.toList n';simp_all[BV]
   have G:n'≠0:=by omega
   simp_all[builtin,Ci,j8]
 grind
def LY.join{fz c:Nat×Nat}(h:LY fz c)(o n:Nat)(hn:n≠0):LY (Op.mV fz o n) (if c.1 == c.2 then(o,o+n)else(min c.1 o,max c.2 (o+n))):=by
 unfold LY at h⊢;unfold Op.mV
 by_cases hc:c.1=c.2
 .grind
 .rw [qv (by simpa using hc)];have hb:I6 fz.1 fz.2=false:=by
   grind [jp]
  grind
def JY.join{fz c:Nat×Nat}{off size:Nat}(h:JY fz c off size)(d:fz.1<=fz.2)(o n:Nat)(hn:n≠0):JY (Op.mV fz o n) (if c.1 == c.2 then(off+o,off+o+n)else(min c.1 (off+o),max c.2 (off+o+n))) off size:=by
 unfold JY at h⊢;unfold Op.mV
 by_cases hc:c.1=c.2
 .grind
 .rw [qv (by simpa using hc)];have hb:I6 fz.1 fz.2=false:=by
   grind [jp]
  grind
end
end Go.Am
namespace Go.Am
def Ext(H H':ar):Prop:=H.au<=H'.au /\ ∀b o,H'.get b=B1 o->(∃o',H.get b=B1 o'/\(own o'=B4->own o=B4))\/(H.au<=b/\b<H'.au/\own o=B4)
theorem Ext.refl(H:ar):Ext H H:=⟨qm _,λ b o h=>.inl ⟨o,h,λ h=>h⟩⟩
theorem Ext.trans{H H' c:ar}(h:Ext H H')(e:Ext H' c):Ext H c:=by
 refine⟨xw h.1 e.1,λ b o hb=>?_⟩;rcases e.2 b o hb with⟨o',f,j⟩|⟨f,l,d⟩
 .rcases h.2 b o' f with⟨n,d,g⟩|⟨d,g,m⟩
  .grind
  .exact .inr ⟨d,qn g e.1,j m⟩
 .exact .inr ⟨xw h.1 f,l,d⟩
theorem Ext.set{H:ar}{b:Nat}{o:bD}(h:H.get b=B1 o)(o':bD)(ho:own o=B4->own o'=B4):Ext H (H.set b o'):=by
 refine⟨qm _,λ x d c=>?_⟩
 grind [ar.aJ]
theorem Ext.alloc(H:ar)(o:bD)(ho:own o=B4):Ext H (H.alloc o):=by
 refine⟨jy _,λ x d c=>?_⟩;rw[ar.bM]at c;split at c
 .rename_i e;subst e;cases c;exact .inr ⟨qm _,zp _,ho⟩
 grind
def Ext.kill(H:ar)(b:Nat):Ext H (H.kill b):=⟨qm _,λ x d c=>(by grind [XB])⟩
def j0{H:ar}{b:Nat}{m:List (AV×AV×Nat)×Nat}(h:H.eX b=B1 m):∃o,H.get b=B1 o:=by
 grind [ar.eX]
def dE:fG->Prop
 | .alloc f=>∀vs ob mk,f vs=B1 (ob,mk)->own ob=B4
 | .gT f=>∀vs H v H',f vs H=B1 (v,H')->Ext H H'
 |_=>True
def kw{α:Type}{c:Bool}{a b:Option α}{x:α}(h:cond c a b=B1 x):(c=B4/\a=B1 x)\/(c=B2/\b=B1 x):=by
 grind
theorem RY{H H':ar}{b o:Nat}{l:List AV}(h:H.store b o l=B1 H'):Ext H H':=by
 unfold ar.store at h;rcases kw h with⟨_,h⟩|⟨_,h⟩
 .split at h
  .rename_i hg;rcases kw h with⟨_,h⟩|⟨_,h⟩
   .simp only[qj,qk]at h;obtain⟨_,_,rfl⟩:=h;exact Ext.set hg _ (λ _=>rfl)
   grind
  .rename_i hg;rcases kw h with⟨_,h⟩|⟨_,h⟩
   .simp only[qj,qk]at h;obtain⟨_,_,rfl⟩:=h;exact Ext.set hg _ (λ _=>rfl)
   grind
  grind
 grind
def xia(n:Nat):dE (.gT (Op.store n)):=by
 intro vs H v H' h;unfold Op.store at h;split at h
 .rcases kw h with⟨_,h⟩|⟨_,h⟩
  .grind [qj,RY]
  grind
 grind
def qs2(q:aS):dE (.gT (Op.mapUpdate q)):=by
 intro vs H v H' h;unfold Op.mapUpdate at h;split at h
 .rcases kw h with⟨_,h⟩|⟨_,h⟩
  .simp only[qj]at h;have⟨m,hm,r,_,h⟩:=h;have⟨d,c⟩:=j0 hm;split at h
   .simp only[qj]at h;have⟨e,_,h⟩:=h;rcases kw h with⟨_,h⟩|⟨_,h⟩
    .injection h with h;injection h with _ h;subst h;exact Ext.set c _ (λ _=>rfl)
    grind
   .injection h with h;injection h with _ h;subst h;exact Ext.set c _ (λ _=>rfl)
  grind
 grind
def q9x:dE (.gT Op.bS):=by
 intro vs H v H' h;unfold Op.bS at h;split at h
 .grind [Ext.refl]
 .simp only[qj]at h;have⟨m,hm,h⟩:=h;have⟨d,c⟩:=j0 hm;injection h with h;injection h with _ h;subst h;exact Ext.set c _ (λ _=>rfl)
 grind
def xcd(z:List AV):dE (.gT (Op.bX z)):=by
 intro vs H v H' h;unfold Op.bX at h;split at h
 .cases h
 .simp only[qj]at h;have⟨_,_,h⟩:=h;rcases kw h with⟨_,h⟩|⟨_,h⟩
  .grind [Ext.refl]
  grind [qj,RY]
 grind
theorem Pp{H H':ar}{e s n:Nat}{c:List AV}{fz:Nat×Nat}{v:AV}(h:B1 (dA H e s n c fz)=B1 (v,H')):Ext H H':=by
 injection h with h;injection h with _ h;subst h;exact Ext.alloc _ _ rfl
def xer(e s z:Nat):dE (.gT (Op.append e s z)):=by
 intro vs H v H' h;unfold Op.append at h;split at h
 .simp only[qj]at h;have⟨n,_,new,_,h⟩:=h;rcases kw h with⟨_,h⟩|⟨_,h⟩
  .unfold de at h;split at h
   .rcases kw h with⟨_,h⟩|⟨_,h⟩
    .grind [Ext.refl]
    .rcases kw h with⟨_,h⟩|⟨_,h⟩
     .exact Pp h
     grind
   .rcases kw h with⟨_,h⟩|⟨_,h⟩
    .rcases kw h with⟨_,h⟩|⟨_,h⟩
     .grind [Ext.refl]
     grind [qj,RY]
    .rcases kw h with⟨_,h⟩|⟨_,h⟩
     .grind [qj,Pp]
     grind
   .rcases kw h with⟨_,h⟩|⟨_,h⟩
    .rcases kw h with⟨_,h⟩|⟨_,h⟩
     .grind [Ext.refl]
     grind
    .rcases kw h with⟨_,h⟩|⟨_,h⟩
     .rcases kw h with⟨_,h⟩|⟨_,h⟩
      .grind [qj,RY]
      .rcases kw h with⟨_,h⟩|⟨_,h⟩
       .split at h
        .rcases kw h with⟨_,h⟩|⟨_,h⟩
         .rcases kw h with⟨_,h⟩|⟨_,h⟩
          .exact (Ext.kill _ _).trans (Pp (H:=H.kill _) h)
          .rcases kw h with⟨_,h⟩|⟨_,h⟩
           .simp only[qj]at h;have⟨_,_,h⟩:=h;exact(Ext.kill _ _).trans (Pp (H:=H.kill _) h)
           .rcases kw h with⟨_,h⟩|⟨_,h⟩
            .simp only[qj]at h;have⟨_,_,h⟩:=h;exact(Ext.kill _ _).trans (Pp (H:=H.kill _) h)
            grind
         grind
        grind
       grind
     grind
   grind
  grind
 grind
end Go.Am
namespace Go.Am
structure Dd(ρ:MS->Li):Prop where
 const:∀v,ρ (.const v)=v
 func:∀f,ρ (.func f)=.func (.func f) #[] #[]
def yX(P:JL)(o:QI)(xs:List MS)(f:List AV->Option AV):Prop :=
 ∀(D:Nat->Prop)θ(ρ:MS->Li)w vs v,Dd ρ->bL D θ vs (xs.map ρ)->f vs=B1 v -> ∃c,sI P (execOp ρ o) w c w/\VR D θ v c
def uZ(P:JL)(o:QI)(xs:List MS)(f:List AV->Option (bD×(Nat->AV))):Prop :=
 ∀(D:Nat->Prop)θ(ρ:MS->Li)w vs ob mk,Dd ρ->bL D θ vs (xs.map ρ)->f vs=B1 (ob,mk) ->
  own ob=B4 /\ ∃w0 co ext c,(execOp ρ o).run P w=.ok (.value c) (w0.alloc co)/\mj w w0 /\
   ∀(D':Nat->Prop)θ' id,Ag D θ θ'->(∀b,D b->D' b)->D' id -> θ'.b9 id=w.heap.size -> θ'.off id=0 -> θ'.ext id=ext->oX P D' θ' id ob co/\VR D' θ' (mk id) c
structure dW(P:JL):Prop where
 names:∀(f:FuncId)(fn:Func),P.funcs[f]? = B1 fn->fn.name≠ "runtime.NumGoroutine"
 mixed:P.follows .mixedOrders=B4
def se(P:JL)(o:QI)(xs:List MS):fG->Prop
 | .pure f=>yX P o xs f
 | .read f=>qL P o xs f
 | .alloc f=>uZ P o xs f/\dE (.alloc f)
 | .gT f=>su P o xs f/\dE (.gT f)
 | .hJ f=>∃c fn b,o.op=.call c/\c.callee=.value (.func f)/\xs=c.args.toList/\P.funcs[f]? = B1 fn/\fn.body=B1 b
 | .ic=>∃c x,o.op=.call c/\c.callee=.value x/\xs=x::c.args.toList
 | .invoke m=>∃c x,o.op=.call c/\c.callee=.invoke x m/\xs=x::c.args.toList
 | .recover=>∃c,o.op=.call c/\c.callee=.builtin .recover/\xs=c.args.toList
 | .defer=>∃c x,o.op=.defer c/\c.callee=.value x/\xs=x::c.args.toList
 | .panic=>(∃x,o.op=.panic x/\xs=[x]) \/ ∃c,o.op=.call c/\c.callee=.builtin .panic/\xs=c.args.toList
def xh9{e:Nat}{z:List AV}:dE (.alloc (Op.alloc e z)):=by
 intro vs c mk h;unfold Op.alloc at h;split at h
 .injection h with h;injection h with h _;subst h;rfl
 grind
def Di{e:Nat}:dE (.alloc (Op.box e)):=by
 intro vs c mk h;unfold Op.box at h;split at h
 .injection h with h;injection h with h _;subst h;rfl
 grind
def q4x{e n:Nat}{z:List AV}{c:List (Nat×Nat)}:dE (.alloc (Op.buildSlice e n z c)):=by
 intro vs d mk h;simp only[Op.buildSlice,qj]at h;have⟨_,_,h⟩:=h;injection h with h;injection h with h _;subst h;rfl
def xce{e b:Nat}{z:List AV}:dE (.alloc (Op.mkSlice e b z)):=by
 intro vs c mk h;unfold Op.mkSlice at h;split at h
 .rcases kw h with⟨_,h⟩|⟨_,h⟩
  .injection h with h;injection h with h _;subst h;rfl
  grind
 grind
def P_:dE (.alloc Op.mkMap):=by
 intro vs c mk h;unfold Op.mkMap at h;split at h
 .injection h with h;injection h with h _;subst h;rfl
 grind
section
variable{P:JL}{o:QI}{xs:List MS}
theorem dp.up{f:List AV->Option AV}(h:dp P o xs f):yX P o xs f:=λ D θ ρ w vs v _=>h D θ ρ w vs v
theorem mz.up{f:List AV->Option (bD×(Nat->AV))}(h:mz P o xs f):uZ P o xs f:=λ D θ ρ w vs c mk _=>h D θ ρ w vs c mk
theorem Gz{src dst:M8}{x:MS}(ho:o.op=.convert src dst x){r:List MS×fG}(h:BD P src dst x=B1 r):se P o r.1 r.2:=by
 unfold BD at h;split at h
 .rename_i c d;cases h;exact(xlz ho c d).up
 .cases h
def Ω{t:M8}{x y:MS}{k:wW}(h:G8 P t x y=B1 k):vY P t x y k:=by
 unfold G8 at h;simp only[WT]at h;split at h
 .rename_i hu;cases h;exact hu
 .rename_i e hu;split at h
  .rename_i n hs;cases h;exact⟨e,n,hu,hs⟩
  grind
 .rename_i e hu;cases h;exact⟨e,hu⟩
 .rename_i k e hu;cases h;exact⟨k,e,hu⟩
 .rename_i a b c hu;cases h;exact⟨a,b,c,hu⟩
 .rename_i ms hu;split at h
  .cases h;exact⟨ms,hu,.inl ⟨_,rfl⟩⟩
  .cases h;exact⟨ms,hu,.inr ⟨_,rfl⟩⟩
  .cases h;refine⟨⟨ms,hu⟩,λ u q d=>?_⟩
   grind [qj]
 .rename_i fs hu;split at h
  .cases h
  .rename_i hg;simp only[qj,qk]at h;obtain⟨q,d,rfl⟩:=h;exact⟨by simpa using hg,d,.inl ⟨fs,hu⟩⟩
 .rename_i n e hu;split at h
  .cases h
  .rename_i hg;simp only[qj,qk]at h;obtain⟨q,d,rfl⟩:=h;exact⟨by simpa using hg,d,.inr ⟨n,e,hu⟩⟩
 grind
theorem My{op:BinOp}{t c:M8}{x y:MS}(ho:o.op=.binOp op t x y c){r:List MS×fG}(h:MA P op t x y=B1 r):se P o r.1 r.2:=by
 unfold MA at h;split at h
 .cases h;exact(xgl ho).up
 .cases h;exact(xgl ho).up
 .split at h
  .simp only[qj,qk]at h;obtain⟨k,hk,rfl⟩:=h;exact FH (neg:=B2) (by simpa using ho) (Ω hk)
  .simp only[qj,qk]at h;obtain⟨k,hk,rfl⟩:=h;exact FH (neg:=B4) (by simpa using ho) (Ω hk)
  grind
theorem xhh{c:Call}{b:Builtin}(ho:o.op=.call c)(hc:c.callee=.builtin b){r:List MS×fG}(h:Uv P b c.argTypes c.args.toList=B1 r):se P o r.1 r.2:=by
 have f:∀{d:TypeDesc},(c.argTypes[0]?).bind P.underlying=B1 d -> ∃t,c.argTypes[0]? = B1 t/\P.underlying t=B1 d:=λ h=>by grind
 unfold Uv at h;split at h
 .split at h
  .rename_i hu;have⟨t,g,hu⟩:=f hu;cases h;exact(xin ho hc rfl g hu).up
  .cases h
 .split at h
  .rename_i t tx j;split at h
   .rename_i e e' hu p;simp only[qj]at h;have⟨n,hn,z,l,q,m,h⟩:=h;split at h
    .rename_i hl;cases h;exact⟨xhn ho hc rfl j hu (.inl ⟨_,p⟩) hn l m hl,xer _ _ _⟩
    grind
   .cases h
  .cases h
 .cases h;exact(xey (mx:=B2) ho hc rfl).up
 .split at h
  .rename_i hu;have⟨t,g,hu⟩:=f hu;simp only[qj,qk]at h;obtain⟨z,l,rfl⟩:=h;exact⟨xd0 ho hc rfl g hu l,xcd _⟩
  .rename_i hu;have⟨t,g,hu⟩:=f hu;cases h;exact⟨xbf ho hc rfl g hu,q9x⟩
  grind
 .cases h;exact⟨c,ho,hc,rfl⟩
 .cases h;exact .inr ⟨c,ho,hc,rfl⟩
 grind
def ah0{fn:Func}(n:String)(hn:fn.name=n)(ho:fn.origin = "") {e:Array M8->Array M8->Array M8->Array Li->Sem Li}
 (d:∀(c rs:Array M8),(((Extern.allNextRows.lookup n).map (· c rs)) <|> ((Extern.allNextRows.lookup "").map (· c rs)))=B5)
 (f:∀(ts c rs:Array M8),((Extern.allGenericRows.lookup n).map (· ts c rs) <|> (Extern.allTypedRows.lookup n).map (· c rs) <|> Extern.allRows.lookup n)=B1 (e ts c rs)) :
 Extern.findNext fn=B5/\Extern.find fn=B1 (e fn.targs fn.params fn.resultTypes):=by
 unfold Extern.findNext Extern.find;rw[hn,ho];refine⟨d fn.params fn.resultTypes,?_⟩
 grind
def K3{c:Call}{f:FuncId}{fn:Func}(hn:fn.name≠ "runtime.NumGoroutine") (ho:o.op=.call c) (hc:c.callee=.value (.func f)) (j:P.funcs[f]? = B1 fn) (hb:fn.body=B5) {r:List MS×fG}
 (h:KL P fn c.args.toList=B1 r):se P o r.1 r.2:=by
 unfold KL at h;split at h
 .cases h
 .rename_i g;have g:fn.origin = "" := by simpa using g
  split at h
  .rename_i d;have d:=eq_of_beq d;cases h;have⟨e1,e2⟩:=ah0 (e:=λ _ _ _=>Extern.BytealgIndexByte.indexByte) _ d g (λ m rs=>by kernel_rfl) (λ ts m rs=>by kernel_rfl);intro D θ ρ w vs v l;exact qr9 ho hc j hb hn e1 e2 rfl D θ ρ w vs v (l.func f)
  .cases h
theorem HS(e:dW P){c:Call}(ho:o.op=.call c){r:List MS×fG}(h:Bf P c=B1 r):se P o r.1 r.2:=by
 unfold Bf at h;split at h
 .rename_i f hc;simp only[qj]at h;have⟨fn,d,h⟩:=h;split at h
  .rename_i b hb;cases h;exact⟨c,fn,b,ho,hc,rfl,d,hb⟩
  .rename_i hb;exact K3 (e.names f fn d) ho hc d hb h
 .rename_i x _ hc;cases h;exact⟨c,_,ho,hc,rfl⟩
 .rename_i hc;cases h;exact⟨c,_,ho,hc,rfl⟩
 grind [xhh]
theorem Pd(G:dW P){r:List MS×fG}(h:Rp P o.op=B1 r):se P o r.1 r.2:=by
 unfold Rp at h;split at h
 .rename_i ho;cases h;exact(Θ (.inl ho)).up
 .rename_i ho;cases h;exact(Θ (.inr ho)).up
 .rename_i ho;cases h;exact(xly ho).up
 .rename_i ho;simp only[qj,qk]at h;obtain⟨z,j,rfl⟩:=h;exact⟨(xdj ho j).up,xh9⟩
 .rename_i ho;cases h;exact⟨(xjq ho).up,Di⟩
 .rename_i t parts ho;simp only[qj]at h;have⟨z,j,h⟩:=h;split at h
  .rename_i fs hu;split at h
   .rename_i A;simp only[qj,qk]at h;obtain⟨E,g,rfl⟩:=h;refine(qxv ho j hu (λ f B=>?_) g).up
    grind [Option.isSome_iff_exists]
   grind
  .rename_i hu;simp only[qj,qk]at h;obtain⟨n,hn,E,g,rfl⟩:=h;exact(q0h ho j hu hn g).up
  grind
 .rename_i t len parts ho;split at h
  .rename_i e hu;simp only[qj]at h;have⟨n,hn,z,j,E,g,h⟩:=h;split at h
   .rename_i hc;cases h;exact⟨(qy5 ho hu hn j g hc.1 hc.2).up,q4x⟩
   grind
  grind
 .rename_i t a ho;simp only[qj]at h;have⟨J,hr,h⟩:=h;split at h
  .cases h;exact xio ho hr
  .cases h;exact xip ho hr
 .rename_i t a x ho;simp only[qj,qk]at h;obtain⟨n,hn,rfl⟩:=h;exact⟨xkn ho hn,xia _⟩
 .rename_i ho;cases h;exact(q98 ho).up
 .grind [My]
 .rename_i ho;cases h;exact(GD ho).up
 .grind [Gz]
 .rename_i t x ho;split at h
  .cases h
  .rename_i d F hu;cases h;exact(xco ho ⟨d,hu,by cases d<;>first|rfl|exact(F _ rfl).elim⟩).up
  grind
 .rename_i ho;cases h;exact(xez ho).up
 .rename_i ho;cases h;exact⟨λ D θ ρ w vs y mk u=>j5 ho (.inl rfl) (λ _=>trivial) D θ ρ w vs y mk u.const,P_⟩
 .rename_i t k n ho;split at h
  .rename_i a b hu;cases h;exact⟨λ D θ ρ w vs y mk u=>j5 ho (by grind) (λ _=>trivial) D θ ρ w vs y mk u.const,P_⟩
  grind
 .rename_i t l c ho;split at h
  .rename_i e hu;simp only[qj]at h;have⟨b,hb,z,j,n,hn,h⟩:=h;split at h
   .rename_i hc;cases h;exact⟨(q8n ho hu hb hn j hc).up,xce⟩
   grind
  grind
 .rename_i t x lo I mx ho;split at h
  .rename_i e hu;simp only[qj,qk]at h;obtain⟨n,hn,rfl⟩:=h;exact(xcq ho hu hn).up
  .rename_i k e hu;simp only[qj,qk]at h;obtain⟨n,hn,rfl⟩:=h;exact(q99 ho hu hn).up
  grind
 .rename_i t x i ho;split at h
  .rename_i fs hu;simp only[qj]at h;have⟨f,B,n,hn,h⟩:=h;split at h
   .cases h
   .rename_i s;cases h;exact(q62 ho hu B hn (by simpa using s)).up
  .cases h
 .rename_i t x i ho;split at h
  .rename_i e hu;simp only[qj,qk]at h;obtain⟨n,hn,rfl⟩:=h;exact(xcn ho hu hn).up
  .rename_i k e hu;simp only[qj,qk]at h;obtain⟨n,hn,rfl⟩:=h;exact(q96 ho hu hn).up
  grind
 .rename_i t x i ho;split at h
  .rename_i hu;cases h;exact(q97 ho hu).up
  .rename_i k e hu;simp only[qj,qk]at h;obtain⟨n,hn,a,ha,rfl⟩:=h;exact(q95 ho hu hn ha).up
  grind
 .rename_i t m k ok ho;split at h
  .rename_i C e hu;simp only[qj,qk]at h;obtain⟨q,p,z,j,rfl⟩:=h;exact xe1 ho hu p j
  grind
 .rename_i t m k v ho;split at h
  .rename_i C e hu;simp only[qj,qk]at h;obtain⟨q,p,rfl⟩:=h;exact⟨_M (.inl ho) hu p,qs2 _⟩
  grind
 .rename_i t m k v ho;split at h
  .rename_i C e hu;simp only[qj,qk]at h;obtain⟨q,p,rfl⟩:=h;exact⟨_M (.inr ho) hu p,qs2 _⟩
  .cases h
 .rename_i ho;cases h;exact(xcm ho).up
 .grind [HS]
 .rename_i c ho;split at h
  .rename_i f hc;cases h;exact⟨c,f,ho,hc,rfl⟩
  grind
 .rename_i x ho;cases h;exact .inl ⟨x,ho,rfl⟩
 grind
def se.mono{c:fG}(h:se P o xs c):dE c:=by
 cases c with
 |alloc f=>exact h.2
 |gT f=>exact h.2
 |_=>trivial
def CQ(o:QI)(aop:fG):Prop:=(∀c,o.op≠ .defer c)\/aop=.defer\/aop=.pure Op.fail
theorem LJ{r:List MS×fG}(h:Rp P o.op=B1 r):CQ o r.2:=by
 by_cases d:∃c,o.op=.defer c
 .have ⟨c,hc⟩:=d;rw[hc]at h;simp only[Rp]at h;split at h
  .cases h;exact .inr (.inl rfl)
  grind
 .exact .inl λ c hc=>d ⟨c,hc⟩
def Nh(d:dW P){r:List bK×fG}(h:gA P o=B1 r):∃xs,nP P.globals.size xs=B1 r.1/\se P o xs r.2/\CQ o r.2:=by
 unfold gA at h;split at h
 .rename_i f hr;cases h;simp only[qj,qk]at hr;obtain⟨q,e,args,c,rfl⟩:=hr
  grind [Pd,LJ]
 .cases h;exact⟨[],rfl,(xlx []).up,.inr (.inr rfl)⟩
end
end Go.Am
namespace Go.Am
def gY(D:Nat->Prop)(θ:Th):List aK->List Deferred->Prop
 |[],[]=>True
 |d::ds,e::es=>Yo D θ d e/\gY D θ ds es
 |_,_=>False
def Lv(D:Nat->Prop)(θ:Th)(e:AV×Bool)(p:PanicEntry):Prop:=VR D θ e.1 p.v/\p.recovered=e.2/\p.goexit=B2
def fN(D:Nat->Prop)(θ:Th):aF->List PanicEntry->Prop
 |[],[]=>True
 |e::es,p::ps=>Lv D θ e p/\fN D θ es ps
 |_,_=>False
def rA(D:Nat->Prop)(θ:Th)(c:aF)(m:FrameMode):Prop :=
 match m with
 | .run=>False
 | .returning=>c=[]
 | .panicking ps=>c≠[]/\fN D θ c ps
def rF(D:Nat->Prop)(θ:Th)(kind:CallKind):Option aF->List OE->Prop
 |none,_=>kind=.normal
 |some ch,c::_=>kind=.deferred/\rA D θ ch c.mode
 |some _,[]=>False
def fC:Option aF->List OE->List OE->Prop
 |none,cs,cs'=>cs'=cs
 |some _,c::rest,cs'=>∃u,cs' = {c with mode:=u}::rest
 |some _,[],_=>False
def zN(D:Nat->Prop)(θ:Th)(ro:Option Nat):Option Nat->Prop
 |none=>ro=B5
 |some l=>D l/\ro=B1 (θ.b9 l)
def Dw(D:Nat->Prop)(θ:Th):aW->Exit->Prop
 | .normal,.normal=>True
 | .exit i,.exit j=>j=i
 | .goto i,.goto j=>j=i
 | .ret,.ret=>True
 | .panic c,.panic ps=>c≠[]/\fN D θ c ps
 |_,_=>False
def QR(D:Nat->Prop)(θ:Th):bG->Ending->Prop
 | .ret v,.returned c=>VR D θ v c
 | .panic c,.panicked ps=>c≠[]/\fN D θ c ps
 |_,_=>False
section
variable{D D':Nat->Prop}{θ θ':Th}
theorem gY.up(ha:Ag D θ θ')(g:∀b,D b->D' b):∀{l:List aK}{m:List Deferred},gY D θ l m->gY D' θ' l m
 |[],[],_=>trivial
 |d::ds,e::es,⟨h1,h2⟩=>by
  refine⟨?_,gY.up ha g h2⟩;cases d with
  |jD b=>exact⟨g b h1.1,by rw[(ha b h1.1).1];exact h1.2⟩
  |fn f args =>
   have⟨c,cap,q,n,p⟩:=h1;refine⟨c,cap,?_,λ θ'' j=>?_,p.up ha g⟩
   .grind
   .rw [n θ'' (ha.trans j g),n θ' ha]
 |[],_::_,h=>h.elim
 |_::_,[],h=>h.elim
theorem fN.up(ha:Ag D θ θ')(c:∀b,D b->D' b):∀{l:aF}{m:List PanicEntry},fN D θ l m->fN D' θ' l m
 |[],[],_=>trivial
 |e::es,p::ps,⟨⟨h1,h2,h3⟩,h⟩=>⟨⟨h1.up ha c,h2,h3⟩,fN.up ha c h⟩
 |[],_::_,h=>h.elim
 |_::_,[],h=>h.elim
theorem rA.up(ha:Ag D θ θ')(d:∀b,D b->D' b){c:aF}{m:FrameMode}(h:rA D θ c m):rA D' θ' c m:=by
 cases m with
 |run=>exact h.elim
 |returning=>exact h
 |panicking ps=>exact⟨h.1,fN.up ha d h.2⟩
theorem rF.up(ha:Ag D θ θ')(d:∀b,D b->D' b){k:CallKind}{u:Option aF}{cs:List OE}(h:rF D θ k u cs):rF D' θ' k u cs:=by
 cases u with
 |none=>exact h
 |some ch =>
  cases cs with
  |nil=>exact h.elim
  |cons c r=>exact⟨h.1,rA.up ha d h.2⟩
theorem zN.up(ha:Ag D θ θ')(c:∀b,D b->D' b){ro r:Option Nat}(h:zN D θ ro r):zN D' θ' ro r:=by
 cases r with
 |none=>exact h
 |some l=>exact⟨c l h.1,by rw[(ha l h.1).1];exact h.2⟩
theorem fC.refl{D:Nat->Prop}{θ:Th}{k:CallKind}{u:Option aF}{cs:List OE}(h:rF D θ k u cs):fC u cs cs:=by
 cases u with
 |none=>rfl
 |some ch =>
  cases cs with
  |nil=>exact h.elim
  |cons c r=>exact⟨c.mode,rfl⟩
theorem fC.trans{u e:Option aF}(hu:e.isSome=u.isSome){cs cs' d:List OE}(h:fC u cs cs')(f:fC e cs' d):fC u cs d:=by
 cases u with
 |none =>
  cases e with
  |none=>exact Eq.trans f h
  |some _=>cases hu
 |some ch =>
  cases e with
  |none=>cases hu
  |some ch' =>
   cases cs with
   |nil=>exact h.elim
   |cons c r =>
    obtain⟨m,rfl⟩:=h;obtain⟨g,rfl⟩:=f;exact⟨g,rfl⟩
theorem pX.up(ha:Ag D θ θ')(d:∀b,D b->D' b){tm:T AV}{a:Array Li}(h:pX D θ tm a):pX D' θ' tm a:=λ t v e =>
 let⟨c,h1,h2⟩:=h t v e;⟨c,h1,h2.up ha d⟩
theorem pX.put{tm:T AV}{a:Array Li}(h:pX D θ tm a){d:Nat}(g:d<a.size){v:AV}{c:Li}(j:VR D θ v c):pX D θ (tm.set d v) (a.setIfInBounds d c):=by
 intro t x f;rw[T.aJ]at f;rw[Array.getElem?_setIfInBounds]
 by_cases e:d=t
 .grind
 .simp only[e,wh]at f⊢;exact h t x f
def pX.forget{a:Array Li}:∀(ds:List Nat){tm:T AV},pX D θ tm a->pX D θ (forget ds tm) a
 |[],_,h=>h
 |d::ds,tm,h=>pX.forget ds (tm:=tm.put d B5) (λ t v c=>by
  rw[T.kA]at c;split at c
  .cases c
  .exact h t v c)
def T.qX:∀(ds:List Nat)(tm:T AV)(t:Nat),(forget ds tm).get t=if t∈ds then B5 else tm.get t
 |[],tm,t=>by simp[Am.forget]
 |d::ds,tm,t=>by
  rw[Am.forget,T.qX ds,T.kA]
  by_cases f:t∈ds
  .simp [f]
  .by_cases c:d=t
   .simp [c]
   .have g:¬t=d:=λ e=>c e.symm;simp[f,c,g]
end
section
variable{P:JL}{base:Nat}{D:Nat->Prop}{θ:Th}{H:ar}{w:MV}{a:Act}{tm:T AV}
def BS(l:HR P base D θ H w)(m:pX D θ tm a.tmps){x:MS}{y:bK}(hc:qH P.globals.size x=B1 y){v:AV}(d:rO tm y=B1 v):VR D θ v (a.eval x):=by
 cases x with
 |tmp t =>
  cases hc;have⟨c,e,h⟩:=m t v d
  simpa[Act.eval,e]using h
 |const k =>
  simp only[qH,qj,qk]at hc;obtain⟨u,hu,rfl⟩:=hc;cases d;exact Uh hu
 |global g =>
  simp only[qH]at hc;split at hc
  .rename_i hg;cases hc;cases d;have⟨e,h,j⟩:=l.eG g (by simp_all);have:=VR.ptr (θ:=θ) (o:=0) e;rw[h,j]at this;exact this
  grind
 |func f =>
  cases hc;cases d;exact λ _ _=>rfl
def Jg(d:HR P base D θ H w)(e:pX D θ tm a.tmps):∀{xs:List MS}{ys:List bK},nP P.globals.size xs=B1 ys -> ∀{vs:List AV},mE tm ys=B1 vs->bL D θ vs (xs.map a.eval)
 |[],ys,hc,vs,hv=>by
  cases hc;cases hv;exact .nil
 |x::xs,ys,hc,vs,hv=>by
  simp only[nP,qj,qk]at hc;obtain⟨y,h,l,c,rfl⟩:=hc;simp only[mE,qj,qk]at hv;obtain⟨v,f,j,g,rfl⟩:=hv;exact .cons (BS d e h f) (Jg d e c g)
def Jd(x:bK)(tm:T AV):(Oe x).run tm=rO tm x:=by
 cases x<;>simp[Oe,rO,T.jK,T.get]
def Ix:∀(xs:List bK)(tm:T AV),(ux xs).run tm=mE tm xs
 |[],_=>rfl
 |[x],tm=>by simp[ux,mE,Jd]
 |x::y::xs,tm=>by
  rw[ux,mE]
  .simp only[Jd,Ix (y::xs) tm]
  .simp
def SB(a:Act):Dd a.eval:=⟨λ _=>rfl,λ _=>rfl⟩
theorem Yj(d:Option Nat)(v:AV)(tm:T AV):(lI d).run v tm=eD d v tm:=by
 cases d<;>simp[lI,eD,T.Df,T.set,T.put]
end
inductive iR where
 |val (v:AV) (aY:List aK) (up:Option aF) (H:ar)
 |panic (c:aF) (H:ar)
def nK(aY:List aK)(up:Option aF)(r:bG×ar):iR :=
 match r.1 with
 | .ret v=>.val v aY up r.2
 | .panic c=>.panic c r.2
def ir(rt:RT)(st:St)(vs:List AV):fG->Option iR
 | .pure f=>(f vs).bind λ v=>B1 (.val v st.aY st.up st.H)
 | .read f=>(f vs st.H).bind λ v=>B1 (.val v st.aY st.up st.H)
 | .alloc f=>(f vs).bind λ r=>B1 (.val (r.2 st.H.au) st.aY st.up (st.H.alloc r.1))
 | .gT f=>(f vs st.H).bind λ r=>B1 (.val r.1 st.aY st.up r.2)
 | .hJ f=>(cV rt.call rt.round (.func f) vs st.H).bind λ r=>B1 (nK st.aY st.up r)
 | .ic=>match vs with
  | .fn (.func f) first cap::args=>(cV rt.call rt.round (.func f) (first++(args++cap)) st.H).bind λ r=>B1 (nK st.aY st.up r)
  | .fn (.yield l) first []::args=>(cV rt.call rt.round (.yield l) (first++args) st.H).bind λ r=>B1 (nK st.aY st.up r)
  |_=>B5
 | .invoke name=>match vs with
  | .iface t v::args=>(rt.AP.kH t name).bind λ f=>(cV rt.call rt.round (.func f) (v::args) st.H).bind λ r=>B1 (nK st.aY st.up r)
  |_=>B5
 | .recover=>match rt.ctx.round with
  |some _=>B5
  |none=>match vs with
   |[]=>match st.up with
    |some ((v,B2)::older)=>B1 (.val v st.aY (B1 ((v,B4)::older)) st.H)
    |_=>B1 (.val .nili st.aY st.up st.H)
   |_=>B5
 | .defer=>match rt.ctx.round with
  |some _=>B5
  |none=>match vs with
   | .fn (.func f) first cap::args=>B1 (.val .undef (.fn (.func f) (first++(args++cap))::st.aY) st.up st.H)
   |_=>B5
 | .panic=>match vs with
  |[.iface t v]=>B1 (.panic [(.iface t v,B2)] st.H)
  |_=>B5
def vA(put:AV->T AV->T AV)(cI:Option (List Nat))(st:St)(k:St->gP):iR->gP
 | .val v aY up H=>k ⟨put v st.tm,aY,up,H⟩
 | .panic c H=>cI.bind λ ds=>B1 (.panic c,⟨forget ds st.tm,st.aY,st.up,H⟩)
theorem TG(put:AV->T AV->T AV)(cI:Option (List Nat))(st:St)(k:St->gP)(r:bG×ar):fM put cI st k r=vA put cI st k (nK st.aY st.up r):=by
 unfold fM nK;split<;>rename_i h<;>rw[h]<;>rfl
def qx(put:AV->T AV->T AV)(cI:Option (List Nat))(rt:RT)(st:St)(k:St->gP)(vs:List AV)(op:fG) :
 (qM put cI op).run rt st k vs=(ir rt st vs op).bind (vA put cI st k):=by
 cases op with
 |pure f=>simp only[qM,DE,ir,yi,qr];rfl
 |read f=>simp only[qM,B9,ir,yi,qr];rfl
 |alloc f=>simp only[qM,wO,ir,yi,qr];rfl
 |gT f=>simp only[qM,KE,ir,yi,qr];rfl
 |hJ f=>grind [qM,Bo,ir,TG]
 |ic =>
  simp only[qM,Dn,ir]
  grind [TG]
 |invoke name =>
  simp only[qM,sX,ir];split
  .simp_all [yi,TG]
  grind
 |recover =>
  simp only[qM,Sf,ir];cases rt.ctx.round with
  |some l=>rfl
  |none =>
   cases vs with
   |cons x xs=>rfl
   |nil =>
    rcases hu:st.up with _|_|⟨⟨v,_|_⟩,c⟩<;>simp only[Qi,hu]<;>rfl
 |defer =>
  simp only[qM,wQ,ir];cases rt.ctx.round with
  |some l=>rfl
  |none =>
   simp only;split
   .rfl
   grind
 |panic =>
  simp only[qM,wK,ir]
  grind [TG,nK]
end Go.Am
namespace Go.Am
section moves
variable{P:JL}{b:OE}{a:Act}{k:List Item}{cs cs':List OE}{w w':MV}{ops:Array QI}{i:Nat}{rest:List Nat}{o:QI}
def M7(ho:ops[i]? = B1 o)(v:Li):(b.atR a (.inRegion ops (i::rest)::k)).finish v=b.atR (a.put o.dst v) (.inRegion ops rest::k):=by
 grind [OE.finish_atR]
def Ll(ho:ops[i]? = B1 o)(hw:B0 o (yielded ops a.tmps)=B4){v:Li}(hr:(o.semAt b.roundOf a.eval).run P w=.ok (.value v) w') :
 step P (lone (b.atR a (.inRegion ops (i::rest)::k)) cs w)=.next (lone (b.atR (a.put o.dst v) (.inRegion ops rest::k)) cs w') :=
 step_lone_go (by simp_all[stepGR_op,M7,CE])
def QA(ho:ops[i]? = B1 o)(hw:B0 o (yielded ops a.tmps)=B4)(hr:(o.semAt b.roundOf a.eval).run P w=.ok .skip w') :
 step P (lone (b.atR a (.inRegion ops (i::rest)::k)) cs w)=.next (lone (b.atR (a.put o.dst undef) (.inRegion ops rest::k)) cs w') :=
 step_lone_go (by simp_all[stepGR_op,M7,CE])
def ac7(ho:ops[i]? = B1 o)(hw:B0 o (yielded ops a.tmps)=B4){d:Deferred}(hr:(o.semAt b.roundOf a.eval).run P w=.ok (.defer d) w') :
 step P (lone (b.atR a (.inRegion ops (i::rest)::k)) cs w)=.next (lone (b.atR (({a with defers:=d::a.defers}:Act).put o.dst undef) (.inRegion ops rest::k)) cs w'):=by
 refine step_lone_go ?_;have:({b.atR a (.inRegion ops (i::rest)::k)with defers:=d::a.defers}:OE).finish undef =
  b.atR ({a with defers:=d::a.defers}.put o.dst undef) (.inRegion ops rest::k):=by
  have:=OE.finish_atR b {a with defers:=d::a.defers} ops i rest k undef;rw[ho]at this;exact this
 rw[stepGR_op ho hw];simp only[CE,Sem.runT_eq,hr,GStep.bare_after];exact congrArg (λ fr=>GStep.go {frame:=fr,callers:=cs,status:=.running,dying:=B5} w') this
def Yd(ho:ops[i]? = B1 o)(hw:B0 o (yielded ops a.tmps)=B4){f:FuncId}{args:Array Li}(hr:(o.semAt b.roundOf a.eval).run P w=.ok (.enter f args) w') :
 step P (lone (b.atR a (.inRegion ops (i::rest)::k)) cs w)=.next (lone (Frame.enter P f args .normal) (b.atR a (.inRegion ops (i::rest)::k)::cs) w') :=
 step_lone_go (by rw[stepGR_op ho hw];simp[CE,hr,CG])
def ET(ho:ops[i]? = B1 o)(hw:B0 o (yielded ops a.tmps)=B4){l:Nat}{f:FuncId}{tmps:Array Li}{as body:Code}(hr:(o.semAt b.roundOf a.eval).run P w=.ok (.round l f tmps as body) w') :
 step P (lone (b.atR a (.inRegion ops (i::rest)::k)) cs w)=.next (lone (Frame.round l f tmps as body .normal) (b.atR a (.inRegion ops (i::rest)::k)::cs) w') :=
 step_lone_go (by rw[stepGR_op ho hw];simp_all[CE])
def D8(ho:ops[i]? = B1 o)(hw:B0 o (yielded ops a.tmps)=B4){v:Li}(hr:(o.semAt b.roundOf a.eval).run P w=.halt (.panic v) w') :
 step P (lone (b.atR a (.inRegion ops (i::rest)::k)) cs w)=.next (lone {b.atR a (.inRegion ops (i::rest)::k)with mode:=.panicking [{v,recovered:=B2}]} cs w') :=
 step_lone_go (by simp_all[stepGR_op,Ch,CE])
def xhd(ho:ops[i]? = B1 o)(hw:B0 o (yielded ops a.tmps)=B4)(hb:b.roundOf=B5)(hr:(o.semAt b.roundOf a.eval).run P w=.ok .recover w'){v:Li}
 (d:tryRecover (b.atR a (.inRegion ops (i::rest)::k)) cs=B1 (v,cs')) :
 step P (lone (b.atR a (.inRegion ops (i::rest)::k)) cs w)=.next (lone (b.atR (a.put o.dst v) (.inRegion ops rest::k)) cs' w') :=
 step_lone_go (by
  rw[stepGR_op ho hw,<-M7 ho];have c:(b.atR a (.inRegion ops (i::rest)::k)).roundOf=none:=hb;simp_all[CE])
def q21(ho:ops[i]? = B1 o)(hw:B0 o (yielded ops a.tmps)=B4)(hb:b.roundOf=B5)(hr:(o.semAt b.roundOf a.eval).run P w=.ok .recover w')
 (d:tryRecover (b.atR a (.inRegion ops (i::rest)::k)) cs=B5) :
 step P (lone (b.atR a (.inRegion ops (i::rest)::k)) cs w)=.next (lone (b.atR (a.put o.dst .nilIface) (.inRegion ops rest::k)) cs w') :=
 step_lone_go (by
  rw[stepGR_op ho hw,<-M7 ho];have c:(b.atR a (.inRegion ops (i::rest)::k)).roundOf=none:=hb;simp_all[CE])
end moves
def vy(P:JL)(base:Nat)(call:bZ):Prop :=
 ∀(D:Nat->Prop)θ H w f vs(args:Array Li)up H' e up' kind cs,HR P base D θ H w->bL D θ vs args.toList->rF D θ kind up cs->call f vs up H=B1 (e,up',H')->d9 D H.au H'.au ->
  (∃fn c,P.funcs[f]? = B1 fn/\fn.body=B1 c) /\
  ∃θ' w' cs' fr e',Steps P (lone (Frame.enter P f args kind) cs w) (lone fr cs' w')/\fr.kind=kind/\fr.fn=f/\fr.going P w' e'/\QR (Up D H.au H'.au) θ' e e' /\
   HR P base (Up D H.au H'.au) θ' H' w'/\bA D H θ w H' θ' w'/\up'.isSome=up.isSome/\fC up cs cs'/\rF (Up D H.au H'.au) θ' kind up' cs'
def wG(P:JL)(base:Nat)(round:iP):Prop :=
 ∀(D:Nat->Prop)θ H w l vs(args:Array Li)H' e(c:OE)cs,HR P base D θ H w->bL D θ vs args.toList->round vs l H=B1 (e,H')->d9 D H.au H'.au ->
  ∃f tmps as body,(Instr.yield (θ.b9 l) args).run P w=.ok (.round (θ.b9 l) f tmps as body) w /\
  ∃θ' w' fin,Steps P (lone (Frame.round (θ.b9 l) f tmps as body .normal) (c::cs) w) (lone fin cs w') /\
   (match e with
    | .ret v=>∃cv,VR (Up D H.au H'.au) θ' v cv/\fin=c.finish cv
    | .panic ch=>∃ps,ch≠[]/\fN (Up D H.au H'.au) θ' ch ps/\fin=c.raise ps) /\
   HR P base (Up D H.au H'.au) θ' H' w'/\bA D H θ w H' θ' w'
def iR.heap:iR->ar
 | .val _ _ _ H=>H
 | .panic _ H=>H
def Jl(P:JL)(base:Nat)(D:Nat->Prop)(θ:Th)(st:St)(b:OE)(a:Act)(ops:Array QI)(i:Nat)(rest:List Nat)(k:List Item)(cs:List OE)(w:MV)(o:QI):iR->Prop
 | .val v aY up H'=>∃θ' w' c cs' ds,Steps P (lone (b.atR a (.inRegion ops (i::rest)::k)) cs w) (lone (b.atR (({a with defers:=ds}:Act).put o.dst c) (.inRegion ops rest::k)) cs' w') /\
  HR P base (Up D st.H.au H'.au) θ' H' w'/\bA D st.H θ w H' θ' w'/\VR (Up D st.H.au H'.au) θ' v c/\gY (Up D st.H.au H'.au) θ' aY ds/\up.isSome=st.up.isSome /\
  rF (Up D st.H.au H'.au) θ' b.kind up cs'/\fC st.up cs cs'
 | .panic ch H'=>∃θ' w' ps todo,Steps P (lone (b.atR a (.inRegion ops (i::rest)::k)) cs w) (lone {b.atR a todo with mode:=.panicking ps} cs w') /\
  HR P base (Up D st.H.au H'.au) θ' H' w'/\bA D st.H θ w H' θ' w'/\ch≠[]/\fN (Up D st.H.au H'.au) θ' ch ps
section
variable{P:JL}{base:Nat}{D:Nat->Prop}{θ:Th}
def Te{fr:OE}{w:MV}{e:Ending}(h:fr.going P w e)(hk:fr.kind=.normal):fr.leaving P w e:=by
 cases e with
 |returned v=>have⟨d,f,g⟩:=h;exact⟨d,f,hk,g⟩
 |panicked c=>exact h
 |outgrown=>trivial
theorem Rv{f:FuncId}{fn:Func}{c:Code}{args:Array Li}{w:MV}(e:dW P)(d:P.funcs[f]? = B1 fn)(hb:fn.body=B1 c):(callFunc f args).run P w=.ok (.enter f args) w:=by
 simp[callFunc,d,hb,e.names f fn d]
def xiv{t:M8}{name:String}{f:Nat}(h:yK P t name=B1 f)(v:Li)(w:MV):(method (P.types.size+Made.depth) t v name).run P w=.ok (f,v) w:=by
 unfold yK at h;simp only[qj]at h;have⟨i,j,m,hm,h⟩:=h;split at h
 .cases h
 .rename_i l;simp only[qj]at h;have⟨p,hp,h⟩:=h;have e:m.path.toList=[]:=by
   grind
  obtain⟨n,hn⟩:∃n,P.types.size+Made.depth=n+1:=⟨P.types.size+99,rfl⟩
  rw[hn];have⟨q,g⟩:=p;have c:(typeInfo t).run P w=.ok i w:=by simp[typeInfo,j]
  simp only[method,Ng,c,NB,hm,e,follow,A9,hp];cases hu:P.underlying t with
  |none=>grind
  |some d =>
   rw[hu]at h;have hr:∀wr,d=d->(receiverAt t (.val v) g wr).run P w=.ok v w/\q=f:=by
    intro wr _;cases d<;>cases g<;>simp only[reduceCtorEq,qk]at h<;>exact(by simp_all[receiverAt,j8,Place.get])
   simp[(hr _ rfl).1,(hr B5 rfl).2]
def Vy{call:bZ}(hc:vy P base call){st:St}{b:OE}{a:Act}{ops:Array QI}{i:Nat}{rest:List Nat}{k:List Item}{cs:List OE}{w:MV}{o:QI}
 (ho:ops[i]? = B1 o) (z:HR P base D θ st.H w) (x:gY D θ st.aY a.defers) (hu:rF D θ b.kind st.up cs) {f:Nat} {vs:List AV} {args:Array Li} (A:bL D θ vs args.toList)
 (hs:(∃fn c,P.funcs[f]? = B1 fn/\fn.body=B1 c)->step P (lone (b.atR a (.inRegion ops (i::rest)::k)) cs w)=.next (lone (Frame.enter P f args .normal) (b.atR a (.inRegion ops (i::rest)::k)::cs) w))
 {r:bG×ar} {u:Option aF} (hr:call f vs B5 st.H=B1 (r.1,u,r.2)) (y:d9 D st.H.au r.2.au) :
 Jl P base D θ st b a ops i rest k cs w o (nK st.aY st.up r):=by
 have⟨l,θ',w',cs',fr,e',m,q,B,s,g,n,h,C,t,p⟩:=hc D θ st.H w f vs args B5 r.2 r.1 u .normal (b.atR a (.inRegion ops (i::rest)::k)::cs) z A rfl hr y;have j:cs'=b.atR a (.inRegion ops (i::rest)::k)::cs:=t;subst j;have d:=hs l;have hl:=Te s q;have⟨e,H'⟩:=r;cases e with
 |ret v =>
  cases e' with
  |returned c =>
   refine⟨θ',w',c,cs,a.defers,.head d (m.trans (.one ?_)),n,h,g,gY.up h.ag Up.of x,rfl,rF.up h.ag Up.of hu,fC.refl hu⟩;rw[step_leave_returned hl,M7 ho]
  |panicked c=>exact g.elim
  |outgrown=>exact g.elim
 |panic ch =>
  cases e' with
  |returned c=>exact g.elim
  |panicked ps =>
   refine⟨θ',w',ps,.inRegion ops (i::rest)::k,.head d (m.trans (.one ?_)),n,h,g.1,g.2⟩;rw[step_leave_panicked hl,Ch]
  |outgrown=>exact g.elim
def T6{f:mD}{first cap:List AV}{c:Li}(h:VR D θ (.fn f first cap) c):∃x y:List Li,c=.func (fJ θ f) x.toArray y.toArray/\bL D θ first x/\bL D θ cap y/\(∀θ',Ag D θ θ'->fJ θ' f=fJ θ f):=by
 refine⟨bT θ first,bT θ cap,h.now.symm,λ θ' ha=>?_,λ θ' ha=>?_,λ θ' ha=>?_⟩ <;>
 .have:=(h θ' ha).trans h.now.symm
  grind [az]
set_option maxHeartbeats 1000000 in
def Va(hP:dW P){rt:RT}(E:vy P base rt.call)(V:wG P base rt.round)(hAP:rt.AP=aX P){o:QI}{I:fG}{xs:List MS}(B:se P o xs I)(hdef:CQ o I)
 {ops:Array QI} {i:Nat} {rest:List Nat} {a:Act} (ho:ops[i]? = B1 o) (hw:B0 o (yielded ops a.tmps)=B4) {st:St} {w:MV} {b:OE} {k:List Item} {cs:List OE} {vs:List AV} {r:iR}
 (J:HR P base D θ st.H w) (M:gY D θ st.aY a.defers) (hu:rF D θ b.kind st.up cs) (hb:zN D θ b.roundOf rt.ctx.round) (R:bL D θ vs (xs.map a.eval)) (hr:ir rt st vs I=B1 r)
 (hf:d9 D st.H.au r.heap.au):Jl P base D θ st b a ops i rest k cs w o r:=by
 have d:Up D st.H.au st.H.au=D:=Up.none;have U:I≠ .defer->I≠ .pure Op.fail->o.semAt b.roundOf a.eval=execOp a.eval o:=λ L W=>Bw _ _ _ (by
  rcases hdef with h|h|h
  .exact h
  .exact absurd h L
  .exact absurd h W)
 cases I with
 |pure f =>
  simp only[ir,qj,qk]at hr;obtain⟨v,s,rfl⟩:=hr;have⟨c,A,C⟩:=B D θ a.eval w vs v (SB a) R s;have g:o.semAt b.roundOf a.eval=execOp a.eval o:=U (by intro q;cases q) (by intro q;cases q;cases s);refine⟨θ,w,c,cs,a.defers,.one ?_,by rw[d];exact J,.refl _ _ _ _,by rw[d];exact C,by rw[d];exact M,rfl,by rw[d];exact hu,fC.refl hu⟩;rcases A with A|⟨A,rfl⟩
  .exact Ll ho hw (by rw[g];exact A)
  .exact QA ho hw (by rw[g];exact A)
 |read f =>
  simp only[ir,qj,qk]at hr;obtain⟨v,s,rfl⟩:=hr;have⟨c,A,C⟩:=B base D θ st.H a.eval w vs v J R s;have g:o.semAt b.roundOf a.eval=execOp a.eval o:=U (by intro q;cases q) (by intro q;cases q);refine⟨θ,w,c,cs,a.defers,.one ?_,by rw[d];exact J,.refl _ _ _ _,by rw[d];exact C,by rw[d];exact M,rfl,by rw[d];exact hu,fC.refl hu⟩;rcases A with A|⟨A,rfl⟩
  .exact Ll ho hw (by rw[g];exact A)
  .exact QA ho hw (by rw[g];exact A)
 |alloc f =>
  simp only[ir,qj,qk]at hr;obtain⟨⟨ob,mk⟩,s,rfl⟩:=hr;have⟨hown,w0,co,ext,c,A,C,X⟩:=B.1 D θ a.eval w vs ob mk (SB a) R s;have g:o.semAt b.roundOf a.eval=execOp a.eval o:=U (by intro q;cases q) (by intro q;cases q);have hn:¬D st.H.au:=hf _ (qm _) (zp _);have hag:=Th.hC θ st.H.au w0.heap.size 0 ext hn;have⟨e1,e2,e3⟩:=Th.eK θ st.H.au w0.heap.size 0 ext;have⟨k1,k2⟩:=X (Up D st.H.au (st.H.au+1)) (θ.add st.H.au w0.heap.size 0 ext) st.H.au hag Up.of (.inr ⟨qm _,zp _⟩) (by rw[e1,C.heap]) e2 e3;have hh0:HR P base D θ st.H w0:=J.draw C.heap;refine⟨θ.add st.H.au w0.heap.size 0 ext,w0.alloc co,c,cs,a.defers,.one (Ll ho hw (by rw[g];exact A)),?_,?_,k2,gY.up hag Up.of M,rfl,rF.up hag Up.of hu,fC.refl hu⟩
  .refine hh0.alloc hn ?_ ?_ (qm _) ?_ k1
   .rw [B6];simp
   .intro j hj;rw[B6,qv (J7 hj)]
   .simp
  .exact (bA.draw (w:=w) (w':=w0) C.heap C.os C.tape C.output).trans (bA.alloc (w:=w0) hh0 hn _ _ _ _) (λ _ h=>h)
 |gT f =>
  simp only[ir,qj,qk]at hr;obtain⟨⟨v,H'⟩,s,rfl⟩:=hr;have⟨θ',w',c,A,C,X,g4⟩:=B.1 base D θ st.H a.eval w vs v H' J R s hf;have g:o.semAt b.roundOf a.eval=execOp a.eval o:=U (by intro q;cases q) (by intro q;cases q);refine⟨θ',w',c,cs,a.defers,.one ?_,C,X,g4,gY.up X.ag Up.of M,rfl,rF.up X.ag Up.of hu,fC.refl hu⟩;rcases A with A|⟨A,rfl⟩
  .exact Ll ho hw (by rw[g];exact A)
  .exact QA ho hw (by rw[g];exact A)
 |hJ f =>
  obtain⟨c,fn,body,s,K,rfl,h3,h4⟩:=B;simp only[ir,cV,yi,qr,qj,qk]at hr;obtain⟨⟨e,u,H'⟩,hc,rfl⟩:=hr;have g:o.semAt b.roundOf a.eval=execOp a.eval o:=Bw _ _ _ (λ c'=>by rw[s];simp);refine Vy E ho J M hu (args:=c.args.map a.eval) (by simpa using R) (λ _=>Yd ho hw ?_) hc (by cases e<;>exact hf);rw[g];simp[execOp,s,resolve,K,Act.eval,Bj,invoke,Rv hP h3 h4]
 |ic =>
  obtain⟨c,x,s,K,rfl⟩:=B;have g:o.semAt b.roundOf a.eval=execOp a.eval o:=Bw _ _ _ (λ c'=>by rw[s];simp);simp only[ir]at hr;split at hr
  .rename_i f first cap args
   simp only[cV,yi,qr,qj,qk]at hr;obtain⟨⟨e,u,H'⟩,hc,rfl⟩:=hr;have⟨cf,ca,z,L,W⟩:=R.eE;simp only[j6,zw]at z;obtain⟨rfl,rfl⟩:=z;have⟨fi,ci,S,Z,q5,_⟩:=T6 L;refine Vy E ho J M hu (args:=(fi.toArray++c.args.map a.eval)++ci.toArray) ?_ (λ hfn=>Yd ho hw ?_) hc (by cases e<;>exact hf)
   .simpa using Z.app (W.app q5)
   .have ⟨fn,body,h3,h4⟩:=hfn;rw[g];simp[execOp,s,resolve,K,S,fJ,Bj,invoke,Rv hP h3 h4]
  .rename_i l first args
   simp only[cV,qj,qk]at hr;obtain⟨⟨e,H'⟩,hc,rfl⟩:=hr;have⟨cf,ca,z,L,W⟩:=R.eE;simp only[j6,zw]at z;obtain⟨rfl,rfl⟩:=z;have⟨fi,ci,S,Z,q5,_⟩:=T6 L;have hf':d9 D st.H.au H'.au:=by cases e<;>exact hf
   have⟨f,tmps,as,body,A,θ',w',fin,C,X,g4,g5⟩:=V D θ st.H w l (first++args) (fi.toArray++c.args.map a.eval) H' e (b.atR a (.inRegion ops (i::rest)::k)) cs J (by simpa using Z.app W) hc hf';have N:=ET (P:=P) (b:=b) (k:=k) (cs:=cs) (w:=w) (rest:=rest) ho hw (l:=θ.b9 l) (f:=f) (tmps:=tmps) (as:=as) (body:=body) (w':=w) (by
    rw[g];simp[execOp,s,resolve,K,S,fJ,Bj,invoke,A])
   cases e with
   |ret v =>
    obtain⟨cv,k1,rfl⟩:=X;refine⟨θ',w',cv,cs,a.defers,.head N ?_,g4,g5,k1,gY.up g5.ag Up.of M,rfl,rF.up g5.ag Up.of hu,fC.refl hu⟩;rw[M7 ho]at C;exact C
   |panic ch =>
    obtain⟨Y,k0,k1,rfl⟩:=X;refine⟨θ',w',Y,.inRegion ops (i::rest)::k,.head N ?_,g4,g5,k0,k1⟩;rw[Ch]at C;exact C
  .cases hr
 |invoke m =>
  obtain⟨c,x,s,K,rfl⟩:=B;have g:o.semAt b.roundOf a.eval=execOp a.eval o:=Bw _ _ _ (λ c'=>by rw[s];simp);simp only[ir]at hr;split at hr
  .rename_i t v args;simp only[cV,yi,qr,qj,qk]at hr;obtain⟨f,hm,⟨e,u,H'⟩,hc,rfl⟩:=hr;have⟨cf,ca,z,L,W⟩:=R.eE;simp only[j6,zw]at z;obtain⟨rfl,rfl⟩:=z;have⟨cv,S,Z⟩:=L.mr;rw[hAP]at hm;have hm':yK P t m=B1 f:=hm;refine Vy E ho J M hu (args:=#[cv]++c.args.map a.eval) (by simpa using bL.cons Z W) (λ hfn=>Yd ho hw ?_) hc (by cases e<;>exact hf);have⟨fn,body,h3,h4⟩:=hfn;rw[g];have hx:(#[Li.iface t cv]++c.args.map a.eval)[0]? = B1 (.iface t cv):=by
    rw[Array.getElem?_append];simp
   have hx2:(#[Li.iface t cv]++c.args.map a.eval).extract 1 (#[Li.iface t cv]++c.args.map a.eval).size=c.args.map a.eval:=by
    apply Array.ext';rw[Array.toList_extract,Array.toList_append];simp[List.extract,ze]
   simp only[execOp,s,resolve,K,Ng,A9,NB,invoke,S,hx,hx2,callMethod,program,Sem.run,xiv hm',Rv hP h3 h4]
  .cases hr
 |recover =>
  obtain⟨c,s,K,rfl⟩:=B;have g:o.semAt b.roundOf a.eval=execOp a.eval o:=Bw _ _ _ (λ c'=>by rw[s];simp);simp only[ir]at hr;split at hr
  .cases hr
  .rename_i F;rw[F]at hb;have hb:b.roundOf=none:=hb;have G:(o.semAt b.roundOf a.eval).run P w=.ok .recover w:=by
    rw[g];have⟨cc,hE⟩:=MI (ρ:=a.eval) s K;rw[hE];rfl
   split at hr
   .split at hr
    .rename_i v older O;cases hr;rw[O]at hu;cases cs with
     |nil=>exact hu.elim
     |cons c0 kY =>
      have⟨hk,hm⟩:=hu;cases n:c0.mode with
      |run=>rw[n]at hm;exact hm.elim
      |returning=>rw[n]at hm;cases hm
      |panicking Y =>
       rw[n]at hm;have⟨_,hm⟩:=hm;cases Y with
       |nil=>exact hm.elim
       |cons p Y =>
        have⟨⟨m1,m2,m3⟩,m4⟩:=hm;have⟨pv,pr,pg⟩:=p;simp only at m1 m2 m3;subst m2;subst m3;refine⟨θ,w,pv,{c0 with mode:=.panicking ({v:=pv,recovered:=B4}::Y)}::kY,a.defers,.one ?_,by rw[d];exact J,.refl _ _ _ _,by rw[d];exact m1,by rw[d];exact M,by rw[O];rfl,?_,?_⟩
        .refine xhd ho hw hb G ?_;simp[tryRecover,CG,hk,n]
        .rw [d];exact⟨hk,by simp,⟨m1,rfl,rfl⟩,m4⟩
        .rw [O];exact⟨_,rfl⟩
    .rename_i O;cases hr;refine⟨θ,w,.nilIface,cs,a.defers,.one (q21 ho hw hb G ?_),by rw[d];exact J,.refl _ _ _ _,λ _ _=>rfl,by rw[d];exact M,rfl,by rw[d];exact hu,fC.refl hu⟩;unfold tryRecover;cases Q:st.up with
     |none =>
      rw[Q]at hu;have hk:b.kind=.normal:=hu;simp[CG,hk]
     |some ch =>
      rw[Q]at hu;cases cs with
      |nil=>exact hu.elim
      |cons c0 kY =>
       have⟨hk,hm⟩:=hu;cases n:c0.mode with
       |run=>rw[n]at hm;exact hm.elim
       |returning=>simp[CG,hk,n]
       |panicking Y =>
        rw[n]at hm;have⟨_,hm⟩:=hm;cases Y with
        |nil=>simp[CG,hk,n]
        |cons p Y =>
         cases ch with
         |nil=>exact hm.elim
         |cons e es =>
          have⟨⟨m1,m2,m3⟩,m4⟩:=hm;have⟨pv,pr,pg⟩:=p;have⟨ev,er⟩:=e;simp only at m2 m3;subst m2;subst m3;cases pr with
          |false=>exact absurd Q (O _ _)
          |true=>simp[CG,hk,n]
   .cases hr
 |defer =>
  obtain⟨c,x,s,K,rfl⟩:=B;simp only[ir]at hr;split at hr
  .cases hr
  .rename_i F;rw[F]at hb;have hb:b.roundOf=none:=hb;split at hr
   .rename_i f first cap args
    cases hr;have⟨cf,ca,z,L,W⟩:=R.eE;simp only[j6,zw]at z;obtain⟨rfl,rfl⟩:=z;have⟨fi,ci,S,Z,q5,q6⟩:=T6 L;refine⟨θ,w,undef,cs,{target:=.fn (.func f) ci.toArray,args:=fi.toArray++c.args.map a.eval}::a.defers,.one ?_,by rw[d];exact J,.refl _ _ _ _,.undef,?_,rfl,by rw[d];exact hu,fC.refl hu⟩
    .refine ac7 ho hw ?_;rw[hb,QI.semAt_none];simp[execOp,s,resolve,K,S,fJ,Bj]
    .rw [d];exact⟨⟨_,_,rfl,λ _ _=>rfl,by simpa using Z.app (W.app q5)⟩,M⟩
   .cases hr
 |panic =>
  simp only[ir]at hr;split at hr
  .rename_i t v;cases hr;obtain⟨x,rfl,L⟩:=R.pS;have⟨cv,S,Z⟩:=L.mr;have G:(o.semAt b.roundOf a.eval).run P w=.halt (.panic (a.eval x)) w:=by
    rcases B with⟨y,s,hy⟩|⟨c,s,K,hy⟩
    .simp only[zw,tJ]at hy;subst hy;rw[Bw _ _ _ (λ c'=>by rw[s];simp)];simp[execOp,s,S,Instr.panic,goPanic]
    .rw [Bw _ _ _ (λ c'=>by rw[s];simp)];have⟨cc,hE⟩:=MI (ρ:=a.eval) s K;rw[hE,AW hy.symm];simp[builtin,S,Instr.panic,goPanic]
   refine⟨θ,w,[{v:=a.eval x,recovered:=B2}],.inRegion ops (i::rest)::k,.one (D8 ho hw G),by rw[d];exact J,.refl _ _ _ _,by simp,?_⟩;rw[d];exact⟨⟨L,rfl,rfl⟩,trivial⟩
  .cases hr
end
end Go.Am
namespace Go.Am
def dq(s:aN)(tm:T AV):Option Bool :=
 match s.guard with
 |none=>B1 B4
 |some g=>cP g.2 (tm.get g.1)
def Wl(s:aN)(hc:s.ik=B2)(rt:RT)(K:St->gP)(st:St) :
 (gU s).run rt K st=(dq s st.tm).bind λ w=>cond w ((mE st.tm s.args).bind λ vs=>(ir rt st vs s.op).bind (vA (eD s.dst) s.cI st K)) (K ⟨eD s.dst .undef st.tm,st.aY,st.up,st.H⟩):=by
 have c:(lI s.dst).run=eD s.dst:=by grind [Yj]
 unfold gU dq;rw[hc];cases hg:s.guard with
 |none=>simp_all[Ix,qx]
 |some g=>simp_all[Ix,qx,T.jK,T.get]
def Z0(s:aN)(hc:s.ik=B4){d:Nat}(e:s.dst=B1 d)(rt:RT)(K:St->gP)(st:St) :
 (gU s).run rt K st=(dq s st.tm).bind λ w=>cond w ((mE st.tm s.args).bind λ vs=>cond (qG (λ t=>t.get d) st vs s.op) (K st) B5) (K st):=by
 have c:(T.oI (α:=AV) (T.path d)).run=λ t=>t.get d:=by funext t;exact T.jK _ _
 unfold gU dq;rw[hc,e];cases hg:s.guard with
 |none=>simp_all[Ix]
 |some g =>
  simp only[Ix,c];rw[show(T.oI (T.path g.1)).run st.tm=st.tm.get g.1 from T.jK _ _]
theorem δ(s:aN)(hc:s.ik=B4)(c:s.dst=B5)(rt:RT)(K:St->gP)(st:St):(gU s).run rt K st=none:=by
 grind [gU]
def pL(call:bZ):Prop:=∀f vs up H e up' H',call f vs up H=B1 (e,up',H')->Ext H H'
def Aq(round:iP):Prop:=∀vs l H e H',round vs l H=B1 (e,H')->Ext H H'
def tX:ai->Prop
 | .region steps=>∀s∈steps,dE s.op
 | .seq a b=>tX a/\tX b
 | .cond _ a b=>tX a/\tX b
 | .block _ b=>tX b
 | .loop _ b=>tX b
 | .scope b=>tX b
 |_=>True
def ag0(fn:bW):Prop:=tX fn.body /\ ∀lp∈fn.loops,tX lp.assign/\tX lp.body
def TD(AP:jG):Prop:=∀f fn,AP.func f=B1 fn->ag0 fn
section
variable{rt:RT}(hc:pL rt.call)(hr:Aq rt.round)
include hc hr
def Vi{op:fG}(ho:dE op){st:St}{vs:List AV}{r:iR}(h:ir rt st vs op=B1 r):Ext st.H r.heap:=by
 have c:∀(q:bG×ar),Ext st.H q.2->Ext st.H (nK st.aY st.up q).heap:=by
  intro q g;have⟨e,H'⟩:=q;cases e<;>exact g
 cases op with
 |pure f=>simp only[ir,qj,qk]at h;obtain⟨_,_,rfl⟩:=h;exact Ext.refl _
 |read f=>simp only[ir,qj,qk]at h;obtain⟨_,_,rfl⟩:=h;exact Ext.refl _
 |alloc f=>simp only[ir,qj,qk]at h;obtain⟨⟨j,mk⟩,d,rfl⟩:=h;exact Ext.alloc _ _ (ho _ _ _ d)
 |gT f=>simp only[ir,qj,qk]at h;obtain⟨⟨v,H'⟩,d,rfl⟩:=h;exact ho _ _ _ _ d
 |hJ f =>
  simp only[ir,cV,yi,qr,qj,qk]at h;obtain⟨⟨e,u,H'⟩,d,rfl⟩:=h;exact c _ (hc _ _ _ _ _ _ _ d)
 |ic =>
  simp only[ir]at h;split at h
  .simp only[cV,yi,qr,qj,qk]at h;obtain⟨⟨e,u,H'⟩,d,rfl⟩:=h;exact c _ (hc _ _ _ _ _ _ _ d)
  .simp only[cV,qj,qk]at h;obtain⟨⟨e,H'⟩,d,rfl⟩:=h;exact c _ (hr _ _ _ _ _ d)
  grind
 |invoke m =>
  simp only[ir]at h;split at h
  .simp only[cV,yi,qr,qj,qk]at h;obtain⟨_,_,⟨e,u,H'⟩,d,rfl⟩:=h;exact c _ (hc _ _ _ _ _ _ _ d)
  grind
 |recover =>
  simp only[ir]at h;split at h
  .cases h
  .split at h
   .split at h<;>(cases h;exact Ext.refl _)
   grind
 |defer =>
  simp only[ir]at h;split at h
  .cases h
  .split at h
   .cases h;exact Ext.refl _
   grind
 |panic =>
  simp only[ir]at h;split at h
  .cases h;exact Ext.refl _
  grind
def Q_{op:fG}(ho:dE op){st:St}{vs:List AV}{r:iR}(h:ir rt st vs op=B1 r):st.H.au<=r.heap.au:=(Vi hc hr ho h).1
def xmd{s:aN}(ho:dE s.op){K:St->gP}(g:∀st r,K st=B1 r->Ext st.H r.2.H){st:St}{r:aW×St}(h:(gU s).run rt K st=B1 r):Ext st.H r.2.H:=by
 cases e:s.ik with
 |false =>
  rw[Wl s e,qj]at h;have⟨w,hw,h⟩:=h;cases w with
  |false =>
   grind
  |true =>
   simp only[xu,qj]at h;have⟨vs,_,q,l,h⟩:=h;have f:=Vi hc hr ho l;cases q with
   |val v d u H'=>exact Ext.trans f (g _ _ h)
   |panic c H' =>
    simp only[vA,qj,qk]at h;obtain⟨_,_,rfl⟩:=h;exact f
 |true =>
  cases j:s.dst with
  |none=>grind [δ]
  |some d =>
   rw[Z0 s e j,qj]at h;have⟨w,hw,h⟩:=h;cases w with
   |false =>
    grind
   |true =>
    simp only[xu,qj]at h
    grind
def Zv:∀{l:List aN},(∀s∈l,dE s.op) -> ∀{st:St}{r:aW×St},(gZ l).run rt st=B1 r->Ext st.H r.2.H
 |[],_,st,r,h=>by cases h;exact Ext.refl _
 |s::l,ho,st,r,h=>xmd hc hr (by grind) (λ st r h=>Zv (by grind) h) h
def xfb{l:List aN}(hl:∀s∈l,dE s.op){st:St}{r:aW×St}(h:(gZ l).run rt st=B1 r):st.H.au<=r.2.H.au:=(Zv hc hr hl h).1
omit hc hr in
def Ye{body:St->gP}(hb:∀st r,body st=B1 r->Ext st.H r.2.H)(ah:Option (List Nat)):∀(n:Nat)(st:St)(r:aW×St),gO ah body n st=B1 r->Ext st.H r.2.H
 |0,st,r,h=>by cases h
 |n+1,st,r,h=>by
  simp only[gO,qj]at h;have⟨q,d,h⟩:=h;have c:=hb _ _ d;have c:Ext st.H q.2.H:=by cases ah<;>exact c
  split at h
  .exact Ext.trans c (Ye hb ah n _ _ h)
  .cases h;exact c
omit hc hr in
def xh8{body:St->gP}(hb:∀st r,body st=B1 r->Ext st.H r.2.H)(ah:Option (List Nat))(n:Nat)(st:St)(r:aW×St)(h:gO ah body n st=B1 r):st.H.au<=r.2.H.au:=(Ye hb ah n st r h).1
omit hr in
def X3{st:St}{k:Nat}{H0:ar}{aY:List aK}{d:Nat}{v:AV}{r:aW×St}(f:Ext st.H H0)(h:iZ rt.call rt.round rt.ctx st k H0 aY d v=B1 r):Ext st.H r.2.H:=by
 unfold iZ at h;split at h
 .simp only[cV,yi,qr,qj]at h;have⟨⟨e,u,H'⟩,g,h⟩:=h;have c:=(f.trans (Ext.alloc _ _ rfl)).trans (hc _ _ _ _ _ _ _ g);unfold NC at h;split at h
  .cases h;exact c
  .split at h
   .cases h
   .rename_i hg;cases h;exact c.trans (Ext.set hg _ (λ _=>rfl))
   .cases h
 .cases h
omit hr in
def xe0{st:St}{k:Nat}{H0:ar}{aY:List aK}{d:Nat}{v:AV}{r:aW×St}(c:Ext st.H H0)(h:iZ rt.call rt.round rt.ctx st k H0 aY d v=B1 r):st.H.au<=r.2.H.au:=(X3 hc c h).1
def AX:∀{c:ai},tX c -> ∀{st:St}{r:aW×St},(bH c).run rt st=B1 r->Ext st.H r.2.H
 | .skip,_,st,r,h=>by cases h;exact Ext.refl _
 | .label _,_,st,r,h=>by cases h;exact Ext.refl _
 | .region steps,hm,st,r,h=>Zv hc hr hm h
 | .seq a b,hm,st,r,h=>by
  simp only[bH,qj]at h;have⟨q,e,h⟩:=h;have g:=AX hm.1 e;unfold uR at h;split at h
  .exact Ext.trans g (AX hm.2 h)
  grind
 | .cond c a b,hm,st,r,h=>by
  simp only[bH,qj]at h;have⟨v,j,h⟩:=h;unfold uh at h;split at h
  .rcases kw h with⟨_,h⟩|⟨_,h⟩
   .exact AX hm.1 h
   .exact AX hm.2 h
  grind
 | .block id b,hm,st,r,h=>by
  simp only[bH,qj]at h;have⟨q,e,h⟩:=h;have g:=AX (c:=b) hm e
  grind [kG]
 | .loop ah b,hm,st,r,h=>Ye (λ st r h=>AX (c:=b) hm h) ah _ _ _ h
 | .exit _,_,st,r,h=>by cases h;exact Ext.refl _
 | .goto _,_,st,r,h=>by cases h;exact Ext.refl _
 | .ret,_,st,r,h=>by cases h;exact Ext.refl _
 | .stuck,_,st,r,h=>by cases h
 | .scope b,hm,st,r,h=>by
  simp only[bH,qj]at h;have⟨q,e,h⟩:=h;have g:=AX (c:=b) hm e;unfold lH at h
  grind
 | .rangeFunc f k,_,st,r,h=>by
  simp only[bH,qj]at h;have⟨v,j,h⟩:=h;unfold rN at h;split at h
  .exact X3 hc (Ext.alloc _ _ rfl) h
  .simp only[qj]at h;have⟨d,_,h⟩:=h;exact X3 hc (Ext.refl _) h
def Nm{c:ai}(hm:tX c){st:St}{r:aW×St}(h:(bH c).run rt st=B1 r):st.H.au<=r.2.H.au:=(AX hc hr hm h).1
end
theorem Sg{call:bZ}(hc:pL call){rs:List eh}{tm:T AV}:∀{ds:List aK}{m:Option aF}{H:ar}{r:bG×ar},cj call rs tm ds m H=B1 r->Ext H r.2
 |[],B5,H,r,h=>by
  grind [cj,qj,Ext.refl]
 |[],B1 c,H,r,h=>by cases h;exact Ext.refl _
 | .jD b::ds,m,H,r,h=>by
  simp only[cj]at h;split at h
  .rename_i hg;exact(Ext.set hg _ (λ _=>rfl)).trans (Sg (H:=H.set b _) hc h)
  grind
 | .fn (.func f) args::ds,m,H,r,h=>by
  simp only[cj,qj]at h;have⟨⟨e,u,H'⟩,d,h⟩:=h;have g:=hc _ _ _ _ _ _ _ d;split at h
  .simp only[qj]at h;have⟨j,_,h⟩:=h;exact Ext.trans g (Sg hc h)
  grind
 | .fn (.yield _) _::_,_,_,_,h=>by grind [cj]
def S5{call:bZ}(hc:pL call){rs:List eh}{tm:T AV}{ds:List aK}{m:Option aF}{H:ar}{r:bG×ar}(h:cj call rs tm ds m H=B1 r):H.au<=r.2.au:=(Sg hc h).1
def xe7{H H':ar}{l:Nat}{s:mY}{p:Option ia}(h:cQ H l s p=B1 H'):Ext H H':=by
 unfold cQ at h;split at h
 .rename_i hg;cases h;exact Ext.set hg _ (λ _=>rfl)
 grind
def q53{H H':ar}{l:Nat}(h:beginRound H l=B1 H'):Ext H H':=by
 unfold beginRound at h;split at h
 .rename_i hg;cases h;exact Ext.set hg _ (λ _=>rfl)
 grind
theorem xcy{H H':ar}{l:Nat}{s:mY}{p:Option ia}(h:cQ H l s p=B1 H'):H'.au=H.au:=by
 unfold cQ at h;split at h
 .cases h;rfl
 grind
def q24{H H':ar}{l:Nat}(h:beginRound H l=B1 H'):H'.au=H.au:=by
 unfold beginRound at h;split at h
 .cases h;rfl
 grind
def Sq{AP:jG}(hp:TD AP){call:bZ}(hc:pL call)(m:Nat):∀n,Aq (rounds AP call m n)
 |0=>λ vs l H e H' h=>by cases h
 |n+1=>λ vs l H e H' h=>by
  have s:=Sq hp hc m n;simp only[rounds,roundOf]at h;split at h
  .rename_i st C f k tm d hg;simp only[qj]at h;have⟨fn,p,lp,x,A,_,q,y,h⟩:=h;have c:tX lp.assign/\tX lp.body:=(hp f fn p).2 lp (by grind [lC]);have g:=AX (rt:=⟨AP,call,rounds AP call m n,m,⟨B1 l,f⟩⟩) hc s c.1 y;have g:Ext H q.2.H:=g;split at h
   .simp only[qj]at h;have⟨t,hb,z,r,h⟩:=h;have j:=AX (rt:=⟨AP,call,rounds AP call m n,m,⟨B1 l,f⟩⟩) hc s c.2 r;have j:Ext t z.2.H:=j;have u:=(g.trans (q53 hb)).trans j;rcases kw h with⟨_,h⟩|⟨_,h⟩
    .unfold IF at h;split at h
     .grind
     .simp only[qj,qk,zh]at h;obtain⟨B,v,_,rfl⟩:=h;exact u.trans (xe7 v)
    grind
   grind
  grind
def xah{AP:jG}(hp:TD AP){call:bZ}(l:pL call)(n:Nat):pL (Il AP call n) :=
 λ f vs up H e d H' h=>by
  simp only[Il,qj]at h;have⟨fn,c,q,p,h⟩:=h;have g:=AX (rt:=⟨AP,call,rounds AP call n n,n,⟨B5,f⟩⟩) l (Sq hp l n n) (hp f fn c).1 p;have g:Ext H q.2.H:=g;have j:∀m,((cj call fn.results q.2.tm q.2.aY m q.2.H).bind λ z=>B1 (z.1,q.2.up,z.2))=B1 (e,d,H')->Ext H H':=by
   intro m h;simp only[qj,qk,zh]at h;obtain⟨z,r,_,_,rfl⟩:=h
   grind [Ext.trans,Sg]
  grind [qC]
def q2y{AP:jG}(hp:TD AP){told:bZ}(c:pL told):∀n,pL (jY AP told n)
 |0=>c
 |n+1=>λ f vs up H e d H' h=>by
  simp only[jY]at h;split at h
  .rename_i r hr;cases h;exact c _ _ _ _ _ _ _ hr
  .exact xah hp (q2y hp c n) n _ _ _ _ _ _ _ h
end Go.Am
namespace Go.Am
abbrev oU:Machine->Prop:=λ _=>True
structure SR(P:JL)(base:Nat)(D:Nat->Prop)(θ:Th)(b:OE)(nt:Nat)(rd:Option Nat)(st:St)(a:Act)(cs:List OE)(w:MV):Prop where
 heap:HR P base D θ st.H w
 ue:pX D θ st.tm a.tmps
 size:nt<=a.tmps.size
 aY:gY D θ st.aY a.defers
 up:rF D θ b.kind st.up cs
 round:zN D θ b.roundOf rd
def Out(P:JL)(base:Nat)(D:Nat->Prop)(θ:Th)(b:OE)(nt:Nat)(rd:Option Nat)(k:List Item)(st:St)(cs:List OE)(w:MV)(m:Machine)(e:aW)(st':St):Prop :=
 ∃θ' a' w' cs' e',ArrivesIn oU P m b k cs' e' a' w'/\SR P base (Up D st.H.au st'.H.au) θ' b nt rd st' a' cs' w'/\bA D st.H θ w st'.H θ' w'/\Dw (Up D st.H.au st'.H.au) θ' e e' /\
  st'.up.isSome=st.up.isSome/\fC st.up cs cs'
section
variable{P:JL}{base:Nat}{D:Nat->Prop}{θ:Th}
def Out.after{b:OE}{l:Nat}{rd:Option Nat}{k:List Item}{st df c:St}{cs d:List OE}{w w1:MV}{m j:Machine}{e:aW}{θ1:Th}(hs:Steps P m j)
 (hg:bA D st.H θ w df.H θ1 w1) (hu:df.up.isSome=st.up.isSome) (t:fC st.up cs d) (hn:df.H.au<=c.H.au)
 (h:Out P base (Up D st.H.au df.H.au) θ1 b l rd k df d w1 j e c):Out P base D θ b l rd k st cs w m e c:=by
 have⟨θ',n,w',cs',e',p,f,q,g,r,s⟩:=h;rw[Up.up hg.au hn]at f g;exact⟨θ',n,w',cs',e',.of_steps (C0 hs) p,f,hg.trans q Up.of,g,r.trans hu,fC.trans hu t s⟩
def zX{α:Type}:∀{l:List (Option α)}{r:List α},dt l=B1 r->r.length=l.length /\ ∀(i:Nat)(x:α),r[i]? = B1 x->l[i]? = B1 (B1 x)
 |[],r,h=>by cases h;grind
 |y::l,r,h=>by
  simp only[dt,qj,qk]at h;obtain⟨a,rfl,e,hl,rfl⟩:=h;have⟨c,d⟩:=zX hl
  grind
def Ni{ops:Array QI}{l:List (List bK×fG)}{safe:Nat->Option (List Nat)}{q:Bool×Nat}{s:aN}(h:i9 ops l safe q=B1 s) :
 ∃o a g,ops[q.2]? = B1 o/\l[q.2]? = B1 a/\guardOf ops o.guard=B1 g/\s = {ik:=q.1,dst:=o.dst,guard:=g,args:=a.1,op:=a.2,cI:=safe q.2}:=by
 grind [i9,qj]
def We{ops:Array QI}{o:QI}{s:aN}(hg:guardOf ops o.guard=B1 s.guard){tm:T AV}{a:Array Li}(f:pX D θ tm a){q:Bool}(h:dq s tm=B1 q) :
 B0 o (yielded ops a)=q:=by
 unfold dq at h;unfold B0;cases ho:o.guard with
 |none =>
  rw[ho]at hg;injection hg with hg
  grind
 |some g =>
  have⟨j,want⟩:=g;rw[ho]at hg;simp only[guardOf,qj,qk]at hg;have⟨t,⟨r,l,m⟩,hg⟩:=hg;rw[<-hg]at h;simp only at h;have n:((ops[j]?).bind (·.dst)).bind (a[·]?)=a[t]?:=by grind
  simp only[yielded,n];unfold cP at h;split at h
  .rename_i p hp;have⟨c,d,e⟩:=f t _ hp;injection h with h
   rw[d,<-e.now];simp only[az];cases p<;>cases want<;>cases q<;>simp_all
  .rename_i hp;have⟨c,d,e⟩:=f t _ hp;injection h with h
   rw[d,<-e.now]
   grind [az]
  grind
def IU{e:Nat}{tm:T AV}{a:Act}{dst:Option Nat}(h:∀d,dst=B1 d->d<e)(hs:e<=a.tmps.size)(f:pX D θ tm a.tmps){v:AV}{c:Li}(g:VR D θ v c) :
 pX D θ (eD dst v tm) (a.put dst c).tmps/\e<=(a.put dst c).tmps.size/\(a.put dst c).defers=a.defers:=by
 cases dst with
 |none=>exact⟨f,hs,rfl⟩
 |some d =>
  refine⟨f.put (by grind) g,?_,rfl⟩
  simpa[Act.put]using hs
def xi3(hP:dW P){rt:RT}(t:vy P base rt.call)(m:wG P base rt.round)(M:rt.AP=aX P)(O:pL rt.call)(S:Aq rt.round)
 {ops:Array QI} {o:QI} {i:Nat} {rest:List Nat} {s:aN} {ca:List bK×fG} (ho:ops[i]? = B1 o) (N:gA P o=B1 ca) (hg:guardOf ops o.guard=B1 s.guard) (h1:s.ik=B2) (Z:s.dst=o.dst) (h3:s.args=ca.1) (h4:s.op=ca.2)
 {b:OE} {x:Nat} (hdst:pD x o=B4) {k:List Item} {st:St} {a:Act} {cs:List OE} {w:MV} (e:SR P base D θ b x rt.ctx.round st a cs w) {K:St->gP} {r:aW×St}
 (z:∀st r,K st=B1 r->st.H.au<=r.2.H.au) (h:(gU s).run rt K st=B1 r) (Q:d9 D st.H.au r.2.H.au)
 (g:∀G θ1 df X p w1,SR P base G θ1 b x rt.ctx.round df X p w1->K df=B1 r->d9 G df.H.au r.2.H.au->Out P base G θ1 b x rt.ctx.round k df p w1 (lone (b.atR X (.inRegion ops rest::k)) p w1) r.1 r.2) :
 Out P base D θ b x rt.ctx.round k st cs w (lone (b.atR a (.inRegion ops (i::rest)::k)) cs w) r.1 r.2:=by
 have A:∀d,o.dst=B1 d->d<x:=by
  grind [pD,xP]
 rw[Wl s h1,qj]at h;have⟨q,hq,h⟩:=h;have l:=We hg e.ue hq;cases q with
 |false =>
  simp only[zo]at h;have⟨V,W,p3⟩:=IU (dst:=o.dst) A e.size e.ue (VR.undef (D:=D) (θ:=θ));rw[Z]at h;have hn:=z _ _ h;have E:=stepR_op_skip (P:=P) (b:=b) (a:=a) (k:=k) (cs:=cs) (w:=w) (ops:=ops) (i:=i) (rest:=rest) (by simp[ho,l]);rw[ho]at E;refine Out.after (.one E) (bA.refl D st.H θ w) rfl (fC.refl e.up) hn ?_;rw[Up.none];exact g D θ ⟨eD o.dst .undef st.tm,st.aY,st.up,st.H⟩ _ cs w ⟨e.heap,V,W,by rw[show(a.put ((B1 o).bind (·.dst)) undef).defers=a.defers from p3];exact e.aY,e.up,e.round⟩ h Q
 |true =>
  simp only[xu,qj]at h;have⟨vs,F,res,j,h⟩:=h;have⟨xs,U,C,B⟩:=Nh hP N;rw[h3]at F;rw[h4]at j;have hv:=Jg (a:=a) e.heap e.ue U F;have R:=Q_ O S C.mono j;have hle:res.heap.au<=r.2.H.au:=by
   cases res with
   |val v d u H'=>exact z _ _ h
   |panic c H' =>
    simp only[vA,qj,qk]at h;obtain⟨_,_,rfl⟩:=h;exact qm _
  have n:=Va hP t m M C B (rest:=rest) (k:=k) ho l e.heap e.aY e.up e.round hv j (Q.left hle);cases res with
  |val v d u H' =>
   have⟨θ',w',c,cs',ds,I,J,y,L,Y,g6,g7,g8⟩:=n;simp only[vA,Z]at h;have f:=y.ag;have⟨V,W,p3⟩:=IU (a:={a with defers:=ds}) (dst:=o.dst) A e.size (e.ue.up f Up.of) L;refine Out.after (df:=⟨eD o.dst v st.tm,d,u,H'⟩) I y g6 g8 hle ?_;exact g _ θ' _ _ cs' w' ⟨J,V,W,by grind,g7,zN.up f Up.of e.round⟩ h (Q.right R)
  |panic c H' =>
   have⟨θ',w',ps,todo,I,J,y,L,Y⟩:=n;simp only[vA,qj,qk]at h;obtain⟨ds,hds,rfl⟩:=h;have f:=y.ag;refine⟨θ',a,w',cs,.panic ps,⟨todo,C0 I⟩,⟨J,pX.forget ds (e.ue.up f Up.of),e.size,gY.up f Up.of e.aY,rF.up f Up.of e.up,zN.up f Up.of e.round⟩,y,⟨L,Y⟩,rfl,fC.refl e.up⟩
theorem Xk(e:dW P){ops:Array QI}{l:List (List bK×fG)}(hl:dt (ops.toList.map (gA P))=B1 l){safe:Nat->Option (List Nat)}{qs:List (Bool×Nat)}{steps:List aN}
 (h:dt (qs.map (i9 ops l safe))=B1 steps):∀s∈steps,dE s.op:=by
 intro s hs;have⟨i,f⟩:=Mc hs;have:=(zX h).2 i s f;rw[xp,xq]at this;have⟨q,_,j⟩:=this;obtain⟨o,a,g,ho,ha,_,rfl⟩:=Ni j;have:=(zX hl).2 _ a ha;rw[xp,xq]at this;have⟨o',_,c⟩:=this;have⟨xs,_,d,_⟩:=Nh e c;exact d.mono
def χ(A:dW P){rt:RT}(d:vy P base rt.call)(c:wG P base rt.round)(m:rt.AP=aX P)(e:pL rt.call)(j:Aq rt.round)
 {ops:Array QI} {t:Nat} (n:ops.toList.all (pD t)=B4) {l:List (List bK×fG)} (hl:dt (ops.toList.map (gA P))=B1 l) {b:OE} {k:List Item} {safe:Nat->Option (List Nat)} :
 ∀(todo:List Nat){steps:List aN},dt (todo.map λ i=>i9 ops l safe (B2,i))=B1 steps -> ∀{D:Nat->Prop}{θ:Th}{st:St}{a:Act}{cs:List OE}{w:MV}{r:aW×St},
  SR P base D θ b t rt.ctx.round st a cs w->(gZ steps).run rt st=B1 r->d9 D st.H.au r.2.H.au->Out P base D θ b t rt.ctx.round k st cs w (lone (b.atR a (.inRegion ops todo::k)) cs w) r.1 r.2
 |[],steps,hs,D,θ,st,a,cs,w,r,hS,h,hf=>by
  cases hs;cases h;refine⟨θ,a,w,cs,.normal,StepsIn.one trivial stepR_region_end,by grind [Up.none],bA.refl _ _ _ _,trivial,rfl,fC.refl hS.up⟩
 |i::todo,steps,hs,D,θ,st,a,cs,w,r,hS,h,hf=>by
  simp only[j6,dt,qj,qk]at hs;obtain⟨s,z,rest,q,rfl⟩:=hs;obtain⟨o,ca,g,ho,y,hg,rfl⟩:=Ni z;have v:gA P o=B1 ca:=by
   have:=(zX hl).2 _ ca y
   grind
  have p:pD t o=true:=by
   grind
  have f:∀s∈rest,dE s.op:=by
   have G:dt ((todo.map λ i=>(B2,i)).map (i9 ops l safe))=B1 rest:=by rw[wg];exact q
   grind [Xk]
  exact xi3 A d c m e j (K:=(gZ rest).run rt) ho v hg rfl rfl rfl rfl p hS (λ st r h=>xfb e j f h) h hf
   (λ E θ1 df F B w1 u C x=>χ A d c m e j n hl todo q u C x)
end
end Go.Am
namespace Go.Am
def Od(P:JL)(base:Nat)(rt:RT):Prop :=
 ∀(nt id:Nat)(ops:Array QI)(c:ai),iM P nt ops B4=B1 c -> ∀(D:Nat->Prop)θ(b:OE)k st a cs w r,SR P base D θ b nt rt.ctx.round st a cs w->(bH c).run rt st=B1 r ->
  d9 D st.H.au r.2.H.au->Out P base D θ b nt rt.ctx.round k st cs w (lone (b.atR a (.code (.region id ops B4)::k)) cs w) r.1 r.2
section
variable{P:JL}{base:Nat}
def xiq{d:Nat}{ops:Array QI}{c:ai}(h:iM P d ops B2=B1 c):∃l steps,ops.toList.all (pD d)=B4/\dt (ops.toList.map (gA P))=B1 l /\
 dt ((MT ops.size).map λ i=>i9 ops l (λ _=>B1 []) (B2,i))=B1 steps/\c=.region steps:=by
 unfold iM at h;split at h
 .rename_i e;simp only[qj]at h;have⟨l,hl,h⟩:=h;simp only[zm,wh,qj,qk]at h
  grind
 grind
theorem xe2(d:dW P){e:Nat}{ops:Array QI}{draw:Bool}{c:ai}(h:iM P e ops draw=B1 c):tX c:=by
 unfold iM at h;split at h
 .simp only[qj]at h;have⟨l,hl,h⟩:=h;split at h
  .rcases kw h with⟨_,h⟩|⟨_,h⟩
   .simp only[qj,qk]at h;obtain⟨steps,hs,rfl⟩:=h;exact Xk d hl hs
   .cases h;trivial
  .simp only[qj,qk]at h;obtain⟨steps,hs,rfl⟩:=h;exact Xk (safe:=λ _=>B1 []) (qs:=(MT ops.size).map λ i=>(B2,i)) d hl (by rw[wg];exact hs)
 grind
def vF(g:dW P){s:Nat}:∀(c:Code){kk:Nat}{ac:ai}{L:List dV},cq P s kk c=B1 (ac,L)->tX ac /\ ∀lp∈L,tX lp.assign/\tX lp.body
 | .skip,kk,ac,L,h=>by cases h;exact⟨trivial,by simp⟩
 | .region _ ops draw,kk,ac,L,h=>by
  grind [cq,qj,xe2]
 | .seq a b,kk,ac,L,h=>by
  simp only[cq,qj,qk,zh]at h;obtain⟨⟨x,m⟩,d,⟨y,q⟩,l,rfl,rfl⟩:=h;have⟨n,p⟩:=vF g a d;have⟨e,j⟩:=vF g b l;exact⟨⟨n,e⟩,λ lp hl=>by grind⟩
 | .cond c a b,kk,ac,L,h=>by
  simp only[cq,qj,qk,zh]at h;obtain⟨r,_,⟨x,m⟩,d,⟨y,q⟩,l,rfl,rfl⟩:=h;have⟨n,p⟩:=vF g a d;have⟨e,j⟩:=vF g b l;exact⟨⟨n,e⟩,λ lp hl=>by grind⟩
 | .block id b,kk,ac,L,h=>by
  simp only[cq,qj,qk,zh]at h;obtain⟨⟨x,m⟩,d,rfl,rfl⟩:=h;have⟨e,j⟩:=vF g b d;exact⟨e,j⟩
 | .loop b,kk,ac,L,h=>by
  simp only[cq,qj,qk,zh]at h;obtain⟨⟨x,m⟩,d,rfl,rfl⟩:=h;have⟨e,j⟩:=vF g b d;exact⟨e,j⟩
 | .rangeFunc f ps a b,kk,ac,L,h=>by
  simp only[cq,qj]at h;have⟨r,_,⟨x,m⟩,d,⟨y,q⟩,l,h⟩:=h;split at h
  .cases h;have⟨n,p⟩:=vF g a d;have⟨e,j⟩:=vF g b l;refine⟨trivial,λ lp hl=>?_⟩
   grind
  grind
 | .exit _,kk,ac,L,h=>by cases h;exact⟨trivial,by simp⟩
 | .scope b,kk,ac,L,h=>by
  simp only[cq,qj,qk,zh]at h;obtain⟨⟨x,m⟩,d,rfl,rfl⟩:=h;have⟨e,j⟩:=vF g b d;exact⟨e,j⟩
 | .label _,kk,ac,L,h=>by cases h;exact⟨trivial,by simp⟩
 | .goto _,kk,ac,L,h=>by cases h;exact⟨trivial,by simp⟩
 | .ret,kk,ac,L,h=>by cases h;exact⟨trivial,by simp⟩
 | .refuse _,kk,ac,L,h=>by cases h;exact⟨trivial,by simp⟩
def Y3(d:dW P):TD (aX P):=by
 intro f e h;simp only[aX,qj]at h;have⟨fn,_,h⟩:=h;simp only[uH,qj,qk]at h;obtain⟨b,_,⟨c,L⟩,hc,_,_,rfl⟩:=h;exact vF d b hc
def YS{r:Nat}:∀(c:Code){kk:Nat}{ac:ai}{L:List dV},cq P r kk c=B1 (ac,L) -> ∀l,FQ ac l=(findLabel c l).isSome
 | .skip,kk,ac,L,h,l=>by injection h with h;injection h with d g;subst d;rfl
 | .region _ ops draw,kk,ac,L,h,l=>by
  simp only[cq,qj,qk,zh]at h;obtain⟨c,hc,rfl,rfl⟩:=h;unfold iM at hc;split at hc
  .simp only[qj]at hc;have⟨l,hl,hc⟩:=hc;split at hc
   .rcases kw hc with⟨_,hc⟩|⟨_,hc⟩
    .simp only[qj,qk]at hc;obtain⟨_,_,rfl⟩:=hc;rfl
    .cases hc;rfl
   .simp only[qj,qk]at hc;obtain⟨_,_,rfl⟩:=hc;rfl
  grind
 | .seq a b,kk,ac,L,h,l=>by
  simp only[cq,qj,qk,zh]at h;obtain⟨⟨x,m⟩,j,⟨y,p⟩,n,rfl,rfl⟩:=h;have d:=YS a j l;have g:=YS b n l
  grind [FQ,findLabel]
 | .cond c a b,kk,ac,L,h,l=>by
  simp only[cq,qj,qk,zh]at h;obtain⟨q,_,⟨x,m⟩,j,⟨y,p⟩,n,rfl,rfl⟩:=h;rfl
 | .block id b,kk,ac,L,h,l=>by
  simp only[cq,qj,qk,zh]at h;obtain⟨⟨x,m⟩,j,rfl,rfl⟩:=h;rfl
 | .loop b,kk,ac,L,h,l=>by
  simp only[cq,qj,qk,zh]at h;obtain⟨⟨x,m⟩,j,rfl,rfl⟩:=h;rfl
 | .rangeFunc f ps a b,kk,ac,L,h,l=>by
  simp only[cq,qj]at h;have⟨q,_,⟨x,m⟩,j,⟨y,p⟩,n,h⟩:=h;split at h
  .injection h with h;injection h with d g;subst d;rfl
  grind
 | .exit _,kk,ac,L,h,l=>by injection h with h;injection h with d g;subst d;rfl
 | .scope b,kk,ac,L,h,l=>by
  simp only[cq,qj,qk,zh]at h;obtain⟨⟨x,m⟩,j,rfl,rfl⟩:=h;rfl
 | .label l',kk,ac,L,h,l=>by
  injection h with h;injection h with d g;subst d
  simp only[FQ,findLabel]
  by_cases e:l'=l
  .simp [e]
  .simp only[beq_iff_eq,e,wh,Nr]
   grind [jp]
 | .goto _,kk,ac,L,h,l=>by injection h with h;injection h with d g;subst d;rfl
 | .ret,kk,ac,L,h,l=>by injection h with h;injection h with d g;subst d;rfl
 | .refuse _,kk,ac,L,h,l=>by injection h with h;injection h with d g;subst d;rfl
def xai{b:OE}{a:Act}{body:Code}{k:List Item}{cs:List OE}{w:MV}:step P (lone (b.atR a (.inScope body::k)) cs w)=.next (lone (b.atR a k) cs w) :=
 step_lone_go (by simp[stepG,stepG.exec,CG])
def xfa{b:OE}{a:Act}{body:Code}{k:List Item}{cs:List OE}{w:MV}:step P (lone (b.atR a (.code (.scope body)::k)) cs w)=.next (lone (b.atR a (.code body::.inScope body::k)) cs w) :=
 step_lone_go (by simp[stepG,stepG.exec,CG])
def Out.pass{D:Nat->Prop}{θ:Th}{b:OE}{f:Nat}{rd:Option Nat}{x:Item}(s:x.plain=B4){k:List Item}{st:St}{cs:List OE}{w:MV}{m:Machine}{e:aW}{c:St}(he:Au e=B2)
 (h:Out P base D θ b f rd (x::k) st cs w m e c):Out P base D θ b f rd k st cs w m e c:=by
 have⟨θ',g,w',cs',e',j,l,n,d,p,r⟩:=h;refine⟨θ',g,w',cs',e',.pass s (λ _ _=>.inl ?_) j,l,n,d,p,r⟩;intro q;subst q;cases e<;>first|exact d.elim|cases he
def Out.here{D:Nat->Prop}{θ:Th}{b:OE}{c:Nat}{rd:Option Nat}{k:List Item}{st:St}{a:Act}{cs:List OE}{w:MV}{m:Machine}{e:aW}{e':Exit}(f:SR P base D θ b c rd st a cs w)
 (d:ArrivesIn oU P m b k cs e' a w) (g:Dw D θ e e'):Out P base D θ b c rd k st cs w m e st :=
 ⟨θ,a,w,cs,e',d,by grind [Up.none],bA.refl _ _ _ _,by grind [Up.none],rfl,fC.refl f.up⟩
def qtx{w:MV}(fn:FuncId)(tmps:Array Li)(c:Array Tmp)(as body:Code){l:Nat}{r:Loop}(h:w.heap[l]? = B1 (.loop r)) :
 (Instr.enterLoop fn tmps c as body (B1 l)).run P w=.ok (w.heap.size,[]) (w.alloc (.loop {state:=.ready,pending:=B5,fn,tmps,params:=c,assign:=as,body,defers:=r.defers})):=by
 simp_all[Instr.enterLoop,run_getLoop]
def q6g{d:Nat}{c:Code}{kk:Nat}{ac:ai}{L:List dV}(h:cq P d kk c=B1 (ac,L)){l:Nat}(hl:FQ ac l=B2):findLabel c l=none:=by
 rw[YS c h l]at hl
 simpa using hl
def qyu{b:OE}{a:Act}{k:List Item}{cs:List OE}{w:MV}(id:Nat):ArrivesIn oU P (lone (b.atR a (.code (.exit id)::k)) cs w) b k cs (.exit id) a w :=
 ⟨λ _ hk=>.one trivial (stepR_exit hk),λ _ hk=>⟨k,hk,.refl _⟩⟩
def P'{b:OE}{a:Act}{k:List Item}{cs:List OE}{w:MV}(l:Nat):ArrivesIn oU P (lone (b.atR a (.code (.goto l)::k)) cs w) b k cs (.goto l) a w :=
 ⟨λ _ hk=>.one trivial (stepR_goto hk),λ _ hk=>⟨k,hk,.refl _⟩⟩
def t6{b:OE}{a:Act}{k:List Item}{cs:List OE}{w:MV}:ArrivesIn oU P (lone (b.atR a (.code .ret::k)) cs w) b k cs .ret a w :=
 ⟨λ hn=>⟨_,.one trivial (stepR_ret hn)⟩,λ _=>⟨k,.refl _⟩⟩
def xbw{D:Nat->Prop}{θ:Th}{b:OE}{a:Act}{k:List Item}{cs:List OE}{w:MV}(p:Option ia):∃e',Dw D θ (qQ p) e' /\
 ArrivesIn oU P (lone (b.atR a (((p.map mT).map Item.code).toList++k)) cs w) b k cs e' a w:=by
 cases p with
 |none=>exact⟨.normal,trivial,.refl _⟩
 |some j =>
  cases j with
  |exit id=>exact⟨.exit id,rfl,qyu id⟩
  |goto l=>exact⟨.goto l,rfl,P' l⟩
  |ret=>exact⟨.ret,trivial,t6⟩
def o_{call:bZ}{round:iP}{ctx:Ctx}(L:vy P base call){D:Nat->Prop}{θ:Th}{b:OE}{nt:Nat}{st:St}{a:Act}{cs:List OE}{w:MV}{k:List Item}{H0:ar}{aY:List aK}{w0:MV}{mark:List Deferred}{d:Nat}
 (hP:dW P) {g:MS} {A:Array Tmp} {as body:Code} {kk:Nat} {v:AV} {r:aW×St} {θ0:Th}
 (h0:HR P base (Up D st.H.au H0.au) θ0 H0 w0) (g0:bA D st.H θ w H0 θ0 w0) (Q:st.H.au<=H0.au) (F:SR P base D θ b nt ctx.round st a cs w) (hv:VR D θ v (a.eval g)) (hd:Up D st.H.au H0.au d)
 (hdf:gY (Up D st.H.au H0.au) θ0 aY (mark++a.defers)) (N:vT P ctx.fn kk a.tmps.size A as body) (hfn:b.fn=ctx.fn)
 (he:(Instr.enterLoop b.fn a.tmps A as body b.roundOf).run P w=.ok (w0.heap.size,mark) (w0.alloc (.loop {state:=.ready,pending:=B5,fn:=b.fn,tmps:=a.tmps,params:=A,assign:=as,body,defers:=θ0.b9 d})))
 (hr:iZ call round ctx st kk H0 aY d v=B1 r) (hf:d9 D st.H.au r.2.H.au) (hm:pL call) :
 Out P base D θ b nt ctx.round k st cs w (lone (b.atR a (.code (.rangeFunc g A as body)::k)) cs w) r.1 r.2:=by
 unfold iZ at hr;split at hr
 .rename_i f first cap
  simp only[cV,yi,qr,qj]at hr;have⟨⟨e,u,H'⟩,hcl,hr⟩:=hr;have O:H0.au+1<=H'.au:=(hm _ _ _ _ _ _ _ hcl).1;have hrn:r.2.H.au=H'.au/\r.2.aY=aY/\r.2.tm=st.tm/\r.2.up=st.up:=by
   unfold NC at hr;split at hr
   .grind
   .split at hr
    .cases hr
    .cases hr;exact⟨rfl,rfl,rfl,rfl⟩
    grind
  rw[hrn.1]at hf;have hn:¬Up D st.H.au H0.au H0.au:=λ q=>by
   rcases q with q|⟨_,q⟩
   .exact hf _ Q (by omega) q
   .omega
  -- the record
  have Y:=g0.ag;have G:=Th.hC θ0 H0.au w0.heap.size 0 0 hn;have⟨e1,e2,e3⟩:=Th.eK θ0 H0.au w0.heap.size 0 0;have m:∀x,D x->Up (Up D st.H.au H0.au) H0.au (H0.au+1) x:=λ x z=>.inl (.inl z);have V:Up (Up D st.H.au H0.au) H0.au (H0.au+1) H0.au:=.inr ⟨qm _,zp _⟩;have n:Ag D θ (θ0.add H0.au w0.heap.size 0 0):=Y.trans G (λ x z=>.inl z);have hR:oX P (Up (Up D st.H.au H0.au) H0.au (H0.au+1)) (θ0.add H0.au w0.heap.size 0 0) H0.au (.loop .ready B5 ctx.fn kk st.tm d)
   (.loop {state:=.ready,pending:=B5,fn:=b.fn,tmps:=a.tmps,params:=A,assign:=as,body,defers:=θ0.b9 d}) :=
   ⟨_,rfl,rfl,rfl,hfn,F.ue.up n m,N,.inl hd,((G d hd).1).symm⟩
  have h1:=h0.alloc hn (w':=w0.alloc (.loop {state:=.ready,pending:=B5,fn:=b.fn,tmps:=a.tmps,params:=A,assign:=as,body,defers:=θ0.b9 d})) (co:=.loop {state:=.ready,pending:=B5,fn:=b.fn,tmps:=a.tmps,params:=A,assign:=as,body,defers:=θ0.b9 d}) (k:=w0.heap.size) (off:=0) (ext:=0) (by rw[B6];simp)
   (by simp_all[B6,J7]) (qm _) (by simp) hR
  have g1:=bA.alloc (base:=base) h0 hn (.loop .ready B5 ctx.fn kk st.tm d) (.loop {state:=.ready,pending:=B5,fn:=b.fn,tmps:=a.tmps,params:=A,assign:=as,body,defers:=θ0.b9 d}) 0 0
  -- the call
  have⟨fi,ci,q3,q4,q5,q6⟩:=T6 hv;have I:bL (Up (Up D st.H.au H0.au) H0.au (H0.au+1)) (θ0.add H0.au w0.heap.size 0 0) (first++(.fn (.yield H0.au) [] []::cap)) ((fi.toArray ++ #[Li.func (.yield w0.heap.size) #[] #[]])++ci.toArray).toList:=by
   simp only[Array.toList_append,yf];refine(q4.up n m).app (.cons (λ θ'' h''=>?_) (q5.up n m));simp only[az,fJ,bT];rw[(h'' _ V).1,e1]
  have⟨⟨fn,c,k1,k2⟩,θ',w',cs',fr,e',s1,s2,s3,s4,S,s6,s7,s8,s9,s10⟩:=L _ _ _ _ f _ ((fi.toArray ++ #[Li.func (.yield w0.heap.size) #[] #[]])++ci.toArray) B5 H' e u .normal
   (b.atR {a with defers:=mark++a.defers} (.inRangeFunc w0.heap.size::k)::cs) h1 I rfl hcl (λ x h3 h4 U=>by
    rw[Up.up Q (jy _)]at U;rcases U with U|⟨_,U⟩
    .exact hf x (by have:H0.au+1<=x:=h3;omega) h4 U
    .have:H0.au+1<=x:=h3;omega)
  have hcs:cs'=b.atR {a with defers:=mark++a.defers} (.inRangeFunc w0.heap.size::k)::cs:=s9;subst hcs;have t:=stepR_rangeFunc (P:=P) (b:=b) (a:=a) (k:=k) (cs:=cs) (w:=w) (g:=g) (l:=w0.heap.size) (d:={target:=.fn (.func f) ci.toArray,args:=fi.toArray ++ #[Li.func (.yield w0.heap.size) #[] #[]]}) he
   (by
   show(Bj (a.eval g) (#[MS.const (.func (.yield w0.heap.size) #[] #[])].map a.eval)).run P _=_;rw[q3];simp[Bj,fJ,Act.eval];rfl) (by
    show(callFunc f (_++ci.toArray)).run P _=_;exact Rv hP k1 k2)
  have hl:=Te s4 s2;have hupa:Up (Up (Up D st.H.au H0.au) H0.au (H0.au+1)) (H0.au+1) H'.au=Up D st.H.au H'.au:=by
   rw[Up.up (jy _) O,Up.up Q (by omega)]
  have y:(H0.alloc (.loop .ready B5 ctx.fn kk st.tm d)).au=H0.au+1:=rfl;rw[y,hupa]at S s6 s10;have h:bA D st.H θ w H' θ' w':=(g0.trans g1 Up.of).trans s7 m;have W:∀x,Up D st.H.au H0.au x->Up D st.H.au H'.au x:=λ x z=>by
   rcases z with z|⟨h1,h2⟩
   .exact .inl z
   .exact .inr ⟨h1,by omega⟩
  have Z:Ag (Up D st.H.au H0.au) θ0 θ':=G.trans s7.ag (λ x z=>.inl z);have X:∀(E:ar)(R:MV),HR P base (Up D st.H.au H'.au) θ' E R->SR P base (Up D st.H.au H'.au) θ' b nt ctx.round {st with aY:=aY,H:=E} {a with defers:=mark++a.defers} cs R:=λ E R hh =>
   ⟨hh,F.ue.up h.ag Up.of,F.size,gY.up Z W hdf,rF.up h.ag Up.of F.up,zN.up h.ag Up.of F.round⟩
  unfold NC at hr;cases e with
  |panic ch =>
   cases hr;cases e' with
   |returned _=>exact S.elim
   |outgrown=>exact S.elim
   |panicked ps' =>
    refine⟨θ',_,w',cs,.panic ps',⟨.inRangeFunc w0.heap.size::k,C0 (.head t (s1.trans (.one (by rw[step_leave_panicked hl,Ch]))))⟩,X _ _ s6,h,S,rfl,fC.refl F.up⟩
  |ret x =>
   cases e' with
   |panicked _=>exact S.elim
   |outgrown=>exact S.elim
   |returned cx =>
    have J:Steps P (lone (b.atR a (.code (.rangeFunc g A as body)::k)) cs w) (lone (b.atR {a with defers:=mark++a.defers} (.endRangeFunc w0.heap.size::k)) cs w'):=by
     exact .head t (s1.trans (.one (by rw[step_leave_returned hl,finish_atR_inRangeFunc])))
    simp only at hr;split at hr
    .cases hr
    .rename_i ls p f2 k2' tm2 d2 hnb j;cases hr;obtain⟨hDl',co,hco,rl,rfl,r1,r2,r3,r4,r5,r6,r7⟩:=s6.obj _ _ j;have s:θ'.b9 H0.au=w0.heap.size:=by rw[(s7.ag _ V).1,e1]
     rw[s]at hco;have K:rl.state≠ .busy:=by
      intro q;rw[r1]at q;cases ls with
      |busy=>grind
      |ready=>cases q
      |done=>cases q
      |exhausted=>cases q
     have hend:=run_endLoop (P:=P) hco K;have M:=stepR_endRangeFunc (b:=b) (a:={a with defers:=mark++a.defers}) (k:=k) (cs:=cs) hend;have C:=s6.set (o':=.loop .exhausted p f2 k2' tm2 d2) (co':=.loop {rl with state:=.exhausted}) j rfl rfl ⟨_,rfl,rfl,r2,r3,r4,r5,r6,r7⟩;rw[s]at C;have B:bA (Up D st.H.au H'.au) H' θ' w' (H'.set H0.au (.loop .exhausted p f2 k2' tm2 d2)) θ' (fy w' (θ'.b9 H0.au) (.loop {rl with state:=.exhausted})):=bA.set j rfl (s6.lt j);rw[s]at B;have⟨e'',k3,k4⟩:=xbw (P:=P) (D:=Up D st.H.au H'.au) (θ:=θ') (b:=b) (a:={a with defers:=mark++a.defers}) (k:=k) (cs:=cs) (w:=fy w' w0.heap.size (.loop {rl with state:=.exhausted})) p;rw[<-r2]at k4;exact⟨θ',_,_,cs,e'',.of_steps (C0 (J.trans (.one M))) k4,X _ _ C,h.trans B Up.of,k3,rfl,fC.refl F.up⟩
    grind
 grind
def Out.normal{D:Nat->Prop}{θ:Th}{b:OE}{e:Nat}{rd:Option Nat}{k:List Item}{st:St}{cs:List OE}{w:MV}{m:Machine}{c:St}(h:Out P base D θ b e rd k st cs w m .normal c) :
 ∃θ' d w' cs',Steps P m (lone (b.atR d k) cs' w')/\SR P base (Up D st.H.au c.H.au) θ' b e rd c d cs' w'/\bA D st.H θ w c.H θ' w'/\c.up.isSome=st.up.isSome/\fC st.up cs cs':=by
 have⟨θ',d,w',cs',e',f,g,j,l,n,p⟩:=h;cases e'<;>first|exact⟨θ',d,w',cs',Be f,g,j,n,p⟩|exact l.elim
def Out.head{D:Nat->Prop}{θ:Th}{b:OE}{f:Nat}{rd:Option Nat}{k:List Item}{st:St}{cs:List OE}{w:MV}{m d:Machine}{e:aW}{c:St}(hs:step P m=.next d)
 (h:Out P base D θ b f rd k st cs w d e c):Out P base D θ b f rd k st cs w m e c:=by
 have⟨θ',g,w',cs',e',j,l,n,p,q,r⟩:=h;exact⟨θ',g,w',cs',e',.of_steps (StepsIn.one trivial hs) j,l,n,p,q,r⟩
def qsx(id c:Nat)(k:List Item):exitTo c (.inBlock id::k)=if id=c then B1 k else exitTo c k:=by
 simp[exitTo]
def NG{α:Type}(a b:List α)(i:Nat):nth (a++b) i=if i<a.length then nth a i else nth b (i-a.length):=by
 grind [lC]
set_option maxHeartbeats 1000000 in
def AR(R:dW P){rt:RT}(m:vy P base rt.call)(f:wG P base rt.round)(I:rt.AP=aX P)(z:pL rt.call)(C:Aq rt.round)(t:Od P base rt)
 {fn:Func} {af:bW} (K:P.funcs[rt.ctx.fn]? = B1 fn) (J:uH P fn=B1 af):∀(c:Code){kk:Nat}{ac:ai}{L:List dV},cq P fn.ntmps kk c=B1 (ac,L)->(∀i l,nth L i=B1 l->nth af.loops (kk+i)=B1 l) ->
 ∀{D:Nat->Prop}{θ:Th}{b:OE}{k:List Item}{st:St}{a:Act}{cs:List OE}{w:MV}{r:aW×St},SR P base D θ b fn.ntmps rt.ctx.round st a cs w->b.fn=rt.ctx.fn->(bH ac).run rt st=B1 r ->
  d9 D st.H.au r.2.H.au->Out P base D θ b fn.ntmps rt.ctx.round k st cs w (lone (b.atR a (.code c::k)) cs w) r.1 r.2
 | .skip,kk,ac,L,h,hL,D,θ,b,k,st,a,cs,w,r,s,hb,hr,B=>by
  injection h with h;injection h with u E;subst u
  injection hr with hr;subst hr
  exact .here s (e':=.normal) (StepsIn.one trivial stepR_skip) trivial
 | .label _,kk,ac,L,h,hL,D,θ,b,k,st,a,cs,w,r,s,hb,hr,B=>by
  injection h with h;injection h with u E;subst u
  injection hr with hr;subst hr
  exact .here s (e':=.normal) (StepsIn.one trivial stepR_label) trivial
 | .exit id,kk,ac,L,h,hL,D,θ,b,k,st,a,cs,w,r,s,hb,hr,B=>by
  injection h with h;injection h with u E;subst u
  injection hr with hr;subst hr
  exact .here s (qyu id) rfl
 | .goto l,kk,ac,L,h,hL,D,θ,b,k,st,a,cs,w,r,s,hb,hr,B=>by
  injection h with h;injection h with u E;subst u
  injection hr with hr;subst hr
  exact .here s (P' l) rfl
 | .ret,kk,ac,L,h,hL,D,θ,b,k,st,a,cs,w,r,s,hb,hr,B=>by
  injection h with h;injection h with u E;subst u
  injection hr with hr;subst hr
  exact .here s t6 trivial
 | .refuse _,kk,ac,L,h,hL,D,θ,b,k,st,a,cs,w,r,s,hb,hr,B=>by
  injection h with h;injection h with u E;subst u
  cases hr
 | .region id ops draw,kk,ac,L,h,hL,D,θ,b,k,st,a,cs,w,r,s,hb,hr,B=>by
  simp only[cq,qj,qk,zh]at h;obtain⟨c,hc,rfl,rfl⟩:=h;cases draw with
  |false =>
   obtain⟨l,steps,u,E,N,rfl⟩:=xiq hc;exact .head stepR_region (χ R m f I z C u E _ N s hr B)
  |true=>exact t _ id ops c hc D θ b k st a cs w r s hr B
 | .seq x y,kk,ac,L,h,hL,D,θ,b,k,st,a,cs,w,r,s,hb,hr,B=>by
  simp only[cq,qj,qk,zh]at h;obtain⟨⟨ax,M⟩,G,⟨ay,ly⟩,hy,rfl,rfl⟩:=h;simp only[bH,qj]at hr;obtain⟨⟨e,df⟩,V,hr⟩:=hr;have hmy:=(vF R y hy).1;have X:=Nm z C (vF R x G).1 V;have W:∀i l,nth M i=B1 l->nth af.loops (kk+i)=B1 l:=λ i l hl=>hL i l (by
   rw[NG,xg]
   .exact hl
   .rw [lC]at hl;exact(qt.1 hl).1)
  have hLy:∀i l,nth ly i=B1 l->nth af.loops (kk+M.length+i)=B1 l:=λ i l hl=>by
   rw[zZ];exact hL (M.length+i) l (by
    show nth (M++ly) (M.length+i)=_;rw[NG,qv (by omega),NU];exact hl)
  refine .head stepR_seq ?_
  by_cases he:e=.normal
  .subst he;simp only[uR]at hr;have A:=Nm z C hmy hr;obtain⟨θ',Q,w',cs',u,E,N,F,O⟩:=(AR R m f I z C t K J x G W (k:=.code y::k) s hb V (B.left A)).normal;exact Out.after u N F O A (AR R m f I z C t K J y hy hLy E hb hr (B.right X))
  .have hn:Au e=false:=by cases e<;>first|rfl|exact absurd rfl he
   have hr':r=(e,df):=by
    cases e<;>first|exact absurd rfl he|(injection hr with hr;exact hr.symm)
   subst hr';exact Out.pass (x:=.code y) rfl hn (AR R m f I z C t K J x G W s hb V B)
 | .cond c x y,kk,ac,L,h,hL,D,θ,b,k,st,a,cs,w,r,s,hb,hr,B=>by
  simp only[cq,qj,qk,zh]at h;obtain⟨cc,hcc,⟨ax,M⟩,G,⟨ay,ly⟩,hy,rfl,rfl⟩:=h;simp only[bH,qj]at hr;obtain⟨v,hv,hr⟩:=hr;rw[Jd]at hv;have hvr:=BS (a:=a) s.heap s.ue hcc hv;have W:∀i l,nth M i=B1 l->nth af.loops (kk+i)=B1 l:=λ i l hl=>hL i l (by
   rw[NG,xg]
   .exact hl
   .rw [lC]at hl;exact(qt.1 hl).1)
  have hLy:∀i l,nth ly i=B1 l->nth af.loops (kk+M.length+i)=B1 l:=λ i l hl=>by
   rw[zZ];exact hL (M.length+i) l (by
    show nth (M++ly) (M.length+i)=_;rw[NG,qv (by omega),NU];exact hl)
  unfold uh at hr;split at hr
  .rename_i q;refine .head (stepR_cond hvr.now.symm) ?_;cases q with
   |true=>exact AR R m f I z C t K J x G W s hb hr B
   |false=>exact AR R m f I z C t K J y hy hLy s hb hr B
  .cases hr
 | .block id x,kk,ac,L,h,hL,D,θ,b,k,st,a,cs,w,r,s,hb,hr,B=>by
  simp only[cq,qj,qk,zh]at h;obtain⟨⟨ax,M⟩,G,rfl,rfl⟩:=h;simp only[bH,qj]at hr;obtain⟨⟨e,df⟩,V,hr⟩:=hr;have Z:r.2=df:=by
   unfold kG at hr;split at hr<;>(injection hr with hr;subst hr;rfl)
  obtain⟨θ',Q,w',cs',e',u,E,N,F,O,S⟩:=AR R m f I z C t K J x G hL (k:=.inBlock id::k) s hb V (Z▸B);refine .head stepR_block ?_;rw[Z];unfold kG at hr;cases e with
  |normal =>
   injection hr with hr;subst hr
   cases e'<;>try exact F.elim
   exact⟨θ',Q,w',cs',.normal,StepsIn.trans u (.one trivial stepR_inBlock),E,N,trivial,O,S⟩
  |exit id' =>
   injection hr with hr;subst hr
   cases e'<;>try exact F.elim
   rename_i j;have F:j=id':=F;subst F;cases hbq:I6 id j with
   |true =>
    simp only[jp]at hbq;subst hbq;exact⟨θ',Q,w',cs',.normal,u.1 k (by rw[qsx,xg rfl]),E,N,trivial,O,S⟩
   |false =>
    have hne:¬id=j:=by intro q;subst q;simp at hbq
    have G:exitTo j (.inBlock id::k)=exitTo j k:=by rw[qsx,qv hne]
    exact⟨θ',Q,w',cs',.exit j,⟨λ k' hk=>u.1 k' (by rw[G];exact hk),λ hr hk=>u.2 hr (by rw[G];exact hk)⟩,E,N,rfl,O,S⟩
  |goto l =>
   injection hr with hr;subst hr
   cases e'<;>try exact F.elim
   rename_i j;have G:gotoIn j (.inBlock id::k)=gotoIn j k:=rfl;exact⟨θ',Q,w',cs',.goto j,⟨λ k' hk=>u.1 k' (by rw[G];exact hk),λ hr hk=>u.2 hr (by rw[G];exact hk)⟩,E,N,F,O,S⟩
  |ret =>
   injection hr with hr;subst hr
   cases e'<;>try exact F.elim
   exact⟨θ',Q,w',cs',.ret,u,E,N,trivial,O,S⟩
  |panic ch =>
   injection hr with hr;subst hr
   cases e'<;>try exact F.elim
   rename_i ps;exact⟨θ',Q,w',cs',.panic ps,u,E,N,F,O,S⟩
 | .scope x,kk,ac,L,h,hL,D,θ,b,k,st,a,cs,w,r,s,hb,hr,B=>by
  simp only[cq,qj,qk,zh]at h;obtain⟨⟨ax,M⟩,G,rfl,rfl⟩:=h;simp only[bH,qj]at hr;obtain⟨⟨e,df⟩,V,hr⟩:=hr;have Z:r=(e,df) /\ ∀l,e=.goto l->FQ ax l=false:=by
   unfold lH at hr;split at hr
   .rename_i l he;simp only at he;rcases kw hr with⟨_,hr⟩|⟨hl,hr⟩
    .cases hr
    .injection hr with hr;subst he;exact⟨hr.symm,λ l' h'=>by injection h' with h';subst h';exact hl⟩
   .rename_i hne;injection hr with hr;exact⟨hr.symm,λ l' h'=>(hne l' h').elim⟩
  obtain⟨rfl,hlab⟩:=Z;obtain⟨θ',Q,w',cs',e',u,E,N,F,O,S⟩:=AR R m f I z C t K J x G hL (k:=.inScope x::k) s hb V B;refine .head xfa ?_;cases e with
  |normal =>
   cases e'<;>try exact F.elim
   exact⟨θ',Q,w',cs',.normal,StepsIn.trans u (.one trivial xai),E,N,trivial,O,S⟩
  |exit id' =>
   cases e'<;>try exact F.elim
   rename_i j;have G:exitTo j (.inScope x::k)=exitTo j k:=rfl;exact⟨θ',Q,w',cs',.exit j,⟨λ k' hk=>u.1 k' (by rw[G];exact hk),λ hr hk=>u.2 hr (by rw[G];exact hk)⟩,E,N,F,O,S⟩
  |goto l =>
   cases e'<;>try exact F.elim
   rename_i j;have F:j=l:=F;subst F;have hfl:=q6g G (hlab j rfl);have hg:gotoIn j (.inScope x::k)=gotoIn j k:=by simp[gotoIn,hfl]
   exact⟨θ',Q,w',cs',.goto j,⟨λ k' hk=>u.1 k' (by rw[hg];exact hk),λ hr hk=>u.2 hr (by rw[hg];exact hk)⟩,E,N,rfl,O,S⟩
  |ret =>
   cases e'<;>try exact F.elim
   exact⟨θ',Q,w',cs',.ret,u,E,N,trivial,O,S⟩
  |panic ch =>
   cases e'<;>try exact F.elim
   rename_i ps;exact⟨θ',Q,w',cs',.panic ps,u,E,N,F,O,S⟩
 | .loop x,kk,ac,L,h,hL,D,θ,b,k,st,a,cs,w,r,s,hb,hr,B=>by
  simp only[cq,qj,qk,zh]at h;obtain⟨⟨ax,M⟩,G,rfl,rfl⟩:=h;simp only[bH]at hr;refine .head stepR_loop ?_;have X:=(vF R x G).1;have key:∀(n:Nat)(D:Nat->Prop)(θ:Th)(st:St)(a:Act)(cs:List OE)(w:MV)(r:aW×St),SR P base D θ b fn.ntmps rt.ctx.round st a cs w->gO B5 ((bH ax).run rt) n st=B1 r->d9 D st.H.au r.2.H.au ->
   Out P base D θ b fn.ntmps rt.ctx.round k st cs w (lone (b.atR a (.code x::.inLoop x::k)) cs w) r.1 r.2:=by
   intro n
   induction n with
   |zero=>intro D θ st a cs w r _ hr _;cases hr
   |succ n ih =>
    intro D θ st a cs w r s hr B;simp only[gO,qj]at hr;obtain⟨⟨e,df⟩,V,hr⟩:=hr;have hm1:=Nm z C X V
    by_cases he:e=.normal
    .subst he;simp only at hr;have A:=xh8 (λ st r h=>AX z C X h) B5 n _ _ hr;obtain⟨θ',Q,w',cs',u,E,N,F,O⟩:=(AR R m f I z C t K J x G hL (k:=.inLoop x::k) s hb V (B.left A)).normal;exact Out.after (u.trans (.one stepR_inLoop)) N F O A (ih _ θ' df Q cs' w' r E hr (B.right hm1))
    .have hn:Au e=false:=by cases e<;>first|rfl|exact absurd rfl he
     have hr':r=(e,df):=by
      cases e<;>first|exact absurd rfl he|(injection hr with hr;exact hr.symm)
     subst hr';exact Out.pass (x:=.inLoop x) rfl hn (AR R m f I z C t K J x G hL s hb V B)
  exact key _ D θ st a cs w r s hr B
 | .rangeFunc g ps x y,kk,ac,L,h,hL,D,θ,b,k,st,a,cs,w,r,s,hb,hr,B=>by
  simp only[cq,qj]at h;obtain⟨cg,hcg,⟨ax,M⟩,G,⟨ay,ly⟩,hy,h⟩:=h;split at h
  .rename_i Y;have Y:∀p∈ps.toList,p<fn.ntmps:=λ p hp=>by
    rw[Gw]at Y
    simpa[xP]using Y p hp
   injection h with h;injection h with u E;subst u;subst E
   simp only[bH,qj]at hr;obtain⟨v,hv,hr⟩:=hr;rw[Jd]at hv;have hvr:=BS (a:=a) s.heap s.ue hcg hv;have U:vT P rt.ctx.fn kk a.tmps.size ps x y:=by
    refine⟨fn,af,_,kk+1,kk+1+M.length,M,ly,K,J,hL 0 _ rfl,rfl,Y,s.size,G,λ i l hl=>?_,hy,λ i l hl=>?_⟩
    .rw [zZ];refine hL (1+i) l ?_;rw[Nat.add_comm 1 i,lC,jo,<-lC,NG,xg]
     .exact hl
     .rw [lC]at hl;exact(qt.1 hl).1
    .rw [zZ,zZ];refine hL (1+(M.length+i)) l ?_;rw[Nat.add_comm 1 _,lC,jo,<-lC];show nth (M++ly) (M.length+i)=_;rw[NG,qv (by omega),NU];exact hl
   unfold rN at hr;split at hr
   .rename_i hnone;have hro:b.roundOf=none:=by have:=s.round;rw[hnone]at this;exact this
    have A:st.H.au+1<=r.2.H.au:=by
     have:(st.H.alloc (.deferred (B1 []))).au<=r.2.H.au:=xe0 (st:={st with H:=st.H.alloc (.deferred (B1 []))}) z (Ext.refl _) hr;exact this
    have hn:¬D st.H.au:=B _ (qm _) A;have hag:=Th.hC θ st.H.au w.heap.size 0 0 hn;obtain⟨e1,e2,e3⟩:=Th.eK θ st.H.au w.heap.size 0 0;have hDn:Up D st.H.au (st.H.au+1) st.H.au:=.inr ⟨qm _,zp _⟩;have h0:=s.heap.alloc hn (w':=w.alloc (.deferred (B1 []))) (co:=.deferred (B1 [])) (o:=.deferred (B1 [])) (k:=w.heap.size) (off:=0) (ext:=0) (by rw[B6];simp)
     (λ j hj=>by rw[B6,qv (J7 hj)]) (qm _) (by simp) ⟨B1 [],rfl,rfl,rfl⟩
    have g0:=bA.alloc (base:=base) s.heap hn (.deferred (B1 [])) (.deferred (B1 [])) 0 0;refine o_ m R (H0:=st.H.alloc (.deferred (B1 []))) (aY:=.jD st.H.au::st.aY) (d:=st.H.au) (mark:=[{target:=.collected w.heap.size,args:=#[]}]) h0 g0 (jy _) s hvr hDn ⟨⟨hDn,by rw[e1]⟩,gY.up hag Up.of s.aY⟩ U hb ?_ hr B z;rw[hro,run_enterLoop_outer,e1];simp
   .rename_i l hl;simp only[qj]at hr;obtain⟨d,hd,hr⟩:=hr;unfold C2 at hd;split at hd
    .rename_i f2 k2 tm2 d2 hget;injection hd with hd;subst hd
     obtain⟨hDl,co,hco,rl,rfl,r1,r2,r3,r4,r5,r6,r7⟩:=s.heap.obj _ _ hget;have hro:b.roundOf=B1 (θ.b9 l):=by have:=s.round;rw[hl]at this;exact this.2
     refine o_ m R (mark:=[]) (d:=d2) (by rw[Up.none];exact s.heap) (bA.refl _ _ _ _) (qm _) s hvr (by rw[Up.none];exact r6) (by rw[Up.none];exact s.aY) U hb ?_ hr B z;rw[hro,qtx _ _ _ _ _ hco,r7]
    .cases hd
  .cases h
end
end Go.Am
