import Derived.Test.YtgjdmncoonceaaaGreatDoorAmEZa
import Derived.Deep.Upon
import Derived.Lib.UnsafeStr
import Derived.Defers
import Derived.RangeFuncRecord
import Derived.ControlIn
import Derived.RangeFuncIn
set_option linter.defProp false
set_option linter.unusedVariables false
set_option linter.unusedSimpArgs false
open Bool renaming false→B2,true→B4
open Go renaming Frame→Nd,MapEntry→Bo,Oper→Pt,Operand→M6,Program→Jg,TypeId→Ku,Value→Kl,World→N7
open Go.Addr.mk renaming injEq→C5
open Go.Builtin renaming append_→Bz,clear_→Cn,firstCells→CU,zeroCells→BZ
open Go.Deferred renaming ofValue→Bk
open Go.Frame renaming atR→CK,raise_atR→Ch
open Go.Instr renaming sameBits→Bm,sureAddr→CE
open Go.Oper renaming semAt_eq→Br
open Go.Region renaming wanted→B9
open Go.Result renaming andThen_ok→N9
open Go.Sem renaming run_bind→Nc,run_pure→B7
open Go.StepsIn renaming of_steps→Bw,steps→Bh
open Go.Value.slice renaming injEq→Bf
open Go.stepG renaming apply→CJ
open List renaming range→N2,replicate→I5
open Nat renaming beq→I4,ble→Nz,blt→Oz
open Option renaming none→B5,some→B1
open Prod.mk renaming inj→Cy
namespace Go.Am
def sR(P:Jg)(o:Pt)(xs:List M6)(f:List AV->ar->Option (AV×ar)):Prop :=
 ∀base(D:Nat->Prop)θ H(ρ:M6->Kl)w vs v H',HR P base D θ H w->bP D θ vs (xs.map ρ)->f vs H=B1 (v,H')->eE D H.au H'.au ->
  ∃θ' w' c,sH P (execOp ρ o) w c w'/\HR P base (Up D H.au H'.au) θ' H' w'/\bG D H θ w H' θ' w'/\VR (Up D H.au H'.au) θ' v c
section
variable{P:Jg}{base:Nat}{D:Nat->Prop}{θ:Th}{H:ar}{w:N7}
def xeb{fz:Nat×Nat}{o n:Nat}(h:dD fz o n=B4):∀j,j<n -> ¬(fz.1<=o+j/\o+j<fz.2):=by
 intro j c;unfold dD at h;simp only[Hj,uo]at h;omega
def xdg(pre cs post new:List Kl)(o:Nat)(h:o+new.length<=cs.length) :
 ((pre++cs++post).toArray.toList.take (pre.length+o)++new++(pre++cs++post).toArray.toList.drop (pre.length+o+new.length))=pre++(cs.take o++new++cs.drop (o+new.length))++post:=by
 have e1:(pre++cs++post).take (pre.length+o)=pre++cs.take o:=by
  rw[yd,Qu,Qu];have:pre.length+o-pre.length-cs.length=0:=by omega
  simp_all[zd]
 have e2:(pre++cs++post).drop (pre.length+o+new.length)=cs.drop (o+new.length)++post:=by
  grind [G2,List.drop_of_length_le]
 grind
theorem HR.store(r:HR P base D θ H w){b o:Nat}{new:List AV}{cs:List Kl}{H':ar}(v:bP D θ new cs)(h:H.store b o new=B1 H') :
 ∃w',(storeCells ⟨θ.ct b,θ.off b+o,B5⟩ cs).run P w=.ok () w'/\HR P base D θ H' w'/\bG D H θ w H' θ w'/\H'.au=H.au:=by
 unfold ar.store at h;cases n:aN new with
 |false=>grind
 |true =>
  rw[n]at h;simp only[xt]at h;have y:=_p v n;have hlen:=v.length;split at h
  .rename_i c e fz hg;obtain⟨E,co,hc,hr⟩:=r.obj b _ hg;obtain⟨pre,d,post,p,G,rfl,l,q,z⟩:=hr;obtain⟨rfl,rfl,rfl,t⟩:=z rfl;have x:=q.length;cases u:dD fz o (cR new)with
   |false=>grind
   |true =>
    rw[u]at h;simp only[xt,AF]at h;split at h
    .rename_i hle;simp only[qr,qk]at h;subst h;have f:=xeb u;rw[HC]at f;have g:=Sy (P:=P) (θ.off b+o) cs 0 _ w hc (by grind) (λ j L=>by
      have:=f j (by omega);simp only[jo]at l;rcases t with t|⟨I,J⟩<;>omega) y
     rw[Ae,<-l,xdg [] d [] cs o (by omega)]at g;rw[<-l];refine⟨_,g,?_,?_,rfl⟩
     .refine r.set hg rfl rfl ⟨[],d.take o++cs++d.drop (o+cs.length),[],p,_,rfl,l,?_,λ _=>(by grind)⟩;rw[hlen];exact((q.take o).app v).app (q.drop _)
     .exact bG.set hg rfl (r.lt hg)
    grind
  .rename_i m s c e fz hg;obtain⟨E,co,hc,hr⟩:=r.obj b _ hg;obtain⟨pre,d,post,p,rfl,l,q,z,A,B,C,K⟩:=hr;have x:=q.length;cases u:dD fz o (cR new)with
   |false=>grind
   |true =>
    rw[u]at h;simp only[xt,AF]at h;split at h
    .rename_i hle;simp only[qr,qk]at h;subst h;have f:=xeb u;rw[HC]at f;have g:=Sy (P:=P) (θ.off b+o) cs 0 _ w hc (by grind) (by grind [JQ]) y;rw[Ae,<-l,xdg pre d post cs o (by omega)]at g;rw[<-l];refine⟨_,g,?_,?_,rfl⟩
     .have F:(d.take o++cs++d.drop (o+cs.length)).length=d.length:=by grind
      refine r.set hg rfl rfl ⟨pre,d.take o++cs++d.drop (o+cs.length),post,p,rfl,l,?_,?_,A,B,C,?_⟩
      .rw [hlen];exact((q.take o).app v).app (q.drop _)
      .grind
      grind
     .exact bG.set hg rfl (r.lt hg)
    grind
  grind
def xl1{o:Pt}{t:Ku}{x y:M6}{n:Nat}(ho:o.op=.store t x y)(hs:bW P t=B1 n):sR P o [x,y] (Op.store n):=by
 intro base D θ H ρ w vs v H' l h c j;unfold Op.store at c;split at c
 .rename_i b off a;obtain⟨q,r,he,ha,hb⟩:=h.qV;simp only[z4,ug]at he;obtain⟨rfl,rfl⟩:=he;cases hn:I4 (cR a.cells) n with
  |false=>grind
  |true =>
   rw[hn]at c;simp only[xt,qj,qk,zi]at c;obtain⟨H1,g,rfl,rfl⟩:=c;obtain⟨w',e,m,f,p⟩:=l.store hb.cells g;have hl:=hb.cells.length;simp only[HC,jz]at hn;have d:(ρ y).cells.size=n:=by grind
   refine⟨θ,w',_,.inr ⟨?_,rfl⟩,by grind [Up.none],f,.undef⟩;simp only[execOp,ho,<-ha.now,aC,Instr.storeAt,CE,storeVar,Nc,B7,N9,vA hs,d,ne_eq,not_true_eq_false,ww,e]
 grind
def WZ{w:N7}{r:Nat}{o:Obj}{ms:Array Bo}{c:Nat}(h:w.heap[r]? = B1 (.map ms c)):(setObj r o).run P w=.ok () (fF w r o):=by
 simp[setObj,Sem.run,h,fF]
def HR.xD(d:HR P base D θ H w){b:Nat}{m:List (AV×AV×Nat)×Nat}(hm:H.fA b=B1 m){es:List (AV×AV×Nat)}{ms:List Bo}{c:Nat}(h:dB D θ es ms) :
 HR P base D θ (H.set b (.map es c)) (fF w (θ.ct b) (.map ms.toArray c))/\bG D H θ w (H.set b (.map es c)) θ (fF w (θ.ct b) (.map ms.toArray c)):=by
 obtain⟨hg,_,_⟩:=d.fA hm;exact⟨d.set hg rfl rfl ⟨ms,rfl,h⟩,bG.set hg rfl (d.lt hg)⟩
def xcj{o:Pt}{c:Call}{xs:List M6}{t s e:Ku}(ho:o.op=.call c)(hc:c.callee=.builtin .clear)(n:c.args.toList=xs)(l:c.argTypes[0]? = B1 t)
 (hu:P.underlying t=B1 (.map s e)):sR P o xs Op.bU:=by
 intro base D θ H ρ w vs v H' j h d p;obtain⟨u,g⟩:=Kh (ρ:=ρ) ho hc;unfold Op.bU at d;split at d
 .obtain ⟨x,rfl,ha⟩:=h.pQ;simp only[qk,zi]at d;obtain⟨rfl,rfl⟩:=d;refine⟨θ,w,.tuple #[],.inl ?_,by grind [Up.none],.refl _ _ _ _,.tuple .nil⟩;rw[g,AN n];simp[builtin,Cn,l,<-ha.now,aC,ku hu]
 .rename_i b;obtain⟨x,rfl,ha⟩:=h.pQ;simp only[qj,qk,zi]at d;obtain⟨m,hm,rfl,rfl⟩:=d;obtain⟨_,_,ms,f,y⟩:=j.fA hm;obtain⟨q,r⟩:=j.xD hm (c:=m.2) (es:=[]) (ms:=[]) trivial;refine⟨θ,_,.tuple #[],.inl ?_,by rw[show(H.set b (.map [] m.2)).au=H.au from rfl,Up.none];exact q,r,.tuple .nil⟩;rw[g,AN n];simp[builtin,Cn,l,<-ha.now,aC,ku hu,KJ f,WZ f]
 grind
def _Q{n:Nat}{a b:AV}{ca c:Kl}(ha:VR D θ a ca)(hb:VR D θ b c)(h:Op.uw a b=B4):Bm n ca c=true:=by
 rw[<-ha.now,<-hb.now];cases a<;>cases b<;>simp only[Op.uw,ja]at h
 .grind [aC,Bm]
 .simp_all [DM,Ul,aC,Bm]
 simp_all[ML,aC,Bm,beq_toListBytes]
def ε{n:Nat}:∀{a b:List AV}{ca c:List Kl},bP D θ a ca->bP D θ b c->Op.fq a b=B4->ca.length=c.length/\((ca.zip c).all λ(x,y)=>Bm n x y)=B4
 |[],[],ca,c,ha,hb,_=>by rw[ha.mB,hb.mB];simp
 |a::x,b::y,ca,c,ha,hb,h=>by
  obtain⟨m,d,rfl,f,j⟩:=ha.eF;obtain⟨p,e,rfl,g,l⟩:=hb.eF;simp only[Op.fq]at h;cases hs:Op.uw a b with
  |false=>grind
  |true =>
   rw[hs]at h;obtain⟨e1,e2⟩:=ε (n:=n) j l h;simp only[zt,e1,List.zip_cons_cons,List.all_cons,_Q f g hs,Bool.true_and,e2,and_self]
 |[],_::_,_,_,_,_,h=>by cases h
 |_::_,[],_,_,_,_,h=>by cases h
theorem xke{n:Nat}{a b:AV}{ca d:Kl}(ha:VR D θ a ca)(hb:VR D θ b d)(h:Op.stays a b=B4):Bm (n+1) ca d=true:=by
 by_cases c:(∃l,a=.agg l) /\ ∃l,b=.agg l
 .obtain ⟨⟨l,rfl⟩,⟨g,rfl⟩⟩:=c;obtain⟨cs,rfl,e⟩:=ha.fC;obtain⟨cs',rfl,f⟩:=hb.fC;obtain⟨e1,e2⟩:=ε (n:=n) e f h
  grind [Bm]
 .refine _Q ha hb ?_;cases a<;>cases b<;>first|exact h|grind
def dB.get{D:Nat->Prop}{θ:Th}:∀(es:List (AV×AV×Nat))(ms:List Bo)(i:Nat)(e:AV×AV×Nat),dB D θ es ms->es[i]? = B1 e -> ∃m,ms[i]? = B1 m/\Qd D θ e m
 |_::_,m::_,0,e,⟨h,_⟩,he=>(by grind)
 |_::es,_::ms,i+1,e,⟨_,h⟩,he=>by simpa using dB.get es ms i e h (by simpa using he)
 |[],_,_,_,_,he=>by grind
 |_::_,[],_,_,h,_=>h.elim
def dB.modify{D:Nat->Prop}{θ:Th}{k v:AV}{c cv:Kl}(hk:VR D θ k c)(d:VR D θ v cv):∀(es:List (AV×AV×Nat))(ms:List Bo)(i:Nat),dB D θ es ms ->
 dB D θ (es.modify i λ e=>(k,v,e.2.2)) (ms.modify i λ e=>{e with key:=c,val:=cv})
 |[],[],_,_=>by grind
 |_::_,_::_,0,⟨⟨_,_,h3⟩,h⟩=>by simpa[dB]using⟨⟨hk,d,h3⟩,h⟩
 |_::es,_::ms,i+1,⟨h1,h⟩=>by simpa[dB]using⟨h1,dB.modify hk d es ms i h⟩
 |[],_::_,_,h=>h.elim
 |_::_,[],_,h=>h.elim
def dB.push{D:Nat->Prop}{θ:Th}{k v:AV}{d cv:Kl}{c:Nat}(hk:VR D θ k d)(e:VR D θ v cv):∀(es:List (AV×AV×Nat))(ms:List Bo),dB D θ es ms ->
 dB D θ (es ++ [(k,v,c)]) (ms ++ [{key:=d,val:=cv,born:=c}])
 |[],[],_=>⟨⟨hk,e,rfl⟩,trivial⟩
 |_::es,_::ms,⟨h1,h⟩=>⟨h1,dB.push hk e es ms h⟩
 |[],_::_,h=>h.elim
 |_::_,[],h=>h.elim
def qv0{o:Pt}{t I e:Ku}{x y z:M6}{q:aT}(ho:o.op=.mapUpdate t x y z\/o.op=.insert t x y z)(hu:P.underlying t=B1 (.map I e))(G:p7 P I=B1 q) :
 sR P o [x,y,z] (Op.mapUpdate q):=by
 intro base D θ H ρ w vs v H' s h d L;unfold Op.mapUpdate at d;split at d
 .rename_i b k K;obtain⟨R,v0,N,he,ha,hb,hc⟩:=h.tf;simp only[z4,ug]at he;obtain⟨rfl,rfl,rfl⟩:=he;cases f:de q k with
  |false=>rw[f]at d;cases d
  |true =>
   rw[f]at d;simp only[xt,qj]at d;obtain⟨m,hm,r,hr,d⟩:=d;obtain⟨_,_,ms,j,l⟩:=s.fA hm;have hk:=λ em=>Ws (em:=em) (w:=w) G hb f;obtain⟨J,F,g⟩:=q4v (w:=w) G hb l hr;cases r with
   |none =>
    cases J with
    |some _=>exact g.elim
    |none =>
     simp only[qk,zi]at d;obtain⟨rfl,rfl⟩:=d;obtain⟨C,E⟩:=s.xD hm (c:=m.2+1) (dB.push (c:=m.2) hb hc _ _ l);refine⟨θ,_,_,.inr ⟨?_,rfl⟩,by rw[show(H.set b (.map (m.1 ++ [(k,K,m.2)]) (m.2+1))).au=H.au from rfl,Up.none];exact C,E,.undef⟩;rcases ho with ho|ho<;>simp[execOp,ho,Instr.mapUpdate,<-ha.now,aC,ku hu,hk,F,KJ j,WZ j]
   |some p =>
    obtain⟨i,pv⟩:=p;cases J with
    |none=>exact g.elim
    |some p' =>
     obtain⟨Q,pc⟩:=p';obtain⟨rfl,g⟩:=g;simp only[qj,jL]at d;obtain⟨en,n,d⟩:=d;cases B:Op.stays en.1 k with
     |false=>grind
     |true =>
      rw[B]at d;simp only[xt,qk,zi]at d;obtain⟨rfl,rfl⟩:=d;obtain⟨me,A,⟨e1,e2,O⟩⟩:=dB.get _ _ i en l n;have M:Bm 10000 me.key (ρ y)=true:=(by grind [xke])
      have u:(Instr.keyThatStays me.key (ρ y)).run P w=.ok (ρ y) w:=by simp_all[Instr.keyThatStays]
      obtain⟨C,E⟩:=s.xD hm (c:=m.2) (dB.modify hb hc _ _ i l);refine⟨θ,_,_,.inr ⟨?_,rfl⟩,by rw[show(H.set b (.map (m.1.modify i λ e=>(k,K,e.2.2)) m.2)).au=H.au from rfl,Up.none];exact C,E,.undef⟩;rcases ho with ho|ho<;>simp[execOp,ho,Instr.mapUpdate,<-ha.now,aC,ku hu,hk,F,KJ j,WZ j,A,u]
 grind
end
end Go.Am
namespace Go.Am
section
variable{P:Jg}{base:Nat}{D:Nat->Prop}{θ:Th}{H:ar}{w:N7}
def HR.sub(h:HR P base D θ H w){H':ar}(hs:∀b o,H'.get b=B1 o->H.get b=B1 o):HR P base D θ H' w :=
 ⟨λ b o hb=>h.obj b o (hs b o hb),λ b d o o' hb c=>h.inj b d o o' (hs b o hb) (hs d o' c),λ b o hb=>h.lR b o (hs b o hb),h.eR,h.low⟩
theorem VU(H:ar)(k:Nat):∀b o,(H.kill k).get b=B1 o->H.get b=B1 o:=by
 grind [ar.rE]
def bG.kill(H:ar)(k:Nat):bG D H θ w (H.kill k) θ w :=
 ⟨qm _,Ag.refl _ _,qm _,rfl,rfl,rfl,λ _ _ _=>rfl,λ b o h ho _=>(by grind [VU])⟩
def HR.move(h:HR P base D θ H w)(hn:¬D H.au){b:Nat}{o o':bE}{co':Obj}{off ext:Nat}(hb:H.get b=B1 o)(ho:own o=B4)(F:own o'=B4)
 (hr:pj P (Up D H.au (H.au+1)) (θ.add H.au (θ.ct b) off ext) H.au o' co') :
 HR P base (Up D H.au (H.au+1)) (θ.add H.au (θ.ct b) off ext) ((H.kill b).alloc o') (fF w (θ.ct b) co') /\
 bG D H θ w ((H.kill b).alloc o') (θ.add H.au (θ.ct b) off ext) (fF w (θ.ct b) co'):=by
 have p:=h.lt hb;have m:=Th.hO θ H.au (θ.ct b) off ext hn;have⟨e1,e2,I⟩:=Th.eT θ H.au (θ.ct b) off ext;have old:∀x c,H.get x=B1 c->(θ.add H.au (θ.ct b) off ext).ct x = θ.ct x:=λ x c f=>(m x (h.obj x c f).1).1;have d:∀x c,((H.kill b).alloc o').get x=B1 c->(x=H.au/\c=o')\/(x≠H.au/\x≠b/\H.get x=B1 c):=by
  intro x c f;rw[ar.bO,ar.rE]at f
  by_cases e:H.au=x
  .rw [xg (show(H.kill b).au=x from e)]at f
   grind
  .rw [qy (show¬(H.kill b).au=x from e)]at f
   grind
 refine⟨⟨λ x c f=>?_,λ x y c q f G l v=>?_,λ x c f l=>?_,λ g hg=>?_,by rw[SU];exact h.low⟩,⟨j7 _,m,by simp_all[SU],rfl,rfl,rfl,λ k hk E=>?_,λ x c f l A=>?_⟩⟩
 .rcases d x c f with⟨rfl,rfl⟩|⟨z,s,j⟩
  .exact ⟨.inr ⟨qm _,zu _⟩,co',by rw[e1,K3 _ _ _ _ p];simp,hr⟩
  .have ⟨n,co,t,u⟩:=h.obj x c j;refine⟨.inl n,co,?_,u.up n m Up.of⟩;rw[old x c j,K3 _ _ _ _ p,qy (h.inj b x o c hb j ho (by omega))];exact t
 .rcases d x c f with⟨rfl,rfl⟩|⟨z,s,j⟩<;>rcases d y q G with⟨rfl,rfl⟩|⟨J,K,r⟩
  .omega
  .rw [e1,old y q r];exact h.inj b y o q hb r ho (by omega)
  .rw [e1,old x c j];exact h.inj x b c o j hb l s
  .rw [old x c j,old y q r];exact h.inj x y c q j r l v
 .rcases d x c f with⟨rfl,rfl⟩|⟨z,s,j⟩
  .rw [e1];exact h.lR b o hb ho
  .rw [old x c j];exact h.lR x c j l
 .have ⟨n,t,u⟩:=h.eR g hg;have⟨B,C,_⟩:=m g n;exact⟨.inl n,B.trans t,C.trans u⟩
 .simp_all [K3]
 grind
def Ml(t:HR P base D θ H w){tx:Ku}(hk:(∃e',P.underlying tx=B1 (.slice e'))\/P.underlying tx=B1 .string){x:AV}{c:Kl}{size k:Nat}{l:List AV}
 (p:VR D θ x c) (hl:eJ x=B1 k) (h:firstCells H size k x=B1 l) (C:aN l=B4):∃cs,Src P size tx c k cs w/\bP D θ l cs:=by
 cases hs:isStr x with
 |true =>
  cases x<;>try (cases hs)
  rename_i s;simp only[eJ,HC,qk]at hl;subst hl;simp only[firstCells,KP]at h;cases f:I4 size 1 with
  |false=>grind
  |true =>
  rw[f]at h;simp only[xt,qk]at h;subst h;simp only[jz]at f;subst f;rw[<-p.now];show∃cs,Src P 1 tx (.string ⟨s.toArray⟩) s.length cs w/\bP D θ _ cs;have r:∀w:N7,(CU 1 s.length (.string ⟨s.toArray⟩)).run P w=.ok (s.map λ b=>Kl.int .u8 b.toNat).toArray w:=by
   intro w;have:=firstCells_string (P:=P) ⟨s.toArray⟩ w;rw[LV]at this;exact this
  refine⟨s.map λ b=>.int .u8 b.toNat,⟨hk,λ w'=>?_,r w,r w.drew,by simp,λ u hu=>?_⟩,λ θ' _=>by rw[vP,A5];rfl⟩
  .show Result.ok (ByteArray.size ⟨s.toArray⟩) w'=_;rw[LV]
  .obtain ⟨_,_,rfl⟩:=Fw.1 hu;rfl
 |false =>
  obtain⟨a,len,cap,rfl,rfl,e⟩:=Y6 t p hl (qm _) hs h;obtain⟨J,v,q,j,rfl,d⟩:=Y6 (t.draw (w':=w.drew) rfl) p hl (qm _) hs h;injection j with m E n;subst m;subst n
  rcases e with⟨rfl,rfl,_,F⟩|⟨ad,cs,rfl,z,g,A⟩
  .exact ⟨[],⟨hk,λ _=>rfl,rfl,rfl,by grind,by simp⟩,.nil⟩
  .rcases d with⟨B,_⟩|⟨y,cs',he,G,I,K⟩
   .cases B
   .cases he;have:cs'=cs:=by rw[<-I.now,<-g.now]
    subst this;exact⟨cs',⟨hk,λ _=>rfl,z,G,by rw[g.length];exact A,_p g C⟩,g⟩
def Xa{t tx ty e:Ku}{i:TypeInfo}(g:P.underlying t=B1 (.slice e))(f:P.info? e=B1 i){a:Addr}{sLen sCap n:Nat}{x:Kl}{news:List Kl}(hs:Src P i.size tx x n news w)
 (c:sLen+n<=sCap) {w':N7} (d:(storeCells (a.add (sLen*i.size)) news).run P w=.ok () w') :
 (Bz #[t,tx] ty #[.slice (B1 a) sLen sCap,x]).run P w=.ok (.slice (B1 a) (sLen+n) sCap) w':=by
 rcases hs.kind with⟨e',hk⟩|hk<;>simp[Bz,run_underlying g,run_underlying hk,sizeOf,typeInfo,f,hs.len,c,hs.cells,d]
def xbq(z:Array Kl)(n:Nat):(BZ z n).size=n*z.size:=by simp[BZ]
def xjp{D':Nat->Prop}{θ':Th}{id m size:Nat}{cells:List AV}{cs rest:List Kl}{e:Ku}{fz:Nat×Nat}(h:bP D' θ' cells cs)(ho:θ'.off id=0)(hl:cells.length=m*size)
 (hr:rest.length = θ'.ext id*size) (c:0<size) (hm:m + θ'.ext id<=maxLen):pj P D' θ' id (.grown m size cells e fz) (.cells (cs++rest).toArray e (0,0)) :=
 ⟨[],cs,rest,(0,0),by simp,by grind,h,hl,hr,c,hm,.inl rfl⟩
def HR.grow(E:HR P base D θ H w)(hn:¬D H.au){t tx ty e:Ku}{i:TypeInfo}{z:Kl}(J:P.underlying t=B1 (.slice e))(I:P.info? e=B1 i)(K:i.zero=B1 z)(B:z.cells.size=i.size)
 (G:0<i.size) {bs:Option Addr} {sLen sCap n:Nat} {x:Kl} {old new:List AV} {olds news:List Kl} (hold:(CU i.size sLen (.slice bs sLen sCap)).run P w.drew=.ok olds.toArray w.drew)
 (hs:Src P i.size tx x n news w) (hg:sCap<sLen+n) (r:fits (sLen+n) i.bytes=B4) (ho:bP D θ old olds) (j:bP D θ new news) (y:old.length=sLen*i.size) (fz:Nat×Nat) :
 ∃θ' w' c,(Bz #[t,tx] ty #[.slice bs sLen sCap,x]).run P w=.ok c w'/\HR P base (Up D H.au (H.au+1)) θ' (dC H e i.size (sLen+n) (kG old new) fz).2 w' /\
  bG D H θ w (dC H e i.size (sLen+n) (kG old new) fz).2 θ' w'/\VR (Up D H.au (H.au+1)) θ' (dC H e i.size (sLen+n) (kG old new) fz).1 c:=by
 unfold fits at r;simp only[zn,uo]at r;have⟨F,L⟩:=r;have d:=run_append_grow_src (P:=P) w t tx ty e i z J I K bs sLen sCap olds hold x n news hs hg (by omega) (growslice_fits hg F);have g:=grownCap_ge w (sLen+n) sCap e;have p:=grownCap_le_maxLen w (sLen+n) sCap e (by unfold maxLen;omega);generalize grownCap w (sLen+n) sCap e=cap at d g p;have v:=hs.newsLen;have hlen:(kG old new).length=(sLen+n)*i.size:=by
  rw[px,xe,y,<-j.length,v,wg]
 have q:(Obj.cells ((olds++news).toArray++BZ z.cells (cap-(sLen+n))) e:Obj)=.cells ((olds++news)++(BZ z.cells (cap-(sLen+n))).toList).toArray e (0,0):=by
  simp_all
 have l:=Th.hO θ H.au w.drew.heap.size 0 (cap-(sLen+n)) hn;have A:bP (Up D H.au (H.au+1)) (θ.add H.au w.drew.heap.size 0 (cap-(sLen+n))) (kG old new) (olds++news):=by
  rw[px];exact(ho.app j).up l Up.of
 have⟨e1,e2,C⟩:=Th.eT θ H.au w.drew.heap.size 0 (cap-(sLen+n));have hR:=xjp (P:=P) (id:=H.au) (m:=sLen+n) (size:=i.size) (e:=e) (fz:=fz) (rest:=(BZ z.cells (cap-(sLen+n))).toList) A e2 hlen
  (by rw[C,Array.length_toList,xbq,B]) G (by rw[C];omega)
 rw[<-q]at hR;refine⟨_,_,_,d,HR.alloc (w:=w.drew) (E.draw rfl) hn ?_ ?_ (qm _) ?_ hR,?_,?_⟩
 .rw [Dl];simp
 .simp_all [Dl,Ll]
 .simp_all
 .exact (bG.draw (w:=w) (w':=w.drew) rfl rfl rfl rfl).trans (bG.alloc (w:=w.drew) (E.draw rfl) hn _ _ _ _) (λ _ h=>h)
 .have u:(Up D H.au (H.au+1)) H.au:=.inr ⟨qm _,zu _⟩;have:=VR.gslice (θ:=θ.add H.au w.drew.heap.size 0 (cap-(sLen+n))) (i:=0) (m:=sLen+n) (s:=i.size) (alt:=0) (n:=sLen+n) u;intro θ'' f;show aC θ'' (.gslice H.au 0 (sLen+n) i.size 0 (sLen+n))=_;rw[this θ'' f];simp_all[aC]
def Rp{b i m s alt n:Nat}{c:Kl}(h:VR D θ (.gslice b i m s alt n) c):c=.slice (B1 ⟨θ.ct b,θ.off b+(if(m-i) + θ.ext b=0 then alt else i*s),B5⟩) n ((m-i) + θ.ext b):=by
 rw[<-h.now];rfl
theorem Ko{b o n d:Nat}{c:Kl}(h:VR D θ (.slice b o n d) c):c=.slice (B1 ⟨θ.ct b,θ.off b+o,B5⟩) n d:=by
 rw[<-h.now];rfl
def HR.KB(O:HR P base D θ H w)(hn:¬D H.au){t tx ty e:Ku}{i:TypeInfo}{z:Kl}(ht:P.underlying t=B1 (.slice e))(hi:P.info? e=B1 i)(hz:i.zero=B1 z)(X:z.cells.size=i.size)
 (Y:0<i.size) {b k m sLen n:Nat} {c:List AV} {fz d:Nat×Nat} {alt:Nat} {s x:Kl} {old new:List AV} {news:List Kl} (hg:H.get b=B1 (.grown m i.size c e fz))
 (V:VR D θ (.gslice b k m i.size alt sLen) s) (hs:Src P i.size tx x n news w) (p:bP D θ new news) (hn0:0<n) (hkm:k+sLen<=m) (Z:m<k+sLen+n) (hf:fits (sLen+n) i.bytes=B4)
 (hold:fO c (k*i.size) (sLen*i.size)=B1 old)
 (N:(fz.2<fz.1\/fz.2<=(k+sLen)*i.size)/\((k=0/\d=fz)\/(fz.2<=k*i.size/\d=cond (I4 fz.1 fz.2) (0,0) (1,0)))) :
 ∃θ' w' v,(Bz #[t,tx] ty #[s,x]).run P w=.ok v w'/\HR P base (Up D H.au (H.au+1)) θ' (dC (H.kill b) e i.size (sLen+n) (kG old new) d).2 w' /\
  bG D H θ w (dC (H.kill b) e i.size (sLen+n) (kG old new) d).2 θ' w'/\VR (Up D H.au (H.au+1)) θ' (dC (H.kill b) e i.size (sLen+n) (kG old new) d).1 v:=by
 have U:=Rp V;subst U;obtain⟨hd,co,hc,pre,cs,post,g,rfl,r2,r3,r4,r5,r6,r7,r8⟩:=O.obj b _ hg;have B:=r3.length;have C:=hs.newsLen;rw[tV]at hold;have hle:sLen*i.size<=c.length-k*i.size:=by
  grind
 rw[xg hle]at hold;cases hold;have r:bP D θ ((c.drop (k*i.size)).take (sLen*i.size)) ((cs.drop (k*i.size)).take (sLen*i.size)):=(r3.drop _).take _;have hkc:(k+sLen)*i.size<=c.length:=by simp_all[j9]
 have R:(k+sLen)*i.size=k*i.size+sLen*i.size:=wg _ _ _
 by_cases u:sLen+n<=(m-k) + θ.ext b
 .-- in place
  have f:¬(m-k) + θ.ext b=0:=by omega
  rw[qy f];have htot:(k+sLen+n)*i.size<=cs.length+post.length:=by
   rw[B,r4,r5,<-wg];exact j9 _ (by omega)
  have J:(k+sLen+n)*i.size=k*i.size+sLen*i.size+n*i.size:=by grind
  have F:=Sy (P:=P) (θ.off b+k*i.size+sLen*i.size) news 0 _ w hc (by grind) (by grind [JQ]) hs.one;rw[Ae]at F;have E:=Xa (ty:=ty) ht hi (a:=⟨θ.ct b,θ.off b+k*i.size,B5⟩) (sLen:=sLen) (sCap:=(m-k) + θ.ext b) hs u (by rw[zD];exact F)
  -- the block's cells from the slice's head on
  have hw:((pre++cs++post).take (θ.off b+k*i.size+sLen*i.size)++news++(pre++cs++post).drop (θ.off b+k*i.size+sLen*i.size+news.length)) =
   (pre++cs.take (k*i.size))++((cs.drop (k*i.size)).take (sLen*i.size)++news)++(pre++cs++post).drop (θ.off b+k*i.size+sLen*i.size+news.length):=by
   have e1:(pre++cs++post).take (θ.off b+k*i.size+sLen*i.size)=pre++cs.take (k*i.size)++(cs.drop (k*i.size)).take (sLen*i.size):=by
    rw[yd,Qu,zd (l:=pre) (by omega),yd,show θ.off b+k*i.size+sLen*i.size-pre.length=k*i.size+sLen*i.size from by omega,Qu,
     show k*i.size+sLen*i.size-cs.length=0 from by omega,yo,zq,List.take_add]
   grind
  have L:((pre++cs++post).drop (θ.off b+k*i.size+sLen*i.size+news.length)).length=((m-k) + θ.ext b-(sLen+n))*i.size:=by
   rw[yg,xe,xe,C,Nat.sub_mul,wg,wg,Nat.sub_mul,B,r4,r5,r2];omega
  have K:=Th.hO θ H.au (θ.ct b) (θ.off b+k*i.size) ((m-k) + θ.ext b-(sLen+n)) hn;have⟨e1,e2,e3⟩:=Th.eT θ H.au (θ.ct b) (θ.off b+k*i.size) ((m-k) + θ.ext b-(sLen+n));have W:((cs.drop (k*i.size)).take (sLen*i.size)).length=sLen*i.size:=by rw[jx,yg];omega
  have⟨G,I⟩:=O.move hn (o':=.grown (sLen+n) i.size (kG ((c.drop (k*i.size)).take (sLen*i.size)) new) e d) (co':=.cells ((pre++cs.take (k*i.size))++((cs.drop (k*i.size)).take (sLen*i.size)++news)++(pre++cs++post).drop (θ.off b+k*i.size+sLen*i.size+news.length)).toArray e g)
   (off:=θ.off b+k*i.size) (ext:=(m-k) + θ.ext b-(sLen+n)) hg rfl rfl ⟨_,_,_,g,rfl,by grind,by rw[px];exact(r.app p).up K Up.of,
    by rw[px,xe,<-r.length,W,<-p.length,C,wg],by grind,Y,by omega,by
     rw[e2];have j:(pre++cs.take (k*i.size)).length+((cs.drop (k*i.size)).take (sLen*i.size)++news).length+((pre++cs++post).drop (θ.off b+k*i.size+sLen*i.size+news.length)).length=pre.length+cs.length+post.length:=by
      rw[<-xe,<-xe,<-hw];simp;omega
     rw[j];obtain⟨_,q|⟨q1,q2⟩⟩:=N
     .simp_all
     .unfold JQ at r8⊢;cases A:I4 fz.1 fz.2 with
      |true =>
       simp only[jz]at A;omega
      |false =>
       rw[A]at q2;subst q2;have:¬fz.1=fz.2:=by grind [Nat.beq_refl]
       simp only[zo];omega⟩
  refine⟨θ.add H.au (θ.ct b) (θ.off b+k*i.size) ((m-k) + θ.ext b-(sLen+n)),_,_,E,?_,?_,?_⟩
  .rw [show(pre++cs++post).toArray.toList=pre++cs++post from rfl,hw];exact G
  .rw [show(pre++cs++post).toArray.toList=pre++cs++post from rfl,hw];exact I
  .have Q:(Up D H.au (H.au+1)) H.au:=.inr ⟨qm _,zu _⟩;have:=VR.gslice (θ:=θ.add H.au (θ.ct b) (θ.off b+k*i.size) ((m-k) + θ.ext b-(sLen+n))) (i:=0) (m:=sLen+n) (s:=i.size) (alt:=0) (n:=sLen+n) Q;intro θ'' y;show aC θ'' (.gslice H.au 0 (sLen+n) i.size 0 (sLen+n))=_;rw[this θ'' y];simp_all[aC]
 .have M:(CU i.size sLen (.slice (B1 ⟨θ.ct b,θ.off b+(if(m-k) + θ.ext b=0 then alt else k*i.size),B5⟩) sLen ((m-k) + θ.ext b))).run P w.drew=.ok ((cs.drop (k*i.size)).take (sLen*i.size)).toArray w.drew:=by
   by_cases S:sLen=0
   .subst S;show(loadCells _ (0*i.size)).run P w.drew=_;rw[AG,yo];rfl
   .have f:¬(m-k) + θ.ext b=0:=by omega
    rw[qy f];show(loadCells _ (sLen*i.size)).run P w.drew=_;have:=xd3 (P:=P) (w:=w.drew) (k:=θ.ct b) (fz:=g) (e:=e) (arr:=(pre++cs++post).toArray) hc (pre.length+k*i.size) (sLen*i.size) (by grind);rw[qx pre cs post _ _ (by omega),r2]at this;exact this
  have:=(O.sub (VU H b)).grow (ty:=ty) (H:=H.kill b) hn ht hi hz X Y M hs (by omega) hf r p (by rw[jx,yg];omega) d;have⟨θ',w',v,G,I,g3,g4⟩:=this;exact⟨θ',w',v,G,I,(bG.kill H b).trans g3 (λ _ h=>h),g4⟩
def HM{e:Ku}{n z:Nat}{g:AV}(hs:bW P e=B1 n)(hb:ng P e=B1 z)(c:zeroOf P e=B1 g)(m:g.cells.length=n) :
 ∃i d,P.info? e=B1 i/\i.size=n/\i.bytes=z/\i.zero=B1 d/\d.cells.size=n:=by
 have⟨i,f,h⟩:=nB hs;unfold ng at hb;rw[f]at hb;simp only[qr,qk]at hb;unfold zeroOf at c;rw[f]at c;simp only[qr,qj]at c;have⟨d,j,l⟩:=c;refine⟨i,d,f,h,hb,j,?_⟩;have:=(R9 (D:=λ _=>False) (θ:=⟨λ _=>0,λ _=>0,λ _=>0⟩) l).cells.length
 grind
def xnt{b o n d:Nat}{c:Kl}(h:VR D θ (.slice b o n d) c)(n':Nat):VR D θ (.slice b o n' d) (.slice (B1 ⟨θ.ct b,θ.off b+o,B5⟩) n' d):=λ θ' ha=>by
 have:=(h θ' ha).trans h.now.symm;simp_all[aC]
def xi4{b i m s alt n:Nat}{c:Kl}(h:VR D θ (.gslice b i m s alt n) c)(n':Nat):VR D θ (.gslice b i m s alt n') (.slice (B1 ⟨θ.ct b,θ.off b+(if(m-i) + θ.ext b=0 then alt else i*s),B5⟩) n' ((m-i) + θ.ext b)):=λ θ' ha=>by
 have:=(h θ' ha).trans h.now.symm;simp only[aC,Bf,qk,C5,ug,Gc]at this
 grind [aC]
def xi0{o:Pt}{c:Call}{xs:List M6}{t tx e:Ku}{sz z:Nat}{zv:AV}(ho:o.op=.call c)(hc:c.callee=.builtin .append)(hx:c.args.toList=xs)(hts:c.argTypes.toList=[t,tx])
 (hu:P.underlying t=B1 (.slice e)) (hk:(∃e',P.underlying tx=B1 (.slice e'))\/(P.underlying tx=B1 .string)) (hs:bW P e=B1 sz) (hb:ng P e=B1 z) (hz:zeroOf P e=B1 zv) (hzn:zv.cells.length=sz) :
 sR P o xs (Op.append e sz z):=by
 intro base D θ H ρ w vs v H' L h d S;obtain⟨cc,hE⟩:=Kh (ρ:=ρ) ho hc;have hats:c.argTypes = #[t,tx]:=by grind
 obtain⟨i,zc,X,rfl,rfl,U,W⟩:=HM hs hb hz hzn;unfold Op.append at d;split at d
 .rename_i a b;obtain⟨x,y,rfl,ha,hbv⟩:=h.qV;simp only[qj]at d;obtain⟨n,hn,new,Z,d⟩:=d;cases M:aN new with
  |false=>grind
  |true =>
   rw[M]at d;simp only[xt]at d;obtain⟨news,j,A⟩:=Ml L (tx:=tx) hk hbv hn Z M;have g:∀(I:Kl)(w':N7),(Bz #[t,tx] o.type #[ρ x,ρ y]).run P w=.ok I w'->(execOp ρ o).run P w=.ok (.value I) w':=by
    simp_all[AN,builtin]
   have hnl:=j.newsLen;have hnlen:=A.length;have f:n=0 -> ∀bs len J,ρ x=.slice bs len J->len<=J->(Bz #[t,tx] o.type #[ρ x,ρ y]).run P w=.ok (ρ x) w:=by
    intro p bs len J he hle;simp_all[run_append_nothing]
   unfold cQ at d;split at d
   .-- nil
    cases p:I4 n 0 with
    |true =>
     rw[p]at d;simp only[xt,qk,zi]at d;obtain⟨rfl,rfl⟩:=d;exact⟨θ,w,ρ x,.inl (g _ _ (f (by simpa using p) B5 0 0 ha.now.symm (qm _))),by grind [Up.none],.refl _ _ _ _,by grind [Up.none]⟩
    |false =>
     rw[p]at d;simp only[zo]at d;cases B:(fits n i.bytes && Oz 0 i.size)with
     |false=>grind
     |true =>
      rw[B]at d;simp only[xt,qk]at d;simp only[zn,AZ]at B;have hn0:n≠0:=by intro q;simp_all
      obtain⟨θ',w',I,N,s,u,l⟩:=L.grow (ty:=o.type) (S H.au (qm _) (by rw[<-(Cy d).2];exact zu _)) hu X U W B.2 (bs:=B5) (sLen:=0) (sCap:=0) (old:=[]) (olds:=[]) rfl j (by omega) (by grind) .nil A (by simp) (0,0);rw[show kG ([]:List AV) new=new from rfl,ya]at s u l;rw[d]at s u l;have:H'.au=H.au+1:=by rw[<-(Cy d).2];rfl
      rw[<-this]at s l;refine⟨θ',w',I,.inl (g _ _ ?_),s,u,l⟩;rw[<-ha.now];exact N
   .-- a slice of a row
    rename_i bb oo len J;cases hle:Nz (len+n) J with
    |true =>
     rw[hle]at d;simp only[uo]at hle;simp only[xt]at d;cases p:I4 n 0 with
     |true =>
      rw[p]at d;simp only[xt,qk,zi]at d;obtain⟨rfl,rfl⟩:=d;simp only[jz]at p;subst p;exact⟨θ,w,ρ x,.inl (g _ _ (f rfl _ len J (Ko ha) (by omega))),by grind [Up.none],.refl _ _ _ _,by grind [Up.none]⟩
     |false =>
      rw[p]at d;simp only[zo,qj,qk,zi]at d;obtain⟨H1,h1,rfl,rfl⟩:=d;obtain⟨w',N,s,u,l⟩:=L.store A h1;refine⟨θ,w',_,.inl (g _ _ ?_),by grind [Up.none],u,by rw[l,Up.none];exact xnt ha _⟩;rw[Ko ha];exact Xa hu X j hle (by grind [zD])
    |false =>
     rw[hle]at d;have Y:¬len+n<=J:=by grind [Nat.ble_eq_true_of_le]
     simp only[zo]at d;cases B:(fits (len+n) i.bytes && Nz J (len+n) && Oz 0 i.size)with
     |false=>grind
     |true =>
      rw[B]at d;simp only[xt,qj,qk]at d;obtain⟨old,hold,d⟩:=d;simp only[zn,AZ]at B;obtain⟨olds,k1,k2,k3⟩:∃olds:List Kl,(CU i.size len (ρ x)).run P w.drew=.ok olds.toArray w.drew/\bP D θ old olds/\old.length=len*i.size:=by
       obtain⟨ad,len',cap',O,hl',Q⟩:=Y6 (L.draw (w':=w.drew) rfl) ha (n:=len) rfl (qm _) rfl hold;rcases Q with⟨rfl,rfl,_,p⟩|⟨ad',cs',rfl,k1,k2,k3⟩
       .rw [Ko ha]at O;cases O
       .exact ⟨cs',by rw[O];exact k1,k2,k3⟩
      rw[Ko ha]at k1;obtain⟨θ',w',I,N,s,u,l⟩:=L.grow (ty:=o.type) (S H.au (qm _) (by rw[<-(Cy d).2];exact zu _)) hu X U W B.2 k1 j (by omega) B.1.1 k2 A k3 (0,0);rw[d]at s u l;have:H'.au=H.au+1:=by rw[<-(Cy d).2];rfl
      rw[<-this]at s l;refine⟨θ',w',I,.inl (g _ _ ?_),s,u,l⟩
      grind [Ko]
   .-- a slice of a grown row
    rename_i bb ii m sz alt len;cases p:I4 n 0 with
    |true =>
     rw[p]at d;simp only[xt]at d;cases F:Nz (ii+len) m with
     |false=>grind
     |true =>
     rw[F]at d;simp only[xt,qk,zi]at d;obtain⟨rfl,rfl⟩:=d;simp only[jz]at p;subst p;simp only[uo]at F;exact⟨θ,w,ρ x,.inl (g _ _ (f rfl _ len _ (Rp ha) (by omega))),by grind [Up.none],.refl _ _ _ _,by grind [Up.none]⟩
    |false =>
     rw[p]at d;have hn0:n≠0:=by intro q;simp_all
     simp only[zo]at d;cases r:(I4 sz i.size && Nz (ii+len) m && Oz 0 i.size)with
     |false=>grind
     |true =>
      rw[r]at d;simp only[zn,jz,uo,AZ]at r;obtain⟨⟨rfl,F⟩,hsz⟩:=r;simp only[xt]at d;cases hle:Nz (ii+len+n) m with
      |true =>
       rw[hle]at d;simp only[uo]at hle;simp only[xt,qj,qk,zi]at d;obtain⟨H1,h1,rfl,rfl⟩:=d;obtain⟨w',N,s,u,l⟩:=L.store A h1;refine⟨θ,w',_,.inl (g _ _ ?_),by grind [Up.none],u,by rw[l,Up.none];exact xi4 ha _⟩;rw[Rp ha];refine Xa hu X j (by omega) ?_;rw[qy (by omega),zD,Ad,<-wg];exact N
      |false =>
       rw[hle]at d;have Y:¬ii+len+n<=m:=by grind [Nat.ble_eq_true_of_le]
       simp only[zo]at d;cases B:fits (len+n) i.bytes with
       |false=>grind
       |true =>
        rw[B]at d;simp only[xt]at d;split at d
        .rename_i m' sz' c0 e' fz K;cases r:(I4 m m' && I4 i.size sz' && I4 e' e)with
         |false=>grind
         |true =>
          rw[r]at d;simp only[zn,jz]at r;obtain⟨⟨rfl,rfl⟩,rfl⟩:=r;simp only[xt]at d;have R:∀old E,fO c0 (ii*i.size) (len*i.size)=B1 old->((fz.2<fz.1\/fz.2<=(ii+len)*i.size)/\((ii=0/\E=fz)\/(fz.2<=ii*i.size/\E=cond (I4 fz.1 fz.2) (0,0) (1,0)))) ->
           dC (H.kill bb) e' i.size (len+n) (kG old new) E=(v,H') -> ∃θ' w' c,sH P (execOp ρ o) w c w'/\HR P base (Up D H.au H'.au) θ' H' w'/\bG D H θ w H' θ' w'/\VR (Up D H.au H'.au) θ' v c:=by
           intro old E hold hfz d;have hnx:H'.au=H.au+1:=by rw[<-(Cy d).2];rfl
           obtain⟨θ',w',I,N,s,u,l⟩:=L.KB (ty:=o.type) (S H.au (qm _) (by omega)) hu X U W hsz K ha j A (by omega) F (by omega) B hold hfz;rw[d]at s u l;rw[<-hnx]at s l;exact⟨θ',w',I,.inl (g _ _ N),s,u,l⟩
          cases C:(I4 ii 0 && I4 len m && Nz fz.2 (m*i.size))with
          |true =>
           rw[C]at d;simp only[zn,jz,uo]at C;obtain⟨⟨rfl,rfl⟩,C⟩:=C;simp only[xt,qk]at d;obtain⟨_,co,_,pre,cs,post,cfz,_,_,_,r4,_⟩:=L.obj bb _ K;refine R c0 fz ?_ (by grind) d;rw[tV,AG,<-r4,xg (by omega),yx,KP]
          |false =>
           rw[C]at d;simp only[zo]at d;cases V:Nz fz.2 (ii*i.size)with
           |true =>
            rw[V]at d;simp only[uo]at V;simp only[xt,qj,qk]at d
            grind
           |false =>
            rw[V]at d;simp only[zo]at d;cases G:(I4 ii 0 && Nz fz.2 (len*i.size))with
            |false=>grind
            |true =>
             rw[G]at d;simp only[zn,jz,uo]at G;obtain⟨rfl,G⟩:=G;simp only[xt,qj,qk]at d
             grind
        grind
   grind
 grind
def xfa{o:Pt}{c:Call}{xs:List M6}{t e:Ku}{z:AV}(ho:o.op=.call c)(hc:c.callee=.builtin .clear)(B:c.args.toList=xs)(J:c.argTypes[0]? = B1 t)
 (hu:P.underlying t=B1 (.slice e)) (K:zeroOf P e=B1 z):sR P o xs (Op.bS z.cells):=by
 intro base D θ H ρ w vs v H' F h f E;have⟨O,A⟩:=Kh (ρ:=ρ) ho hc;unfold Op.bS at f;split at f
 .cases f
 .rename_i d I;obtain⟨x,rfl,ha⟩:=h.pQ;simp only[qj]at f;have⟨n,hn,f⟩:=f;cases j:I4 n 0 with
  |true =>
   rw[j]at f;simp only[xt,qk,zi]at f;obtain⟨rfl,rfl⟩:=f;simp only[jz]at j;subst j;refine⟨θ,w,.tuple #[],.inl ?_,by grind [Up.none],.refl _ _ _ _,.tuple .nil⟩;rw[A,AN B];have q:∃bs y,ρ x=.slice bs 0 y:=by
    cases d<;>simp only[eJ,reduceCtorEq,qk]at hn
    .grind
    .exact ⟨B5,0,ha.now.symm⟩
    .subst hn;exact⟨_,_,Ko ha⟩
    .subst hn;exact⟨_,_,Rp ha⟩
    .exact ⟨_,_,ha.now.symm⟩
   have⟨bs,y,r⟩:=q;cases bs<;>simp[builtin,Cn,J,ku hu,r]
  |false =>
   rw[j]at f;simp only[zo,qj,qk,zi]at f;obtain⟨p,hp,H1,C,rfl,rfl⟩:=f;have⟨n',U,u,Q,R,S⟩:=_O ha hp;rw[AG,Nat.sub_zero]at u;have⟨l,L,s⟩:=Lv (w:=w) K;have g:bP D θ (fP n z.cells) (I5 n l.cells.toList).flatten:=V9 (s D θ).cells n;have⟨w',V,W,N,X⟩:=F.store g C;refine⟨θ,w',.tuple #[],.inl ?_,by grind [Up.none],N,.tuple .nil⟩;rw[A,AN B];have m:n'=n:=by
    cases d<;>simp only[eJ,reduceCtorEq,qk]at hn
    .grind
    .simp_all
    .subst hn;rw[Ko ha]at u;grind
    .subst hn;rw[Rp ha]at u;grind
    .cases hp
   subst m;have M:(BZ l.cells n').toList=(I5 n' l.cells.toList).flatten:=by
    have:=Xi l.cells.toList n';simp_all[BZ]
   have G:n'≠0:=by omega
   simp_all[builtin,Cn,ku]
 grind
def Mj.join{fz c:Nat×Nat}(h:Mj fz c)(o n:Nat)(hn:n≠0):Mj (Op.mX fz o n) (if c.1 == c.2 then(o,o+n)else(min c.1 o,max c.2 (o+n))):=by
 unfold Mj at h⊢;unfold Op.mX
 by_cases hc:c.1=c.2
 .grind
 .rw [qy (by simpa using hc)];have hb:I4 fz.1 fz.2=false:=by
   grind [jz]
  grind
def JQ.join{fz c:Nat×Nat}{off size:Nat}(h:JQ fz c off size)(d:fz.1<=fz.2)(o n:Nat)(hn:n≠0):JQ (Op.mX fz o n) (if c.1 == c.2 then(off+o,off+o+n)else(min c.1 (off+o),max c.2 (off+o+n))) off size:=by
 unfold JQ at h⊢;unfold Op.mX
 by_cases hc:c.1=c.2
 .grind
 .rw [qy (by simpa using hc)];have hb:I4 fz.1 fz.2=false:=by
   grind [jz]
  grind
end
end Go.Am
namespace Go.Am
def Ext(H H':ar):Prop:=H.au<=H'.au /\ ∀b o,H'.get b=B1 o->(∃o',H.get b=B1 o'/\(own o'=B4->own o=B4))\/(H.au<=b/\b<H'.au/\own o=B4)
theorem Ext.refl(H:ar):Ext H H:=⟨qm _,λ b o h=>.inl ⟨o,h,λ h=>h⟩⟩
theorem Ext.trans{H H' c:ar}(h:Ext H H')(e:Ext H' c):Ext H c:=by
 refine⟨xx h.1 e.1,λ b o hb=>?_⟩;rcases e.2 b o hb with⟨o',f,j⟩|⟨f,l,d⟩
 .rcases h.2 b o' f with⟨n,d,g⟩|⟨d,g,m⟩
  .grind
  .exact .inr ⟨d,qn g e.1,j m⟩
 .exact .inr ⟨xx h.1 f,l,d⟩
theorem Ext.set{H:ar}{b:Nat}{o:bE}(h:H.get b=B1 o)(o':bE)(ho:own o=B4->own o'=B4):Ext H (H.set b o'):=by
 refine⟨qm _,λ x d c=>?_⟩
 grind [ar.aK]
theorem Ext.alloc(H:ar)(o:bE)(ho:own o=B4):Ext H (H.alloc o):=by
 refine⟨j7 _,λ x d c=>?_⟩;rw[ar.bO]at c;split at c
 .rename_i e;subst e;cases c;exact .inr ⟨qm _,zu _,ho⟩
 grind
def Ext.kill(H:ar)(b:Nat):Ext H (H.kill b):=⟨qm _,λ x d c=>(by grind [VU])⟩
def xc8{H:ar}{b:Nat}{m:List (AV×AV×Nat)×Nat}(h:H.fA b=B1 m):∃o,H.get b=B1 o:=by
 grind [ar.fA]
def dJ:fN->Prop
 | .alloc f=>∀vs ob mk,f vs=B1 (ob,mk)->own ob=B4
 | .gY f=>∀vs H v H',f vs H=B1 (v,H')->Ext H H'
 |_=>True
def yj{α:Type}{c:Bool}{a b:Option α}{x:α}(h:cond c a b=B1 x):(c=B4/\a=B1 x)\/(c=B2/\b=B1 x):=by
 grind
theorem SI{H H':ar}{b o:Nat}{l:List AV}(h:H.store b o l=B1 H'):Ext H H':=by
 unfold ar.store at h;rcases yj h with⟨_,h⟩|⟨_,h⟩
 .split at h
  .rename_i hg;rcases yj h with⟨_,h⟩|⟨_,h⟩
   .simp only[qj,qk]at h;obtain⟨_,_,rfl⟩:=h;exact Ext.set hg _ (λ _=>rfl)
   grind
  .rename_i hg;rcases yj h with⟨_,h⟩|⟨_,h⟩
   .simp only[qj,qk]at h;obtain⟨_,_,rfl⟩:=h;exact Ext.set hg _ (λ _=>rfl)
   grind
  grind
 grind
def xjn(n:Nat):dJ (.gY (Op.store n)):=by
 intro vs H v H' h;unfold Op.store at h;split at h
 .rcases yj h with⟨_,h⟩|⟨_,h⟩
  .grind [qj,SI]
  grind
 grind
def qtt(q:aT):dJ (.gY (Op.mapUpdate q)):=by
 intro vs H v H' h;unfold Op.mapUpdate at h;split at h
 .rcases yj h with⟨_,h⟩|⟨_,h⟩
  .simp only[qj]at h;have⟨m,hm,r,_,h⟩:=h;have⟨d,c⟩:=xc8 hm;split at h
   .simp only[qj]at h;have⟨e,_,h⟩:=h;rcases yj h with⟨_,h⟩|⟨_,h⟩
    .injection h with h;injection h with _ h;subst h;exact Ext.set c _ (λ _=>rfl)
    grind
   .injection h with h;injection h with _ h;subst h;exact Ext.set c _ (λ _=>rfl)
  grind
 grind
def xav:dJ (.gY Op.bU):=by
 intro vs H v H' h;unfold Op.bU at h;split at h
 .grind [Ext.refl]
 .simp only[qj]at h;have⟨m,hm,h⟩:=h;have⟨d,c⟩:=xc8 hm;injection h with h;injection h with _ h;subst h;exact Ext.set c _ (λ _=>rfl)
 grind
def xdi(z:List AV):dJ (.gY (Op.bS z)):=by
 intro vs H v H' h;unfold Op.bS at h;split at h
 .cases h
 .simp only[qj]at h;have⟨_,_,h⟩:=h;rcases yj h with⟨_,h⟩|⟨_,h⟩
  .grind [Ext.refl]
  grind [qj,SI]
 grind
theorem Px{H H':ar}{e s n:Nat}{c:List AV}{fz:Nat×Nat}{v:AV}(h:B1 (dC H e s n c fz)=B1 (v,H')):Ext H H':=by
 injection h with h;injection h with _ h;subst h;exact Ext.alloc _ _ rfl
def xf0(e s z:Nat):dJ (.gY (Op.append e s z)):=by
 intro vs H v H' h;unfold Op.append at h;split at h
 .simp only[qj]at h;have⟨n,_,new,_,h⟩:=h;rcases yj h with⟨_,h⟩|⟨_,h⟩
  .unfold cQ at h;split at h
   .rcases yj h with⟨_,h⟩|⟨_,h⟩
    .grind [Ext.refl]
    .rcases yj h with⟨_,h⟩|⟨_,h⟩
     .exact Px h
     grind
   .rcases yj h with⟨_,h⟩|⟨_,h⟩
    .rcases yj h with⟨_,h⟩|⟨_,h⟩
     .grind [Ext.refl]
     grind [qj,SI]
    .rcases yj h with⟨_,h⟩|⟨_,h⟩
     .grind [qj,Px]
     grind
   .rcases yj h with⟨_,h⟩|⟨_,h⟩
    .rcases yj h with⟨_,h⟩|⟨_,h⟩
     .grind [Ext.refl]
     grind
    .rcases yj h with⟨_,h⟩|⟨_,h⟩
     .rcases yj h with⟨_,h⟩|⟨_,h⟩
      .grind [qj,SI]
      .rcases yj h with⟨_,h⟩|⟨_,h⟩
       .split at h
        .rcases yj h with⟨_,h⟩|⟨_,h⟩
         .rcases yj h with⟨_,h⟩|⟨_,h⟩
          .exact (Ext.kill _ _).trans (Px (H:=H.kill _) h)
          .rcases yj h with⟨_,h⟩|⟨_,h⟩
           .simp only[qj]at h;have⟨_,_,h⟩:=h;exact(Ext.kill _ _).trans (Px (H:=H.kill _) h)
           .rcases yj h with⟨_,h⟩|⟨_,h⟩
            .simp only[qj]at h;have⟨_,_,h⟩:=h;exact(Ext.kill _ _).trans (Px (H:=H.kill _) h)
            grind
         grind
        grind
       grind
     grind
   grind
  grind
 grind
end Go.Am
namespace Go.Am
structure E9(ρ:M6->Kl):Prop where
 const:∀v,ρ (.const v)=v
 func:∀f,ρ (.func f)=.func (.func f) #[] #[]
def zM(P:Jg)(o:Pt)(xs:List M6)(f:List AV->Option AV):Prop :=
 ∀(D:Nat->Prop)θ(ρ:M6->Kl)w vs v,E9 ρ->bP D θ vs (xs.map ρ)->f vs=B1 v -> ∃c,sH P (execOp ρ o) w c w/\VR D θ v c
def uZ(P:Jg)(o:Pt)(xs:List M6)(f:List AV->Option (bE×(Nat->AV))):Prop :=
 ∀(D:Nat->Prop)θ(ρ:M6->Kl)w vs ob mk,E9 ρ->bP D θ vs (xs.map ρ)->f vs=B1 (ob,mk) ->
  own ob=B4 /\ ∃w0 co ext c,(execOp ρ o).run P w=.ok (.value c) (w0.alloc co)/\lY w w0 /\
   ∀(D':Nat->Prop)θ' id,Ag D θ θ'->(∀b,D b->D' b)->D' id -> θ'.ct id=w.heap.size -> θ'.off id=0 -> θ'.ext id=ext->pj P D' θ' id ob co/\VR D' θ' (mk id) c
structure d8(P:Jg):Prop where
 names:∀(f:FuncId)(fn:Func),P.funcs[f]? = B1 fn->fn.name≠ "runtime.NumGoroutine"
 mixed:P.follows .mixedOrders=B4
def sy(P:Jg)(o:Pt)(xs:List M6):fN->Prop
 | .pure f=>zM P o xs f
 | .read f=>ry P o xs f
 | .alloc f=>uZ P o xs f/\dJ (.alloc f)
 | .gY f=>sR P o xs f/\dJ (.gY f)
 | .ik f=>∃c fn b,o.op=.call c/\c.callee=.value (.func f)/\xs=c.args.toList/\P.funcs[f]? = B1 fn/\fn.body=B1 b
 | .im=>∃c x,o.op=.call c/\c.callee=.value x/\xs=x::c.args.toList
 | .invoke m=>∃c x,o.op=.call c/\c.callee=.invoke x m/\xs=x::c.args.toList
 | .recover=>∃c,o.op=.call c/\c.callee=.builtin .recover/\xs=c.args.toList
 | .defer=>∃c x,o.op=.defer c/\c.callee=.value x/\xs=x::c.args.toList
 | .panic=>(∃x,o.op=.panic x/\xs=[x]) \/ ∃c,o.op=.call c/\c.callee=.builtin .panic/\xs=c.args.toList
def xjm{e:Nat}{z:List AV}:dJ (.alloc (Op.alloc e z)):=by
 intro vs c mk h;unfold Op.alloc at h;split at h
 .injection h with h;injection h with h _;subst h;rfl
 grind
def Ds{e:Nat}:dJ (.alloc (Op.box e)):=by
 intro vs c mk h;unfold Op.box at h;split at h
 .injection h with h;injection h with h _;subst h;rfl
 grind
def q5v{e n:Nat}{z:List AV}{c:List (Nat×Nat)}:dJ (.alloc (Op.buildSlice e n z c)):=by
 intro vs d mk h;simp only[Op.buildSlice,qj]at h;have⟨_,_,h⟩:=h;injection h with h;injection h with h _;subst h;rfl
def xdj{e b:Nat}{z:List AV}:dJ (.alloc (Op.mkSlice e b z)):=by
 intro vs c mk h;unfold Op.mkSlice at h;split at h
 .rcases yj h with⟨_,h⟩|⟨_,h⟩
  .injection h with h;injection h with h _;subst h;rfl
  grind
 grind
def q8v:dJ (.alloc Op.mkMap):=by
 intro vs c mk h;unfold Op.mkMap at h;split at h
 .injection h with h;injection h with h _;subst h;rfl
 grind
section
variable{P:Jg}{o:Pt}{xs:List M6}
theorem dt.up{f:List AV->Option AV}(h:dt P o xs f):zM P o xs f:=λ D θ ρ w vs v _=>h D θ ρ w vs v
theorem mC.up{f:List AV->Option (bE×(Nat->AV))}(h:mC P o xs f):uZ P o xs f:=λ D θ ρ w vs c mk _=>h D θ ρ w vs c mk
theorem HP{src dst:Ku}{x:M6}(ho:o.op=.convert src dst x){r:List M6×fN}(h:Cv P src dst x=B1 r):sy P o r.1 r.2:=by
 unfold Cv at h;split at h
 .rename_i c d;cases h;exact(xne ho c d).up
 .cases h
def xl7{t:Ku}{x y:M6}{k:wO}(h:HI P t x y=B1 k):wE P t x y k:=by
 unfold HI at h;simp only[Vk]at h;split at h
 .rename_i hu;cases h;exact hu
 .rename_i e hu;split at h
  .rename_i n hs;cases h;exact⟨e,n,hu,hs⟩
  grind
 .rename_i e hu;cases h;exact⟨e,hu⟩
 .rename_i k e hu;cases h;exact⟨k,e,hu⟩
 .rename_i a b c hu;cases h;exact⟨a,b,c,hu⟩
 .rename_i ms hu;split at h
  .cases h;exact⟨ms,hu,.inl ⟨_,rfl⟩⟩
  .cases h;exact⟨ms,hu,.inr ⟨_,rfl⟩⟩
  .cases h;refine⟨⟨ms,hu⟩,λ u q d=>?_⟩
   grind [qj]
 .rename_i fs hu;split at h
  .cases h
  .rename_i hg;simp only[qj,qk]at h;obtain⟨q,d,rfl⟩:=h;exact⟨by simpa using hg,d,.inl ⟨fs,hu⟩⟩
 .rename_i n e hu;split at h
  .cases h
  .rename_i hg;simp only[qj,qk]at h;obtain⟨q,d,rfl⟩:=h;exact⟨by simpa using hg,d,.inr ⟨n,e,hu⟩⟩
 grind
theorem Mz{op:BinOp}{t c:Ku}{x y:M6}(ho:o.op=.binOp op t x y c){r:List M6×fN}(h:Kf P op t x y=B1 r):sy P o r.1 r.2:=by
 unfold Kf at h;split at h
 .cases h;exact(xht ho).up
 .cases h;exact(xht ho).up
 .split at h
  .simp only[qj,qk]at h;obtain⟨k,hk,rfl⟩:=h;exact xni (neg:=B2) (by simpa using ho) (xl7 hk)
  .simp only[qj,qk]at h;obtain⟨k,hk,rfl⟩:=h;exact xni (neg:=B4) (by simpa using ho) (xl7 hk)
  grind
theorem xit{c:Call}{b:Builtin}(ho:o.op=.call c)(hc:c.callee=.builtin b){r:List M6×fN}(h:XW P b c.argTypes c.args.toList=B1 r):sy P o r.1 r.2:=by
 have f:∀{d:TypeDesc},(c.argTypes[0]?).bind P.underlying=B1 d -> ∃t,c.argTypes[0]? = B1 t/\P.underlying t=B1 d:=λ h=>by grind
 unfold XW at h;split at h
 .split at h
  .rename_i hu;have⟨t,g,hu⟩:=f hu;cases h;exact(xj0 ho hc rfl g hu).up
  .cases h
 .split at h
  .rename_i t tx j;split at h
   .rename_i e e' hu p;simp only[qj]at h;have⟨n,hn,z,l,q,m,h⟩:=h;split at h
    .rename_i hl;cases h;exact⟨xi0 ho hc rfl j hu (.inl ⟨_,p⟩) hn l m hl,xf0 _ _ _⟩
    grind
   .cases h
  .cases h
 .cases h;exact(xf7 (mx:=B2) ho hc rfl).up
 .split at h
  .rename_i hu;have⟨t,g,hu⟩:=f hu;simp only[qj,qk]at h;obtain⟨z,l,rfl⟩:=h;exact⟨xfa ho hc rfl g hu l,xdi _⟩
  .rename_i hu;have⟨t,g,hu⟩:=f hu;cases h;exact⟨xcj ho hc rfl g hu,xav⟩
  grind
 .cases h;exact⟨c,ho,hc,rfl⟩
 .cases h;exact .inr ⟨c,ho,hc,rfl⟩
 grind
def Dd{fn:Func}(n:String)(hn:fn.name=n)(ho:fn.origin = "") {e:Array Ku->Array Ku->Array Ku->Array Kl->Sem Kl}
 (d:∀(c rs:Array Ku),(((Extern.allNextRows.lookup n).map (· c rs)) <|> ((Extern.allNextRows.lookup "").map (· c rs)))=B5)
 (f:∀(ts c rs:Array Ku),((Extern.allGenericRows.lookup n).map (· ts c rs) <|> (Extern.allTypedRows.lookup n).map (· c rs) <|> Extern.allRows.lookup n)=B1 (e ts c rs)) :
 Extern.findNext fn=B5/\Extern.find fn=B1 (e fn.targs fn.params fn.resultTypes):=by
 unfold Extern.findNext Extern.find;rw[hn,ho];refine⟨d fn.params fn.resultTypes,?_⟩
 grind
def LC{c:Call}{f:FuncId}{fn:Func}(hn:fn.name≠ "runtime.NumGoroutine") (ho:o.op=.call c) (hc:c.callee=.value (.func f)) (j:P.funcs[f]? = B1 fn) (hb:fn.body=B5) {r:List M6×fN}
 (h:MI P fn c.args.toList=B1 r):sy P o r.1 r.2:=by
 unfold MI at h;split at h
 .cases h
 .rename_i g;have g:fn.origin = "" := by simpa using g
  split at h
  .rename_i d;have d:=eq_of_beq d;cases h;have⟨e1,e2⟩:=Dd (e:=λ _ _ _=>Extern.BytealgIndexByte.indexByte) _ d g (λ m rs=>by kernel_rfl) (λ ts m rs=>by kernel_rfl);intro D θ ρ w vs v l;exact qs0 ho hc j hb hn e1 e2 rfl D θ ρ w vs v (l.func f)
  .cases h
theorem Iz(e:d8 P){c:Call}(ho:o.op=.call c){r:List M6×fN}(h:BA P c=B1 r):sy P o r.1 r.2:=by
 unfold BA at h;split at h
 .rename_i f hc;simp only[qj]at h;have⟨fn,d,h⟩:=h;split at h
  .rename_i b hb;cases h;exact⟨c,fn,b,ho,hc,rfl,d,hb⟩
  .rename_i hb;exact LC (e.names f fn d) ho hc d hb h
 .rename_i x _ hc;cases h;exact⟨c,_,ho,hc,rfl⟩
 .rename_i hc;cases h;exact⟨c,_,ho,hc,rfl⟩
 grind [xit]
theorem PY(G:d8 P){r:List M6×fN}(h:PQ P o.op=B1 r):sy P o r.1 r.2:=by
 unfold PQ at h;split at h
 .rename_i ho;cases h;exact(Φ (.inl ho)).up
 .rename_i ho;cases h;exact(Φ (.inr ho)).up
 .rename_i ho;cases h;exact(xnd ho).up
 .rename_i ho;simp only[qj,qk]at h;obtain⟨z,j,rfl⟩:=h;exact⟨(xeu ho j).up,xjm⟩
 .rename_i ho;cases h;exact⟨(xk3 ho).up,Ds⟩
 .rename_i t parts ho;simp only[qj]at h;have⟨z,j,h⟩:=h;split at h
  .rename_i fs hu;split at h
   .rename_i A;simp only[qj,qk]at h;obtain⟨E,g,rfl⟩:=h;refine(qyk ho j hu (λ f B=>?_) g).up
    grind [Option.isSome_iff_exists]
   grind
  .rename_i hu;simp only[qj,qk]at h;obtain⟨n,hn,E,g,rfl⟩:=h;exact(q1c ho j hu hn g).up
  grind
 .rename_i t len parts ho;split at h
  .rename_i e hu;simp only[qj]at h;have⟨n,hn,z,j,E,g,h⟩:=h;split at h
   .rename_i hc;cases h;exact⟨(qz0 ho hu hn j g hc.1 hc.2).up,q5v⟩
   grind
  grind
 .rename_i t a ho;simp only[qj]at h;have⟨J,hr,h⟩:=h;split at h
  .cases h;exact xj1 ho hr
  .cases h;exact xj2 ho hr
 .rename_i t a x ho;simp only[qj,qk]at h;obtain⟨n,hn,rfl⟩:=h;exact⟨xl1 ho hn,xjn _⟩
 .rename_i ho;cases h;exact(xa6 ho).up
 .grind [Mz]
 .rename_i ho;cases h;exact(HK ho).up
 .grind [HP]
 .rename_i t x ho;split at h
  .cases h
  .rename_i d F hu;cases h;exact(xdt ho ⟨d,hu,by cases d<;>first|rfl|exact(F _ rfl).elim⟩).up
  grind
 .rename_i ho;cases h;exact(xf8 ho).up
 .rename_i ho;cases h;exact⟨λ D θ ρ w vs y mk u=>q3x ho (.inl rfl) (λ _=>trivial) D θ ρ w vs y mk u.const,q8v⟩
 .rename_i t k n ho;split at h
  .rename_i a b hu;cases h;exact⟨λ D θ ρ w vs y mk u=>q3x ho (by grind) (λ _=>trivial) D θ ρ w vs y mk u.const,q8v⟩
  grind
 .rename_i t l c ho;split at h
  .rename_i e hu;simp only[qj]at h;have⟨b,hb,z,j,n,hn,h⟩:=h;split at h
   .rename_i hc;cases h;exact⟨(q9i ho hu hb hn j hc).up,xdj⟩
   grind
  grind
 .rename_i t x lo I mx ho;split at h
  .rename_i e hu;simp only[qj,qk]at h;obtain⟨n,hn,rfl⟩:=h;exact(xdv ho hu hn).up
  .rename_i k e hu;simp only[qj,qk]at h;obtain⟨n,hn,rfl⟩:=h;exact(xa7 ho hu hn).up
  grind
 .rename_i t x i ho;split at h
  .rename_i fs hu;simp only[qj]at h;have⟨f,B,n,hn,h⟩:=h;split at h
   .cases h
   .rename_i s;cases h;exact(q73 ho hu B hn (by simpa using s)).up
  .cases h
 .rename_i t x i ho;split at h
  .rename_i e hu;simp only[qj,qk]at h;obtain⟨n,hn,rfl⟩:=h;exact(xds ho hu hn).up
  .rename_i k e hu;simp only[qj,qk]at h;obtain⟨n,hn,rfl⟩:=h;exact(xa4 ho hu hn).up
  grind
 .rename_i t x i ho;split at h
  .rename_i hu;cases h;exact(xa5 ho hu).up
  .rename_i k e hu;simp only[qj,qk]at h;obtain⟨n,hn,a,ha,rfl⟩:=h;exact(xa3 ho hu hn ha).up
  grind
 .rename_i t m k ok ho;split at h
  .rename_i C e hu;simp only[qj,qk]at h;obtain⟨q,p,z,j,rfl⟩:=h;exact xga ho hu p j
  grind
 .rename_i t m k v ho;split at h
  .rename_i C e hu;simp only[qj,qk]at h;obtain⟨q,p,rfl⟩:=h;exact⟨qv0 (.inl ho) hu p,qtt _⟩
  grind
 .rename_i t m k v ho;split at h
  .rename_i C e hu;simp only[qj,qk]at h;obtain⟨q,p,rfl⟩:=h;exact⟨qv0 (.inr ho) hu p,qtt _⟩
  .cases h
 .rename_i ho;cases h;exact(xdr ho).up
 .grind [Iz]
 .rename_i c ho;split at h
  .rename_i f hc;cases h;exact⟨c,f,ho,hc,rfl⟩
  grind
 .rename_i x ho;cases h;exact .inl ⟨x,ho,rfl⟩
 grind
def sy.mono{c:fN}(h:sy P o xs c):dJ c:=by
 cases c with
 |alloc f=>exact h.2
 |gY f=>exact h.2
 |_=>trivial
def CC(o:Pt)(aop:fN):Prop:=(∀c,o.op≠ .defer c)\/aop=.defer\/aop=.pure Op.fail
theorem Me{r:List M6×fN}(h:PQ P o.op=B1 r):CC o r.2:=by
 by_cases d:∃c,o.op=.defer c
 .have ⟨c,hc⟩:=d;rw[hc]at h;simp only[PQ]at h;split at h
  .cases h;exact .inr (.inl rfl)
  grind
 .exact .inl λ c hc=>d ⟨c,hc⟩
def M7(d:d8 P){r:List bL×fN}(h:gB P o=B1 r):∃xs,nV P.globals.size xs=B1 r.1/\sy P o xs r.2/\CC o r.2:=by
 unfold gB at h;split at h
 .rename_i f hr;cases h;simp only[qj,qk]at hr;obtain⟨q,e,args,c,rfl⟩:=hr
  grind [PY,Me]
 .cases h;exact⟨[],rfl,(xnc []).up,.inr (.inr rfl)⟩
end
end Go.Am
namespace Go.Am
def hJ(D:Nat->Prop)(θ:Th):List aL->List Deferred->Prop
 |[],[]=>True
 |d::ds,e::es=>Y0 D θ d e/\hJ D θ ds es
 |_,_=>False
def K9(D:Nat->Prop)(θ:Th)(e:AV×Bool)(p:PanicEntry):Prop:=VR D θ e.1 p.v/\p.recovered=e.2/\p.goexit=B2
def fL(D:Nat->Prop)(θ:Th):aH->List PanicEntry->Prop
 |[],[]=>True
 |e::es,p::ps=>K9 D θ e p/\fL D θ es ps
 |_,_=>False
def rR(D:Nat->Prop)(θ:Th)(c:aH)(m:FrameMode):Prop :=
 match m with
 | .run=>False
 | .returning=>c=[]
 | .panicking ps=>c≠[]/\fL D θ c ps
def qP(D:Nat->Prop)(θ:Th)(kind:CallKind):Option aH->List Nd->Prop
 |none,_=>kind=.normal
 |some ch,c::_=>kind=.deferred/\rR D θ ch c.mode
 |some _,[]=>False
def fE:Option aH->List Nd->List Nd->Prop
 |none,cs,cs'=>cs'=cs
 |some _,c::rest,cs'=>∃u,cs' = {c with mode:=u}::rest
 |some _,[],_=>False
def Al(D:Nat->Prop)(θ:Th)(ro:Option Nat):Option Nat->Prop
 |none=>ro=B5
 |some l=>D l/\ro=B1 (θ.ct l)
def Cu(D:Nat->Prop)(θ:Th):aX->Exit->Prop
 | .normal,.normal=>True
 | .exit i,.exit j=>j=i
 | .goto i,.goto j=>j=i
 | .ret,.ret=>True
 | .panic c,.panic ps=>c≠[]/\fL D θ c ps
 |_,_=>False
def Qk(D:Nat->Prop)(θ:Th):bM->Ending->Prop
 | .ret v,.returned c=>VR D θ v c
 | .panic c,.panicked ps=>c≠[]/\fL D θ c ps
 |_,_=>False
section
variable{D D':Nat->Prop}{θ θ':Th}
theorem hJ.up(ha:Ag D θ θ')(g:∀b,D b->D' b):∀{l:List aL}{m:List Deferred},hJ D θ l m->hJ D' θ' l m
 |[],[],_=>trivial
 |d::ds,e::es,⟨h1,h2⟩=>by
  refine⟨?_,hJ.up ha g h2⟩;cases d with
  |iy b=>exact⟨g b h1.1,by rw[(ha b h1.1).1];exact h1.2⟩
  |fn f args =>
   have⟨c,cap,q,n,p⟩:=h1;refine⟨c,cap,?_,λ θ'' j=>?_,p.up ha g⟩
   .grind
   .rw [n θ'' (ha.trans j g),n θ' ha]
 |[],_::_,h=>h.elim
 |_::_,[],h=>h.elim
theorem fL.up(ha:Ag D θ θ')(c:∀b,D b->D' b):∀{l:aH}{m:List PanicEntry},fL D θ l m->fL D' θ' l m
 |[],[],_=>trivial
 |e::es,p::ps,⟨⟨h1,h2,h3⟩,h⟩=>⟨⟨h1.up ha c,h2,h3⟩,fL.up ha c h⟩
 |[],_::_,h=>h.elim
 |_::_,[],h=>h.elim
theorem rR.up(ha:Ag D θ θ')(d:∀b,D b->D' b){c:aH}{m:FrameMode}(h:rR D θ c m):rR D' θ' c m:=by
 cases m with
 |run=>exact h.elim
 |returning=>exact h
 |panicking ps=>exact⟨h.1,fL.up ha d h.2⟩
theorem qP.up(ha:Ag D θ θ')(d:∀b,D b->D' b){k:CallKind}{u:Option aH}{cs:List Nd}(h:qP D θ k u cs):qP D' θ' k u cs:=by
 cases u with
 |none=>exact h
 |some ch =>
  cases cs with
  |nil=>exact h.elim
  |cons c r=>exact⟨h.1,rR.up ha d h.2⟩
theorem Al.up(ha:Ag D θ θ')(c:∀b,D b->D' b){ro r:Option Nat}(h:Al D θ ro r):Al D' θ' ro r:=by
 cases r with
 |none=>exact h
 |some l=>exact⟨c l h.1,by rw[(ha l h.1).1];exact h.2⟩
theorem fE.refl{D:Nat->Prop}{θ:Th}{k:CallKind}{u:Option aH}{cs:List Nd}(h:qP D θ k u cs):fE u cs cs:=by
 cases u with
 |none=>rfl
 |some ch =>
  cases cs with
  |nil=>exact h.elim
  |cons c r=>exact⟨c.mode,rfl⟩
theorem fE.trans{u e:Option aH}(hu:e.isSome=u.isSome){cs cs' d:List Nd}(h:fE u cs cs')(f:fE e cs' d):fE u cs d:=by
 cases u with
 |none =>
  cases e with
  |none=>exact Eq.trans f h
  |some _=>cases hu
 |some ch =>
  cases e with
  |none=>cases hu
  |some ch' =>
   cases cs with
   |nil=>exact h.elim
   |cons c r =>
    obtain⟨m,rfl⟩:=h;obtain⟨g,rfl⟩:=f;exact⟨g,rfl⟩
theorem pU.up(ha:Ag D θ θ')(d:∀b,D b->D' b){tm:T AV}{a:Array Kl}(h:pU D θ tm a):pU D' θ' tm a:=λ t v e =>
 let⟨c,h1,h2⟩:=h t v e;⟨c,h1,h2.up ha d⟩
theorem pU.put{tm:T AV}{a:Array Kl}(h:pU D θ tm a){d:Nat}(g:d<a.size){v:AV}{c:Kl}(j:VR D θ v c):pU D θ (tm.set d v) (a.setIfInBounds d c):=by
 intro t x f;rw[T.aK]at f;rw[Array.getElem?_setIfInBounds]
 by_cases e:d=t
 .grind
 .simp only[e,ww]at f⊢;exact h t x f
def pU.forget{a:Array Kl}:∀(ds:List Nat){tm:T AV},pU D θ tm a->pU D θ (forget ds tm) a
 |[],_,h=>h
 |d::ds,tm,h=>pU.forget ds (tm:=tm.put d B5) (λ t v c=>by
  rw[T.kN]at c;split at c
  .cases c
  .exact h t v c)
def T.qL:∀(ds:List Nat)(tm:T AV)(t:Nat),(forget ds tm).get t=if t∈ds then B5 else tm.get t
 |[],tm,t=>by simp[Am.forget]
 |d::ds,tm,t=>by
  rw[Am.forget,T.qL ds,T.kN]
  by_cases f:t∈ds
  .simp [f]
  .by_cases c:d=t
   .simp [c]
   .have g:¬t=d:=λ e=>c e.symm;simp[f,c,g]
end
section
variable{P:Jg}{base:Nat}{D:Nat->Prop}{θ:Th}{H:ar}{w:N7}{a:Act}{tm:T AV}
def Es(l:HR P base D θ H w)(m:pU D θ tm a.tmps){x:M6}{y:bL}(hc:rM P.globals.size x=B1 y){v:AV}(d:rV tm y=B1 v):VR D θ v (a.eval x):=by
 cases x with
 |tmp t =>
  cases hc;have⟨c,e,h⟩:=m t v d
  simpa[Act.eval,e]using h
 |const k =>
  simp only[rM,qj,qk]at hc;obtain⟨u,hu,rfl⟩:=hc;cases d;exact R9 hu
 |global g =>
  simp only[rM]at hc;split at hc
  .rename_i hg;cases hc;cases d;have⟨e,h,j⟩:=l.eR g (by simp_all);have:=VR.ptr (θ:=θ) (o:=0) e;rw[h,j]at this;exact this
  grind
 |func f =>
  cases hc;cases d;exact λ _ _=>rfl
def Jx(d:HR P base D θ H w)(e:pU D θ tm a.tmps):∀{xs:List M6}{ys:List bL},nV P.globals.size xs=B1 ys -> ∀{vs:List AV},mF tm ys=B1 vs->bP D θ vs (xs.map a.eval)
 |[],ys,hc,vs,hv=>by
  cases hc;cases hv;exact .nil
 |x::xs,ys,hc,vs,hv=>by
  simp only[nV,qj,qk]at hc;obtain⟨y,h,l,c,rfl⟩:=hc;simp only[mF,qj,qk]at hv;obtain⟨v,f,j,g,rfl⟩:=hv;exact .cons (Es d e h f) (Jx d e c g)
def J1(x:bL)(tm:T AV):(NB x).run tm=rV tm x:=by
 cases x<;>simp[NB,rV,T.jW,T.get]
def Ia:∀(xs:List bL)(tm:T AV),(uP xs).run tm=mF tm xs
 |[],_=>rfl
 |[x],tm=>by simp[uP,mF,J1]
 |x::y::xs,tm=>by
  rw[uP,mF]
  .simp only[J1,Ia (y::xs) tm]
  .simp
def SP(a:Act):E9 a.eval:=⟨λ _=>rfl,λ _=>rfl⟩
theorem VK(d:Option Nat)(v:AV)(tm:T AV):(lJ d).run v tm=eK d v tm:=by
 cases d<;>simp[lJ,eK,T.Fc,T.set,T.put]
end
inductive iW where
 |val (v:AV) (aZ:List aL) (up:Option aH) (H:ar)
 |panic (c:aH) (H:ar)
def og(aZ:List aL)(up:Option aH)(r:bM×ar):iW :=
 match r.1 with
 | .ret v=>.val v aZ up r.2
 | .panic c=>.panic c r.2
def iB(rt:RT)(st:St)(vs:List AV):fN->Option iW
 | .pure f=>(f vs).bind λ v=>B1 (.val v st.aZ st.up st.H)
 | .read f=>(f vs st.H).bind λ v=>B1 (.val v st.aZ st.up st.H)
 | .alloc f=>(f vs).bind λ r=>B1 (.val (r.2 st.H.au) st.aZ st.up (st.H.alloc r.1))
 | .gY f=>(f vs st.H).bind λ r=>B1 (.val r.1 st.aZ st.up r.2)
 | .ik f=>(df rt.call rt.round (.func f) vs st.H).bind λ r=>B1 (og st.aZ st.up r)
 | .im=>match vs with
  | .fn (.func f) first cap::args=>(df rt.call rt.round (.func f) (first++(args++cap)) st.H).bind λ r=>B1 (og st.aZ st.up r)
  | .fn (.yield l) first []::args=>(df rt.call rt.round (.yield l) (first++args) st.H).bind λ r=>B1 (og st.aZ st.up r)
  |_=>B5
 | .invoke name=>match vs with
  | .iface t v::args=>(rt.AP.kI t name).bind λ f=>(df rt.call rt.round (.func f) (v::args) st.H).bind λ r=>B1 (og st.aZ st.up r)
  |_=>B5
 | .recover=>match rt.ctx.round with
  |some _=>B5
  |none=>match vs with
   |[]=>match st.up with
    |some ((v,B2)::older)=>B1 (.val v st.aZ (B1 ((v,B4)::older)) st.H)
    |_=>B1 (.val .nili st.aZ st.up st.H)
   |_=>B5
 | .defer=>match rt.ctx.round with
  |some _=>B5
  |none=>match vs with
   | .fn (.func f) first cap::args=>B1 (.val .undef (.fn (.func f) (first++(args++cap))::st.aZ) st.up st.H)
   |_=>B5
 | .panic=>match vs with
  |[.iface t v]=>B1 (.panic [(.iface t v,B2)] st.H)
  |_=>B5
def uO(put:AV->T AV->T AV)(cM:Option (List Nat))(st:St)(k:St->gZ):iW->gZ
 | .val v aZ up H=>k ⟨put v st.tm,aZ,up,H⟩
 | .panic c H=>cM.bind λ ds=>B1 (.panic c,⟨forget ds st.tm,st.aZ,st.up,H⟩)
theorem TU(put:AV->T AV->T AV)(cM:Option (List Nat))(st:St)(k:St->gZ)(r:bM×ar):fV put cM st k r=uO put cM st k (og st.aZ st.up r):=by
 unfold fV og;split<;>rename_i h<;>rw[h]<;>rfl
def η(put:AV->T AV->T AV)(cM:Option (List Nat))(rt:RT)(st:St)(k:St->gZ)(vs:List AV)(op:fN) :
 (qY put cM op).run rt st k vs=(iB rt st vs op).bind (uO put cM st k):=by
 cases op with
 |pure f=>simp only[qY,Eg,iB,yt,qr];rfl
 |read f=>simp only[qY,DV,iB,yt,qr];rfl
 |alloc f=>simp only[qY,xL,iB,yt,qr];rfl
 |gY f=>simp only[qY,Ks,iB,yt,qr];rfl
 |ik f=>grind [qY,Fa,iB,TU]
 |im =>
  simp only[qY,DC,iB]
  grind [TU]
 |invoke name =>
  simp only[qY,tH,iB];split
  .simp_all [yt,TU]
  grind
 |recover =>
  simp only[qY,Tg,iB];cases rt.ctx.round with
  |some l=>rfl
  |none =>
   cases vs with
   |cons x xs=>rfl
   |nil =>
    rcases hu:st.up with _|_|⟨⟨v,_|_⟩,c⟩<;>simp only[Ru,hu]<;>rfl
 |defer =>
  simp only[qY,wN,iB];cases rt.ctx.round with
  |some l=>rfl
  |none =>
   simp only;split
   .rfl
   grind
 |panic =>
  simp only[qY,xN,iB]
  grind [TU,og]
end Go.Am
namespace Go.Am
section moves
variable{P:Jg}{b:Nd}{a:Act}{k:List Item}{cs cs':List Nd}{w w':N7}{ops:Array Pt}{i:Nat}{rest:List Nat}{o:Pt}
def N6(ho:ops[i]? = B1 o)(v:Kl):(b.atR a (.inRegion ops (i::rest)::k)).finish v=b.atR (a.put o.dst v) (.inRegion ops rest::k):=by
 grind [Nd.finish_atR]
def LL(ho:ops[i]? = B1 o)(hw:B9 o (yielded ops a.tmps)=B4){v:Kl}(hr:(o.semAt b.roundOf a.eval).run P w=.ok (.value v) w') :
 step P (lone (b.atR a (.inRegion ops (i::rest)::k)) cs w)=.next (lone (b.atR (a.put o.dst v) (.inRegion ops rest::k)) cs w') :=
 step_lone_go (by simp_all[stepGR_op,N6,CJ])
def Qn(ho:ops[i]? = B1 o)(hw:B9 o (yielded ops a.tmps)=B4)(hr:(o.semAt b.roundOf a.eval).run P w=.ok .skip w') :
 step P (lone (b.atR a (.inRegion ops (i::rest)::k)) cs w)=.next (lone (b.atR (a.put o.dst undef) (.inRegion ops rest::k)) cs w') :=
 step_lone_go (by simp_all[stepGR_op,N6,CJ])
def af3(ho:ops[i]? = B1 o)(hw:B9 o (yielded ops a.tmps)=B4){d:Deferred}(hr:(o.semAt b.roundOf a.eval).run P w=.ok (.defer d) w') :
 step P (lone (b.atR a (.inRegion ops (i::rest)::k)) cs w)=.next (lone (b.atR (({a with defers:=d::a.defers}:Act).put o.dst undef) (.inRegion ops rest::k)) cs w'):=by
 refine step_lone_go ?_;have:({b.atR a (.inRegion ops (i::rest)::k)with defers:=d::a.defers}:Nd).finish undef =
  b.atR ({a with defers:=d::a.defers}.put o.dst undef) (.inRegion ops rest::k):=by
  have:=Nd.finish_atR b {a with defers:=d::a.defers} ops i rest k undef;rw[ho]at this;exact this
 rw[stepGR_op ho hw];simp only[CJ,Sem.runT_eq,hr,GStep.bare_after];exact congrArg (λ fr=>GStep.go {frame:=fr,callers:=cs,status:=.running,dying:=B5} w') this
def U5(ho:ops[i]? = B1 o)(hw:B9 o (yielded ops a.tmps)=B4){f:FuncId}{args:Array Kl}(hr:(o.semAt b.roundOf a.eval).run P w=.ok (.enter f args) w') :
 step P (lone (b.atR a (.inRegion ops (i::rest)::k)) cs w)=.next (lone (Frame.enter P f args .normal) (b.atR a (.inRegion ops (i::rest)::k)::cs) w') :=
 step_lone_go (by rw[stepGR_op ho hw];simp[CJ,hr,CK])
def Ff(ho:ops[i]? = B1 o)(hw:B9 o (yielded ops a.tmps)=B4){l:Nat}{f:FuncId}{tmps:Array Kl}{as body:Code}(hr:(o.semAt b.roundOf a.eval).run P w=.ok (.round l f tmps as body) w') :
 step P (lone (b.atR a (.inRegion ops (i::rest)::k)) cs w)=.next (lone (Frame.round l f tmps as body .normal) (b.atR a (.inRegion ops (i::rest)::k)::cs) w') :=
 step_lone_go (by rw[stepGR_op ho hw];simp_all[CJ])
def ae0(ho:ops[i]? = B1 o)(hw:B9 o (yielded ops a.tmps)=B4){v:Kl}(hr:(o.semAt b.roundOf a.eval).run P w=.halt (.panic v) w') :
 step P (lone (b.atR a (.inRegion ops (i::rest)::k)) cs w)=.next (lone {b.atR a (.inRegion ops (i::rest)::k)with mode:=.panicking [{v,recovered:=B2}]} cs w') :=
 step_lone_go (by simp_all[stepGR_op,Ch,CJ])
def xip(ho:ops[i]? = B1 o)(hw:B9 o (yielded ops a.tmps)=B4)(hb:b.roundOf=B5)(hr:(o.semAt b.roundOf a.eval).run P w=.ok .recover w'){v:Kl}
 (d:tryRecover (b.atR a (.inRegion ops (i::rest)::k)) cs=B1 (v,cs')) :
 step P (lone (b.atR a (.inRegion ops (i::rest)::k)) cs w)=.next (lone (b.atR (a.put o.dst v) (.inRegion ops rest::k)) cs' w') :=
 step_lone_go (by
  rw[stepGR_op ho hw,<-N6 ho];have c:(b.atR a (.inRegion ops (i::rest)::k)).roundOf=none:=hb;simp_all[CJ])
def q3z(ho:ops[i]? = B1 o)(hw:B9 o (yielded ops a.tmps)=B4)(hb:b.roundOf=B5)(hr:(o.semAt b.roundOf a.eval).run P w=.ok .recover w')
 (d:tryRecover (b.atR a (.inRegion ops (i::rest)::k)) cs=B5) :
 step P (lone (b.atR a (.inRegion ops (i::rest)::k)) cs w)=.next (lone (b.atR (a.put o.dst .nilIface) (.inRegion ops rest::k)) cs w') :=
 step_lone_go (by
  rw[stepGR_op ho hw,<-N6 ho];have c:(b.atR a (.inRegion ops (i::rest)::k)).roundOf=none:=hb;simp_all[CJ])
end moves
def rX(P:Jg)(base:Nat)(call:cj):Prop :=
 ∀(D:Nat->Prop)θ H w f vs(args:Array Kl)up H' e up' kind cs,HR P base D θ H w->bP D θ vs args.toList->qP D θ kind up cs->call f vs up H=B1 (e,up',H')->eE D H.au H'.au ->
  (∃fn c,P.funcs[f]? = B1 fn/\fn.body=B1 c) /\
  ∃θ' w' cs' fr e',Steps P (lone (Frame.enter P f args kind) cs w) (lone fr cs' w')/\fr.kind=kind/\fr.fn=f/\fr.going P w' e'/\Qk (Up D H.au H'.au) θ' e e' /\
   HR P base (Up D H.au H'.au) θ' H' w'/\bG D H θ w H' θ' w'/\up'.isSome=up.isSome/\fE up cs cs'/\qP (Up D H.au H'.au) θ' kind up' cs'
def wK(P:Jg)(base:Nat)(round:iU):Prop :=
 ∀(D:Nat->Prop)θ H w l vs(args:Array Kl)H' e(c:Nd)cs,HR P base D θ H w->bP D θ vs args.toList->round vs l H=B1 (e,H')->eE D H.au H'.au ->
  ∃f tmps as body,(Instr.yield (θ.ct l) args).run P w=.ok (.round (θ.ct l) f tmps as body) w /\
  ∃θ' w' fin,Steps P (lone (Frame.round (θ.ct l) f tmps as body .normal) (c::cs) w) (lone fin cs w') /\
   (match e with
    | .ret v=>∃cv,VR (Up D H.au H'.au) θ' v cv/\fin=c.finish cv
    | .panic ch=>∃ps,ch≠[]/\fL (Up D H.au H'.au) θ' ch ps/\fin=c.raise ps) /\
   HR P base (Up D H.au H'.au) θ' H' w'/\bG D H θ w H' θ' w'
def iW.heap:iW->ar
 | .val _ _ _ H=>H
 | .panic _ H=>H
def JT(P:Jg)(base:Nat)(D:Nat->Prop)(θ:Th)(st:St)(b:Nd)(a:Act)(ops:Array Pt)(i:Nat)(rest:List Nat)(k:List Item)(cs:List Nd)(w:N7)(o:Pt):iW->Prop
 | .val v aZ up H'=>∃θ' w' c cs' ds,Steps P (lone (b.atR a (.inRegion ops (i::rest)::k)) cs w) (lone (b.atR (({a with defers:=ds}:Act).put o.dst c) (.inRegion ops rest::k)) cs' w') /\
  HR P base (Up D st.H.au H'.au) θ' H' w'/\bG D st.H θ w H' θ' w'/\VR (Up D st.H.au H'.au) θ' v c/\hJ (Up D st.H.au H'.au) θ' aZ ds/\up.isSome=st.up.isSome /\
  qP (Up D st.H.au H'.au) θ' b.kind up cs'/\fE st.up cs cs'
 | .panic ch H'=>∃θ' w' ps todo,Steps P (lone (b.atR a (.inRegion ops (i::rest)::k)) cs w) (lone {b.atR a todo with mode:=.panicking ps} cs w') /\
  HR P base (Up D st.H.au H'.au) θ' H' w'/\bG D st.H θ w H' θ' w'/\ch≠[]/\fL (Up D st.H.au H'.au) θ' ch ps
section
variable{P:Jg}{base:Nat}{D:Nat->Prop}{θ:Th}
def XZ{fr:Nd}{w:N7}{e:Ending}(h:fr.going P w e)(hk:fr.kind=.normal):fr.leaving P w e:=by
 cases e with
 |returned v=>have⟨d,f,g⟩:=h;exact⟨d,f,hk,g⟩
 |panicked c=>exact h
 |outgrown=>trivial
theorem Rv{f:FuncId}{fn:Func}{c:Code}{args:Array Kl}{w:N7}(e:d8 P)(d:P.funcs[f]? = B1 fn)(hb:fn.body=B1 c):(callFunc f args).run P w=.ok (.enter f args) w:=by
 simp[callFunc,d,hb,e.names f fn d]
def xj8{t:Ku}{name:String}{f:Nat}(h:zC P t name=B1 f)(v:Kl)(w:N7):(method (P.types.size+Made.depth) t v name).run P w=.ok (f,v) w:=by
 unfold zC at h;simp only[qj]at h;have⟨i,j,m,hm,h⟩:=h;split at h
 .cases h
 .rename_i l;simp only[qj]at h;have⟨p,hp,h⟩:=h;have e:m.path.toList=[]:=by
   grind
  obtain⟨n,hn⟩:∃n,P.types.size+Made.depth=n+1:=⟨P.types.size+99,rfl⟩
  rw[hn];have⟨q,g⟩:=p;have c:(typeInfo t).run P w=.ok i w:=by simp[typeInfo,j]
  simp only[method,Nc,c,N9,hm,e,follow,B7,hp];cases hu:P.underlying t with
  |none=>grind
  |some d =>
   rw[hu]at h;have hr:∀wr,d=d->(receiverAt t (.val v) g wr).run P w=.ok v w/\q=f:=by
    intro wr _;cases d<;>cases g<;>simp only[reduceCtorEq,qk]at h<;>exact(by simp_all[receiverAt,ku,Place.get])
   simp[(hr _ rfl).1,(hr B5 rfl).2]
def Xt{call:cj}(hc:rX P base call){st:St}{b:Nd}{a:Act}{ops:Array Pt}{i:Nat}{rest:List Nat}{k:List Item}{cs:List Nd}{w:N7}{o:Pt}
 (ho:ops[i]? = B1 o) (z:HR P base D θ st.H w) (x:hJ D θ st.aZ a.defers) (hu:qP D θ b.kind st.up cs) {f:Nat} {vs:List AV} {args:Array Kl} (A:bP D θ vs args.toList)
 (hs:(∃fn c,P.funcs[f]? = B1 fn/\fn.body=B1 c)->step P (lone (b.atR a (.inRegion ops (i::rest)::k)) cs w)=.next (lone (Frame.enter P f args .normal) (b.atR a (.inRegion ops (i::rest)::k)::cs) w))
 {r:bM×ar} {u:Option aH} (hr:call f vs B5 st.H=B1 (r.1,u,r.2)) (y:eE D st.H.au r.2.au) :
 JT P base D θ st b a ops i rest k cs w o (og st.aZ st.up r):=by
 have⟨l,θ',w',cs',fr,e',m,q,B,s,g,n,h,C,t,p⟩:=hc D θ st.H w f vs args B5 r.2 r.1 u .normal (b.atR a (.inRegion ops (i::rest)::k)::cs) z A rfl hr y;have j:cs'=b.atR a (.inRegion ops (i::rest)::k)::cs:=t;subst j;have d:=hs l;have hl:=XZ s q;have⟨e,H'⟩:=r;cases e with
 |ret v =>
  cases e' with
  |returned c =>
   refine⟨θ',w',c,cs,a.defers,.head d (m.trans (.one ?_)),n,h,g,hJ.up h.ag Up.of x,rfl,qP.up h.ag Up.of hu,fE.refl hu⟩;rw[step_leave_returned hl,N6 ho]
  |panicked c=>exact g.elim
  |outgrown=>exact g.elim
 |panic ch =>
  cases e' with
  |returned c=>exact g.elim
  |panicked ps =>
   refine⟨θ',w',ps,.inRegion ops (i::rest)::k,.head d (m.trans (.one ?_)),n,h,g.1,g.2⟩;rw[step_leave_panicked hl,Ch]
  |outgrown=>exact g.elim
def TI{f:mG}{first cap:List AV}{c:Kl}(h:VR D θ (.fn f first cap) c):∃x y:List Kl,c=.func (fT θ f) x.toArray y.toArray/\bP D θ first x/\bP D θ cap y/\(∀θ',Ag D θ θ'->fT θ' f=fT θ f):=by
 refine⟨cu θ first,cu θ cap,h.now.symm,λ θ' ha=>?_,λ θ' ha=>?_,λ θ' ha=>?_⟩ <;>
 .have:=(h θ' ha).trans h.now.symm
  grind [aC]
set_option maxHeartbeats 1000000 in
def WH(hP:d8 P){rt:RT}(E:rX P base rt.call)(V:wK P base rt.round)(hAP:rt.AP=bq P){o:Pt}{I:fN}{xs:List M6}(B:sy P o xs I)(hdef:CC o I)
 {ops:Array Pt} {i:Nat} {rest:List Nat} {a:Act} (ho:ops[i]? = B1 o) (hw:B9 o (yielded ops a.tmps)=B4) {st:St} {w:N7} {b:Nd} {k:List Item} {cs:List Nd} {vs:List AV} {r:iW}
 (J:HR P base D θ st.H w) (M:hJ D θ st.aZ a.defers) (hu:qP D θ b.kind st.up cs) (hb:Al D θ b.roundOf rt.ctx.round) (R:bP D θ vs (xs.map a.eval)) (hr:iB rt st vs I=B1 r)
 (hf:eE D st.H.au r.heap.au):JT P base D θ st b a ops i rest k cs w o r:=by
 have d:Up D st.H.au st.H.au=D:=Up.none;have U:I≠ .defer->I≠ .pure Op.fail->o.semAt b.roundOf a.eval=execOp a.eval o:=λ L W=>Br _ _ _ (by
  rcases hdef with h|h|h
  .exact h
  .exact absurd h L
  .exact absurd h W)
 cases I with
 |pure f =>
  simp only[iB,qj,qk]at hr;obtain⟨v,s,rfl⟩:=hr;have⟨c,A,C⟩:=B D θ a.eval w vs v (SP a) R s;have g:o.semAt b.roundOf a.eval=execOp a.eval o:=U (by intro q;cases q) (by intro q;cases q;cases s);refine⟨θ,w,c,cs,a.defers,.one ?_,by rw[d];exact J,.refl _ _ _ _,by rw[d];exact C,by rw[d];exact M,rfl,by rw[d];exact hu,fE.refl hu⟩;rcases A with A|⟨A,rfl⟩
  .exact LL ho hw (by rw[g];exact A)
  .exact Qn ho hw (by rw[g];exact A)
 |read f =>
  simp only[iB,qj,qk]at hr;obtain⟨v,s,rfl⟩:=hr;have⟨c,A,C⟩:=B base D θ st.H a.eval w vs v J R s;have g:o.semAt b.roundOf a.eval=execOp a.eval o:=U (by intro q;cases q) (by intro q;cases q);refine⟨θ,w,c,cs,a.defers,.one ?_,by rw[d];exact J,.refl _ _ _ _,by rw[d];exact C,by rw[d];exact M,rfl,by rw[d];exact hu,fE.refl hu⟩;rcases A with A|⟨A,rfl⟩
  .exact LL ho hw (by rw[g];exact A)
  .exact Qn ho hw (by rw[g];exact A)
 |alloc f =>
  simp only[iB,qj,qk]at hr;obtain⟨⟨ob,mk⟩,s,rfl⟩:=hr;have⟨hown,w0,co,ext,c,A,C,X⟩:=B.1 D θ a.eval w vs ob mk (SP a) R s;have g:o.semAt b.roundOf a.eval=execOp a.eval o:=U (by intro q;cases q) (by intro q;cases q);have hn:¬D st.H.au:=hf _ (qm _) (zu _);have hag:=Th.hO θ st.H.au w0.heap.size 0 ext hn;have⟨e1,e2,e3⟩:=Th.eT θ st.H.au w0.heap.size 0 ext;have⟨k1,k2⟩:=X (Up D st.H.au (st.H.au+1)) (θ.add st.H.au w0.heap.size 0 ext) st.H.au hag Up.of (.inr ⟨qm _,zu _⟩) (by rw[e1,C.heap]) e2 e3;have hh0:HR P base D θ st.H w0:=J.draw C.heap;refine⟨θ.add st.H.au w0.heap.size 0 ext,w0.alloc co,c,cs,a.defers,.one (LL ho hw (by rw[g];exact A)),?_,?_,k2,hJ.up hag Up.of M,rfl,qP.up hag Up.of hu,fE.refl hu⟩
  .refine hh0.alloc hn ?_ ?_ (qm _) ?_ k1
   .rw [Dl];simp
   .intro j hj;rw[Dl,qy (Ll hj)]
   .simp
  .exact (bG.draw (w:=w) (w':=w0) C.heap C.os C.tape C.output).trans (bG.alloc (w:=w0) hh0 hn _ _ _ _) (λ _ h=>h)
 |gY f =>
  simp only[iB,qj,qk]at hr;obtain⟨⟨v,H'⟩,s,rfl⟩:=hr;have⟨θ',w',c,A,C,X,g4⟩:=B.1 base D θ st.H a.eval w vs v H' J R s hf;have g:o.semAt b.roundOf a.eval=execOp a.eval o:=U (by intro q;cases q) (by intro q;cases q);refine⟨θ',w',c,cs,a.defers,.one ?_,C,X,g4,hJ.up X.ag Up.of M,rfl,qP.up X.ag Up.of hu,fE.refl hu⟩;rcases A with A|⟨A,rfl⟩
  .exact LL ho hw (by rw[g];exact A)
  .exact Qn ho hw (by rw[g];exact A)
 |ik f =>
  obtain⟨c,fn,body,s,K,rfl,h3,h4⟩:=B;simp only[iB,df,yt,qr,qj,qk]at hr;obtain⟨⟨e,u,H'⟩,hc,rfl⟩:=hr;have g:o.semAt b.roundOf a.eval=execOp a.eval o:=Br _ _ _ (λ c'=>by rw[s];simp);refine Xt E ho J M hu (args:=c.args.map a.eval) (by simpa using R) (λ _=>U5 ho hw ?_) hc (by cases e<;>exact hf);rw[g];simp[execOp,s,resolve,K,Act.eval,Bk,invoke,Rv hP h3 h4]
 |im =>
  obtain⟨c,x,s,K,rfl⟩:=B;have g:o.semAt b.roundOf a.eval=execOp a.eval o:=Br _ _ _ (λ c'=>by rw[s];simp);simp only[iB]at hr;split at hr
  .rename_i f first cap args
   simp only[df,yt,qr,qj,qk]at hr;obtain⟨⟨e,u,H'⟩,hc,rfl⟩:=hr;have⟨cf,ca,z,L,W⟩:=R.eF;simp only[j6,z4]at z;obtain⟨rfl,rfl⟩:=z;have⟨fi,ci,S,Z,q5,_⟩:=TI L;refine Xt E ho J M hu (args:=(fi.toArray++c.args.map a.eval)++ci.toArray) ?_ (λ hfn=>U5 ho hw ?_) hc (by cases e<;>exact hf)
   .simpa using Z.app (W.app q5)
   .have ⟨fn,body,h3,h4⟩:=hfn;rw[g];simp[execOp,s,resolve,K,S,fT,Bk,invoke,Rv hP h3 h4]
  .rename_i l first args
   simp only[df,qj,qk]at hr;obtain⟨⟨e,H'⟩,hc,rfl⟩:=hr;have⟨cf,ca,z,L,W⟩:=R.eF;simp only[j6,z4]at z;obtain⟨rfl,rfl⟩:=z;have⟨fi,ci,S,Z,q5,_⟩:=TI L;have hf':eE D st.H.au H'.au:=by cases e<;>exact hf
   have⟨f,tmps,as,body,A,θ',w',fin,C,X,g4,g5⟩:=V D θ st.H w l (first++args) (fi.toArray++c.args.map a.eval) H' e (b.atR a (.inRegion ops (i::rest)::k)) cs J (by simpa using Z.app W) hc hf';have N:=Ff (P:=P) (b:=b) (k:=k) (cs:=cs) (w:=w) (rest:=rest) ho hw (l:=θ.ct l) (f:=f) (tmps:=tmps) (as:=as) (body:=body) (w':=w) (by
    rw[g];simp[execOp,s,resolve,K,S,fT,Bk,invoke,A])
   cases e with
   |ret v =>
    obtain⟨cv,k1,rfl⟩:=X;refine⟨θ',w',cv,cs,a.defers,.head N ?_,g4,g5,k1,hJ.up g5.ag Up.of M,rfl,qP.up g5.ag Up.of hu,fE.refl hu⟩;rw[N6 ho]at C;exact C
   |panic ch =>
    obtain⟨Y,k0,k1,rfl⟩:=X;refine⟨θ',w',Y,.inRegion ops (i::rest)::k,.head N ?_,g4,g5,k0,k1⟩;rw[Ch]at C;exact C
  .cases hr
 |invoke m =>
  obtain⟨c,x,s,K,rfl⟩:=B;have g:o.semAt b.roundOf a.eval=execOp a.eval o:=Br _ _ _ (λ c'=>by rw[s];simp);simp only[iB]at hr;split at hr
  .rename_i t v args;simp only[df,yt,qr,qj,qk]at hr;obtain⟨f,hm,⟨e,u,H'⟩,hc,rfl⟩:=hr;have⟨cf,ca,z,L,W⟩:=R.eF;simp only[j6,z4]at z;obtain⟨rfl,rfl⟩:=z;have⟨cv,S,Z⟩:=L.mA;rw[hAP]at hm;have hm':zC P t m=B1 f:=hm;refine Xt E ho J M hu (args:=#[cv]++c.args.map a.eval) (by simpa using bP.cons Z W) (λ hfn=>U5 ho hw ?_) hc (by cases e<;>exact hf);have⟨fn,body,h3,h4⟩:=hfn;rw[g];have hx:(#[Kl.iface t cv]++c.args.map a.eval)[0]? = B1 (.iface t cv):=by
    rw[Array.getElem?_append];simp
   have hx2:(#[Kl.iface t cv]++c.args.map a.eval).extract 1 (#[Kl.iface t cv]++c.args.map a.eval).size=c.args.map a.eval:=by
    apply Array.ext';rw[Array.toList_extract,Array.toList_append];simp[List.extract,zd]
   simp only[execOp,s,resolve,K,Nc,B7,N9,invoke,S,hx,hx2,callMethod,program,Sem.run,xj8 hm',Rv hP h3 h4]
  .cases hr
 |recover =>
  obtain⟨c,s,K,rfl⟩:=B;have g:o.semAt b.roundOf a.eval=execOp a.eval o:=Br _ _ _ (λ c'=>by rw[s];simp);simp only[iB]at hr;split at hr
  .cases hr
  .rename_i F;rw[F]at hb;have hb:b.roundOf=none:=hb;have G:(o.semAt b.roundOf a.eval).run P w=.ok .recover w:=by
    rw[g];have⟨cc,hE⟩:=Kh (ρ:=a.eval) s K;rw[hE];rfl
   split at hr
   .split at hr
    .rename_i v older O;cases hr;rw[O]at hu;cases cs with
     |nil=>exact hu.elim
     |cons c0 kU =>
      have⟨hk,hm⟩:=hu;cases n:c0.mode with
      |run=>rw[n]at hm;exact hm.elim
      |returning=>rw[n]at hm;cases hm
      |panicking Y =>
       rw[n]at hm;have⟨_,hm⟩:=hm;cases Y with
       |nil=>exact hm.elim
       |cons p Y =>
        have⟨⟨m1,m2,m3⟩,m4⟩:=hm;have⟨pv,pr,pg⟩:=p;simp only at m1 m2 m3;subst m2;subst m3;refine⟨θ,w,pv,{c0 with mode:=.panicking ({v:=pv,recovered:=B4}::Y)}::kU,a.defers,.one ?_,by rw[d];exact J,.refl _ _ _ _,by rw[d];exact m1,by rw[d];exact M,by rw[O];rfl,?_,?_⟩
        .refine xip ho hw hb G ?_;simp[tryRecover,CK,hk,n]
        .rw [d];exact⟨hk,by simp,⟨m1,rfl,rfl⟩,m4⟩
        .rw [O];exact⟨_,rfl⟩
    .rename_i O;cases hr;refine⟨θ,w,.nilIface,cs,a.defers,.one (q3z ho hw hb G ?_),by rw[d];exact J,.refl _ _ _ _,λ _ _=>rfl,by rw[d];exact M,rfl,by rw[d];exact hu,fE.refl hu⟩;unfold tryRecover;cases Q:st.up with
     |none =>
      rw[Q]at hu;have hk:b.kind=.normal:=hu;simp[CK,hk]
     |some ch =>
      rw[Q]at hu;cases cs with
      |nil=>exact hu.elim
      |cons c0 kU =>
       have⟨hk,hm⟩:=hu;cases n:c0.mode with
       |run=>rw[n]at hm;exact hm.elim
       |returning=>simp[CK,hk,n]
       |panicking Y =>
        rw[n]at hm;have⟨_,hm⟩:=hm;cases Y with
        |nil=>simp[CK,hk,n]
        |cons p Y =>
         cases ch with
         |nil=>exact hm.elim
         |cons e es =>
          have⟨⟨m1,m2,m3⟩,m4⟩:=hm;have⟨pv,pr,pg⟩:=p;have⟨ev,er⟩:=e;simp only at m2 m3;subst m2;subst m3;cases pr with
          |false=>exact absurd Q (O _ _)
          |true=>simp[CK,hk,n]
   .cases hr
 |defer =>
  obtain⟨c,x,s,K,rfl⟩:=B;simp only[iB]at hr;split at hr
  .cases hr
  .rename_i F;rw[F]at hb;have hb:b.roundOf=none:=hb;split at hr
   .rename_i f first cap args
    cases hr;have⟨cf,ca,z,L,W⟩:=R.eF;simp only[j6,z4]at z;obtain⟨rfl,rfl⟩:=z;have⟨fi,ci,S,Z,q5,q6⟩:=TI L;refine⟨θ,w,undef,cs,{target:=.fn (.func f) ci.toArray,args:=fi.toArray++c.args.map a.eval}::a.defers,.one ?_,by rw[d];exact J,.refl _ _ _ _,.undef,?_,rfl,by rw[d];exact hu,fE.refl hu⟩
    .refine af3 ho hw ?_;rw[hb,Pt.semAt_none];simp[execOp,s,resolve,K,S,fT,Bk]
    .rw [d];exact⟨⟨_,_,rfl,λ _ _=>rfl,by simpa using Z.app (W.app q5)⟩,M⟩
   .cases hr
 |panic =>
  simp only[iB]at hr;split at hr
  .rename_i t v;cases hr;obtain⟨x,rfl,L⟩:=R.pQ;have⟨cv,S,Z⟩:=L.mA;have G:(o.semAt b.roundOf a.eval).run P w=.halt (.panic (a.eval x)) w:=by
    rcases B with⟨y,s,hy⟩|⟨c,s,K,hy⟩
    .simp only[z4,ug]at hy;subst hy;rw[Br _ _ _ (λ c'=>by rw[s];simp)];simp[execOp,s,S,Instr.panic,goPanic]
    .rw [Br _ _ _ (λ c'=>by rw[s];simp)];have⟨cc,hE⟩:=Kh (ρ:=a.eval) s K;rw[hE,AN hy.symm];simp[builtin,S,Instr.panic,goPanic]
   refine⟨θ,w,[{v:=a.eval x,recovered:=B2}],.inRegion ops (i::rest)::k,.one (ae0 ho hw G),by rw[d];exact J,.refl _ _ _ _,by simp,?_⟩;rw[d];exact⟨⟨L,rfl,rfl⟩,trivial⟩
  .cases hr
end
end Go.Am
namespace Go.Am
def dy(s:aQ)(tm:T AV):Option Bool :=
 match s.guard with
 |none=>B1 B4
 |some g=>cV g.2 (tm.get g.1)
def WK(s:aQ)(hc:s.iA=B2)(rt:RT)(K:St->gZ)(st:St) :
 (gQ s).run rt K st=(dy s st.tm).bind λ w=>cond w ((mF st.tm s.args).bind λ vs=>(iB rt st vs s.op).bind (uO (eK s.dst) s.cM st K)) (K ⟨eK s.dst .undef st.tm,st.aZ,st.up,st.H⟩):=by
 have c:(lJ s.dst).run=eK s.dst:=by grind [VK]
 unfold gQ dy;rw[hc];cases hg:s.guard with
 |none=>simp_all[Ia,η]
 |some g=>simp_all[Ia,η,T.jW,T.get]
def mn(s:aQ)(hc:s.iA=B4){d:Nat}(e:s.dst=B1 d)(rt:RT)(K:St->gZ)(st:St) :
 (gQ s).run rt K st=(dy s st.tm).bind λ w=>cond w ((mF st.tm s.args).bind λ vs=>cond (qX (λ t=>t.get d) st vs s.op) (K st) B5) (K st):=by
 have c:(T.oY (α:=AV) (T.path d)).run=λ t=>t.get d:=by funext t;exact T.jW _ _
 unfold gQ dy;rw[hc,e];cases hg:s.guard with
 |none=>simp_all[Ia]
 |some g =>
  simp only[Ia,c];rw[show(T.oY (T.path g.1)).run st.tm=st.tm.get g.1 from T.jW _ _]
theorem sM(s:aQ)(hc:s.iA=B4)(c:s.dst=B5)(rt:RT)(K:St->gZ)(st:St):(gQ s).run rt K st=none:=by
 grind [gQ]
def qI(call:cj):Prop:=∀f vs up H e up' H',call f vs up H=B1 (e,up',H')->Ext H H'
def Ay(round:iU):Prop:=∀vs l H e H',round vs l H=B1 (e,H')->Ext H H'
def ub:ai->Prop
 | .region steps=>∀s∈steps,dJ s.op
 | .seq a b=>ub a/\ub b
 | .cond _ a b=>ub a/\ub b
 | .block _ b=>ub b
 | .loop _ b=>ub b
 | .scope b=>ub b
 |_=>True
def ad2(fn:bZ):Prop:=ub fn.body /\ ∀lp∈fn.loops,ub lp.assign/\ub lp.body
def T9(AP:jU):Prop:=∀f fn,AP.func f=B1 fn->ad2 fn
section
variable{rt:RT}(hc:qI rt.call)(hr:Ay rt.round)
include hc hr
def UZ{op:fN}(ho:dJ op){st:St}{vs:List AV}{r:iW}(h:iB rt st vs op=B1 r):Ext st.H r.heap:=by
 have c:∀(q:bM×ar),Ext st.H q.2->Ext st.H (og st.aZ st.up q).heap:=by
  intro q g;have⟨e,H'⟩:=q;cases e<;>exact g
 cases op with
 |pure f=>simp only[iB,qj,qk]at h;obtain⟨_,_,rfl⟩:=h;exact Ext.refl _
 |read f=>simp only[iB,qj,qk]at h;obtain⟨_,_,rfl⟩:=h;exact Ext.refl _
 |alloc f=>simp only[iB,qj,qk]at h;obtain⟨⟨j,mk⟩,d,rfl⟩:=h;exact Ext.alloc _ _ (ho _ _ _ d)
 |gY f=>simp only[iB,qj,qk]at h;obtain⟨⟨v,H'⟩,d,rfl⟩:=h;exact ho _ _ _ _ d
 |ik f =>
  simp only[iB,df,yt,qr,qj,qk]at h;obtain⟨⟨e,u,H'⟩,d,rfl⟩:=h;exact c _ (hc _ _ _ _ _ _ _ d)
 |im =>
  simp only[iB]at h;split at h
  .simp only[df,yt,qr,qj,qk]at h;obtain⟨⟨e,u,H'⟩,d,rfl⟩:=h;exact c _ (hc _ _ _ _ _ _ _ d)
  .simp only[df,qj,qk]at h;obtain⟨⟨e,H'⟩,d,rfl⟩:=h;exact c _ (hr _ _ _ _ _ d)
  grind
 |invoke m =>
  simp only[iB]at h;split at h
  .simp only[df,yt,qr,qj,qk]at h;obtain⟨_,_,⟨e,u,H'⟩,d,rfl⟩:=h;exact c _ (hc _ _ _ _ _ _ _ d)
  grind
 |recover =>
  simp only[iB]at h;split at h
  .cases h
  .split at h
   .split at h<;>(cases h;exact Ext.refl _)
   grind
 |defer =>
  simp only[iB]at h;split at h
  .cases h
  .split at h
   .cases h;exact Ext.refl _
   grind
 |panic =>
  simp only[iB]at h;split at h
  .cases h;exact Ext.refl _
  grind
def π{op:fN}(ho:dJ op){st:St}{vs:List AV}{r:iW}(h:iB rt st vs op=B1 r):st.H.au<=r.heap.au:=(UZ hc hr ho h).1
def xnu{s:aQ}(ho:dJ s.op){K:St->gZ}(g:∀st r,K st=B1 r->Ext st.H r.2.H){st:St}{r:aX×St}(h:(gQ s).run rt K st=B1 r):Ext st.H r.2.H:=by
 cases e:s.iA with
 |false =>
  rw[WK s e,qj]at h;have⟨w,hw,h⟩:=h;cases w with
  |false =>
   grind
  |true =>
   simp only[xt,qj]at h;have⟨vs,_,q,l,h⟩:=h;have f:=UZ hc hr ho l;cases q with
   |val v d u H'=>exact Ext.trans f (g _ _ h)
   |panic c H' =>
    simp only[uO,qj,qk]at h;obtain⟨_,_,rfl⟩:=h;exact f
 |true =>
  cases j:s.dst with
  |none=>grind [sM]
  |some d =>
   rw[mn s e j,qj]at h;have⟨w,hw,h⟩:=h;cases w with
   |false =>
    grind
   |true =>
    simp only[xt,qj]at h
    grind
def Ys:∀{l:List aQ},(∀s∈l,dJ s.op) -> ∀{st:St}{r:aX×St},(ib l).run rt st=B1 r->Ext st.H r.2.H
 |[],_,st,r,h=>by cases h;exact Ext.refl _
 |s::l,ho,st,r,h=>xnu hc hr (by grind) (λ st r h=>Ys (by grind) h) h
def xgl{l:List aQ}(hl:∀s∈l,dJ s.op){st:St}{r:aX×St}(h:(ib l).run rt st=B1 r):st.H.au<=r.2.H.au:=(Ys hc hr hl h).1
omit hc hr in
def Vq{body:St->gZ}(hb:∀st r,body st=B1 r->Ext st.H r.2.H)(ah:Option (List Nat)):∀(n:Nat)(st:St)(r:aX×St),gR ah body n st=B1 r->Ext st.H r.2.H
 |0,st,r,h=>by cases h
 |n+1,st,r,h=>by
  simp only[gR,qj]at h;have⟨q,d,h⟩:=h;have c:=hb _ _ d;have c:Ext st.H q.2.H:=by cases ah<;>exact c
  split at h
  .exact Ext.trans c (Vq hb ah n _ _ h)
  .cases h;exact c
omit hc hr in
def xjl{body:St->gZ}(hb:∀st r,body st=B1 r->Ext st.H r.2.H)(ah:Option (List Nat))(n:Nat)(st:St)(r:aX×St)(h:gR ah body n st=B1 r):st.H.au<=r.2.H.au:=(Vq hb ah n st r h).1
omit hr in
def Z4{st:St}{k:Nat}{H0:ar}{aZ:List aL}{d:Nat}{v:AV}{r:aX×St}(f:Ext st.H H0)(h:jC rt.call rt.round rt.ctx st k H0 aZ d v=B1 r):Ext st.H r.2.H:=by
 unfold jC at h;split at h
 .simp only[df,yt,qr,qj]at h;have⟨⟨e,u,H'⟩,g,h⟩:=h;have c:=(f.trans (Ext.alloc _ _ rfl)).trans (hc _ _ _ _ _ _ _ g);unfold M8 at h;split at h
  .cases h;exact c
  .split at h
   .cases h
   .rename_i hg;cases h;exact c.trans (Ext.set hg _ (λ _=>rfl))
   .cases h
 .cases h
omit hr in
def xf9{st:St}{k:Nat}{H0:ar}{aZ:List aL}{d:Nat}{v:AV}{r:aX×St}(c:Ext st.H H0)(h:jC rt.call rt.round rt.ctx st k H0 aZ d v=B1 r):st.H.au<=r.2.H.au:=(Z4 hc c h).1
def AD:∀{c:ai},ub c -> ∀{st:St}{r:aX×St},(bJ c).run rt st=B1 r->Ext st.H r.2.H
 | .skip,_,st,r,h=>by cases h;exact Ext.refl _
 | .label _,_,st,r,h=>by cases h;exact Ext.refl _
 | .region steps,hm,st,r,h=>Ys hc hr hm h
 | .seq a b,hm,st,r,h=>by
  simp only[bJ,qj]at h;have⟨q,e,h⟩:=h;have g:=AD hm.1 e;unfold uJ at h;split at h
  .exact Ext.trans g (AD hm.2 h)
  grind
 | .cond c a b,hm,st,r,h=>by
  simp only[bJ,qj]at h;have⟨v,j,h⟩:=h;unfold vB at h;split at h
  .rcases yj h with⟨_,h⟩|⟨_,h⟩
   .exact AD hm.1 h
   .exact AD hm.2 h
  grind
 | .block id b,hm,st,r,h=>by
  simp only[bJ,qj]at h;have⟨q,e,h⟩:=h;have g:=AD (c:=b) hm e
  grind [kK]
 | .loop ah b,hm,st,r,h=>Vq (λ st r h=>AD (c:=b) hm h) ah _ _ _ h
 | .exit _,_,st,r,h=>by cases h;exact Ext.refl _
 | .goto _,_,st,r,h=>by cases h;exact Ext.refl _
 | .ret,_,st,r,h=>by cases h;exact Ext.refl _
 | .stuck,_,st,r,h=>by cases h
 | .scope b,hm,st,r,h=>by
  simp only[bJ,qj]at h;have⟨q,e,h⟩:=h;have g:=AD (c:=b) hm e;unfold mj at h
  grind
 | .rangeFunc f k,_,st,r,h=>by
  simp only[bJ,qj]at h;have⟨v,j,h⟩:=h;unfold rp at h;split at h
  .exact Z4 hc (Ext.alloc _ _ rfl) h
  .simp only[qj]at h;have⟨d,_,h⟩:=h;exact Z4 hc (Ext.refl _) h
def NU{c:ai}(hm:ub c){st:St}{r:aX×St}(h:(bJ c).run rt st=B1 r):st.H.au<=r.2.H.au:=(AD hc hr hm h).1
end
theorem S0{call:cj}(hc:qI call){rs:List eC}{tm:T AV}:∀{ds:List aL}{m:Option aH}{H:ar}{r:bM×ar},cz call rs tm ds m H=B1 r->Ext H r.2
 |[],B5,H,r,h=>by
  grind [cz,qj,Ext.refl]
 |[],B1 c,H,r,h=>by cases h;exact Ext.refl _
 | .iy b::ds,m,H,r,h=>by
  simp only[cz]at h;split at h
  .rename_i hg;exact(Ext.set hg _ (λ _=>rfl)).trans (S0 (H:=H.set b _) hc h)
  grind
 | .fn (.func f) args::ds,m,H,r,h=>by
  simp only[cz,qj]at h;have⟨⟨e,u,H'⟩,d,h⟩:=h;have g:=hc _ _ _ _ _ _ _ d;split at h
  .simp only[qj]at h;have⟨j,_,h⟩:=h;exact Ext.trans g (S0 hc h)
  grind
 | .fn (.yield _) _::_,_,_,_,h=>by grind [cz]
def w_{call:cj}(hc:qI call){rs:List eC}{tm:T AV}{ds:List aL}{m:Option aH}{H:ar}{r:bM×ar}(h:cz call rs tm ds m H=B1 r):H.au<=r.2.au:=(S0 hc h).1
def xgh{H H':ar}{l:Nat}{s:nC}{p:Option ic}(h:cW H l s p=B1 H'):Ext H H':=by
 unfold cW at h;split at h
 .rename_i hg;cases h;exact Ext.set hg _ (λ _=>rfl)
 grind
def q63{H H':ar}{l:Nat}(h:beginRound H l=B1 H'):Ext H H':=by
 unfold beginRound at h;split at h
 .rename_i hg;cases h;exact Ext.set hg _ (λ _=>rfl)
 grind
theorem xd6{H H':ar}{l:Nat}{s:nC}{p:Option ic}(h:cW H l s p=B1 H'):H'.au=H.au:=by
 unfold cW at h;split at h
 .cases h;rfl
 grind
def q32{H H':ar}{l:Nat}(h:beginRound H l=B1 H'):H'.au=H.au:=by
 unfold beginRound at h;split at h
 .cases h;rfl
 grind
def Ty{AP:jU}(hp:T9 AP){call:cj}(hc:qI call)(m:Nat):∀n,Ay (rounds AP call m n)
 |0=>λ vs l H e H' h=>by cases h
 |n+1=>λ vs l H e H' h=>by
  have s:=Ty hp hc m n;simp only[rounds,roundOf]at h;split at h
  .rename_i st C f k tm d hg;simp only[qj]at h;have⟨fn,p,lp,x,A,_,q,y,h⟩:=h;have c:ub lp.assign/\ub lp.body:=(hp f fn p).2 lp (by grind [jL]);have g:=AD (rt:=⟨AP,call,rounds AP call m n,m,⟨B1 l,f⟩⟩) hc s c.1 y;have g:Ext H q.2.H:=g;split at h
   .simp only[qj]at h;have⟨t,hb,z,r,h⟩:=h;have j:=AD (rt:=⟨AP,call,rounds AP call m n,m,⟨B1 l,f⟩⟩) hc s c.2 r;have j:Ext t z.2.H:=j;have u:=(g.trans (q63 hb)).trans j;rcases yj h with⟨_,h⟩|⟨_,h⟩
    .unfold Gm at h;split at h
     .grind
     .simp only[qj,qk,zi]at h;obtain⟨B,v,_,rfl⟩:=h;exact u.trans (xgh v)
    grind
   grind
  grind
def xbj{AP:jU}(hp:T9 AP){call:cj}(l:qI call)(n:Nat):qI (HG AP call n) :=
 λ f vs up H e d H' h=>by
  simp only[HG,qj]at h;have⟨fn,c,q,p,h⟩:=h;have g:=AD (rt:=⟨AP,call,rounds AP call n n,n,⟨B5,f⟩⟩) l (Ty hp l n n) (hp f fn c).1 p;have g:Ext H q.2.H:=g;have j:∀m,((cz call fn.results q.2.tm q.2.aZ m q.2.H).bind λ z=>B1 (z.1,q.2.up,z.2))=B1 (e,d,H')->Ext H H':=by
   intro m h;simp only[qj,qk,zi]at h;obtain⟨z,r,_,_,rfl⟩:=h
   grind [Ext.trans,S0]
  grind [qE]
def u4{AP:jU}(hp:T9 AP){told:cj}(c:qI told):∀n,qI (ny AP told n)
 |0=>c
 |n+1=>λ f vs up H e d H' h=>by
  simp only[ny]at h;split at h
  .rename_i r hr;cases h;exact c _ _ _ _ _ _ _ hr
  .exact xbj hp (u4 hp c n) n _ _ _ _ _ _ _ h
end Go.Am
namespace Go.Am
abbrev oT:Machine->Prop:=λ _=>True
structure SR(P:Jg)(base:Nat)(D:Nat->Prop)(θ:Th)(b:Nd)(nt:Nat)(rd:Option Nat)(st:St)(a:Act)(cs:List Nd)(w:N7):Prop where
 heap:HR P base D θ st.H w
 vF:pU D θ st.tm a.tmps
 size:nt<=a.tmps.size
 aZ:hJ D θ st.aZ a.defers
 up:qP D θ b.kind st.up cs
 round:Al D θ b.roundOf rd
def Out(P:Jg)(base:Nat)(D:Nat->Prop)(θ:Th)(b:Nd)(nt:Nat)(rd:Option Nat)(k:List Item)(st:St)(cs:List Nd)(w:N7)(m:Machine)(e:aX)(st':St):Prop :=
 ∃θ' a' w' cs' e',ArrivesIn oT P m b k cs' e' a' w'/\SR P base (Up D st.H.au st'.H.au) θ' b nt rd st' a' cs' w'/\bG D st.H θ w st'.H θ' w'/\Cu (Up D st.H.au st'.H.au) θ' e e' /\
  st'.up.isSome=st.up.isSome/\fE st.up cs cs'
section
variable{P:Jg}{base:Nat}{D:Nat->Prop}{θ:Th}
def Out.after{b:Nd}{l:Nat}{rd:Option Nat}{k:List Item}{st dk c:St}{cs d:List Nd}{w w1:N7}{m j:Machine}{e:aX}{θ1:Th}(hs:Steps P m j)
 (hg:bG D st.H θ w dk.H θ1 w1) (hu:dk.up.isSome=st.up.isSome) (t:fE st.up cs d) (hn:dk.H.au<=c.H.au)
 (h:Out P base (Up D st.H.au dk.H.au) θ1 b l rd k dk d w1 j e c):Out P base D θ b l rd k st cs w m e c:=by
 have⟨θ',n,w',cs',e',p,f,q,g,r,s⟩:=h;rw[Up.up hg.au hn]at f g;exact⟨θ',n,w',cs',e',.of_steps (Bw hs) p,f,hg.trans q Up.of,g,r.trans hu,fE.trans hu t s⟩
def AB{α:Type}:∀{l:List (Option α)}{r:List α},dv l=B1 r->r.length=l.length /\ ∀(i:Nat)(x:α),r[i]? = B1 x->l[i]? = B1 (B1 x)
 |[],r,h=>by cases h;grind
 |y::l,r,h=>by
  simp only[dv,qj,qk]at h;obtain⟨a,rfl,e,hl,rfl⟩:=h;have⟨c,d⟩:=AB hl
  grind
def Ol{ops:Array Pt}{l:List (List bL×fN)}{safe:Nat->Option (List Nat)}{q:Bool×Nat}{s:aQ}(h:jG ops l safe q=B1 s) :
 ∃o a g,ops[q.2]? = B1 o/\l[q.2]? = B1 a/\guardOf ops o.guard=B1 g/\s = {iA:=q.1,dst:=o.dst,guard:=g,args:=a.1,op:=a.2,cM:=safe q.2}:=by
 grind [jG,qj]
def UL{ops:Array Pt}{o:Pt}{s:aQ}(hg:guardOf ops o.guard=B1 s.guard){tm:T AV}{a:Array Kl}(f:pU D θ tm a){q:Bool}(h:dy s tm=B1 q) :
 B9 o (yielded ops a)=q:=by
 unfold dy at h;unfold B9;cases ho:o.guard with
 |none =>
  rw[ho]at hg;injection hg with hg
  grind
 |some g =>
  have⟨j,want⟩:=g;rw[ho]at hg;simp only[guardOf,qj,qk]at hg;have⟨t,⟨r,l,m⟩,hg⟩:=hg;rw[<-hg]at h;simp only at h;have n:((ops[j]?).bind (·.dst)).bind (a[·]?)=a[t]?:=by grind
  simp only[yielded,n];unfold cV at h;split at h
  .rename_i p hp;have⟨c,d,e⟩:=f t _ hp;injection h with h
   rw[d,<-e.now];simp only[aC];cases p<;>cases want<;>cases q<;>simp_all
  .rename_i hp;have⟨c,d,e⟩:=f t _ hp;injection h with h
   rw[d,<-e.now]
   grind [aC]
  grind
def JG{e:Nat}{tm:T AV}{a:Act}{dst:Option Nat}(h:∀d,dst=B1 d->d<e)(hs:e<=a.tmps.size)(f:pU D θ tm a.tmps){v:AV}{c:Kl}(g:VR D θ v c) :
 pU D θ (eK dst v tm) (a.put dst c).tmps/\e<=(a.put dst c).tmps.size/\(a.put dst c).defers=a.defers:=by
 cases dst with
 |none=>exact⟨f,hs,rfl⟩
 |some d =>
  refine⟨f.put (by grind) g,?_,rfl⟩
  simpa[Act.put]using hs
def xkg(hP:d8 P){rt:RT}(t:rX P base rt.call)(m:wK P base rt.round)(M:rt.AP=bq P)(O:qI rt.call)(S:Ay rt.round)
 {ops:Array Pt} {o:Pt} {i:Nat} {rest:List Nat} {s:aQ} {ca:List bL×fN} (ho:ops[i]? = B1 o) (N:gB P o=B1 ca) (hg:guardOf ops o.guard=B1 s.guard) (h1:s.iA=B2) (Z:s.dst=o.dst) (h3:s.args=ca.1) (h4:s.op=ca.2)
 {b:Nd} {x:Nat} (hdst:pz x o=B4) {k:List Item} {st:St} {a:Act} {cs:List Nd} {w:N7} (e:SR P base D θ b x rt.ctx.round st a cs w) {K:St->gZ} {r:aX×St}
 (z:∀st r,K st=B1 r->st.H.au<=r.2.H.au) (h:(gQ s).run rt K st=B1 r) (Q:eE D st.H.au r.2.H.au)
 (g:∀G θ1 dk X p w1,SR P base G θ1 b x rt.ctx.round dk X p w1->K dk=B1 r->eE G dk.H.au r.2.H.au->Out P base G θ1 b x rt.ctx.round k dk p w1 (lone (b.atR X (.inRegion ops rest::k)) p w1) r.1 r.2) :
 Out P base D θ b x rt.ctx.round k st cs w (lone (b.atR a (.inRegion ops (i::rest)::k)) cs w) r.1 r.2:=by
 have A:∀d,o.dst=B1 d->d<x:=by
  grind [pz,AZ]
 rw[WK s h1,qj]at h;have⟨q,hq,h⟩:=h;have l:=UL hg e.vF hq;cases q with
 |false =>
  simp only[zo]at h;have⟨V,W,p3⟩:=JG (dst:=o.dst) A e.size e.vF (VR.undef (D:=D) (θ:=θ));rw[Z]at h;have hn:=z _ _ h;have E:=stepR_op_skip (P:=P) (b:=b) (a:=a) (k:=k) (cs:=cs) (w:=w) (ops:=ops) (i:=i) (rest:=rest) (by simp[ho,l]);rw[ho]at E;refine Out.after (.one E) (bG.refl D st.H θ w) rfl (fE.refl e.up) hn ?_;rw[Up.none];exact g D θ ⟨eK o.dst .undef st.tm,st.aZ,st.up,st.H⟩ _ cs w ⟨e.heap,V,W,by rw[show(a.put ((B1 o).bind (·.dst)) undef).defers=a.defers from p3];exact e.aZ,e.up,e.round⟩ h Q
 |true =>
  simp only[xt,qj]at h;have⟨vs,F,res,j,h⟩:=h;have⟨xs,U,C,B⟩:=M7 hP N;rw[h3]at F;rw[h4]at j;have hv:=Jx (a:=a) e.heap e.vF U F;have R:=π O S C.mono j;have hle:res.heap.au<=r.2.H.au:=by
   cases res with
   |val v d u H'=>exact z _ _ h
   |panic c H' =>
    simp only[uO,qj,qk]at h;obtain⟨_,_,rfl⟩:=h;exact qm _
  have n:=WH hP t m M C B (rest:=rest) (k:=k) ho l e.heap e.aZ e.up e.round hv j (Q.left hle);cases res with
  |val v d u H' =>
   have⟨θ',w',c,cs',ds,I,J,y,L,Y,g6,g7,g8⟩:=n;simp only[uO,Z]at h;have f:=y.ag;have⟨V,W,p3⟩:=JG (a:={a with defers:=ds}) (dst:=o.dst) A e.size (e.vF.up f Up.of) L;refine Out.after (dk:=⟨eK o.dst v st.tm,d,u,H'⟩) I y g6 g8 hle ?_;exact g _ θ' _ _ cs' w' ⟨J,V,W,by grind,g7,Al.up f Up.of e.round⟩ h (Q.right R)
  |panic c H' =>
   have⟨θ',w',ps,todo,I,J,y,L,Y⟩:=n;simp only[uO,qj,qk]at h;obtain⟨ds,hds,rfl⟩:=h;have f:=y.ag;refine⟨θ',a,w',cs,.panic ps,⟨todo,Bw I⟩,⟨J,pU.forget ds (e.vF.up f Up.of),e.size,hJ.up f Up.of e.aZ,qP.up f Up.of e.up,Al.up f Up.of e.round⟩,y,⟨L,Y⟩,rfl,fE.refl e.up⟩
theorem Zc(e:d8 P){ops:Array Pt}{l:List (List bL×fN)}(hl:dv (ops.toList.map (gB P))=B1 l){safe:Nat->Option (List Nat)}{qs:List (Bool×Nat)}{steps:List aQ}
 (h:dv (qs.map (jG ops l safe))=B1 steps):∀s∈steps,dJ s.op:=by
 intro s hs;have⟨i,f⟩:=MA hs;have:=(AB h).2 i s f;rw[xq,xr]at this;have⟨q,_,j⟩:=this;obtain⟨o,a,g,ho,ha,_,rfl⟩:=Ol j;have:=(AB hl).2 _ a ha;rw[xq,xr]at this;have⟨o',_,c⟩:=this;have⟨xs,_,d,_⟩:=M7 e c;exact d.mono
def q86(A:d8 P){rt:RT}(d:rX P base rt.call)(c:wK P base rt.round)(m:rt.AP=bq P)(e:qI rt.call)(j:Ay rt.round)
 {ops:Array Pt} {t:Nat} (n:ops.toList.all (pz t)=B4) {l:List (List bL×fN)} (hl:dv (ops.toList.map (gB P))=B1 l) {b:Nd} {k:List Item} {safe:Nat->Option (List Nat)} :
 ∀(todo:List Nat){steps:List aQ},dv (todo.map λ i=>jG ops l safe (B2,i))=B1 steps -> ∀{D:Nat->Prop}{θ:Th}{st:St}{a:Act}{cs:List Nd}{w:N7}{r:aX×St},
  SR P base D θ b t rt.ctx.round st a cs w->(ib steps).run rt st=B1 r->eE D st.H.au r.2.H.au->Out P base D θ b t rt.ctx.round k st cs w (lone (b.atR a (.inRegion ops todo::k)) cs w) r.1 r.2
 |[],steps,hs,D,θ,st,a,cs,w,r,hS,h,hf=>by
  cases hs;cases h;refine⟨θ,a,w,cs,.normal,StepsIn.one trivial stepR_region_end,by grind [Up.none],bG.refl _ _ _ _,trivial,rfl,fE.refl hS.up⟩
 |i::todo,steps,hs,D,θ,st,a,cs,w,r,hS,h,hf=>by
  simp only[j6,dv,qj,qk]at hs;obtain⟨s,z,rest,q,rfl⟩:=hs;obtain⟨o,ca,g,ho,y,hg,rfl⟩:=Ol z;have v:gB P o=B1 ca:=by
   have:=(AB hl).2 _ ca y
   grind
  have p:pz t o=true:=by
   grind
  have f:∀s∈rest,dJ s.op:=by
   have G:dv ((todo.map λ i=>(B2,i)).map (jG ops l safe))=B1 rest:=by rw[A5];exact q
   grind [Zc]
  exact xkg A d c m e j (K:=(ib rest).run rt) ho v hg rfl rfl rfl rfl p hS (λ st r h=>xgl e j f h) h hf
   (λ E θ1 dk F B w1 u C x=>q86 A d c m e j n hl todo q u C x)
end
end Go.Am
namespace Go.Am
def NL(P:Jg)(base:Nat)(rt:RT):Prop :=
 ∀(nt id:Nat)(ops:Array Pt)(c:ai),iV P nt ops B4=B1 c -> ∀(D:Nat->Prop)θ(b:Nd)k st a cs w r,SR P base D θ b nt rt.ctx.round st a cs w->(bJ c).run rt st=B1 r ->
  eE D st.H.au r.2.H.au->Out P base D θ b nt rt.ctx.round k st cs w (lone (b.atR a (.code (.region id ops B4)::k)) cs w) r.1 r.2
section
variable{P:Jg}{base:Nat}
def xj3{d:Nat}{ops:Array Pt}{c:ai}(h:iV P d ops B2=B1 c):∃l steps,ops.toList.all (pz d)=B4/\dv (ops.toList.map (gB P))=B1 l /\
 dv ((N2 ops.size).map λ i=>jG ops l (λ _=>B1 []) (B2,i))=B1 steps/\c=.region steps:=by
 unfold iV at h;split at h
 .rename_i e;simp only[qj]at h;have⟨l,hl,h⟩:=h;simp only[ja,ww,qj,qk]at h
  grind
 grind
theorem xgb(d:d8 P){e:Nat}{ops:Array Pt}{draw:Bool}{c:ai}(h:iV P e ops draw=B1 c):ub c:=by
 unfold iV at h;split at h
 .simp only[qj]at h;have⟨l,hl,h⟩:=h;split at h
  .rcases yj h with⟨_,h⟩|⟨_,h⟩
   .simp only[qj,qk]at h;obtain⟨steps,hs,rfl⟩:=h;exact Zc d hl hs
   .cases h;trivial
  .simp only[qj,qk]at h;obtain⟨steps,hs,rfl⟩:=h;exact Zc (safe:=λ _=>B1 []) (qs:=(N2 ops.size).map λ i=>(B2,i)) d hl (by rw[A5];exact hs)
 grind
def vJ(g:d8 P){s:Nat}:∀(c:Code){kk:Nat}{ac:ai}{L:List dV},cE P s kk c=B1 (ac,L)->ub ac /\ ∀lp∈L,ub lp.assign/\ub lp.body
 | .skip,kk,ac,L,h=>by cases h;exact⟨trivial,by simp⟩
 | .region _ ops draw,kk,ac,L,h=>by
  grind [cE,qj,xgb]
 | .seq a b,kk,ac,L,h=>by
  simp only[cE,qj,qk,zi]at h;obtain⟨⟨x,m⟩,d,⟨y,q⟩,l,rfl,rfl⟩:=h;have⟨n,p⟩:=vJ g a d;have⟨e,j⟩:=vJ g b l;exact⟨⟨n,e⟩,λ lp hl=>by grind⟩
 | .cond c a b,kk,ac,L,h=>by
  simp only[cE,qj,qk,zi]at h;obtain⟨r,_,⟨x,m⟩,d,⟨y,q⟩,l,rfl,rfl⟩:=h;have⟨n,p⟩:=vJ g a d;have⟨e,j⟩:=vJ g b l;exact⟨⟨n,e⟩,λ lp hl=>by grind⟩
 | .block id b,kk,ac,L,h=>by
  simp only[cE,qj,qk,zi]at h;obtain⟨⟨x,m⟩,d,rfl,rfl⟩:=h;have⟨e,j⟩:=vJ g b d;exact⟨e,j⟩
 | .loop b,kk,ac,L,h=>by
  simp only[cE,qj,qk,zi]at h;obtain⟨⟨x,m⟩,d,rfl,rfl⟩:=h;have⟨e,j⟩:=vJ g b d;exact⟨e,j⟩
 | .rangeFunc f ps a b,kk,ac,L,h=>by
  simp only[cE,qj]at h;have⟨r,_,⟨x,m⟩,d,⟨y,q⟩,l,h⟩:=h;split at h
  .cases h;have⟨n,p⟩:=vJ g a d;have⟨e,j⟩:=vJ g b l;refine⟨trivial,λ lp hl=>?_⟩
   grind
  grind
 | .exit _,kk,ac,L,h=>by cases h;exact⟨trivial,by simp⟩
 | .scope b,kk,ac,L,h=>by
  simp only[cE,qj,qk,zi]at h;obtain⟨⟨x,m⟩,d,rfl,rfl⟩:=h;have⟨e,j⟩:=vJ g b d;exact⟨e,j⟩
 | .label _,kk,ac,L,h=>by cases h;exact⟨trivial,by simp⟩
 | .goto _,kk,ac,L,h=>by cases h;exact⟨trivial,by simp⟩
 | .ret,kk,ac,L,h=>by cases h;exact⟨trivial,by simp⟩
 | .refuse _,kk,ac,L,h=>by cases h;exact⟨trivial,by simp⟩
def Wh(d:d8 P):T9 (bq P):=by
 intro f e h;simp only[bq,qj]at h;have⟨fn,_,h⟩:=h;simp only[uI,qj,qk]at h;obtain⟨b,_,⟨c,L⟩,hc,_,_,rfl⟩:=h;exact vJ d b hc
def XM{r:Nat}:∀(c:Code){kk:Nat}{ac:ai}{L:List dV},cE P r kk c=B1 (ac,L) -> ∀l,FJ ac l=(findLabel c l).isSome
 | .skip,kk,ac,L,h,l=>by injection h with h;injection h with d g;subst d;rfl
 | .region _ ops draw,kk,ac,L,h,l=>by
  simp only[cE,qj,qk,zi]at h;obtain⟨c,hc,rfl,rfl⟩:=h;unfold iV at hc;split at hc
  .simp only[qj]at hc;have⟨l,hl,hc⟩:=hc;split at hc
   .rcases yj hc with⟨_,hc⟩|⟨_,hc⟩
    .simp only[qj,qk]at hc;obtain⟨_,_,rfl⟩:=hc;rfl
    .cases hc;rfl
   .simp only[qj,qk]at hc;obtain⟨_,_,rfl⟩:=hc;rfl
  grind
 | .seq a b,kk,ac,L,h,l=>by
  simp only[cE,qj,qk,zi]at h;obtain⟨⟨x,m⟩,j,⟨y,p⟩,n,rfl,rfl⟩:=h;have d:=XM a j l;have g:=XM b n l
  grind [FJ,findLabel]
 | .cond c a b,kk,ac,L,h,l=>by
  simp only[cE,qj,qk,zi]at h;obtain⟨q,_,⟨x,m⟩,j,⟨y,p⟩,n,rfl,rfl⟩:=h;rfl
 | .block id b,kk,ac,L,h,l=>by
  simp only[cE,qj,qk,zi]at h;obtain⟨⟨x,m⟩,j,rfl,rfl⟩:=h;rfl
 | .loop b,kk,ac,L,h,l=>by
  simp only[cE,qj,qk,zi]at h;obtain⟨⟨x,m⟩,j,rfl,rfl⟩:=h;rfl
 | .rangeFunc f ps a b,kk,ac,L,h,l=>by
  simp only[cE,qj]at h;have⟨q,_,⟨x,m⟩,j,⟨y,p⟩,n,h⟩:=h;split at h
  .injection h with h;injection h with d g;subst d;rfl
  grind
 | .exit _,kk,ac,L,h,l=>by injection h with h;injection h with d g;subst d;rfl
 | .scope b,kk,ac,L,h,l=>by
  simp only[cE,qj,qk,zi]at h;obtain⟨⟨x,m⟩,j,rfl,rfl⟩:=h;rfl
 | .label l',kk,ac,L,h,l=>by
  injection h with h;injection h with d g;subst d
  simp only[FJ,findLabel]
  by_cases e:l'=l
  .simp [e]
  .simp only[beq_iff_eq,e,ww,Nj]
   grind [jz]
 | .goto _,kk,ac,L,h,l=>by injection h with h;injection h with d g;subst d;rfl
 | .ret,kk,ac,L,h,l=>by injection h with h;injection h with d g;subst d;rfl
 | .refuse _,kk,ac,L,h,l=>by injection h with h;injection h with d g;subst d;rfl
def xbk{b:Nd}{a:Act}{body:Code}{k:List Item}{cs:List Nd}{w:N7}:step P (lone (b.atR a (.inScope body::k)) cs w)=.next (lone (b.atR a k) cs w) :=
 step_lone_go (by simp[stepG,stepG.exec,CK])
def xgk{b:Nd}{a:Act}{body:Code}{k:List Item}{cs:List Nd}{w:N7}:step P (lone (b.atR a (.code (.scope body)::k)) cs w)=.next (lone (b.atR a (.code body::.inScope body::k)) cs w) :=
 step_lone_go (by simp[stepG,stepG.exec,CK])
def Out.pass{D:Nat->Prop}{θ:Th}{b:Nd}{f:Nat}{rd:Option Nat}{x:Item}(s:x.plain=B4){k:List Item}{st:St}{cs:List Nd}{w:N7}{m:Machine}{e:aX}{c:St}(he:AA e=B2)
 (h:Out P base D θ b f rd (x::k) st cs w m e c):Out P base D θ b f rd k st cs w m e c:=by
 have⟨θ',g,w',cs',e',j,l,n,d,p,r⟩:=h;refine⟨θ',g,w',cs',e',.pass s (λ _ _=>.inl ?_) j,l,n,d,p,r⟩;intro q;subst q;cases e<;>first|exact d.elim|cases he
def Out.here{D:Nat->Prop}{θ:Th}{b:Nd}{c:Nat}{rd:Option Nat}{k:List Item}{st:St}{a:Act}{cs:List Nd}{w:N7}{m:Machine}{e:aX}{e':Exit}(f:SR P base D θ b c rd st a cs w)
 (d:ArrivesIn oT P m b k cs e' a w) (g:Cu D θ e e'):Out P base D θ b c rd k st cs w m e st :=
 ⟨θ,a,w,cs,e',d,by grind [Up.none],bG.refl _ _ _ _,by grind [Up.none],rfl,fE.refl f.up⟩
def quq{w:N7}(fn:FuncId)(tmps:Array Kl)(c:Array Tmp)(as body:Code){l:Nat}{r:Loop}(h:w.heap[l]? = B1 (.loop r)) :
 (Instr.enterLoop fn tmps c as body (B1 l)).run P w=.ok (w.heap.size,[]) (w.alloc (.loop {state:=.ready,pending:=B5,fn,tmps,params:=c,assign:=as,body,defers:=r.defers})):=by
 simp_all[Instr.enterLoop,run_getLoop]
def q7g{d:Nat}{c:Code}{kk:Nat}{ac:ai}{L:List dV}(h:cE P d kk c=B1 (ac,L)){l:Nat}(hl:FJ ac l=B2):findLabel c l=none:=by
 rw[XM c h l]at hl
 simpa using hl
def qzp{b:Nd}{a:Act}{k:List Item}{cs:List Nd}{w:N7}(id:Nat):ArrivesIn oT P (lone (b.atR a (.code (.exit id)::k)) cs w) b k cs (.exit id) a w :=
 ⟨λ _ hk=>.one trivial (stepR_exit hk),λ _ hk=>⟨k,hk,.refl _⟩⟩
def ο{b:Nd}{a:Act}{k:List Item}{cs:List Nd}{w:N7}(l:Nat):ArrivesIn oT P (lone (b.atR a (.code (.goto l)::k)) cs w) b k cs (.goto l) a w :=
 ⟨λ _ hk=>.one trivial (stepR_goto hk),λ _ hk=>⟨k,hk,.refl _⟩⟩
def _7{b:Nd}{a:Act}{k:List Item}{cs:List Nd}{w:N7}:ArrivesIn oT P (lone (b.atR a (.code .ret::k)) cs w) b k cs .ret a w :=
 ⟨λ hn=>⟨_,.one trivial (stepR_ret hn)⟩,λ _=>⟨k,.refl _⟩⟩
def xc0{D:Nat->Prop}{θ:Th}{b:Nd}{a:Act}{k:List Item}{cs:List Nd}{w:N7}(p:Option ic):∃e',Cu D θ (rG p) e' /\
 ArrivesIn oT P (lone (b.atR a (((p.map mM).map Item.code).toList++k)) cs w) b k cs e' a w:=by
 cases p with
 |none=>exact⟨.normal,trivial,.refl _⟩
 |some j =>
  cases j with
  |exit id=>exact⟨.exit id,rfl,qzp id⟩
  |goto l=>exact⟨.goto l,rfl,ο l⟩
  |ret=>exact⟨.ret,trivial,_7⟩
def q6c{call:cj}{round:iU}{ctx:Ctx}(L:rX P base call){D:Nat->Prop}{θ:Th}{b:Nd}{nt:Nat}{st:St}{a:Act}{cs:List Nd}{w:N7}{k:List Item}{H0:ar}{aZ:List aL}{w0:N7}{mark:List Deferred}{d:Nat}
 (hP:d8 P) {g:M6} {A:Array Tmp} {as body:Code} {kk:Nat} {v:AV} {r:aX×St} {θ0:Th}
 (h0:HR P base (Up D st.H.au H0.au) θ0 H0 w0) (g0:bG D st.H θ w H0 θ0 w0) (Q:st.H.au<=H0.au) (F:SR P base D θ b nt ctx.round st a cs w) (hv:VR D θ v (a.eval g)) (hd:Up D st.H.au H0.au d)
 (hdf:hJ (Up D st.H.au H0.au) θ0 aZ (mark++a.defers)) (N:xI P ctx.fn kk a.tmps.size A as body) (hfn:b.fn=ctx.fn)
 (he:(Instr.enterLoop b.fn a.tmps A as body b.roundOf).run P w=.ok (w0.heap.size,mark) (w0.alloc (.loop {state:=.ready,pending:=B5,fn:=b.fn,tmps:=a.tmps,params:=A,assign:=as,body,defers:=θ0.ct d})))
 (hr:jC call round ctx st kk H0 aZ d v=B1 r) (hf:eE D st.H.au r.2.H.au) (hm:qI call) :
 Out P base D θ b nt ctx.round k st cs w (lone (b.atR a (.code (.rangeFunc g A as body)::k)) cs w) r.1 r.2:=by
 unfold jC at hr;split at hr
 .rename_i f first cap
  simp only[df,yt,qr,qj]at hr;have⟨⟨e,u,H'⟩,hcl,hr⟩:=hr;have O:H0.au+1<=H'.au:=(hm _ _ _ _ _ _ _ hcl).1;have hrn:r.2.H.au=H'.au/\r.2.aZ=aZ/\r.2.tm=st.tm/\r.2.up=st.up:=by
   unfold M8 at hr;split at hr
   .grind
   .split at hr
    .cases hr
    .cases hr;exact⟨rfl,rfl,rfl,rfl⟩
    grind
  rw[hrn.1]at hf;have hn:¬Up D st.H.au H0.au H0.au:=λ q=>by
   rcases q with q|⟨_,q⟩
   .exact hf _ Q (by omega) q
   .omega
  -- the record
  have Y:=g0.ag;have G:=Th.hO θ0 H0.au w0.heap.size 0 0 hn;have⟨e1,e2,e3⟩:=Th.eT θ0 H0.au w0.heap.size 0 0;have m:∀x,D x->Up (Up D st.H.au H0.au) H0.au (H0.au+1) x:=λ x z=>.inl (.inl z);have V:Up (Up D st.H.au H0.au) H0.au (H0.au+1) H0.au:=.inr ⟨qm _,zu _⟩;have n:Ag D θ (θ0.add H0.au w0.heap.size 0 0):=Y.trans G (λ x z=>.inl z);have hR:pj P (Up (Up D st.H.au H0.au) H0.au (H0.au+1)) (θ0.add H0.au w0.heap.size 0 0) H0.au (.loop .ready B5 ctx.fn kk st.tm d)
   (.loop {state:=.ready,pending:=B5,fn:=b.fn,tmps:=a.tmps,params:=A,assign:=as,body,defers:=θ0.ct d}) :=
   ⟨_,rfl,rfl,rfl,hfn,F.vF.up n m,N,.inl hd,((G d hd).1).symm⟩
  have h1:=h0.alloc hn (w':=w0.alloc (.loop {state:=.ready,pending:=B5,fn:=b.fn,tmps:=a.tmps,params:=A,assign:=as,body,defers:=θ0.ct d})) (co:=.loop {state:=.ready,pending:=B5,fn:=b.fn,tmps:=a.tmps,params:=A,assign:=as,body,defers:=θ0.ct d}) (k:=w0.heap.size) (off:=0) (ext:=0) (by rw[Dl];simp)
   (by simp_all[Dl,Ll]) (qm _) (by simp) hR
  have g1:=bG.alloc (base:=base) h0 hn (.loop .ready B5 ctx.fn kk st.tm d) (.loop {state:=.ready,pending:=B5,fn:=b.fn,tmps:=a.tmps,params:=A,assign:=as,body,defers:=θ0.ct d}) 0 0
  -- the call
  have⟨fi,ci,q3,q4,q5,q6⟩:=TI hv;have I:bP (Up (Up D st.H.au H0.au) H0.au (H0.au+1)) (θ0.add H0.au w0.heap.size 0 0) (first++(.fn (.yield H0.au) [] []::cap)) ((fi.toArray ++ #[Kl.func (.yield w0.heap.size) #[] #[]])++ci.toArray).toList:=by
   simp only[Array.toList_append,yd];refine(q4.up n m).app (.cons (λ θ'' h''=>?_) (q5.up n m));simp only[aC,fT,cu];rw[(h'' _ V).1,e1]
  have⟨⟨fn,c,k1,k2⟩,θ',w',cs',fr,e',s1,s2,s3,s4,S,s6,s7,s8,s9,s10⟩:=L _ _ _ _ f _ ((fi.toArray ++ #[Kl.func (.yield w0.heap.size) #[] #[]])++ci.toArray) B5 H' e u .normal
   (b.atR {a with defers:=mark++a.defers} (.inRangeFunc w0.heap.size::k)::cs) h1 I rfl hcl (λ x h3 h4 U=>by
    rw[Up.up Q (j7 _)]at U;rcases U with U|⟨_,U⟩
    .exact hf x (by have:H0.au+1<=x:=h3;omega) h4 U
    .have:H0.au+1<=x:=h3;omega)
  have hcs:cs'=b.atR {a with defers:=mark++a.defers} (.inRangeFunc w0.heap.size::k)::cs:=s9;subst hcs;have t:=stepR_rangeFunc (P:=P) (b:=b) (a:=a) (k:=k) (cs:=cs) (w:=w) (g:=g) (l:=w0.heap.size) (d:={target:=.fn (.func f) ci.toArray,args:=fi.toArray ++ #[Kl.func (.yield w0.heap.size) #[] #[]]}) he
   (by
   show(Bk (a.eval g) (#[M6.const (.func (.yield w0.heap.size) #[] #[])].map a.eval)).run P _=_;rw[q3];simp[Bk,fT,Act.eval];rfl) (by
    show(callFunc f (_++ci.toArray)).run P _=_;exact Rv hP k1 k2)
  have hl:=XZ s4 s2;have hupa:Up (Up (Up D st.H.au H0.au) H0.au (H0.au+1)) (H0.au+1) H'.au=Up D st.H.au H'.au:=by
   rw[Up.up (j7 _) O,Up.up Q (by omega)]
  have y:(H0.alloc (.loop .ready B5 ctx.fn kk st.tm d)).au=H0.au+1:=rfl;rw[y,hupa]at S s6 s10;have h:bG D st.H θ w H' θ' w':=(g0.trans g1 Up.of).trans s7 m;have W:∀x,Up D st.H.au H0.au x->Up D st.H.au H'.au x:=λ x z=>by
   rcases z with z|⟨h1,h2⟩
   .exact .inl z
   .exact .inr ⟨h1,by omega⟩
  have Z:Ag (Up D st.H.au H0.au) θ0 θ':=G.trans s7.ag (λ x z=>.inl z);have X:∀(E:ar)(R:N7),HR P base (Up D st.H.au H'.au) θ' E R->SR P base (Up D st.H.au H'.au) θ' b nt ctx.round {st with aZ:=aZ,H:=E} {a with defers:=mark++a.defers} cs R:=λ E R hh =>
   ⟨hh,F.vF.up h.ag Up.of,F.size,hJ.up Z W hdf,qP.up h.ag Up.of F.up,Al.up h.ag Up.of F.round⟩
  unfold M8 at hr;cases e with
  |panic ch =>
   cases hr;cases e' with
   |returned _=>exact S.elim
   |outgrown=>exact S.elim
   |panicked ps' =>
    refine⟨θ',_,w',cs,.panic ps',⟨.inRangeFunc w0.heap.size::k,Bw (.head t (s1.trans (.one (by rw[step_leave_panicked hl,Ch]))))⟩,X _ _ s6,h,S,rfl,fE.refl F.up⟩
  |ret x =>
   cases e' with
   |panicked _=>exact S.elim
   |outgrown=>exact S.elim
   |returned cx =>
    have J:Steps P (lone (b.atR a (.code (.rangeFunc g A as body)::k)) cs w) (lone (b.atR {a with defers:=mark++a.defers} (.endRangeFunc w0.heap.size::k)) cs w'):=by
     exact .head t (s1.trans (.one (by rw[step_leave_returned hl,finish_atR_inRangeFunc])))
    simp only at hr;split at hr
    .cases hr
    .rename_i ls p f2 k2' tm2 d2 hnb j;cases hr;obtain⟨hDl',co,hco,rl,rfl,r1,r2,r3,r4,r5,r6,r7⟩:=s6.obj _ _ j;have s:θ'.ct H0.au=w0.heap.size:=by rw[(s7.ag _ V).1,e1]
     rw[s]at hco;have K:rl.state≠ .busy:=by
      intro q;rw[r1]at q;cases ls with
      |busy=>grind
      |ready=>cases q
      |done=>cases q
      |exhausted=>cases q
     have hend:=run_endLoop (P:=P) hco K;have M:=stepR_endRangeFunc (b:=b) (a:={a with defers:=mark++a.defers}) (k:=k) (cs:=cs) hend;have C:=s6.set (o':=.loop .exhausted p f2 k2' tm2 d2) (co':=.loop {rl with state:=.exhausted}) j rfl rfl ⟨_,rfl,rfl,r2,r3,r4,r5,r6,r7⟩;rw[s]at C;have B:bG (Up D st.H.au H'.au) H' θ' w' (H'.set H0.au (.loop .exhausted p f2 k2' tm2 d2)) θ' (fF w' (θ'.ct H0.au) (.loop {rl with state:=.exhausted})):=bG.set j rfl (s6.lt j);rw[s]at B;have⟨e'',k3,k4⟩:=xc0 (P:=P) (D:=Up D st.H.au H'.au) (θ:=θ') (b:=b) (a:={a with defers:=mark++a.defers}) (k:=k) (cs:=cs) (w:=fF w' w0.heap.size (.loop {rl with state:=.exhausted})) p;rw[<-r2]at k4;exact⟨θ',_,_,cs,e'',.of_steps (Bw (J.trans (.one M))) k4,X _ _ C,h.trans B Up.of,k3,rfl,fE.refl F.up⟩
    grind
 grind
def Out.normal{D:Nat->Prop}{θ:Th}{b:Nd}{e:Nat}{rd:Option Nat}{k:List Item}{st:St}{cs:List Nd}{w:N7}{m:Machine}{c:St}(h:Out P base D θ b e rd k st cs w m .normal c) :
 ∃θ' d w' cs',Steps P m (lone (b.atR d k) cs' w')/\SR P base (Up D st.H.au c.H.au) θ' b e rd c d cs' w'/\bG D st.H θ w c.H θ' w'/\c.up.isSome=st.up.isSome/\fE st.up cs cs':=by
 have⟨θ',d,w',cs',e',f,g,j,l,n,p⟩:=h;cases e'<;>first|exact⟨θ',d,w',cs',Bh f,g,j,n,p⟩|exact l.elim
def Out.head{D:Nat->Prop}{θ:Th}{b:Nd}{f:Nat}{rd:Option Nat}{k:List Item}{st:St}{cs:List Nd}{w:N7}{m d:Machine}{e:aX}{c:St}(hs:step P m=.next d)
 (h:Out P base D θ b f rd k st cs w d e c):Out P base D θ b f rd k st cs w m e c:=by
 have⟨θ',g,w',cs',e',j,l,n,p,q,r⟩:=h;exact⟨θ',g,w',cs',e',.of_steps (StepsIn.one trivial hs) j,l,n,p,q,r⟩
def qto(id c:Nat)(k:List Item):exitTo c (.inBlock id::k)=if id=c then B1 k else exitTo c k:=by
 simp[exitTo]
def Nk{α:Type}(a b:List α)(i:Nat):nth (a++b) i=if i<a.length then nth a i else nth b (i-a.length):=by
 grind [jL]
set_option maxHeartbeats 1000000 in
def AM(R:d8 P){rt:RT}(m:rX P base rt.call)(f:wK P base rt.round)(I:rt.AP=bq P)(z:qI rt.call)(C:Ay rt.round)(t:NL P base rt)
 {fn:Func} {af:bZ} (K:P.funcs[rt.ctx.fn]? = B1 fn) (J:uI P fn=B1 af):∀(c:Code){kk:Nat}{ac:ai}{L:List dV},cE P fn.ntmps kk c=B1 (ac,L)->(∀i l,nth L i=B1 l->nth af.loops (kk+i)=B1 l) ->
 ∀{D:Nat->Prop}{θ:Th}{b:Nd}{k:List Item}{st:St}{a:Act}{cs:List Nd}{w:N7}{r:aX×St},SR P base D θ b fn.ntmps rt.ctx.round st a cs w->b.fn=rt.ctx.fn->(bJ ac).run rt st=B1 r ->
  eE D st.H.au r.2.H.au->Out P base D θ b fn.ntmps rt.ctx.round k st cs w (lone (b.atR a (.code c::k)) cs w) r.1 r.2
 | .skip,kk,ac,L,h,hL,D,θ,b,k,st,a,cs,w,r,s,hb,hr,B=>by
  injection h with h;injection h with u E;subst u
  injection hr with hr;subst hr
  exact .here s (e':=.normal) (StepsIn.one trivial stepR_skip) trivial
 | .label _,kk,ac,L,h,hL,D,θ,b,k,st,a,cs,w,r,s,hb,hr,B=>by
  injection h with h;injection h with u E;subst u
  injection hr with hr;subst hr
  exact .here s (e':=.normal) (StepsIn.one trivial stepR_label) trivial
 | .exit id,kk,ac,L,h,hL,D,θ,b,k,st,a,cs,w,r,s,hb,hr,B=>by
  injection h with h;injection h with u E;subst u
  injection hr with hr;subst hr
  exact .here s (qzp id) rfl
 | .goto l,kk,ac,L,h,hL,D,θ,b,k,st,a,cs,w,r,s,hb,hr,B=>by
  injection h with h;injection h with u E;subst u
  injection hr with hr;subst hr
  exact .here s (ο l) rfl
 | .ret,kk,ac,L,h,hL,D,θ,b,k,st,a,cs,w,r,s,hb,hr,B=>by
  injection h with h;injection h with u E;subst u
  injection hr with hr;subst hr
  exact .here s _7 trivial
 | .refuse _,kk,ac,L,h,hL,D,θ,b,k,st,a,cs,w,r,s,hb,hr,B=>by
  injection h with h;injection h with u E;subst u
  cases hr
 | .region id ops draw,kk,ac,L,h,hL,D,θ,b,k,st,a,cs,w,r,s,hb,hr,B=>by
  simp only[cE,qj,qk,zi]at h;obtain⟨c,hc,rfl,rfl⟩:=h;cases draw with
  |false =>
   obtain⟨l,steps,u,E,N,rfl⟩:=xj3 hc;exact .head stepR_region (q86 R m f I z C u E _ N s hr B)
  |true=>exact t _ id ops c hc D θ b k st a cs w r s hr B
 | .seq x y,kk,ac,L,h,hL,D,θ,b,k,st,a,cs,w,r,s,hb,hr,B=>by
  simp only[cE,qj,qk,zi]at h;obtain⟨⟨ax,M⟩,G,⟨ay,ly⟩,hy,rfl,rfl⟩:=h;simp only[bJ,qj]at hr;obtain⟨⟨e,dk⟩,V,hr⟩:=hr;have hmy:=(vJ R y hy).1;have X:=NU z C (vJ R x G).1 V;have W:∀i l,nth M i=B1 l->nth af.loops (kk+i)=B1 l:=λ i l hl=>hL i l (by
   rw[Nk,xg]
   .exact hl
   .rw [jL]at hl;exact(qt.1 hl).1)
  have hLy:∀i l,nth ly i=B1 l->nth af.loops (kk+M.length+i)=B1 l:=λ i l hl=>by
   rw[Ad];exact hL (M.length+i) l (by
    show nth (M++ly) (M.length+i)=_;rw[Nk,qy (by omega),Oc];exact hl)
  refine .head stepR_seq ?_
  by_cases he:e=.normal
  .subst he;simp only[uJ]at hr;have A:=NU z C hmy hr;obtain⟨θ',Q,w',cs',u,E,N,F,O⟩:=(AM R m f I z C t K J x G W (k:=.code y::k) s hb V (B.left A)).normal;exact Out.after u N F O A (AM R m f I z C t K J y hy hLy E hb hr (B.right X))
  .have hn:AA e=false:=by cases e<;>first|rfl|exact absurd rfl he
   have hr':r=(e,dk):=by
    cases e<;>first|exact absurd rfl he|(injection hr with hr;exact hr.symm)
   subst hr';exact Out.pass (x:=.code y) rfl hn (AM R m f I z C t K J x G W s hb V B)
 | .cond c x y,kk,ac,L,h,hL,D,θ,b,k,st,a,cs,w,r,s,hb,hr,B=>by
  simp only[cE,qj,qk,zi]at h;obtain⟨cc,hcc,⟨ax,M⟩,G,⟨ay,ly⟩,hy,rfl,rfl⟩:=h;simp only[bJ,qj]at hr;obtain⟨v,hv,hr⟩:=hr;rw[J1]at hv;have hvr:=Es (a:=a) s.heap s.vF hcc hv;have W:∀i l,nth M i=B1 l->nth af.loops (kk+i)=B1 l:=λ i l hl=>hL i l (by
   rw[Nk,xg]
   .exact hl
   .rw [jL]at hl;exact(qt.1 hl).1)
  have hLy:∀i l,nth ly i=B1 l->nth af.loops (kk+M.length+i)=B1 l:=λ i l hl=>by
   rw[Ad];exact hL (M.length+i) l (by
    show nth (M++ly) (M.length+i)=_;rw[Nk,qy (by omega),Oc];exact hl)
  unfold vB at hr;split at hr
  .rename_i q;refine .head (stepR_cond hvr.now.symm) ?_;cases q with
   |true=>exact AM R m f I z C t K J x G W s hb hr B
   |false=>exact AM R m f I z C t K J y hy hLy s hb hr B
  .cases hr
 | .block id x,kk,ac,L,h,hL,D,θ,b,k,st,a,cs,w,r,s,hb,hr,B=>by
  simp only[cE,qj,qk,zi]at h;obtain⟨⟨ax,M⟩,G,rfl,rfl⟩:=h;simp only[bJ,qj]at hr;obtain⟨⟨e,dk⟩,V,hr⟩:=hr;have Z:r.2=dk:=by
   unfold kK at hr;split at hr<;>(injection hr with hr;subst hr;rfl)
  obtain⟨θ',Q,w',cs',e',u,E,N,F,O,S⟩:=AM R m f I z C t K J x G hL (k:=.inBlock id::k) s hb V (Z▸B);refine .head stepR_block ?_;rw[Z];unfold kK at hr;cases e with
  |normal =>
   injection hr with hr;subst hr
   cases e'<;>try exact F.elim
   exact⟨θ',Q,w',cs',.normal,StepsIn.trans u (.one trivial stepR_inBlock),E,N,trivial,O,S⟩
  |exit id' =>
   injection hr with hr;subst hr
   cases e'<;>try exact F.elim
   rename_i j;have F:j=id':=F;subst F;cases hbq:I4 id j with
   |true =>
    simp only[jz]at hbq;subst hbq;exact⟨θ',Q,w',cs',.normal,u.1 k (by rw[qto,xg rfl]),E,N,trivial,O,S⟩
   |false =>
    have hne:¬id=j:=by intro q;subst q;simp at hbq
    have G:exitTo j (.inBlock id::k)=exitTo j k:=by rw[qto,qy hne]
    exact⟨θ',Q,w',cs',.exit j,⟨λ k' hk=>u.1 k' (by rw[G];exact hk),λ hr hk=>u.2 hr (by rw[G];exact hk)⟩,E,N,rfl,O,S⟩
  |goto l =>
   injection hr with hr;subst hr
   cases e'<;>try exact F.elim
   rename_i j;have G:gotoIn j (.inBlock id::k)=gotoIn j k:=rfl;exact⟨θ',Q,w',cs',.goto j,⟨λ k' hk=>u.1 k' (by rw[G];exact hk),λ hr hk=>u.2 hr (by rw[G];exact hk)⟩,E,N,F,O,S⟩
  |ret =>
   injection hr with hr;subst hr
   cases e'<;>try exact F.elim
   exact⟨θ',Q,w',cs',.ret,u,E,N,trivial,O,S⟩
  |panic ch =>
   injection hr with hr;subst hr
   cases e'<;>try exact F.elim
   rename_i ps;exact⟨θ',Q,w',cs',.panic ps,u,E,N,F,O,S⟩
 | .scope x,kk,ac,L,h,hL,D,θ,b,k,st,a,cs,w,r,s,hb,hr,B=>by
  simp only[cE,qj,qk,zi]at h;obtain⟨⟨ax,M⟩,G,rfl,rfl⟩:=h;simp only[bJ,qj]at hr;obtain⟨⟨e,dk⟩,V,hr⟩:=hr;have Z:r=(e,dk) /\ ∀l,e=.goto l->FJ ax l=false:=by
   unfold mj at hr;split at hr
   .rename_i l he;simp only at he;rcases yj hr with⟨_,hr⟩|⟨hl,hr⟩
    .cases hr
    .injection hr with hr;subst he;exact⟨hr.symm,λ l' h'=>by injection h' with h';subst h';exact hl⟩
   .rename_i hne;injection hr with hr;exact⟨hr.symm,λ l' h'=>(hne l' h').elim⟩
  obtain⟨rfl,hlab⟩:=Z;obtain⟨θ',Q,w',cs',e',u,E,N,F,O,S⟩:=AM R m f I z C t K J x G hL (k:=.inScope x::k) s hb V B;refine .head xgk ?_;cases e with
  |normal =>
   cases e'<;>try exact F.elim
   exact⟨θ',Q,w',cs',.normal,StepsIn.trans u (.one trivial xbk),E,N,trivial,O,S⟩
  |exit id' =>
   cases e'<;>try exact F.elim
   rename_i j;have G:exitTo j (.inScope x::k)=exitTo j k:=rfl;exact⟨θ',Q,w',cs',.exit j,⟨λ k' hk=>u.1 k' (by rw[G];exact hk),λ hr hk=>u.2 hr (by rw[G];exact hk)⟩,E,N,F,O,S⟩
  |goto l =>
   cases e'<;>try exact F.elim
   rename_i j;have F:j=l:=F;subst F;have hfl:=q7g G (hlab j rfl);have hg:gotoIn j (.inScope x::k)=gotoIn j k:=by simp[gotoIn,hfl]
   exact⟨θ',Q,w',cs',.goto j,⟨λ k' hk=>u.1 k' (by rw[hg];exact hk),λ hr hk=>u.2 hr (by rw[hg];exact hk)⟩,E,N,rfl,O,S⟩
  |ret =>
   cases e'<;>try exact F.elim
   exact⟨θ',Q,w',cs',.ret,u,E,N,trivial,O,S⟩
  |panic ch =>
   cases e'<;>try exact F.elim
   rename_i ps;exact⟨θ',Q,w',cs',.panic ps,u,E,N,F,O,S⟩
 | .loop x,kk,ac,L,h,hL,D,θ,b,k,st,a,cs,w,r,s,hb,hr,B=>by
  simp only[cE,qj,qk,zi]at h;obtain⟨⟨ax,M⟩,G,rfl,rfl⟩:=h;simp only[bJ]at hr;refine .head stepR_loop ?_;have X:=(vJ R x G).1;have key:∀(n:Nat)(D:Nat->Prop)(θ:Th)(st:St)(a:Act)(cs:List Nd)(w:N7)(r:aX×St),SR P base D θ b fn.ntmps rt.ctx.round st a cs w->gR B5 ((bJ ax).run rt) n st=B1 r->eE D st.H.au r.2.H.au ->
   Out P base D θ b fn.ntmps rt.ctx.round k st cs w (lone (b.atR a (.code x::.inLoop x::k)) cs w) r.1 r.2:=by
   intro n
   induction n with
   |zero=>intro D θ st a cs w r _ hr _;cases hr
   |succ n ih =>
    intro D θ st a cs w r s hr B;simp only[gR,qj]at hr;obtain⟨⟨e,dk⟩,V,hr⟩:=hr;have hm1:=NU z C X V
    by_cases he:e=.normal
    .subst he;simp only at hr;have A:=xjl (λ st r h=>AD z C X h) B5 n _ _ hr;obtain⟨θ',Q,w',cs',u,E,N,F,O⟩:=(AM R m f I z C t K J x G hL (k:=.inLoop x::k) s hb V (B.left A)).normal;exact Out.after (u.trans (.one stepR_inLoop)) N F O A (ih _ θ' dk Q cs' w' r E hr (B.right hm1))
    .have hn:AA e=false:=by cases e<;>first|rfl|exact absurd rfl he
     have hr':r=(e,dk):=by
      cases e<;>first|exact absurd rfl he|(injection hr with hr;exact hr.symm)
     subst hr';exact Out.pass (x:=.inLoop x) rfl hn (AM R m f I z C t K J x G hL s hb V B)
  exact key _ D θ st a cs w r s hr B
 | .rangeFunc g ps x y,kk,ac,L,h,hL,D,θ,b,k,st,a,cs,w,r,s,hb,hr,B=>by
  simp only[cE,qj]at h;obtain⟨cg,hcg,⟨ax,M⟩,G,⟨ay,ly⟩,hy,h⟩:=h;split at h
  .rename_i Y;have Y:∀p∈ps.toList,p<fn.ntmps:=λ p hp=>by
    rw[Ic]at Y
    simpa[AZ]using Y p hp
   injection h with h;injection h with u E;subst u;subst E
   simp only[bJ,qj]at hr;obtain⟨v,hv,hr⟩:=hr;rw[J1]at hv;have hvr:=Es (a:=a) s.heap s.vF hcg hv;have U:xI P rt.ctx.fn kk a.tmps.size ps x y:=by
    refine⟨fn,af,_,kk+1,kk+1+M.length,M,ly,K,J,hL 0 _ rfl,rfl,Y,s.size,G,λ i l hl=>?_,hy,λ i l hl=>?_⟩
    .rw [Ad];refine hL (1+i) l ?_;rw[Nat.add_comm 1 i,jL,z8,<-jL,Nk,xg]
     .exact hl
     .rw [jL]at hl;exact(qt.1 hl).1
    .rw [Ad,Ad];refine hL (1+(M.length+i)) l ?_;rw[Nat.add_comm 1 _,jL,z8,<-jL];show nth (M++ly) (M.length+i)=_;rw[Nk,qy (by omega),Oc];exact hl
   unfold rp at hr;split at hr
   .rename_i hnone;have hro:b.roundOf=none:=by have:=s.round;rw[hnone]at this;exact this
    have A:st.H.au+1<=r.2.H.au:=by
     have:(st.H.alloc (.deferred (B1 []))).au<=r.2.H.au:=xf9 (st:={st with H:=st.H.alloc (.deferred (B1 []))}) z (Ext.refl _) hr;exact this
    have hn:¬D st.H.au:=B _ (qm _) A;have hag:=Th.hO θ st.H.au w.heap.size 0 0 hn;obtain⟨e1,e2,e3⟩:=Th.eT θ st.H.au w.heap.size 0 0;have hDn:Up D st.H.au (st.H.au+1) st.H.au:=.inr ⟨qm _,zu _⟩;have h0:=s.heap.alloc hn (w':=w.alloc (.deferred (B1 []))) (co:=.deferred (B1 [])) (o:=.deferred (B1 [])) (k:=w.heap.size) (off:=0) (ext:=0) (by rw[Dl];simp)
     (λ j hj=>by rw[Dl,qy (Ll hj)]) (qm _) (by simp) ⟨B1 [],rfl,rfl,rfl⟩
    have g0:=bG.alloc (base:=base) s.heap hn (.deferred (B1 [])) (.deferred (B1 [])) 0 0;refine q6c m R (H0:=st.H.alloc (.deferred (B1 []))) (aZ:=.iy st.H.au::st.aZ) (d:=st.H.au) (mark:=[{target:=.collected w.heap.size,args:=#[]}]) h0 g0 (j7 _) s hvr hDn ⟨⟨hDn,by rw[e1]⟩,hJ.up hag Up.of s.aZ⟩ U hb ?_ hr B z;rw[hro,run_enterLoop_outer,e1];simp
   .rename_i l hl;simp only[qj]at hr;obtain⟨d,hd,hr⟩:=hr;unfold DB at hd;split at hd
    .rename_i f2 k2 tm2 d2 hget;injection hd with hd;subst hd
     obtain⟨hDl,co,hco,rl,rfl,r1,r2,r3,r4,r5,r6,r7⟩:=s.heap.obj _ _ hget;have hro:b.roundOf=B1 (θ.ct l):=by have:=s.round;rw[hl]at this;exact this.2
     refine q6c m R (mark:=[]) (d:=d2) (by rw[Up.none];exact s.heap) (bG.refl _ _ _ _) (qm _) s hvr (by rw[Up.none];exact r6) (by rw[Up.none];exact s.aZ) U hb ?_ hr B z;rw[hro,quq _ _ _ _ _ hco,r7]
    .cases hd
  .cases h
end
end Go.Am
