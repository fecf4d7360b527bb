import Derived.Test.YtbpnpfalldaocaaGreatDoorAmCZa
import Derived.Deep.Upon
import Derived.Lib.UnsafeStr
import Derived.Defers
import Derived.RangeFuncRecord
import Derived.ControlIn
import Derived.RangeFuncIn
set_option linter.defProp false
set_option linter.unusedVariables false
set_option linter.unusedSimpArgs false
open Bool renaming false→B2,true→B4
open Go renaming Frame→Jj,MapEntry→AW,Oper→KW,Operand→IY,Program→Fv,TypeId→IV,Value→Hm,World→J3
open Go.Addr.mk renaming injEq→Ah
open Go.Builtin renaming append_→Af,clear_→BG,firstCells→Ay,zeroCells→AJ
open Go.Deferred renaming ofValue→AO
open Go.Frame renaming atR→Ap,raise_atR→BD
open Go.Instr renaming sameBits→AR,sureAddr→An
open Go.Oper renaming semAt_eq→Aa
open Go.Region renaming wanted→A1
open Go.Result renaming andThen_ok→JQ
open Go.Sem renaming run_bind→JX,run_pure→A'
open Go.StepsIn renaming of_steps→Ab,steps→AL
open Go.Value.slice renaming injEq→AK
open Go.stepG renaming apply→Ao
open List renaming range→Ig,replicate→Fh
open Nat renaming beq→FW,ble→Jo,blt→KI
open Option renaming none→B5,some→B1
open Prod.mk renaming inj→BS
namespace Go.Am
def qH(P:Fv)(o:KW)(xs:List IY)(f:List AV->ar->Option (AV×ar)):Prop :=
 ∀base(D:Nat->Prop)θ H(ρ:IY->Hm)w vs v H',HR P base D θ H w->bH D θ vs (xs.map ρ)->f vs H=B1 (v,H')->dL D H.au H'.au ->
  ∃θ' w' c,p8 P (execOp ρ o) w c w'/\HR P base (Up D H.au H'.au) θ' H' w'/\bt D H θ w H' θ' w'/\VR (Up D H.au H'.au) θ' v c
section
variable{P:Fv}{base:Nat}{D:Nat->Prop}{θ:Th}{H:ar}{w:J3}
def YK{fz:Nat×Nat}{o n:Nat}(h:dS fz o n=B4):∀j,j<n -> ¬(fz.1<=o+j/\o+j<fz.2):=by
 intro j c;unfold dS at h;simp only[wl,vd]at h;omega
def YF(pre cs post new:List Hm)(o:Nat)(h:o+new.length<=cs.length) :
 ((pre++cs++post).toArray.toList.take (pre.length+o)++new++(pre++cs++post).toArray.toList.drop (pre.length+o+new.length))=pre++(cs.take o++new++cs.drop (o+new.length))++post:=by
 have c:(pre++cs++post).take (pre.length+o)=pre++cs.take o:=by
  rw[yo,J6,J6];have:pre.length+o-pre.length-cs.length=0:=by omega
  simp_all[zh]
 have d:(pre++cs++post).drop (pre.length+o+new.length)=cs.drop (o+new.length)++post:=by
  grind [vp,List.drop_of_length_le]
 grind
theorem HR.store(r:HR P base D θ H w){b o:Nat}{new:List AV}{cs:List Hm}{H':ar}(v:bH D θ new cs)(h:H.store b o new=B1 H') :
 ∃w',(storeCells ⟨θ.bQ b,θ.off b+o,B5⟩ cs).run P w=.ok () w'/\HR P base D θ H' w'/\bt D H θ w H' θ w'/\H'.au=H.au:=by
 unfold ar.store at h;cases n:aP new with
 |false=>grind
 |true =>
  rw[n]at h;simp only[xg]at h;have y:=Vq v n;have hlen:=v.length;split at h
  .rename_i c e fz hg;obtain⟨E,co,hc,hr⟩:=r.obj b _ hg;obtain⟨pre,d,post,p,G,rfl,l,q,z⟩:=hr;obtain⟨rfl,rfl,rfl,t⟩:=z rfl;have x:=q.length;cases u:dS fz o (cF new)with
   |false=>grind
   |true =>
    rw[u]at h;simp only[xg,Ct]at h;split at h
    .rename_i hle;simp only[qm,qe]at h;subst h;have f:=YK u;rw[Ea]at f;have g:=Pp (P:=P) (θ.off b+o) cs 0 _ w hc (by grind) (λ j L=>by
      have:=f j (by omega);simp only[j7]at l;rcases t with t|⟨I,J⟩<;>omega) y
     rw[zJ,<-l,YF [] d [] cs o (by omega)]at g;rw[<-l];refine⟨_,g,?_,?_,rfl⟩
     .refine r.set hg rfl rfl ⟨[],d.take o++cs++d.drop (o+cs.length),[],p,_,rfl,l,?_,λ _=>(by grind)⟩;rw[hlen];exact((q.take o).app v).app (q.drop _)
     .exact bt.set hg rfl (r.lt hg)
    grind
  .rename_i m s c e fz hg;obtain⟨E,co,hc,hr⟩:=r.obj b _ hg;obtain⟨pre,d,post,p,rfl,l,q,z,A,B,C,K⟩:=hr;have x:=q.length;cases u:dS fz o (cF new)with
   |false=>grind
   |true =>
    rw[u]at h;simp only[xg,Ct]at h;split at h
    .rename_i hle;simp only[qm,qe]at h;subst h;have f:=YK u;rw[Ea]at f;have g:=Pp (P:=P) (θ.off b+o) cs 0 _ w hc (by grind) (by grind [PG]) y;rw[zJ,<-l,YF pre d post cs o (by omega)]at g;rw[<-l];refine⟨_,g,?_,?_,rfl⟩
     .have F:(d.take o++cs++d.drop (o+cs.length)).length=d.length:=by grind
      refine r.set hg rfl rfl ⟨pre,d.take o++cs++d.drop (o+cs.length),post,p,rfl,l,?_,?_,A,B,C,?_⟩
      .rw [hlen];exact((q.take o).app v).app (q.drop _)
      .grind
      grind
     .exact bt.set hg rfl (r.lt hg)
    grind
  grind
def xfp{o:KW}{t:IV}{x y:IY}{n:Nat}(ho:o.op=.store t x y)(hs:bL P t=B1 n):qH P o [x,y] (Op.store n):=by
 intro base D θ H ρ w vs v H' l h c j;unfold Op.store at c;split at c
 .rename_i b off a;obtain⟨q,r,he,ha,hb⟩:=h.px;simp only[zg,rp]at he;obtain⟨rfl,rfl⟩:=he;cases hn:FW (cF a.cells) n with
  |false=>grind
  |true =>
   rw[hn]at c;simp only[xg,qd,qe,xx]at c;obtain⟨H1,g,rfl,rfl⟩:=c;obtain⟨w',e,m,f,p⟩:=l.store hb.cells g;have hl:=hb.cells.length;simp only[Ea,je]at hn;have d:(ρ y).cells.size=n:=by grind
   refine⟨θ,w',_,.inr ⟨?_,rfl⟩,by grind [Up.none],f,.undef⟩;simp only[execOp,ho,<-ha.now,aq,Instr.storeAt,An,storeVar,JX,A',JQ,rH hs,d,ne_eq,not_true_eq_false,y8,e]
 grind
def Rf{w:J3}{r:Nat}{o:Obj}{ms:Array AW}{c:Nat}(h:w.heap[r]? = B1 (.map ms c)):(setObj r o).run P w=.ok () (eO w r o):=by
 simp[setObj,Sem.run,h,eO]
def HR.tM(d:HR P base D θ H w){b:Nat}{m:List (AV×AV×Nat)×Nat}(hm:H.fR b=B1 m){es:List (AV×AV×Nat)}{ms:List AW}{c:Nat}(h:cV D θ es ms) :
 HR P base D θ (H.set b (.map es c)) (eO w (θ.bQ b) (.map ms.toArray c))/\bt D H θ w (H.set b (.map es c)) θ (eO w (θ.bQ b) (.map ms.toArray c)):=by
 obtain⟨hg,_,_⟩:=d.fR hm;exact⟨d.set hg rfl rfl ⟨ms,rfl,h⟩,bt.set hg rfl (d.lt hg)⟩
def q67{o:KW}{c:Call}{xs:List IY}{t s e:IV}(ho:o.op=.call c)(hc:c.callee=.builtin .clear)(n:c.args.toList=xs)(l:c.argTypes[0]? = B1 t)
 (hu:P.underlying t=B1 (.map s e)):qH P o xs Op.bP:=by
 intro base D θ H ρ w vs v H' j h d p;obtain⟨u,g⟩:=G1 (ρ:=ρ) ho hc;unfold Op.bP at d;split at d
 .obtain ⟨x,rfl,ha⟩:=h.nX;simp only[qe,xx]at d;obtain⟨rfl,rfl⟩:=d;refine⟨θ,w,.tuple #[],.inl ?_,by grind [Up.none],.refl _ _ _ _,.tuple .nil⟩;rw[g,wO n];simp[builtin,BG,l,<-ha.now,aq,ji hu]
 .rename_i b;obtain⟨x,rfl,ha⟩:=h.nX;simp only[qd,qe,xx]at d;obtain⟨m,hm,rfl,rfl⟩:=d;obtain⟨_,_,ms,f,y⟩:=j.fR hm;obtain⟨q,r⟩:=j.tM hm (c:=m.2) (es:=[]) (ms:=[]) trivial;refine⟨θ,_,.tuple #[],.inl ?_,by rw[show(H.set b (.map [] m.2)).au=H.au from rfl,Up.none];exact q,r,.tuple .nil⟩;rw[g,wO n];simp[builtin,BG,l,<-ha.now,aq,ji hu,IF f,Rf f]
 grind
def Zd{n:Nat}{a b:AV}{ca c:Hm}(ha:VR D θ a ca)(hb:VR D θ b c)(h:Op.rF a b=B4):AR n ca c=true:=by
 rw[<-ha.now,<-hb.now];cases a<;>cases b<;>simp only[Op.rF,za]at h
 .grind [aq,AR]
 .simp_all [yJ,O7,aq,AR]
 simp_all[GS,aq,AR,beq_toListBytes]
def tr{n:Nat}:∀{a b:List AV}{ca c:List Hm},bH D θ a ca->bH D θ b c->Op.eC a b=B4->ca.length=c.length/\((ca.zip c).all λ(x,y)=>AR n x y)=B4
 |[],[],ca,c,ha,hb,_=>by rw[ha.kP,hb.kP];simp
 |a::x,b::y,ca,c,ha,hb,h=>by
  obtain⟨q,d,rfl,j,m⟩:=ha.dR;obtain⟨r,e,rfl,l,p⟩:=hb.dR;simp only[Op.eC]at h;cases hs:Op.rF a b with
  |false=>grind
  |true =>
   rw[hs]at h;obtain⟨f,g⟩:=tr (n:=n) m p h;simp only[zy,f,List.zip_cons_cons,List.all_cons,Zd j l hs,Bool.true_and,g,and_self]
 |[],_::_,_,_,_,_,h=>by cases h
 |_::_,[],_,_,_,_,h=>by cases h
theorem xd5{n:Nat}{a b:AV}{ca d:Hm}(ha:VR D θ a ca)(hb:VR D θ b d)(h:Op.stays a b=B4):AR (n+1) ca d=true:=by
 by_cases c:(∃l,a=.agg l) /\ ∃l,b=.agg l
 .obtain ⟨⟨l,rfl⟩,⟨m,rfl⟩⟩:=c;obtain⟨cs,rfl,e⟩:=ha.eK;obtain⟨cs',rfl,f⟩:=hb.eK;obtain⟨g,j⟩:=tr (n:=n) e f h
  grind [AR]
 .refine Zd ha hb ?_;cases a<;>cases b<;>first|exact h|grind
def cV.get{D:Nat->Prop}{θ:Th}:∀(es:List (AV×AV×Nat))(ms:List AW)(i:Nat)(e:AV×AV×Nat),cV D θ es ms->es[i]? = B1 e -> ∃m,ms[i]? = B1 m/\MX D θ e m
 |_::_,m::_,0,e,⟨h,_⟩,he=>(by grind)
 |_::es,_::ms,i+1,e,⟨_,h⟩,he=>by simpa using cV.get es ms i e h (by simpa using he)
 |[],_,_,_,_,he=>by grind
 |_::_,[],_,_,h,_=>h.elim
def cV.modify{D:Nat->Prop}{θ:Th}{k v:AV}{c cv:Hm}(hk:VR D θ k c)(d:VR D θ v cv):∀(es:List (AV×AV×Nat))(ms:List AW)(i:Nat),cV D θ es ms ->
 cV D θ (es.modify i λ e=>(k,v,e.2.2)) (ms.modify i λ e=>{e with key:=c,val:=cv})
 |[],[],_,_=>by grind
 |_::_,_::_,0,⟨⟨_,_,h3⟩,h⟩=>by simpa[cV]using⟨⟨hk,d,h3⟩,h⟩
 |_::es,_::ms,i+1,⟨h1,h⟩=>by simpa[cV]using⟨h1,cV.modify hk d es ms i h⟩
 |[],_::_,_,h=>h.elim
 |_::_,[],_,h=>h.elim
def cV.push{D:Nat->Prop}{θ:Th}{k v:AV}{d cv:Hm}{c:Nat}(hk:VR D θ k d)(e:VR D θ v cv):∀(es:List (AV×AV×Nat))(ms:List AW),cV D θ es ms ->
 cV D θ (es ++ [(k,v,c)]) (ms ++ [{key:=d,val:=cv,born:=c}])
 |[],[],_=>⟨⟨hk,e,rfl⟩,trivial⟩
 |_::es,_::ms,⟨h1,h⟩=>⟨h1,cV.push hk e es ms h⟩
 |[],_::_,h=>h.elim
 |_::_,[],h=>h.elim
def oy{o:KW}{t I e:IV}{x y z:IY}{q:aM}(ho:o.op=.mapUpdate t x y z\/o.op=.insert t x y z)(hu:P.underlying t=B1 (.map I e))(G:nT P I=B1 q) :
 qH P o [x,y,z] (Op.mapUpdate q):=by
 intro base D θ H ρ w vs v H' s h d L;unfold Op.mapUpdate at d;split at d
 .rename_i b k K;obtain⟨U,v0,N,he,ha,hb,hc⟩:=h.p7;simp only[zg,rp]at he;obtain⟨rfl,rfl,rfl⟩:=he;cases f:cP q k with
  |false=>rw[f]at d;cases d
  |true =>
   rw[f]at d;simp only[xg,qd]at d;obtain⟨m,hm,r,hr,d⟩:=d;obtain⟨_,_,ms,j,l⟩:=s.fR hm;have hk:=λ em=>Uk (em:=em) (w:=w) G hb f;obtain⟨J,F,g⟩:=W5 (w:=w) G hb l hr;cases r with
   |none =>
    cases J with
    |some _=>exact g.elim
    |none =>
     simp only[qe,xx]at d;obtain⟨rfl,rfl⟩:=d;obtain⟨C,E⟩:=s.tM hm (c:=m.2+1) (cV.push (c:=m.2) hb hc _ _ l);refine⟨θ,_,_,.inr ⟨?_,rfl⟩,by rw[show(H.set b (.map (m.1 ++ [(k,K,m.2)]) (m.2+1))).au=H.au from rfl,Up.none];exact C,E,.undef⟩;rcases ho with ho|ho<;>simp[execOp,ho,Instr.mapUpdate,<-ha.now,aq,ji hu,hk,F,IF j,Rf j]
   |some p =>
    obtain⟨i,pv⟩:=p;cases J with
    |none=>exact g.elim
    |some p' =>
     obtain⟨S,pc⟩:=p';obtain⟨rfl,g⟩:=g;simp only[qd,kX]at d;obtain⟨en,n,d⟩:=d;cases B:Op.stays en.1 k with
     |false=>grind
     |true =>
      rw[B]at d;simp only[xg,qe,xx]at d;obtain⟨rfl,rfl⟩:=d;obtain⟨me,A,⟨O,Q,R⟩⟩:=cV.get _ _ i en l n;have M:AR 10000 me.key (ρ y)=true:=(by grind [xd5])
      have u:(Instr.keyThatStays me.key (ρ y)).run P w=.ok (ρ y) w:=by simp_all[Instr.keyThatStays]
      obtain⟨C,E⟩:=s.tM hm (c:=m.2) (cV.modify hb hc _ _ i l);refine⟨θ,_,_,.inr ⟨?_,rfl⟩,by rw[show(H.set b (.map (m.1.modify i λ e=>(k,K,e.2.2)) m.2)).au=H.au from rfl,Up.none];exact C,E,.undef⟩;rcases ho with ho|ho<;>simp[execOp,ho,Instr.mapUpdate,<-ha.now,aq,ji hu,hk,F,IF j,Rf j,A,u]
 grind
end
end Go.Am
namespace Go.Am
section
variable{P:Fv}{base:Nat}{D:Nat->Prop}{θ:Th}{H:ar}{w:J3}
def HR.sub(h:HR P base D θ H w){H':ar}(hs:∀b o,H'.get b=B1 o->H.get b=B1 o):HR P base D θ H' w :=
 ⟨λ b o hb=>h.obj b o (hs b o hb),λ b d o o' hb c=>h.inj b d o o' (hs b o hb) (hs d o' c),λ b o hb=>h.kJ b o (hs b o hb),h.dV,h.low⟩
theorem TP(H:ar)(k:Nat):∀b o,(H.kill k).get b=B1 o->H.get b=B1 o:=by
 grind [ar.oY]
def bt.kill(H:ar)(k:Nat):bt D H θ w (H.kill k) θ w :=
 ⟨qg _,Ag.refl _ _,qg _,rfl,rfl,rfl,λ _ _ _=>rfl,λ b o h ho _=>(by grind [TP])⟩
def HR.move(h:HR P base D θ H w)(hn:¬D H.au){b:Nat}{o o':bB}{co':Obj}{off ext:Nat}(hb:H.get b=B1 o)(ho:own o=B4)(G:own o'=B4)
 (hr:mV P (Up D H.au (H.au+1)) (θ.add H.au (θ.bQ b) off ext) H.au o' co') :
 HR P base (Up D H.au (H.au+1)) (θ.add H.au (θ.bQ b) off ext) ((H.kill b).alloc o') (eO w (θ.bQ b) co') /\
 bt D H θ w ((H.kill b).alloc o') (θ.add H.au (θ.bQ b) off ext) (eO w (θ.bQ b) co'):=by
 have p:=h.lt hb;have m:=Th.gC θ H.au (θ.bQ b) off ext hn;have⟨r,J,K⟩:=Th.dY θ H.au (θ.bQ b) off ext;have old:∀x c,H.get x=B1 c->(θ.add H.au (θ.bQ b) off ext).bQ x = θ.bQ x:=λ x c f=>(m x (h.obj x c f).1).1;have d:∀x c,((H.kill b).alloc o').get x=B1 c->(x=H.au/\c=o')\/(x≠H.au/\x≠b/\H.get x=B1 c):=by
  intro x c f;rw[ar.bG,ar.oY]at f
  by_cases e:H.au=x
  .rw [qv (show(H.kill b).au=x from e)]at f
   grind
  .rw [qn (show¬(H.kill b).au=x from e)]at f
   grind
 refine⟨⟨λ x c f=>?_,λ x y c q f I l z=>?_,λ x c f l=>?_,λ g hg=>?_,by rw[Pb];exact h.low⟩,⟨jt _,m,by simp_all[Pb],rfl,rfl,rfl,λ k hk F=>?_,λ x c f l B=>?_⟩⟩
 .rcases d x c f with⟨rfl,rfl⟩|⟨A,t,j⟩
  .exact ⟨.inr ⟨qg _,zd _⟩,co',by rw[r,G9 _ _ _ _ p];simp,hr⟩
  .have ⟨n,co,u,v⟩:=h.obj x c j;refine⟨.inl n,co,?_,v.up n m Up.of⟩;rw[old x c j,G9 _ _ _ _ p,qn (h.inj b x o c hb j ho (by omega))];exact u
 .rcases d x c f with⟨rfl,rfl⟩|⟨A,t,j⟩<;>rcases d y q I with⟨rfl,rfl⟩|⟨L,M,s⟩
  .omega
  .rw [r,old y q s];exact h.inj b y o q hb s ho (by omega)
  .rw [r,old x c j];exact h.inj x b c o j hb l t
  .rw [old x c j,old y q s];exact h.inj x y c q j s l z
 .rcases d x c f with⟨rfl,rfl⟩|⟨A,t,j⟩
  .rw [r];exact h.kJ b o hb ho
  .rw [old x c j];exact h.kJ x c j l
 .have ⟨n,u,v⟩:=h.dV g hg;have⟨C,E,_⟩:=m g n;exact⟨.inl n,C.trans u,E.trans v⟩
 .simp_all [G9]
 grind
def Gp(t:HR P base D θ H w){tx:IV}(hk:(∃e',P.underlying tx=B1 (.slice e'))\/P.underlying tx=B1 .string){x:AV}{c:Hm}{size k:Nat}{l:List AV}
 (p:VR D θ x c) (hl:eL x=B1 k) (h:firstCells H size k x=B1 l) (C:aP l=B4):∃cs,Src P size tx c k cs w/\bH D θ l cs:=by
 cases hs:isStr x with
 |true =>
  cases x<;>try (cases hs)
  rename_i s;simp only[eL,Ea,qe]at hl;subst hl;simp only[firstCells,List.take_length]at h;cases f:FW size 1 with
  |false=>grind
  |true =>
  rw[f]at h;simp only[xg,qe]at h;subst h;simp only[je]at f;subst f;rw[<-p.now];show∃cs,Src P 1 tx (.string ⟨s.toArray⟩) s.length cs w/\bH D θ _ cs;have r:∀w:J3,(Ay 1 s.length (.string ⟨s.toArray⟩)).run P w=.ok (s.map λ b=>Hm.int .u8 b.toNat).toArray w:=by
   intro w;have:=firstCells_string (P:=P) ⟨s.toArray⟩ w;rw[G2]at this;exact this
  refine⟨s.map λ b=>.int .u8 b.toNat,⟨hk,λ w'=>?_,r w,r w.drew,by simp,λ u hu=>?_⟩,λ θ' _=>by rw[vP,Ep];rfl⟩
  .show Result.ok (ByteArray.size ⟨s.toArray⟩) w'=_;rw[G2]
  .obtain ⟨_,_,rfl⟩:=CD.1 hu;rfl
 |false =>
  obtain⟨a,len,cap,rfl,rfl,e⟩:=Tr t p hl (qg _) hs h;obtain⟨J,v,q,j,rfl,d⟩:=Tr (t.draw (w':=w.drew) rfl) p hl (qg _) hs h;injection j with m E n;subst m;subst n
  rcases e with⟨rfl,rfl,_,F⟩|⟨ad,cs,rfl,z,g,A⟩
  .exact ⟨[],⟨hk,λ _=>rfl,rfl,rfl,by grind,by simp⟩,.nil⟩
  .rcases d with⟨B,_⟩|⟨y,cs',he,G,I,K⟩
   .cases B
   .cases he;have:cs'=cs:=by rw[<-I.now,<-g.now]
    subst this;exact⟨cs',⟨hk,λ _=>rfl,z,G,by rw[g.length];exact A,Vq g C⟩,g⟩
def Qx{t tx ty e:IV}{i:TypeInfo}(g:P.underlying t=B1 (.slice e))(f:P.info? e=B1 i){a:Addr}{sLen sCap n:Nat}{x:Hm}{news:List Hm}(hs:Src P i.size tx x n news w)
 (c:sLen+n<=sCap) {w':J3} (d:(storeCells (a.add (sLen*i.size)) news).run P w=.ok () w') :
 (Af #[t,tx] ty #[.slice (B1 a) sLen sCap,x]).run P w=.ok (.slice (B1 a) (sLen+n) sCap) w':=by
 rcases hs.kind with⟨e',hk⟩|hk<;>simp[Af,run_underlying g,run_underlying hk,sizeOf,typeInfo,f,hs.len,c,hs.cells,d]
def q6d(z:Array Hm)(n:Nat):(AJ z n).size=n*z.size:=by simp[AJ]
def o_{D':Nat->Prop}{θ':Th}{id m size:Nat}{cells:List AV}{cs rest:List Hm}{e:IV}{fz:Nat×Nat}(h:bH D' θ' cells cs)(ho:θ'.off id=0)(hl:cells.length=m*size)
 (hr:rest.length = θ'.ext id*size) (c:0<size) (hm:m + θ'.ext id<=maxLen):mV P D' θ' id (.grown m size cells e fz) (.cells (cs++rest).toArray e (0,0)) :=
 ⟨[],cs,rest,(0,0),by simp,by grind,h,hl,hr,c,hm,.inl rfl⟩
def HR.grow(E:HR P base D θ H w)(hn:¬D H.au){t tx ty e:IV}{i:TypeInfo}{z:Hm}(K:P.underlying t=B1 (.slice e))(J:P.info? e=B1 i)(L:i.zero=B1 z)(B:z.cells.size=i.size)
 (I:0<i.size) {bs:Option Addr} {sLen sCap n:Nat} {x:Hm} {old new:List AV} {olds news:List Hm} (hold:(Ay i.size sLen (.slice bs sLen sCap)).run P w.drew=.ok olds.toArray w.drew)
 (hs:Src P i.size tx x n news w) (hg:sCap<sLen+n) (r:fits (sLen+n) i.bytes=B4) (ho:bH D θ old olds) (j:bH D θ new news) (y:old.length=sLen*i.size) (fz:Nat×Nat) :
 ∃θ' w' c,(Af #[t,tx] ty #[.slice bs sLen sCap,x]).run P w=.ok c w'/\HR P base (Up D H.au (H.au+1)) θ' (cZ H e i.size (sLen+n) (jD old new) fz).2 w' /\
  bt D H θ w (cZ H e i.size (sLen+n) (jD old new) fz).2 θ' w'/\VR (Up D H.au (H.au+1)) θ' (cZ H e i.size (sLen+n) (jD old new) fz).1 c:=by
 unfold fits at r;simp only[xq,vd]at r;have⟨G,N⟩:=r;have d:=run_append_grow_src (P:=P) w t tx ty e i z K J L bs sLen sCap olds hold x n news hs hg (by omega) (growslice_fits hg G);have g:=grownCap_ge w (sLen+n) sCap e;have p:=grownCap_le_maxLen w (sLen+n) sCap e (by unfold maxLen;omega);generalize grownCap w (sLen+n) sCap e=cap at d g p;have v:=hs.newsLen;have hlen:(jD old new).length=(sLen+n)*i.size:=by
  rw[wx,xk,y,<-j.length,v,yk]
 have q:(Obj.cells ((olds++news).toArray++AJ z.cells (cap-(sLen+n))) e:Obj)=.cells ((olds++news)++(AJ z.cells (cap-(sLen+n))).toList).toArray e (0,0):=by
  simp_all
 have l:=Th.gC θ H.au w.drew.heap.size 0 (cap-(sLen+n)) hn;have A:bH (Up D H.au (H.au+1)) (θ.add H.au w.drew.heap.size 0 (cap-(sLen+n))) (jD old new) (olds++news):=by
  rw[wx];exact(ho.app j).up l Up.of
 have⟨M,F,C⟩:=Th.dY θ H.au w.drew.heap.size 0 (cap-(sLen+n));have hR:=o_ (P:=P) (id:=H.au) (m:=sLen+n) (size:=i.size) (e:=e) (fz:=fz) (rest:=(AJ z.cells (cap-(sLen+n))).toList) A F hlen
  (by rw[C,Array.length_toList,q6d,B]) I (by rw[C];omega)
 rw[<-q]at hR;refine⟨_,_,_,d,HR.alloc (w:=w.drew) (E.draw rfl) hn ?_ ?_ (qg _) ?_ hR,?_,?_⟩
 .rw [yP];simp
 .simp_all [yP,Im]
 .simp_all
 .exact (bt.draw (w:=w) (w':=w.drew) rfl rfl rfl rfl).trans (bt.alloc (w:=w.drew) (E.draw rfl) hn _ _ _ _) (λ _ h=>h)
 .have u:(Up D H.au (H.au+1)) H.au:=.inr ⟨qg _,zd _⟩;have:=VR.gslice (θ:=θ.add H.au w.drew.heap.size 0 (cap-(sLen+n))) (i:=0) (m:=sLen+n) (s:=i.size) (alt:=0) (n:=sLen+n) u;intro θ'' f;show aq θ'' (.gslice H.au 0 (sLen+n) i.size 0 (sLen+n))=_;rw[this θ'' f];simp_all[aq]
def MH{b i m s alt n:Nat}{c:Hm}(h:VR D θ (.gslice b i m s alt n) c):c=.slice (B1 ⟨θ.bQ b,θ.off b+(if(m-i) + θ.ext b=0 then alt else i*s),B5⟩) n ((m-i) + θ.ext b):=by
 rw[<-h.now];rfl
theorem Ib{b o n d:Nat}{c:Hm}(h:VR D θ (.slice b o n d) c):c=.slice (B1 ⟨θ.bQ b,θ.off b+o,B5⟩) n d:=by
 rw[<-h.now];rfl
def HR.Ir(O:HR P base D θ H w)(hn:¬D H.au){t tx ty e:IV}{i:TypeInfo}{z:Hm}(ht:P.underlying t=B1 (.slice e))(hi:P.info? e=B1 i)(hz:i.zero=B1 z)(X:z.cells.size=i.size)
 (Y:0<i.size) {b k m sLen n:Nat} {c:List AV} {fz d:Nat×Nat} {alt:Nat} {s x:Hm} {old new:List AV} {news:List Hm} (hg:H.get b=B1 (.grown m i.size c e fz))
 (V:VR D θ (.gslice b k m i.size alt sLen) s) (hs:Src P i.size tx x n news w) (p:bH D θ new news) (hn0:0<n) (hkm:k+sLen<=m) (Z:m<k+sLen+n) (hf:fits (sLen+n) i.bytes=B4)
 (hold:fg c (k*i.size) (sLen*i.size)=B1 old)
 (N:(fz.2<fz.1\/fz.2<=(k+sLen)*i.size)/\((k=0/\d=fz)\/(fz.2<=k*i.size/\d=cond (FW fz.1 fz.2) (0,0) (1,0)))) :
 ∃θ' w' v,(Af #[t,tx] ty #[s,x]).run P w=.ok v w'/\HR P base (Up D H.au (H.au+1)) θ' (cZ (H.kill b) e i.size (sLen+n) (jD old new) d).2 w' /\
  bt D H θ w (cZ (H.kill b) e i.size (sLen+n) (jD old new) d).2 θ' w'/\VR (Up D H.au (H.au+1)) θ' (cZ (H.kill b) e i.size (sLen+n) (jD old new) d).1 v:=by
 have U:=MH V;subst U;obtain⟨hd,co,hc,pre,cs,post,g,rfl,r2,r3,r4,r5,r6,r7,r8⟩:=O.obj b _ hg;have B:=r3.length;have C:=hs.newsLen;rw[tw]at hold;have hle:sLen*i.size<=c.length-k*i.size:=by
  grind
 rw[qv hle]at hold;cases hold;have r:bH D θ ((c.drop (k*i.size)).take (sLen*i.size)) ((cs.drop (k*i.size)).take (sLen*i.size)):=(r3.drop _).take _;have hkc:(k+sLen)*i.size<=c.length:=by simp_all[jy]
 have R:(k+sLen)*i.size=k*i.size+sLen*i.size:=yk _ _ _
 by_cases u:sLen+n<=(m-k) + θ.ext b
 .-- in place
  have f:¬(m-k) + θ.ext b=0:=by omega
  rw[qn f];have htot:(k+sLen+n)*i.size<=cs.length+post.length:=by
   rw[B,r4,r5,<-yk];exact jy _ (by omega)
  have J:(k+sLen+n)*i.size=k*i.size+sLen*i.size+n*i.size:=by grind
  have F:=Pp (P:=P) (θ.off b+k*i.size+sLen*i.size) news 0 _ w hc (by grind) (by grind [PG]) hs.one;rw[zJ]at F;have E:=Qx (ty:=ty) ht hi (a:=⟨θ.bQ b,θ.off b+k*i.size,B5⟩) (sLen:=sLen) (sCap:=(m-k) + θ.ext b) hs u (by rw[uM];exact F)
  -- the block's cells from the slice's head on
  have hw:((pre++cs++post).take (θ.off b+k*i.size+sLen*i.size)++news++(pre++cs++post).drop (θ.off b+k*i.size+sLen*i.size+news.length)) =
   (pre++cs.take (k*i.size))++((cs.drop (k*i.size)).take (sLen*i.size)++news)++(pre++cs++post).drop (θ.off b+k*i.size+sLen*i.size+news.length):=by
   have e1:(pre++cs++post).take (θ.off b+k*i.size+sLen*i.size)=pre++cs.take (k*i.size)++(cs.drop (k*i.size)).take (sLen*i.size):=by
    rw[yo,J6,zh (l:=pre) (by omega),yo,show θ.off b+k*i.size+sLen*i.size-pre.length=k*i.size+sLen*i.size from by omega,J6,
     show k*i.size+sLen*i.size-cs.length=0 from by omega,yn,zu,List.take_add]
   grind
  have L:((pre++cs++post).drop (θ.off b+k*i.size+sLen*i.size+news.length)).length=((m-k) + θ.ext b-(sLen+n))*i.size:=by
   rw[HQ,xk,xk,C,Nat.sub_mul,yk,yk,Nat.sub_mul,B,r4,r5,r2];omega
  have K:=Th.gC θ H.au (θ.bQ b) (θ.off b+k*i.size) ((m-k) + θ.ext b-(sLen+n)) hn;have⟨e1,e2,e3⟩:=Th.dY θ H.au (θ.bQ b) (θ.off b+k*i.size) ((m-k) + θ.ext b-(sLen+n));have W:((cs.drop (k*i.size)).take (sLen*i.size)).length=sLen*i.size:=by rw[Is,HQ];omega
  have⟨G,I⟩:=O.move hn (o':=.grown (sLen+n) i.size (jD ((c.drop (k*i.size)).take (sLen*i.size)) new) e d) (co':=.cells ((pre++cs.take (k*i.size))++((cs.drop (k*i.size)).take (sLen*i.size)++news)++(pre++cs++post).drop (θ.off b+k*i.size+sLen*i.size+news.length)).toArray e g)
   (off:=θ.off b+k*i.size) (ext:=(m-k) + θ.ext b-(sLen+n)) hg rfl rfl ⟨_,_,_,g,rfl,by grind,by rw[wx];exact(r.app p).up K Up.of,
    by rw[wx,xk,<-r.length,W,<-p.length,C,yk],by grind,Y,by omega,by
     rw[e2];have j:(pre++cs.take (k*i.size)).length+((cs.drop (k*i.size)).take (sLen*i.size)++news).length+((pre++cs++post).drop (θ.off b+k*i.size+sLen*i.size+news.length)).length=pre.length+cs.length+post.length:=by
      rw[<-xk,<-xk,<-hw];simp;omega
     rw[j];obtain⟨_,q|⟨q1,q2⟩⟩:=N
     .simp_all
     .unfold PG at r8⊢;cases A:FW fz.1 fz.2 with
      |true =>
       simp only[je]at A;omega
      |false =>
       rw[A]at q2;subst q2;have:¬fz.1=fz.2:=by grind [Nat.beq_refl]
       simp only[ze];omega⟩
  refine⟨θ.add H.au (θ.bQ b) (θ.off b+k*i.size) ((m-k) + θ.ext b-(sLen+n)),_,_,E,?_,?_,?_⟩
  .rw [show(pre++cs++post).toArray.toList=pre++cs++post from rfl,hw];exact G
  .rw [show(pre++cs++post).toArray.toList=pre++cs++post from rfl,hw];exact I
  .have Q:(Up D H.au (H.au+1)) H.au:=.inr ⟨qg _,zd _⟩;have:=VR.gslice (θ:=θ.add H.au (θ.bQ b) (θ.off b+k*i.size) ((m-k) + θ.ext b-(sLen+n))) (i:=0) (m:=sLen+n) (s:=i.size) (alt:=0) (n:=sLen+n) Q;intro θ'' y;show aq θ'' (.gslice H.au 0 (sLen+n) i.size 0 (sLen+n))=_;rw[this θ'' y];simp_all[aq]
 .have M:(Ay i.size sLen (.slice (B1 ⟨θ.bQ b,θ.off b+(if(m-k) + θ.ext b=0 then alt else k*i.size),B5⟩) sLen ((m-k) + θ.ext b))).run P w.drew=.ok ((cs.drop (k*i.size)).take (sLen*i.size)).toArray w.drew:=by
   by_cases S:sLen=0
   .subst S;show(loadCells _ (0*i.size)).run P w.drew=_;rw[yO,yn];rfl
   .have f:¬(m-k) + θ.ext b=0:=by omega
    rw[qn f];show(loadCells _ (sLen*i.size)).run P w.drew=_;have:=R2 (P:=P) (w:=w.drew) (k:=θ.bQ b) (fz:=g) (e:=e) (arr:=(pre++cs++post).toArray) hc (pre.length+k*i.size) (sLen*i.size) (by grind);rw[XX pre cs post _ _ (by omega),r2]at this;exact this
  have:=(O.sub (TP H b)).grow (ty:=ty) (H:=H.kill b) hn ht hi hz X Y M hs (by omega) hf r p (by rw[Is,HQ];omega) d;have⟨θ',w',v,G,I,g3,g4⟩:=this;exact⟨θ',w',v,G,I,(bt.kill H b).trans g3 (λ _ h=>h),g4⟩
def Dr{e:IV}{n z:Nat}{g:AV}(hs:bL P e=B1 n)(hb:lJ P e=B1 z)(c:zeroOf P e=B1 g)(m:g.cells.length=n) :
 ∃i d,P.info? e=B1 i/\i.size=n/\i.bytes=z/\i.zero=B1 d/\d.cells.size=n:=by
 have⟨i,f,h⟩:=Yu hs;unfold lJ at hb;rw[f]at hb;simp only[qm,qe]at hb;unfold zeroOf at c;rw[f]at c;simp only[qm,qd]at c;have⟨d,j,l⟩:=c;refine⟨i,d,f,h,hb,j,?_⟩;have:=(OD (D:=λ _=>False) (θ:=⟨λ _=>0,λ _=>0,λ _=>0⟩) l).cells.length
 grind
def xhd{b o n d:Nat}{c:Hm}(h:VR D θ (.slice b o n d) c)(n':Nat):VR D θ (.slice b o n' d) (.slice (B1 ⟨θ.bQ b,θ.off b+o,B5⟩) n' d):=λ θ' ha=>by
 have:=(h θ' ha).trans h.now.symm;simp_all[aq]
def xcy{b i m s alt n:Nat}{c:Hm}(h:VR D θ (.gslice b i m s alt n) c)(n':Nat):VR D θ (.gslice b i m s alt n') (.slice (B1 ⟨θ.bQ b,θ.off b+(if(m-i) + θ.ext b=0 then alt else i*s),B5⟩) n' ((m-i) + θ.ext b)):=λ θ' ha=>by
 have:=(h θ' ha).trans h.now.symm;simp only[aq,AK,qe,Ah,rp,Cu]at this
 grind [aq]
def xcv{o:KW}{c:Call}{xs:List IY}{t tx e:IV}{sz z:Nat}{zv:AV}(ho:o.op=.call c)(hc:c.callee=.builtin .append)(hx:c.args.toList=xs)(hts:c.argTypes.toList=[t,tx])
 (hu:P.underlying t=B1 (.slice e)) (hk:(∃e',P.underlying tx=B1 (.slice e'))\/(P.underlying tx=B1 .string)) (hs:bL P e=B1 sz) (hb:lJ P e=B1 z) (hz:zeroOf P e=B1 zv) (hzn:zv.cells.length=sz) :
 qH P o xs (Op.append e sz z):=by
 intro base D θ H ρ w vs v H' L h d S;obtain⟨cc,hE⟩:=G1 (ρ:=ρ) ho hc;have hats:c.argTypes = #[t,tx]:=by grind
 obtain⟨i,zc,X,rfl,rfl,U,W⟩:=Dr hs hb hz hzn;unfold Op.append at d;split at d
 .rename_i a b;obtain⟨x,y,rfl,ha,hbv⟩:=h.px;simp only[qd]at d;obtain⟨n,hn,new,Z,d⟩:=d;cases M:aP new with
  |false=>grind
  |true =>
   rw[M]at d;simp only[xg]at d;obtain⟨news,j,A⟩:=Gp L (tx:=tx) hk hbv hn Z M;have g:∀(I:Hm)(w':J3),(Af #[t,tx] o.type #[ρ x,ρ y]).run P w=.ok I w'->(execOp ρ o).run P w=.ok (.value I) w':=by
    simp_all[wO,builtin]
   have hnl:=j.newsLen;have hnlen:=A.length;have f:n=0 -> ∀bs len J,ρ x=.slice bs len J->len<=J->(Af #[t,tx] o.type #[ρ x,ρ y]).run P w=.ok (ρ x) w:=by
    intro p bs len J he hle;simp_all[run_append_nothing]
   unfold cK at d;split at d
   .-- nil
    cases p:FW n 0 with
    |true =>
     rw[p]at d;simp only[xg,qe,xx]at d;obtain⟨rfl,rfl⟩:=d;exact⟨θ,w,ρ x,.inl (g _ _ (f (by simpa using p) B5 0 0 ha.now.symm (qg _))),by grind [Up.none],.refl _ _ _ _,by grind [Up.none]⟩
    |false =>
     rw[p]at d;simp only[ze]at d;cases B:(fits n i.bytes && KI 0 i.size)with
     |false=>grind
     |true =>
      rw[B]at d;simp only[xg,qe]at d;simp only[xq,uv]at B;have hn0:n≠0:=by intro q;simp_all
      obtain⟨θ',w',I,N,s,u,l⟩:=L.grow (ty:=o.type) (S H.au (qg _) (by rw[<-(BS d).2];exact zd _)) hu X U W B.2 (bs:=B5) (sLen:=0) (sCap:=0) (old:=[]) (olds:=[]) rfl j (by omega) (by grind) .nil A (by simp) (0,0);rw[show jD ([]:List AV) new=new from rfl,yu]at s u l;rw[d]at s u l;have:H'.au=H.au+1:=by rw[<-(BS d).2];rfl
      rw[<-this]at s l;refine⟨θ',w',I,.inl (g _ _ ?_),s,u,l⟩;rw[<-ha.now];exact N
   .-- a slice of a row
    rename_i bb oo len J;cases hle:Jo (len+n) J with
    |true =>
     rw[hle]at d;simp only[vd]at hle;simp only[xg]at d;cases p:FW n 0 with
     |true =>
      rw[p]at d;simp only[xg,qe,xx]at d;obtain⟨rfl,rfl⟩:=d;simp only[je]at p;subst p;exact⟨θ,w,ρ x,.inl (g _ _ (f rfl _ len J (Ib ha) (by omega))),by grind [Up.none],.refl _ _ _ _,by grind [Up.none]⟩
     |false =>
      rw[p]at d;simp only[ze,qd,qe,xx]at d;obtain⟨H1,h1,rfl,rfl⟩:=d;obtain⟨w',N,s,u,l⟩:=L.store A h1;refine⟨θ,w',_,.inl (g _ _ ?_),by grind [Up.none],u,by rw[l,Up.none];exact xhd ha _⟩;rw[Ib ha];exact Qx hu X j hle (by grind [uM])
    |false =>
     rw[hle]at d;have Y:¬len+n<=J:=by grind [Nat.ble_eq_true_of_le]
     simp only[ze]at d;cases B:(fits (len+n) i.bytes && Jo J (len+n) && KI 0 i.size)with
     |false=>grind
     |true =>
      rw[B]at d;simp only[xg,qd,qe]at d;obtain⟨old,hold,d⟩:=d;simp only[xq,uv]at B;obtain⟨olds,k1,k2,k3⟩:∃olds:List Hm,(Ay i.size len (ρ x)).run P w.drew=.ok olds.toArray w.drew/\bH D θ old olds/\old.length=len*i.size:=by
       obtain⟨ad,len',cap',O,hl',Q⟩:=Tr (L.draw (w':=w.drew) rfl) ha (n:=len) rfl (qg _) rfl hold;rcases Q with⟨rfl,rfl,_,p⟩|⟨ad',cs',rfl,k1,k2,k3⟩
       .rw [Ib ha]at O;cases O
       .exact ⟨cs',by rw[O];exact k1,k2,k3⟩
      rw[Ib ha]at k1;obtain⟨θ',w',I,N,s,u,l⟩:=L.grow (ty:=o.type) (S H.au (qg _) (by rw[<-(BS d).2];exact zd _)) hu X U W B.2 k1 j (by omega) B.1.1 k2 A k3 (0,0);rw[d]at s u l;have:H'.au=H.au+1:=by rw[<-(BS d).2];rfl
      rw[<-this]at s l;refine⟨θ',w',I,.inl (g _ _ ?_),s,u,l⟩
      grind [Ib]
   .-- a slice of a grown row
    rename_i bb ii m sz alt len;cases p:FW n 0 with
    |true =>
     rw[p]at d;simp only[xg]at d;cases F:Jo (ii+len) m with
     |false=>grind
     |true =>
     rw[F]at d;simp only[xg,qe,xx]at d;obtain⟨rfl,rfl⟩:=d;simp only[je]at p;subst p;simp only[vd]at F;exact⟨θ,w,ρ x,.inl (g _ _ (f rfl _ len _ (MH ha) (by omega))),by grind [Up.none],.refl _ _ _ _,by grind [Up.none]⟩
    |false =>
     rw[p]at d;have hn0:n≠0:=by intro q;simp_all
     simp only[ze]at d;cases r:(FW sz i.size && Jo (ii+len) m && KI 0 i.size)with
     |false=>grind
     |true =>
      rw[r]at d;simp only[xq,je,vd,uv]at r;obtain⟨⟨rfl,F⟩,hsz⟩:=r;simp only[xg]at d;cases hle:Jo (ii+len+n) m with
      |true =>
       rw[hle]at d;simp only[vd]at hle;simp only[xg,qd,qe,xx]at d;obtain⟨H1,h1,rfl,rfl⟩:=d;obtain⟨w',N,s,u,l⟩:=L.store A h1;refine⟨θ,w',_,.inl (g _ _ ?_),by grind [Up.none],u,by rw[l,Up.none];exact xcy ha _⟩;rw[MH ha];refine Qx hu X j (by omega) ?_;rw[qn (by omega),uM,yz,<-yk];exact N
      |false =>
       rw[hle]at d;have Y:¬ii+len+n<=m:=by grind [Nat.ble_eq_true_of_le]
       simp only[ze]at d;cases B:fits (len+n) i.bytes with
       |false=>grind
       |true =>
        rw[B]at d;simp only[xg]at d;split at d
        .rename_i m' sz' c0 e' fz K;cases r:(FW m m' && FW i.size sz' && FW e' e)with
         |false=>grind
         |true =>
          rw[r]at d;simp only[xq,je]at r;obtain⟨⟨rfl,rfl⟩,rfl⟩:=r;simp only[xg]at d;have R:∀old E,fg c0 (ii*i.size) (len*i.size)=B1 old->((fz.2<fz.1\/fz.2<=(ii+len)*i.size)/\((ii=0/\E=fz)\/(fz.2<=ii*i.size/\E=cond (FW fz.1 fz.2) (0,0) (1,0)))) ->
           cZ (H.kill bb) e' i.size (len+n) (jD old new) E=(v,H') -> ∃θ' w' c,p8 P (execOp ρ o) w c w'/\HR P base (Up D H.au H'.au) θ' H' w'/\bt D H θ w H' θ' w'/\VR (Up D H.au H'.au) θ' v c:=by
           intro old E hold hfz d;have hnx:H'.au=H.au+1:=by rw[<-(BS d).2];rfl
           obtain⟨θ',w',I,N,s,u,l⟩:=L.Ir (ty:=o.type) (S H.au (qg _) (by omega)) hu X U W hsz K ha j A (by omega) F (by omega) B hold hfz;rw[d]at s u l;rw[<-hnx]at s l;exact⟨θ',w',I,.inl (g _ _ N),s,u,l⟩
          cases C:(FW ii 0 && FW len m && Jo fz.2 (m*i.size))with
          |true =>
           rw[C]at d;simp only[xq,je,vd]at C;obtain⟨⟨rfl,rfl⟩,C⟩:=C;simp only[xg,qe]at d;obtain⟨_,co,_,pre,cs,post,cfz,_,_,_,r4,_⟩:=L.obj bb _ K;refine R c0 fz ?_ (by grind) d;rw[tw,yO,<-r4,qv (by omega),kq,List.take_length]
          |false =>
           rw[C]at d;simp only[ze]at d;cases V:Jo fz.2 (ii*i.size)with
           |true =>
            rw[V]at d;simp only[vd]at V;simp only[xg,qd,qe]at d
            grind
           |false =>
            rw[V]at d;simp only[ze]at d;cases G:(FW ii 0 && Jo fz.2 (len*i.size))with
            |false=>grind
            |true =>
             rw[G]at d;simp only[xq,je,vd]at G;obtain⟨rfl,G⟩:=G;simp only[xg,qd,qe]at d
             grind
        grind
   grind
 grind
def τ{o:KW}{c:Call}{xs:List IY}{t e:IV}{z:AV}(ho:o.op=.call c)(hc:c.callee=.builtin .clear)(B:c.args.toList=xs)(J:c.argTypes[0]? = B1 t)
 (hu:P.underlying t=B1 (.slice e)) (K:zeroOf P e=B1 z):qH P o xs (Op.bW z.cells):=by
 intro base D θ H ρ w vs v H' F h f E;have⟨O,A⟩:=G1 (ρ:=ρ) ho hc;unfold Op.bW at f;split at f
 .cases f
 .rename_i d I;obtain⟨x,rfl,ha⟩:=h.nX;simp only[qd]at f;have⟨n,hn,f⟩:=f;cases j:FW n 0 with
  |true =>
   rw[j]at f;simp only[xg,qe,xx]at f;obtain⟨rfl,rfl⟩:=f;simp only[je]at j;subst j;refine⟨θ,w,.tuple #[],.inl ?_,by grind [Up.none],.refl _ _ _ _,.tuple .nil⟩;rw[A,wO B];have q:∃bs y,ρ x=.slice bs 0 y:=by
    cases d<;>simp only[eL,reduceCtorEq,qe]at hn
    .grind
    .exact ⟨B5,0,ha.now.symm⟩
    .subst hn;exact⟨_,_,Ib ha⟩
    .subst hn;exact⟨_,_,MH ha⟩
    .exact ⟨_,_,ha.now.symm⟩
   have⟨bs,y,r⟩:=q;cases bs<;>simp[builtin,BG,J,ji hu,r]
  |false =>
   rw[j]at f;simp only[ze,qd,qe,xx]at f;obtain⟨p,hp,H1,C,rfl,rfl⟩:=f;have⟨n',U,u,Q,R,S⟩:=Yb ha hp;rw[yO,Nat.sub_zero]at u;have⟨l,L,s⟩:=Ia (w:=w) K;have g:bH D θ (fp n z.cells) (Fh n l.cells.toList).flatten:=Rl (s D θ).cells n;have⟨w',V,W,N,X⟩:=F.store g C;refine⟨θ,w',.tuple #[],.inl ?_,by grind [Up.none],N,.tuple .nil⟩;rw[A,wO B];have m:n'=n:=by
    cases d<;>simp only[eL,reduceCtorEq,qe]at hn
    .grind
    .simp_all
    .subst hn;rw[Ib ha]at u;grind
    .subst hn;rw[MH ha]at u;grind
    .cases hp
   subst m;have M:(AJ l.cells n').toList=(Fh n' l.cells.toList).flatten:=by
    have:=S6 l.cells.toList n';simp_all[AJ]
   have G:n'≠0:=by omega
   simp_all[builtin,BG,ji]
 grind
end
end Go.Am
namespace Go.Am
def Ext(H H':ar):Prop:=H.au<=H'.au /\ ∀b o,H'.get b=B1 o->(∃o',H.get b=B1 o'/\(own o'=B4->own o=B4))\/(H.au<=b/\b<H'.au/\own o=B4)
theorem Ext.refl(H:ar):Ext H H:=⟨qg _,λ b o h=>.inl ⟨o,h,λ h=>h⟩⟩
theorem Ext.trans{H H' c:ar}(h:Ext H H')(e:Ext H' c):Ext H c:=by
 refine⟨xm h.1 e.1,λ b o hb=>?_⟩;rcases e.2 b o hb with⟨o',f,j⟩|⟨f,l,d⟩
 .rcases h.2 b o' f with⟨n,d,g⟩|⟨d,g,m⟩
  .grind
  .exact .inr ⟨d,qj g e.1,j m⟩
 .exact .inr ⟨xm h.1 f,l,d⟩
theorem Ext.set{H:ar}{b:Nat}{o:bB}(h:H.get b=B1 o)(o':bB)(ho:own o=B4->own o'=B4):Ext H (H.set b o'):=by
 refine⟨qg _,λ x d c=>?_⟩
 grind [ar.aH]
theorem Ext.alloc(H:ar)(o:bB)(ho:own o=B4):Ext H (H.alloc o):=by
 refine⟨jt _,λ x d c=>?_⟩;rw[ar.bG]at c;split at c
 .rename_i e;subst e;cases c;exact .inr ⟨qg _,zd _,ho⟩
 grind
def Ext.kill(H:ar)(b:Nat):Ext H (H.kill b):=⟨qg _,λ x d c=>(by grind [TP])⟩
def na{H:ar}{b:Nat}{m:List (AV×AV×Nat)×Nat}(h:H.fR b=B1 m):∃o,H.get b=B1 o:=by
 grind [ar.fR]
def df:eT->Prop
 | .alloc f=>∀vs ob mk,f vs=B1 (ob,mk)->own ob=B4
 | .fT f=>∀vs H v H',f vs H=B1 (v,H')->Ext H H'
 |_=>True
def ju{α:Type}{c:Bool}{a b:Option α}{x:α}(h:cond c a b=B1 x):(c=B4/\a=B1 x)\/(c=B2/\b=B1 x):=by
 grind
theorem N6{H H':ar}{b o:Nat}{l:List AV}(h:H.store b o l=B1 H'):Ext H H':=by
 unfold ar.store at h;rcases ju h with⟨_,h⟩|⟨_,h⟩
 .split at h
  .rename_i hg;rcases ju h with⟨_,h⟩|⟨_,h⟩
   .simp only[qd,qe]at h;obtain⟨_,_,rfl⟩:=h;exact Ext.set hg _ (λ _=>rfl)
   grind
  .rename_i hg;rcases ju h with⟨_,h⟩|⟨_,h⟩
   .simp only[qd,qe]at h;obtain⟨_,_,rfl⟩:=h;exact Ext.set hg _ (λ _=>rfl)
   grind
  grind
 grind
def xdf(n:Nat):df (.fT (Op.store n)):=by
 intro vs H v H' h;unfold Op.store at h;split at h
 .rcases ju h with⟨_,h⟩|⟨_,h⟩
  .grind [qd,N6]
  grind
 grind
def Wd(q:aM):df (.fT (Op.mapUpdate q)):=by
 intro vs H v H' h;unfold Op.mapUpdate at h;split at h
 .rcases ju h with⟨_,h⟩|⟨_,h⟩
  .simp only[qd]at h;have⟨m,hm,r,_,h⟩:=h;have⟨d,c⟩:=na hm;split at h
   .simp only[qd]at h;have⟨e,_,h⟩:=h;rcases ju h with⟨_,h⟩|⟨_,h⟩
    .injection h with h;injection h with _ h;subst h;exact Ext.set c _ (λ _=>rfl)
    grind
   .injection h with h;injection h with _ h;subst h;exact Ext.set c _ (λ _=>rfl)
  grind
 grind
def q5o:df (.fT Op.bP):=by
 intro vs H v H' h;unfold Op.bP at h;split at h
 .grind [Ext.refl]
 .simp only[qd]at h;have⟨m,hm,h⟩:=h;have⟨d,c⟩:=na hm;injection h with h;injection h with _ h;subst h;exact Ext.set c _ (λ _=>rfl)
 grind
def q7x(z:List AV):df (.fT (Op.bW z)):=by
 intro vs H v H' h;unfold Op.bW at h;split at h
 .cases h
 .simp only[qd]at h;have⟨_,_,h⟩:=h;rcases ju h with⟨_,h⟩|⟨_,h⟩
  .grind [Ext.refl]
  grind [qd,N6]
 grind
theorem MQ{H H':ar}{e s n:Nat}{c:List AV}{fz:Nat×Nat}{v:AV}(h:B1 (cZ H e s n c fz)=B1 (v,H')):Ext H H':=by
 injection h with h;injection h with _ h;subst h;exact Ext.alloc _ _ rfl
def q94(e s z:Nat):df (.fT (Op.append e s z)):=by
 intro vs H v H' h;unfold Op.append at h;split at h
 .simp only[qd]at h;have⟨n,_,new,_,h⟩:=h;rcases ju h with⟨_,h⟩|⟨_,h⟩
  .unfold cK at h;split at h
   .rcases ju h with⟨_,h⟩|⟨_,h⟩
    .grind [Ext.refl]
    .rcases ju h with⟨_,h⟩|⟨_,h⟩
     .exact MQ h
     grind
   .rcases ju h with⟨_,h⟩|⟨_,h⟩
    .rcases ju h with⟨_,h⟩|⟨_,h⟩
     .grind [Ext.refl]
     grind [qd,N6]
    .rcases ju h with⟨_,h⟩|⟨_,h⟩
     .grind [qd,MQ]
     grind
   .rcases ju h with⟨_,h⟩|⟨_,h⟩
    .rcases ju h with⟨_,h⟩|⟨_,h⟩
     .grind [Ext.refl]
     grind
    .rcases ju h with⟨_,h⟩|⟨_,h⟩
     .rcases ju h with⟨_,h⟩|⟨_,h⟩
      .grind [qd,N6]
      .rcases ju h with⟨_,h⟩|⟨_,h⟩
       .split at h
        .rcases ju h with⟨_,h⟩|⟨_,h⟩
         .rcases ju h with⟨_,h⟩|⟨_,h⟩
          .exact (Ext.kill _ _).trans (MQ (H:=H.kill _) h)
          .rcases ju h with⟨_,h⟩|⟨_,h⟩
           .simp only[qd]at h;have⟨_,_,h⟩:=h;exact(Ext.kill _ _).trans (MQ (H:=H.kill _) h)
           .rcases ju h with⟨_,h⟩|⟨_,h⟩
            .simp only[qd]at h;have⟨_,_,h⟩:=h;exact(Ext.kill _ _).trans (MQ (H:=H.kill _) h)
            grind
         grind
        grind
       grind
     grind
   grind
  grind
 grind
end Go.Am
namespace Go.Am
structure BM(ρ:IY->Hm):Prop where
 const:∀v,ρ (.const v)=v
 func:∀f,ρ (.func f)=.func (.func f) #[] #[]
def uH(P:Fv)(o:KW)(xs:List IY)(f:List AV->Option AV):Prop :=
 ∀(D:Nat->Prop)θ(ρ:IY->Hm)w vs v,BM ρ->bH D θ vs (xs.map ρ)->f vs=B1 v -> ∃c,p8 P (execOp ρ o) w c w/\VR D θ v c
def se(P:Fv)(o:KW)(xs:List IY)(f:List AV->Option (bB×(Nat->AV))):Prop :=
 ∀(D:Nat->Prop)θ(ρ:IY->Hm)w vs ob mk,BM ρ->bH D θ vs (xs.map ρ)->f vs=B1 (ob,mk) ->
  own ob=B4 /\ ∃w0 co ext c,(execOp ρ o).run P w=.ok (.value c) (w0.alloc co)/\mF w w0 /\
   ∀(D':Nat->Prop)θ' id,Ag D θ θ'->(∀b,D b->D' b)->D' id -> θ'.bQ id=w.heap.size -> θ'.off id=0 -> θ'.ext id=ext->mV P D' θ' id ob co/\VR D' θ' (mk id) c
structure dB(P:Fv):Prop where
 names:∀(f:FuncId)(fn:Func),P.funcs[f]? = B1 fn->fn.name≠ "runtime.NumGoroutine"
 mixed:P.follows .mixedOrders=B4
def pV(P:Fv)(o:KW)(xs:List IY):eT->Prop
 | .pure f=>uH P o xs f
 | .read f=>oQ P o xs f
 | .alloc f=>se P o xs f/\df (.alloc f)
 | .fT f=>qH P o xs f/\df (.fT f)
 | .gE f=>∃c fn b,o.op=.call c/\c.callee=.value (.func f)/\xs=c.args.toList/\P.funcs[f]? = B1 fn/\fn.body=B1 b
 | .gF=>∃c x,o.op=.call c/\c.callee=.value x/\xs=x::c.args.toList
 | .invoke m=>∃c x,o.op=.call c/\c.callee=.invoke x m/\xs=x::c.args.toList
 | .recover=>∃c,o.op=.call c/\c.callee=.builtin .recover/\xs=c.args.toList
 | .defer=>∃c x,o.op=.defer c/\c.callee=.value x/\xs=x::c.args.toList
 | .panic=>(∃x,o.op=.panic x/\xs=[x]) \/ ∃c,o.op=.call c/\c.callee=.builtin .panic/\xs=c.args.toList
def _c{e:Nat}{z:List AV}:df (.alloc (Op.alloc e z)):=by
 intro vs c mk h;unfold Op.alloc at h;split at h
 .injection h with h;injection h with h _;subst h;rfl
 grind
def ac8{e:Nat}:df (.alloc (Op.box e)):=by
 intro vs c mk h;unfold Op.box at h;split at h
 .injection h with h;injection h with h _;subst h;rfl
 grind
def J'{e n:Nat}{z:List AV}{c:List (Nat×Nat)}:df (.alloc (Op.buildSlice e n z c)):=by
 intro vs d mk h;simp only[Op.buildSlice,qd]at h;have⟨_,_,h⟩:=h;injection h with h;injection h with h _;subst h;rfl
def q7y{e b:Nat}{z:List AV}:df (.alloc (Op.mkSlice e b z)):=by
 intro vs c mk h;unfold Op.mkSlice at h;split at h
 .rcases ju h with⟨_,h⟩|⟨_,h⟩
  .injection h with h;injection h with h _;subst h;rfl
  grind
 grind
def Wk:df (.alloc Op.mkMap):=by
 intro vs c mk h;unfold Op.mkMap at h;split at h
 .injection h with h;injection h with h _;subst h;rfl
 grind
section
variable{P:Fv}{o:KW}{xs:List IY}
theorem cO.up{f:List AV->Option AV}(h:cO P o xs f):uH P o xs f:=λ D θ ρ w vs v _=>h D θ ρ w vs v
theorem kO.up{f:List AV->Option (bB×(Nat->AV))}(h:kO P o xs f):se P o xs f:=λ D θ ρ w vs c mk _=>h D θ ρ w vs c mk
theorem Ef{src dst:IV}{x:IY}(ho:o.op=.convert src dst x){r:List IY×eT}(h:BV P src dst x=B1 r):pV P o r.1 r.2:=by
 unfold BV at h;split at h
 .rename_i c d;cases h;exact(xg3 ho c d).up
 .cases h
def Xh{t:IV}{x y:IY}{k:tC}(h:DL P t x y=B1 k):tB P t x y k:=by
 unfold DL at h;simp only[UF]at h;split at h
 .rename_i hu;cases h;exact hu
 .rename_i e hu;split at h
  .rename_i n hs;cases h;exact⟨e,n,hu,hs⟩
  grind
 .rename_i e hu;cases h;exact⟨e,hu⟩
 .rename_i k e hu;cases h;exact⟨k,e,hu⟩
 .rename_i a b c hu;cases h;exact⟨a,b,c,hu⟩
 .rename_i ms hu;split at h
  .cases h;exact⟨ms,hu,.inl ⟨_,rfl⟩⟩
  .cases h;exact⟨ms,hu,.inr ⟨_,rfl⟩⟩
  .cases h;refine⟨⟨ms,hu⟩,λ u q d=>?_⟩
   grind [qd]
 .rename_i fs hu;split at h
  .cases h
  .rename_i hg;simp only[qd,qe]at h;obtain⟨q,d,rfl⟩:=h;exact⟨by simpa using hg,d,.inl ⟨fs,hu⟩⟩
 .rename_i n e hu;split at h
  .cases h
  .rename_i hg;simp only[qd,qe]at h;obtain⟨q,d,rfl⟩:=h;exact⟨by simpa using hg,d,.inr ⟨n,e,hu⟩⟩
 grind
theorem HP{op:BinOp}{t c:IV}{x y:IY}(ho:o.op=.binOp op t x y c){r:List IY×eT}(h:IG P op t x y=B1 r):pV P o r.1 r.2:=by
 unfold IG at h;split at h
 .cases h;exact(YW ho).up
 .cases h;exact(YW ho).up
 .split at h
  .simp only[qd,qe]at h;obtain⟨k,hk,rfl⟩:=h;exact lh (neg:=B2) (by simpa using ho) (Xh hk)
  .simp only[qd,qe]at h;obtain⟨k,hk,rfl⟩:=h;exact lh (neg:=B4) (by simpa using ho) (Xh hk)
  grind
theorem G'{c:Call}{b:Builtin}(ho:o.op=.call c)(hc:c.callee=.builtin b){r:List IY×eT}(h:UE P b c.argTypes c.args.toList=B1 r):pV P o r.1 r.2:=by
 have f:∀{d:TypeDesc},(c.argTypes[0]?).bind P.underlying=B1 d -> ∃t,c.argTypes[0]? = B1 t/\P.underlying t=B1 d:=λ h=>by grind
 unfold UE at h;split at h
 .split at h
  .rename_i hu;have⟨t,g,hu⟩:=f hu;cases h;exact(_0 ho hc rfl g hu).up
  .cases h
 .split at h
  .rename_i t tx j;split at h
   .rename_i e e' hu p;simp only[qd]at h;have⟨n,hn,z,l,q,m,h⟩:=h;split at h
    .rename_i hl;cases h;exact⟨xcv ho hc rfl j hu (.inl ⟨_,p⟩) hn l m hl,q94 _ _ _⟩
    grind
   .cases h
  .cases h
 .cases h;exact(xab (mx:=B2) ho hc rfl).up
 .split at h
  .rename_i hu;have⟨t,g,hu⟩:=f hu;simp only[qd,qe]at h;obtain⟨z,l,rfl⟩:=h;exact⟨τ ho hc rfl g hu l,q7x _⟩
  .rename_i hu;have⟨t,g,hu⟩:=f hu;cases h;exact⟨q67 ho hc rfl g hu,q5o⟩
  grind
 .cases h;exact⟨c,ho,hc,rfl⟩
 .cases h;exact .inr ⟨c,ho,hc,rfl⟩
 grind
def ag6{fn:Func}(n:String)(hn:fn.name=n)(ho:fn.origin = "") {e:Array IV->Array IV->Array IV->Array Hm->Sem Hm}
 (d:∀(c rs:Array IV),(((Extern.allNextRows.lookup n).map (· c rs)) <|> ((Extern.allNextRows.lookup "").map (· c rs)))=B5)
 (f:∀(ts c rs:Array IV),((Extern.allGenericRows.lookup n).map (· ts c rs) <|> (Extern.allTypedRows.lookup n).map (· c rs) <|> Extern.allRows.lookup n)=B1 (e ts c rs)) :
 Extern.findNext fn=B5/\Extern.find fn=B1 (e fn.targs fn.params fn.resultTypes):=by
 unfold Extern.findNext Extern.find;rw[hn,ho];refine⟨d fn.params fn.resultTypes,?_⟩
 grind
def HW{c:Call}{f:FuncId}{fn:Func}(hn:fn.name≠ "runtime.NumGoroutine") (ho:o.op=.call c) (hc:c.callee=.value (.func f)) (m:P.funcs[f]? = B1 fn) (hb:fn.body=B5) {r:List IY×eT}
 (h:Gf P fn c.args.toList=B1 r):pV P o r.1 r.2:=by
 unfold Gf at h;split at h
 .cases h
 .rename_i g;have g:fn.origin = "" := by simpa using g
  split at h
  .rename_i d;have d:=eq_of_beq d;cases h;have⟨j,l⟩:=ag6 (e:=λ _ _ _=>Extern.BytealgIndexByte.indexByte) _ d g (λ p rs=>by kernel_rfl) (λ ts p rs=>by kernel_rfl);intro D θ ρ w vs v n;exact qpe ho hc m hb hn j l rfl D θ ρ w vs v (n.func f)
  .cases h
theorem DK(e:dB P){c:Call}(ho:o.op=.call c){r:List IY×eT}(h:Bl P c=B1 r):pV P o r.1 r.2:=by
 unfold Bl at h;split at h
 .rename_i f hc;simp only[qd]at h;have⟨fn,d,h⟩:=h;split at h
  .rename_i b hb;cases h;exact⟨c,fn,b,ho,hc,rfl,d,hb⟩
  .rename_i hb;exact HW (e.names f fn d) ho hc d hb h
 .rename_i x _ hc;cases h;exact⟨c,_,ho,hc,rfl⟩
 .rename_i hc;cases h;exact⟨c,_,ho,hc,rfl⟩
 grind [G']
theorem K7(G:dB P){r:List IY×eT}(h:J7 P o.op=B1 r):pV P o r.1 r.2:=by
 unfold J7 at h;split at h
 .rename_i ho;cases h;exact(U3 (.inl ho)).up
 .rename_i ho;cases h;exact(U3 (.inr ho)).up
 .rename_i ho;cases h;exact(xg2 ho).up
 .rename_i ho;simp only[qd,qe]at h;obtain⟨z,j,rfl⟩:=h;exact⟨(q8z ho j).up,_c⟩
 .rename_i ho;cases h;exact⟨(xeq ho).up,ac8⟩
 .rename_i t parts ho;simp only[qd]at h;have⟨z,j,h⟩:=h;split at h
  .rename_i fs hu;split at h
   .rename_i A;simp only[qd,qe]at h;obtain⟨E,g,rfl⟩:=h;refine(qt6 ho j hu (λ f B=>?_) g).up
    grind [Option.isSome_iff_exists]
   grind
  .rename_i hu;simp only[qd,qe]at h;obtain⟨n,hn,E,g,rfl⟩:=h;exact(_u ho j hu hn g).up
  grind
 .rename_i t len parts ho;split at h
  .rename_i e hu;simp only[qd]at h;have⟨n,hn,z,j,E,g,h⟩:=h;split at h
   .rename_i hc;cases h;exact⟨(f_ ho hu hn j g hc.1 hc.2).up,J'⟩
   grind
  grind
 .rename_i t a ho;simp only[qd]at h;have⟨J,hr,h⟩:=h;split at h
  .cases h;exact xds ho hr
  .cases h;exact xdt ho hr
 .rename_i t a x ho;simp only[qd,qe]at h;obtain⟨n,hn,rfl⟩:=h;exact⟨xfp ho hn,xdf _⟩
 .rename_i ho;cases h;exact(q5z ho).up
 .grind [HP]
 .rename_i ho;cases h;exact(DU ho).up
 .grind [Ef]
 .rename_i t x ho;split at h
  .cases h
  .rename_i d F hu;cases h;exact(q77 ho ⟨d,hu,by cases d<;>first|rfl|exact(F _ rfl).elim⟩).up
  grind
 .rename_i ho;cases h;exact(q_ ho).up
 .rename_i ho;cases h;exact⟨λ D θ ρ w vs y mk u=>Xo ho (.inl rfl) (λ _=>trivial) D θ ρ w vs y mk u.const,Wk⟩
 .rename_i t k n ho;split at h
  .rename_i a b hu;cases h;exact⟨λ D θ ρ w vs y mk u=>Xo ho (by grind) (λ _=>trivial) D θ ρ w vs y mk u.const,Wk⟩
  grind
 .rename_i t l c ho;split at h
  .rename_i e hu;simp only[qd]at h;have⟨b,hb,z,j,n,hn,h⟩:=h;split at h
   .rename_i hc;cases h;exact⟨(p_ ho hu hb hn j hc).up,q7y⟩
   grind
  grind
 .rename_i t x lo I mx ho;split at h
  .rename_i e hu;simp only[qd,qe]at h;obtain⟨n,hn,rfl⟩:=h;exact(_l ho hu hn).up
  .rename_i k e hu;simp only[qd,qe]at h;obtain⟨n,hn,rfl⟩:=h;exact(q50 ho hu hn).up
  grind
 .rename_i t x i ho;split at h
  .rename_i fs hu;simp only[qd]at h;have⟨f,B,n,hn,h⟩:=h;split at h
   .cases h
   .rename_i s;cases h;exact(q2y ho hu B hn (by simpa using s)).up
  .cases h
 .rename_i t x i ho;split at h
  .rename_i e hu;simp only[qd,qe]at h;obtain⟨n,hn,rfl⟩:=h;exact(q76 ho hu hn).up
  .rename_i k e hu;simp only[qd,qe]at h;obtain⟨n,hn,rfl⟩:=h;exact(q5x ho hu hn).up
  grind
 .rename_i t x i ho;split at h
  .rename_i hu;cases h;exact(q5y ho hu).up
  .rename_i k e hu;simp only[qd,qe]at h;obtain⟨n,hn,a,ha,rfl⟩:=h;exact(q5w ho hu hn ha).up
  grind
 .rename_i t m k ok ho;split at h
  .rename_i C e hu;simp only[qd,qe]at h;obtain⟨q,p,z,j,rfl⟩:=h;exact xae ho hu p j
  grind
 .rename_i t m k v ho;split at h
  .rename_i C e hu;simp only[qd,qe]at h;obtain⟨q,p,rfl⟩:=h;exact⟨oy (.inl ho) hu p,Wd _⟩
  grind
 .rename_i t m k v ho;split at h
  .rename_i C e hu;simp only[qd,qe]at h;obtain⟨q,p,rfl⟩:=h;exact⟨oy (.inr ho) hu p,Wd _⟩
  .cases h
 .rename_i ho;cases h;exact(_b ho).up
 .grind [DK]
 .rename_i c ho;split at h
  .rename_i f hc;cases h;exact⟨c,f,ho,hc,rfl⟩
  grind
 .rename_i x ho;cases h;exact .inl ⟨x,ho,rfl⟩
 grind
def pV.mono{c:eT}(h:pV P o xs c):df c:=by
 cases c with
 |alloc f=>exact h.2
 |fT f=>exact h.2
 |_=>trivial
def xR(o:KW)(aop:eT):Prop:=(∀c,o.op≠ .defer c)\/aop=.defer\/aop=.pure Op.fail
theorem Gx{r:List IY×eT}(h:J7 P o.op=B1 r):xR o r.2:=by
 by_cases d:∃c,o.op=.defer c
 .have ⟨c,hc⟩:=d;rw[hc]at h;simp only[J7]at h;split at h
  .cases h;exact .inr (.inl rfl)
  grind
 .exact .inl λ c hc=>d ⟨c,hc⟩
def Jm(d:dB P){r:List bE×eT}(h:fE P o=B1 r):∃xs,mH P.globals.size xs=B1 r.1/\pV P o xs r.2/\xR o r.2:=by
 unfold fE at h;split at h
 .rename_i f hr;cases h;simp only[qd,qe]at hr;obtain⟨q,e,args,c,rfl⟩:=hr
  grind [K7,Gx]
 .cases h;exact⟨[],rfl,(xg1 []).up,.inr (.inr rfl)⟩
end
end Go.Am
namespace Go.Am
def gA(D:Nat->Prop)(θ:Th):List aK->List Deferred->Prop
 |[],[]=>True
 |d::ds,e::es=>TR D θ d e/\gA D θ ds es
 |_,_=>False
def Gr(D:Nat->Prop)(θ:Th)(e:AV×Bool)(p:PanicEntry):Prop:=VR D θ e.1 p.v/\p.recovered=e.2/\p.goexit=B2
def fj(D:Nat->Prop)(θ:Th):aA->List PanicEntry->Prop
 |[],[]=>True
 |e::es,p::ps=>Gr D θ e p/\fj D θ es ps
 |_,_=>False
def pq(D:Nat->Prop)(θ:Th)(c:aA)(m:FrameMode):Prop :=
 match m with
 | .run=>False
 | .returning=>c=[]
 | .panicking ps=>c≠[]/\fj D θ c ps
def oU(D:Nat->Prop)(θ:Th)(kind:CallKind):Option aA->List Jj->Prop
 |none,_=>kind=.normal
 |some ch,c::_=>kind=.deferred/\pq D θ ch c.mode
 |some _,[]=>False
def eP:Option aA->List Jj->List Jj->Prop
 |none,cs,cs'=>cs'=cs
 |some _,c::rest,cs'=>∃u,cs' = {c with mode:=u}::rest
 |some _,[],_=>False
def vU(D:Nat->Prop)(θ:Th)(ro:Option Nat):Option Nat->Prop
 |none=>ro=B5
 |some l=>D l/\ro=B1 (θ.bQ l)
def yA(D:Nat->Prop)(θ:Th):aS->Exit->Prop
 | .normal,.normal=>True
 | .exit i,.exit j=>j=i
 | .goto i,.goto j=>j=i
 | .ret,.ret=>True
 | .panic c,.panic ps=>c≠[]/\fj D θ c ps
 |_,_=>False
def Nj(D:Nat->Prop)(θ:Th):bF->Ending->Prop
 | .ret v,.returned c=>VR D θ v c
 | .panic c,.panicked ps=>c≠[]/\fj D θ c ps
 |_,_=>False
section
variable{D D':Nat->Prop}{θ θ':Th}
theorem gA.up(ha:Ag D θ θ')(g:∀b,D b->D' b):∀{l:List aK}{m:List Deferred},gA D θ l m->gA D' θ' l m
 |[],[],_=>trivial
 |d::ds,e::es,⟨h1,h2⟩=>by
  refine⟨?_,gA.up ha g h2⟩;cases d with
  |im b=>exact⟨g b h1.1,by rw[(ha b h1.1).1];exact h1.2⟩
  |fn f args =>
   have⟨c,cap,q,n,p⟩:=h1;refine⟨c,cap,?_,λ θ'' j=>?_,p.up ha g⟩
   .grind
   .rw [n θ'' (ha.trans j g),n θ' ha]
 |[],_::_,h=>h.elim
 |_::_,[],h=>h.elim
theorem fj.up(ha:Ag D θ θ')(c:∀b,D b->D' b):∀{l:aA}{m:List PanicEntry},fj D θ l m->fj D' θ' l m
 |[],[],_=>trivial
 |e::es,p::ps,⟨⟨h1,h2,h3⟩,h⟩=>⟨⟨h1.up ha c,h2,h3⟩,fj.up ha c h⟩
 |[],_::_,h=>h.elim
 |_::_,[],h=>h.elim
theorem pq.up(ha:Ag D θ θ')(d:∀b,D b->D' b){c:aA}{m:FrameMode}(h:pq D θ c m):pq D' θ' c m:=by
 cases m with
 |run=>exact h.elim
 |returning=>exact h
 |panicking ps=>exact⟨h.1,fj.up ha d h.2⟩
theorem oU.up(ha:Ag D θ θ')(d:∀b,D b->D' b){k:CallKind}{u:Option aA}{cs:List Jj}(h:oU D θ k u cs):oU D' θ' k u cs:=by
 cases u with
 |none=>exact h
 |some ch =>
  cases cs with
  |nil=>exact h.elim
  |cons c r=>exact⟨h.1,pq.up ha d h.2⟩
theorem vU.up(ha:Ag D θ θ')(c:∀b,D b->D' b){ro r:Option Nat}(h:vU D θ ro r):vU D' θ' ro r:=by
 cases r with
 |none=>exact h
 |some l=>exact⟨c l h.1,by rw[(ha l h.1).1];exact h.2⟩
theorem eP.refl{D:Nat->Prop}{θ:Th}{k:CallKind}{u:Option aA}{cs:List Jj}(h:oU D θ k u cs):eP u cs cs:=by
 cases u with
 |none=>rfl
 |some ch =>
  cases cs with
  |nil=>exact h.elim
  |cons c r=>exact⟨c.mode,rfl⟩
theorem eP.trans{u e:Option aA}(hu:e.isSome=u.isSome){cs cs' d:List Jj}(h:eP u cs cs')(f:eP e cs' d):eP u cs d:=by
 cases u with
 |none =>
  cases e with
  |none=>exact Eq.trans f h
  |some _=>cases hu
 |some ch =>
  cases e with
  |none=>cases hu
  |some ch' =>
   cases cs with
   |nil=>exact h.elim
   |cons c r =>
    obtain⟨m,rfl⟩:=h;obtain⟨g,rfl⟩:=f;exact⟨g,rfl⟩
theorem om.up(ha:Ag D θ θ')(d:∀b,D b->D' b){tm:T AV}{a:Array Hm}(h:om D θ tm a):om D' θ' tm a:=λ t v e =>
 let⟨c,h1,h2⟩:=h t v e;⟨c,h1,h2.up ha d⟩
theorem om.put{tm:T AV}{a:Array Hm}(h:om D θ tm a){d:Nat}(g:d<a.size){v:AV}{c:Hm}(j:VR D θ v c):om D θ (tm.set d v) (a.setIfInBounds d c):=by
 intro t x f;rw[T.aH]at f;rw[Array.getElem?_setIfInBounds]
 by_cases e:d=t
 .grind
 .simp only[e,y8]at f⊢;exact h t x f
def om.forget{a:Array Hm}:∀(ds:List Nat){tm:T AV},om D θ tm a->om D θ (forget ds tm) a
 |[],_,h=>h
 |d::ds,tm,h=>om.forget ds (tm:=tm.put d B5) (λ t v c=>by
  rw[T.i4]at c;split at c
  .cases c
  .exact h t v c)
def T.pF:∀(ds:List Nat)(tm:T AV)(t:Nat),(forget ds tm).get t=if t∈ds then B5 else tm.get t
 |[],tm,t=>by simp[Am.forget]
 |d::ds,tm,t=>by
  rw[Am.forget,T.pF ds,T.i4]
  by_cases f:t∈ds
  .simp [f]
  .by_cases c:d=t
   .simp [c]
   .have g:¬t=d:=λ e=>c e.symm;simp[f,c,g]
end
section
variable{P:Fv}{base:Nat}{D:Nat->Prop}{θ:Th}{H:ar}{w:J3}{a:Act}{tm:T AV}
def BU(l:HR P base D θ H w)(m:om D θ tm a.tmps){x:IY}{y:bE}(hc:pJ P.globals.size x=B1 y){v:AV}(d:pN tm y=B1 v):VR D θ v (a.eval x):=by
 cases x with
 |tmp t =>
  cases hc;have⟨c,e,h⟩:=m t v d
  simpa[Act.eval,e]using h
 |const k =>
  simp only[pJ,qd,qe]at hc;obtain⟨u,hu,rfl⟩:=hc;cases d;exact OD hu
 |global g =>
  simp only[pJ]at hc;split at hc
  .rename_i hg;cases hc;cases d;have⟨e,h,j⟩:=l.dV g (by simp_all);have:=VR.ptr (θ:=θ) (o:=0) e;rw[h,j]at this;exact this
  grind
 |func f =>
  cases hc;cases d;exact λ _ _=>rfl
def Fw(d:HR P base D θ H w)(e:om D θ tm a.tmps):∀{xs:List IY}{ys:List bE},mH P.globals.size xs=B1 ys -> ∀{vs:List AV},kS tm ys=B1 vs->bH D θ vs (xs.map a.eval)
 |[],ys,hc,vs,hv=>by
  cases hc;cases hv;exact .nil
 |x::xs,ys,hc,vs,hv=>by
  simp only[mH,qd,qe]at hc;obtain⟨y,h,l,c,rfl⟩:=hc;simp only[kS,qd,qe]at hv;obtain⟨v,f,j,g,rfl⟩:=hv;exact .cons (BU d e h f) (Fw d e c g)
def Fu(x:bE)(tm:T AV):(JC x).run tm=pN tm x:=by
 cases x<;>simp[JC,pN,T.iT,T.get]
def Eb:∀(xs:List bE)(tm:T AV),(rL xs).run tm=kS tm xs
 |[],_=>rfl
 |[x],tm=>by simp[rL,kS,Fu]
 |x::y::xs,tm=>by
  rw[rL,kS]
  .simp only[Fu,Eb (y::xs) tm]
  .simp
def NX(a:Act):BM a.eval:=⟨λ _=>rfl,λ _=>rfl⟩
theorem Q5(d:Option Nat)(v:AV)(tm:T AV):(jW d).run v tm=dW d v tm:=by
 cases d<;>simp[jW,dW,T.Cl,T.set,T.put]
end
inductive ig where
 |val (v:AV) (aV:List aK) (up:Option aA) (H:ar)
 |panic (c:aA) (H:ar)
def mA(aV:List aK)(up:Option aA)(r:bF×ar):ig :=
 match r.1 with
 | .ret v=>.val v aV up r.2
 | .panic c=>.panic c r.2
def gO(rt:RT)(st:St)(vs:List AV):eT->Option ig
 | .pure f=>(f vs).bind λ v=>B1 (.val v st.aV st.up st.H)
 | .read f=>(f vs st.H).bind λ v=>B1 (.val v st.aV st.up st.H)
 | .alloc f=>(f vs).bind λ r=>B1 (.val (r.2 st.H.au) st.aV st.up (st.H.alloc r.1))
 | .fT f=>(f vs st.H).bind λ r=>B1 (.val r.1 st.aV st.up r.2)
 | .gE f=>(cC rt.call rt.round (.func f) vs st.H).bind λ r=>B1 (mA st.aV st.up r)
 | .gF=>match vs with
  | .fn (.func f) first cap::args=>(cC rt.call rt.round (.func f) (first++(args++cap)) st.H).bind λ r=>B1 (mA st.aV st.up r)
  | .fn (.yield l) first []::args=>(cC rt.call rt.round (.yield l) (first++args) st.H).bind λ r=>B1 (mA st.aV st.up r)
  |_=>B5
 | .invoke name=>match vs with
  | .iface t v::args=>(rt.AP.jB t name).bind λ f=>(cC rt.call rt.round (.func f) (v::args) st.H).bind λ r=>B1 (mA st.aV st.up r)
  |_=>B5
 | .recover=>match rt.ctx.round with
  |some _=>B5
  |none=>match vs with
   |[]=>match st.up with
    |some ((v,B2)::older)=>B1 (.val v st.aV (B1 ((v,B4)::older)) st.H)
    |_=>B1 (.val .nili st.aV st.up st.H)
   |_=>B5
 | .defer=>match rt.ctx.round with
  |some _=>B5
  |none=>match vs with
   | .fn (.func f) first cap::args=>B1 (.val .undef (.fn (.func f) (first++(args++cap))::st.aV) st.up st.H)
   |_=>B5
 | .panic=>match vs with
  |[.iface t v]=>B1 (.panic [(.iface t v,B2)] st.H)
  |_=>B5
def rP(put:AV->T AV->T AV)(cq:Option (List Nat))(st:St)(k:St->fQ):ig->fQ
 | .val v aV up H=>k ⟨put v st.tm,aV,up,H⟩
 | .panic c H=>cq.bind λ ds=>B1 (.panic c,⟨forget ds st.tm,st.aV,st.up,H⟩)
theorem Pk(put:AV->T AV->T AV)(cq:Option (List Nat))(st:St)(k:St->fQ)(r:bF×ar):eY put cq st k r=rP put cq st k (mA st.aV st.up r):=by
 unfold eY mA;split<;>rename_i h<;>rw[h]<;>rfl
def W6(put:AV->T AV->T AV)(cq:Option (List Nat))(rt:RT)(st:St)(k:St->fQ)(vs:List AV)(op:eT) :
 (pE put cq op).run rt st k vs=(gO rt st vs op).bind (rP put cq st k):=by
 cases op with
 |pure f=>simp only[pE,zZ,gO,j5,qm];rfl
 |read f=>simp only[pE,zB,gO,j5,qm];rfl
 |alloc f=>simp only[pE,sR,gO,j5,qm];rfl
 |fT f=>simp only[pE,HX,gO,j5,qm];rfl
 |gE f=>grind [pE,Bk,gO,Pk]
 |gF =>
  simp only[pE,xY,gO]
  grind [Pk]
 |invoke name =>
  simp only[pE,qQ,gO];split
  .simp_all [j5,Pk]
  grind
 |recover =>
  simp only[pE,NK,gO];cases rt.ctx.round with
  |some l=>rfl
  |none =>
   cases vs with
   |cons x xs=>rfl
   |nil =>
    rcases hu:st.up with _|_|⟨⟨v,_|_⟩,c⟩<;>simp only[Kb,hu]<;>rfl
 |defer =>
  simp only[pE,sM,gO];cases rt.ctx.round with
  |some l=>rfl
  |none =>
   simp only;split
   .rfl
   grind
 |panic =>
  simp only[pE,tR,gO]
  grind [Pk,mA]
end Go.Am
namespace Go.Am
section moves
variable{P:Fv}{b:Jj}{a:Act}{k:List Item}{cs cs':List Jj}{w w':J3}{ops:Array KW}{i:Nat}{rest:List Nat}{o:KW}
def IQ(ho:ops[i]? = B1 o)(v:Hm):(b.atR a (.inRegion ops (i::rest)::k)).finish v=b.atR (a.put o.dst v) (.inRegion ops rest::k):=by
 grind [Jj.finish_atR]
def GX(ho:ops[i]? = B1 o)(hw:A1 o (yielded ops a.tmps)=B4){v:Hm}(hr:(o.semAt b.roundOf a.eval).run P w=.ok (.value v) w') :
 step P (lone (b.atR a (.inRegion ops (i::rest)::k)) cs w)=.next (lone (b.atR (a.put o.dst v) (.inRegion ops rest::k)) cs w') :=
 step_lone_go (by simp_all[stepGR_op,IQ,Ao])
def K4(ho:ops[i]? = B1 o)(hw:A1 o (yielded ops a.tmps)=B4)(hr:(o.semAt b.roundOf a.eval).run P w=.ok .skip w') :
 step P (lone (b.atR a (.inRegion ops (i::rest)::k)) cs w)=.next (lone (b.atR (a.put o.dst undef) (.inRegion ops rest::k)) cs w') :=
 step_lone_go (by simp_all[stepGR_op,IQ,Ao])
def af0(ho:ops[i]? = B1 o)(hw:A1 o (yielded ops a.tmps)=B4){d:Deferred}(hr:(o.semAt b.roundOf a.eval).run P w=.ok (.defer d) w') :
 step P (lone (b.atR a (.inRegion ops (i::rest)::k)) cs w)=.next (lone (b.atR (({a with defers:=d::a.defers}:Act).put o.dst undef) (.inRegion ops rest::k)) cs w'):=by
 refine step_lone_go ?_;have:({b.atR a (.inRegion ops (i::rest)::k)with defers:=d::a.defers}:Jj).finish undef =
  b.atR ({a with defers:=d::a.defers}.put o.dst undef) (.inRegion ops rest::k):=by
  have:=Jj.finish_atR b {a with defers:=d::a.defers} ops i rest k undef;rw[ho]at this;exact this
 rw[stepGR_op ho hw];simp only[Ao,Sem.runT_eq,hr,GStep.bare_after];exact congrArg (λ fr=>GStep.go {frame:=fr,callers:=cs,status:=.running,dying:=B5} w') this
def P7(ho:ops[i]? = B1 o)(hw:A1 o (yielded ops a.tmps)=B4){f:FuncId}{args:Array Hm}(hr:(o.semAt b.roundOf a.eval).run P w=.ok (.enter f args) w') :
 step P (lone (b.atR a (.inRegion ops (i::rest)::k)) cs w)=.next (lone (Frame.enter P f args .normal) (b.atR a (.inRegion ops (i::rest)::k)::cs) w') :=
 step_lone_go (by rw[stepGR_op ho hw];simp[Ao,hr,Ap])
def ad7(ho:ops[i]? = B1 o)(hw:A1 o (yielded ops a.tmps)=B4){l:Nat}{f:FuncId}{tmps:Array Hm}{as body:Code}(hr:(o.semAt b.roundOf a.eval).run P w=.ok (.round l f tmps as body) w') :
 step P (lone (b.atR a (.inRegion ops (i::rest)::k)) cs w)=.next (lone (Frame.round l f tmps as body .normal) (b.atR a (.inRegion ops (i::rest)::k)::cs) w') :=
 step_lone_go (by rw[stepGR_op ho hw];simp_all[Ao])
def ad8(ho:ops[i]? = B1 o)(hw:A1 o (yielded ops a.tmps)=B4){v:Hm}(hr:(o.semAt b.roundOf a.eval).run P w=.halt (.panic v) w') :
 step P (lone (b.atR a (.inRegion ops (i::rest)::k)) cs w)=.next (lone {b.atR a (.inRegion ops (i::rest)::k)with mode:=.panicking [{v,recovered:=B2}]} cs w') :=
 step_lone_go (by simp_all[stepGR_op,BD,Ao])
def xcm(ho:ops[i]? = B1 o)(hw:A1 o (yielded ops a.tmps)=B4)(hb:b.roundOf=B5)(hr:(o.semAt b.roundOf a.eval).run P w=.ok .recover w'){v:Hm}
 (d:tryRecover (b.atR a (.inRegion ops (i::rest)::k)) cs=B1 (v,cs')) :
 step P (lone (b.atR a (.inRegion ops (i::rest)::k)) cs w)=.next (lone (b.atR (a.put o.dst v) (.inRegion ops rest::k)) cs' w') :=
 step_lone_go (by
  rw[stepGR_op ho hw,<-IQ ho];have c:(b.atR a (.inRegion ops (i::rest)::k)).roundOf=none:=hb;simp_all[Ao])
def qyw(ho:ops[i]? = B1 o)(hw:A1 o (yielded ops a.tmps)=B4)(hb:b.roundOf=B5)(hr:(o.semAt b.roundOf a.eval).run P w=.ok .recover w')
 (d:tryRecover (b.atR a (.inRegion ops (i::rest)::k)) cs=B5) :
 step P (lone (b.atR a (.inRegion ops (i::rest)::k)) cs w)=.next (lone (b.atR (a.put o.dst .nilIface) (.inRegion ops rest::k)) cs w') :=
 step_lone_go (by
  rw[stepGR_op ho hw,<-IQ ho];have c:(b.atR a (.inRegion ops (i::rest)::k)).roundOf=none:=hb;simp_all[Ao])
end moves
def yq(P:Fv)(base:Nat)(call:bN):Prop :=
 ∀(D:Nat->Prop)θ H w f vs(args:Array Hm)up H' e up' kind cs,HR P base D θ H w->bH D θ vs args.toList->oU D θ kind up cs->call f vs up H=B1 (e,up',H')->dL D H.au H'.au ->
  (∃fn c,P.funcs[f]? = B1 fn/\fn.body=B1 c) /\
  ∃θ' w' cs' fr e',Steps P (lone (Frame.enter P f args kind) cs w) (lone fr cs' w')/\fr.kind=kind/\fr.fn=f/\fr.going P w' e'/\Nj (Up D H.au H'.au) θ' e e' /\
   HR P base (Up D H.au H'.au) θ' H' w'/\bt D H θ w H' θ' w'/\up'.isSome=up.isSome/\eP up cs cs'/\oU (Up D H.au H'.au) θ' kind up' cs'
def vz(P:Fv)(base:Nat)(round:hO):Prop :=
 ∀(D:Nat->Prop)θ H w l vs(args:Array Hm)H' e(c:Jj)cs,HR P base D θ H w->bH D θ vs args.toList->round vs l H=B1 (e,H')->dL D H.au H'.au ->
  ∃f tmps as body,(Instr.yield (θ.bQ l) args).run P w=.ok (.round (θ.bQ l) f tmps as body) w /\
  ∃θ' w' fin,Steps P (lone (Frame.round (θ.bQ l) f tmps as body .normal) (c::cs) w) (lone fin cs w') /\
   (match e with
    | .ret v=>∃cv,VR (Up D H.au H'.au) θ' v cv/\fin=c.finish cv
    | .panic ch=>∃ps,ch≠[]/\fj (Up D H.au H'.au) θ' ch ps/\fin=c.raise ps) /\
   HR P base (Up D H.au H'.au) θ' H' w'/\bt D H θ w H' θ' w'
def ig.heap:ig->ar
 | .val _ _ _ H=>H
 | .panic _ H=>H
def Fe(P:Fv)(base:Nat)(D:Nat->Prop)(θ:Th)(st:St)(b:Jj)(a:Act)(ops:Array KW)(i:Nat)(rest:List Nat)(k:List Item)(cs:List Jj)(w:J3)(o:KW):ig->Prop
 | .val v aV up H'=>∃θ' w' c cs' ds,Steps P (lone (b.atR a (.inRegion ops (i::rest)::k)) cs w) (lone (b.atR (({a with defers:=ds}:Act).put o.dst c) (.inRegion ops rest::k)) cs' w') /\
  HR P base (Up D st.H.au H'.au) θ' H' w'/\bt D st.H θ w H' θ' w'/\VR (Up D st.H.au H'.au) θ' v c/\gA (Up D st.H.au H'.au) θ' aV ds/\up.isSome=st.up.isSome /\
  oU (Up D st.H.au H'.au) θ' b.kind up cs'/\eP st.up cs cs'
 | .panic ch H'=>∃θ' w' ps todo,Steps P (lone (b.atR a (.inRegion ops (i::rest)::k)) cs w) (lone {b.atR a todo with mode:=.panicking ps} cs w') /\
  HR P base (Up D st.H.au H'.au) θ' H' w'/\bt D st.H θ w H' θ' w'/\ch≠[]/\fj (Up D st.H.au H'.au) θ' ch ps
section
variable{P:Fv}{base:Nat}{D:Nat->Prop}{θ:Th}
def NP{fr:Jj}{w:J3}{e:Ending}(h:fr.going P w e)(hk:fr.kind=.normal):fr.leaving P w e:=by
 cases e with
 |returned v=>have⟨d,f,g⟩:=h;exact⟨d,f,hk,g⟩
 |panicked c=>exact h
 |outgrown=>trivial
theorem MT{f:FuncId}{fn:Func}{c:Code}{args:Array Hm}{w:J3}(e:dB P)(d:P.funcs[f]? = B1 fn)(hb:fn.body=B1 c):(callFunc f args).run P w=.ok (.enter f args) w:=by
 simp[callFunc,d,hb,e.names f fn d]
def xdz{t:IV}{name:String}{f:Nat}(h:uw P t name=B1 f)(v:Hm)(w:J3):(method (P.types.size+Made.depth) t v name).run P w=.ok (f,v) w:=by
 unfold uw at h;simp only[qd]at h;have⟨i,j,m,hm,h⟩:=h;split at h
 .cases h
 .rename_i l;simp only[qd]at h;have⟨p,hp,h⟩:=h;have e:m.path.toList=[]:=by
   grind
  obtain⟨n,hn⟩:∃n,P.types.size+Made.depth=n+1:=⟨P.types.size+99,rfl⟩
  rw[hn];have⟨q,g⟩:=p;have c:(typeInfo t).run P w=.ok i w:=by simp[typeInfo,j]
  simp only[method,JX,c,JQ,hm,e,follow,A',hp];cases hu:P.underlying t with
  |none=>grind
  |some d =>
   rw[hu]at h;have hr:∀wr,d=d->(receiverAt t (.val v) g wr).run P w=.ok v w/\q=f:=by
    intro wr _;cases d<;>cases g<;>simp only[reduceCtorEq,qe]at h<;>exact(by simp_all[receiverAt,ji,Place.get])
   simp[(hr _ rfl).1,(hr B5 rfl).2]
def Ry{call:bN}(hc:yq P base call){st:St}{b:Jj}{a:Act}{ops:Array KW}{i:Nat}{rest:List Nat}{k:List Item}{cs:List Jj}{w:J3}{o:KW}
 (ho:ops[i]? = B1 o) (z:HR P base D θ st.H w) (x:gA D θ st.aV a.defers) (hu:oU D θ b.kind st.up cs) {f:Nat} {vs:List AV} {args:Array Hm} (A:bH D θ vs args.toList)
 (hs:(∃fn c,P.funcs[f]? = B1 fn/\fn.body=B1 c)->step P (lone (b.atR a (.inRegion ops (i::rest)::k)) cs w)=.next (lone (Frame.enter P f args .normal) (b.atR a (.inRegion ops (i::rest)::k)::cs) w))
 {r:bF×ar} {u:Option aA} (hr:call f vs B5 st.H=B1 (r.1,u,r.2)) (y:dL D st.H.au r.2.au) :
 Fe P base D θ st b a ops i rest k cs w o (mA st.aV st.up r):=by
 have⟨l,θ',w',cs',fr,e',m,q,B,s,g,n,h,C,t,p⟩:=hc D θ st.H w f vs args B5 r.2 r.1 u .normal (b.atR a (.inRegion ops (i::rest)::k)::cs) z A rfl hr y;have j:cs'=b.atR a (.inRegion ops (i::rest)::k)::cs:=t;subst j;have d:=hs l;have hl:=NP s q;have⟨e,H'⟩:=r;cases e with
 |ret v =>
  cases e' with
  |returned c =>
   refine⟨θ',w',c,cs,a.defers,.head d (m.trans (.one ?_)),n,h,g,gA.up h.ag Up.of x,rfl,oU.up h.ag Up.of hu,eP.refl hu⟩;rw[step_leave_returned hl,IQ ho]
  |panicked c=>exact g.elim
  |outgrown=>exact g.elim
 |panic ch =>
  cases e' with
  |returned c=>exact g.elim
  |panicked ps =>
   refine⟨θ',w',ps,.inRegion ops (i::rest)::k,.head d (m.trans (.one ?_)),n,h,g.1,g.2⟩;rw[step_leave_panicked hl,BD]
  |outgrown=>exact g.elim
def NU{f:kW}{first cap:List AV}{c:Hm}(h:VR D θ (.fn f first cap) c):∃x y:List Hm,c=.func (eW θ f) x.toArray y.toArray/\bH D θ first x/\bH D θ cap y/\(∀θ',Ag D θ θ'->eW θ' f=eW θ f):=by
 refine⟨bO θ first,bO θ cap,h.now.symm,λ θ' ha=>?_,λ θ' ha=>?_,λ θ' ha=>?_⟩ <;>
 .have:=(h θ' ha).trans h.now.symm
  grind [aq]
set_option maxHeartbeats 1000000 in
def SA(hP:dB P){rt:RT}(E:yq P base rt.call)(V:vz P base rt.round)(hAP:rt.AP=aU P){o:KW}{I:eT}{xs:List IY}(B:pV P o xs I)(hdef:xR o I)
 {ops:Array KW} {i:Nat} {rest:List Nat} {a:Act} (ho:ops[i]? = B1 o) (hw:A1 o (yielded ops a.tmps)=B4) {st:St} {w:J3} {b:Jj} {k:List Item} {cs:List Jj} {vs:List AV} {r:ig}
 (J:HR P base D θ st.H w) (M:gA D θ st.aV a.defers) (hu:oU D θ b.kind st.up cs) (hb:vU D θ b.roundOf rt.ctx.round) (R:bH D θ vs (xs.map a.eval)) (hr:gO rt st vs I=B1 r)
 (hf:dL D st.H.au r.heap.au):Fe P base D θ st b a ops i rest k cs w o r:=by
 have d:Up D st.H.au st.H.au=D:=Up.none;have U:I≠ .defer->I≠ .pure Op.fail->o.semAt b.roundOf a.eval=execOp a.eval o:=λ L W=>Aa _ _ _ (by
  rcases hdef with h|h|h
  .exact h
  .exact absurd h L
  .exact absurd h W)
 cases I with
 |pure f =>
  simp only[gO,qd,qe]at hr;obtain⟨v,s,rfl⟩:=hr;have⟨c,A,C⟩:=B D θ a.eval w vs v (NX a) R s;have g:o.semAt b.roundOf a.eval=execOp a.eval o:=U (by intro q;cases q) (by intro q;cases q;cases s);refine⟨θ,w,c,cs,a.defers,.one ?_,by rw[d];exact J,.refl _ _ _ _,by rw[d];exact C,by rw[d];exact M,rfl,by rw[d];exact hu,eP.refl hu⟩;rcases A with A|⟨A,rfl⟩
  .exact GX ho hw (by rw[g];exact A)
  .exact K4 ho hw (by rw[g];exact A)
 |read f =>
  simp only[gO,qd,qe]at hr;obtain⟨v,s,rfl⟩:=hr;have⟨c,A,C⟩:=B base D θ st.H a.eval w vs v J R s;have g:o.semAt b.roundOf a.eval=execOp a.eval o:=U (by intro q;cases q) (by intro q;cases q);refine⟨θ,w,c,cs,a.defers,.one ?_,by rw[d];exact J,.refl _ _ _ _,by rw[d];exact C,by rw[d];exact M,rfl,by rw[d];exact hu,eP.refl hu⟩;rcases A with A|⟨A,rfl⟩
  .exact GX ho hw (by rw[g];exact A)
  .exact K4 ho hw (by rw[g];exact A)
 |alloc f =>
  simp only[gO,qd,qe]at hr;obtain⟨⟨ob,mk⟩,s,rfl⟩:=hr;have⟨hown,w0,co,ext,c,A,C,X⟩:=B.1 D θ a.eval w vs ob mk (NX a) R s;have g:o.semAt b.roundOf a.eval=execOp a.eval o:=U (by intro q;cases q) (by intro q;cases q);have hn:¬D st.H.au:=hf _ (qg _) (zd _);have hag:=Th.gC θ st.H.au w0.heap.size 0 ext hn;have⟨e1,e2,e3⟩:=Th.dY θ st.H.au w0.heap.size 0 ext;have⟨k1,k2⟩:=X (Up D st.H.au (st.H.au+1)) (θ.add st.H.au w0.heap.size 0 ext) st.H.au hag Up.of (.inr ⟨qg _,zd _⟩) (by rw[e1,C.heap]) e2 e3;have hh0:HR P base D θ st.H w0:=J.draw C.heap;refine⟨θ.add st.H.au w0.heap.size 0 ext,w0.alloc co,c,cs,a.defers,.one (GX ho hw (by rw[g];exact A)),?_,?_,k2,gA.up hag Up.of M,rfl,oU.up hag Up.of hu,eP.refl hu⟩
  .refine hh0.alloc hn ?_ ?_ (qg _) ?_ k1
   .rw [yP];simp
   .intro j hj;rw[yP,qn (Im hj)]
   .simp
  .exact (bt.draw (w:=w) (w':=w0) C.heap C.os C.tape C.output).trans (bt.alloc (w:=w0) hh0 hn _ _ _ _) (λ _ h=>h)
 |fT f =>
  simp only[gO,qd,qe]at hr;obtain⟨⟨v,H'⟩,s,rfl⟩:=hr;have⟨θ',w',c,A,C,X,g4⟩:=B.1 base D θ st.H a.eval w vs v H' J R s hf;have g:o.semAt b.roundOf a.eval=execOp a.eval o:=U (by intro q;cases q) (by intro q;cases q);refine⟨θ',w',c,cs,a.defers,.one ?_,C,X,g4,gA.up X.ag Up.of M,rfl,oU.up X.ag Up.of hu,eP.refl hu⟩;rcases A with A|⟨A,rfl⟩
  .exact GX ho hw (by rw[g];exact A)
  .exact K4 ho hw (by rw[g];exact A)
 |gE f =>
  obtain⟨c,fn,body,s,K,rfl,h3,h4⟩:=B;simp only[gO,cC,j5,qm,qd,qe]at hr;obtain⟨⟨e,u,H'⟩,hc,rfl⟩:=hr;have g:o.semAt b.roundOf a.eval=execOp a.eval o:=Aa _ _ _ (λ c'=>by rw[s];simp);refine Ry E ho J M hu (args:=c.args.map a.eval) (by simpa using R) (λ _=>P7 ho hw ?_) hc (by cases e<;>exact hf);rw[g];simp[execOp,s,resolve,K,Act.eval,AO,invoke,MT hP h3 h4]
 |gF =>
  obtain⟨c,x,s,K,rfl⟩:=B;have g:o.semAt b.roundOf a.eval=execOp a.eval o:=Aa _ _ _ (λ c'=>by rw[s];simp);simp only[gO]at hr;split at hr
  .rename_i f first cap args
   simp only[cC,j5,qm,qd,qe]at hr;obtain⟨⟨e,u,H'⟩,hc,rfl⟩:=hr;have⟨cf,ca,z,L,W⟩:=R.dR;simp only[jm,zg]at z;obtain⟨rfl,rfl⟩:=z;have⟨fi,ci,S,Z,q5,_⟩:=NU L;refine Ry E ho J M hu (args:=(fi.toArray++c.args.map a.eval)++ci.toArray) ?_ (λ hfn=>P7 ho hw ?_) hc (by cases e<;>exact hf)
   .simpa using Z.app (W.app q5)
   .have ⟨fn,body,h3,h4⟩:=hfn;rw[g];simp[execOp,s,resolve,K,S,eW,AO,invoke,MT hP h3 h4]
  .rename_i l first args
   simp only[cC,qd,qe]at hr;obtain⟨⟨e,H'⟩,hc,rfl⟩:=hr;have⟨cf,ca,z,L,W⟩:=R.dR;simp only[jm,zg]at z;obtain⟨rfl,rfl⟩:=z;have⟨fi,ci,S,Z,q5,_⟩:=NU L;have hf':dL D st.H.au H'.au:=by cases e<;>exact hf
   have⟨f,tmps,as,body,A,θ',w',fin,C,X,g4,g5⟩:=V D θ st.H w l (first++args) (fi.toArray++c.args.map a.eval) H' e (b.atR a (.inRegion ops (i::rest)::k)) cs J (by simpa using Z.app W) hc hf';have N:=ad7 (P:=P) (b:=b) (k:=k) (cs:=cs) (w:=w) (rest:=rest) ho hw (l:=θ.bQ l) (f:=f) (tmps:=tmps) (as:=as) (body:=body) (w':=w) (by
    rw[g];simp[execOp,s,resolve,K,S,eW,AO,invoke,A])
   cases e with
   |ret v =>
    obtain⟨cv,k1,rfl⟩:=X;refine⟨θ',w',cv,cs,a.defers,.head N ?_,g4,g5,k1,gA.up g5.ag Up.of M,rfl,oU.up g5.ag Up.of hu,eP.refl hu⟩;rw[IQ ho]at C;exact C
   |panic ch =>
    obtain⟨Y,k0,k1,rfl⟩:=X;refine⟨θ',w',Y,.inRegion ops (i::rest)::k,.head N ?_,g4,g5,k0,k1⟩;rw[BD]at C;exact C
  .cases hr
 |invoke m =>
  obtain⟨c,x,s,K,rfl⟩:=B;have g:o.semAt b.roundOf a.eval=execOp a.eval o:=Aa _ _ _ (λ c'=>by rw[s];simp);simp only[gO]at hr;split at hr
  .rename_i t v args;simp only[cC,j5,qm,qd,qe]at hr;obtain⟨f,hm,⟨e,u,H'⟩,hc,rfl⟩:=hr;have⟨cf,ca,z,L,W⟩:=R.dR;simp only[jm,zg]at z;obtain⟨rfl,rfl⟩:=z;have⟨cv,S,Z⟩:=L.kR;rw[hAP]at hm;have hm':uw P t m=B1 f:=hm;refine Ry E ho J M hu (args:=#[cv]++c.args.map a.eval) (by simpa using bH.cons Z W) (λ hfn=>P7 ho hw ?_) hc (by cases e<;>exact hf);have⟨fn,body,h3,h4⟩:=hfn;rw[g];have hx:(#[Hm.iface t cv]++c.args.map a.eval)[0]? = B1 (.iface t cv):=by
    rw[Array.getElem?_append];simp
   have hx2:(#[Hm.iface t cv]++c.args.map a.eval).extract 1 (#[Hm.iface t cv]++c.args.map a.eval).size=c.args.map a.eval:=by
    apply Array.ext';rw[Array.toList_extract,Array.toList_append];simp[List.extract,zh]
   simp only[execOp,s,resolve,K,JX,A',JQ,invoke,S,hx,hx2,callMethod,program,Sem.run,xdz hm',MT hP h3 h4]
  .cases hr
 |recover =>
  obtain⟨c,s,K,rfl⟩:=B;have g:o.semAt b.roundOf a.eval=execOp a.eval o:=Aa _ _ _ (λ c'=>by rw[s];simp);simp only[gO]at hr;split at hr
  .cases hr
  .rename_i F;rw[F]at hb;have hb:b.roundOf=none:=hb;have G:(o.semAt b.roundOf a.eval).run P w=.ok .recover w:=by
    rw[g];have⟨cc,hE⟩:=G1 (ρ:=a.eval) s K;rw[hE];rfl
   split at hr
   .split at hr
    .rename_i v older O;cases hr;rw[O]at hu;cases cs with
     |nil=>exact hu.elim
     |cons c0 cs0 =>
      have⟨hk,hm⟩:=hu;cases n:c0.mode with
      |run=>rw[n]at hm;exact hm.elim
      |returning=>rw[n]at hm;cases hm
      |panicking Y =>
       rw[n]at hm;have⟨_,hm⟩:=hm;cases Y with
       |nil=>exact hm.elim
       |cons p Y =>
        have⟨⟨m1,m2,m3⟩,m4⟩:=hm;have⟨pv,pr,pg⟩:=p;simp only at m1 m2 m3;subst m2;subst m3;refine⟨θ,w,pv,{c0 with mode:=.panicking ({v:=pv,recovered:=B4}::Y)}::cs0,a.defers,.one ?_,by rw[d];exact J,.refl _ _ _ _,by rw[d];exact m1,by rw[d];exact M,by rw[O];rfl,?_,?_⟩
        .refine xcm ho hw hb G ?_;simp[tryRecover,Ap,hk,n]
        .rw [d];exact⟨hk,by simp,⟨m1,rfl,rfl⟩,m4⟩
        .rw [O];exact⟨_,rfl⟩
    .rename_i O;cases hr;refine⟨θ,w,.nilIface,cs,a.defers,.one (qyw ho hw hb G ?_),by rw[d];exact J,.refl _ _ _ _,λ _ _=>rfl,by rw[d];exact M,rfl,by rw[d];exact hu,eP.refl hu⟩;unfold tryRecover;cases Q:st.up with
     |none =>
      rw[Q]at hu;have hk:b.kind=.normal:=hu;simp[Ap,hk]
     |some ch =>
      rw[Q]at hu;cases cs with
      |nil=>exact hu.elim
      |cons c0 cs0 =>
       have⟨hk,hm⟩:=hu;cases n:c0.mode with
       |run=>rw[n]at hm;exact hm.elim
       |returning=>simp[Ap,hk,n]
       |panicking Y =>
        rw[n]at hm;have⟨_,hm⟩:=hm;cases Y with
        |nil=>simp[Ap,hk,n]
        |cons p Y =>
         cases ch with
         |nil=>exact hm.elim
         |cons e es =>
          have⟨⟨m1,m2,m3⟩,m4⟩:=hm;have⟨pv,pr,pg⟩:=p;have⟨ev,er⟩:=e;simp only at m2 m3;subst m2;subst m3;cases pr with
          |false=>exact absurd Q (O _ _)
          |true=>simp[Ap,hk,n]
   .cases hr
 |defer =>
  obtain⟨c,x,s,K,rfl⟩:=B;simp only[gO]at hr;split at hr
  .cases hr
  .rename_i F;rw[F]at hb;have hb:b.roundOf=none:=hb;split at hr
   .rename_i f first cap args
    cases hr;have⟨cf,ca,z,L,W⟩:=R.dR;simp only[jm,zg]at z;obtain⟨rfl,rfl⟩:=z;have⟨fi,ci,S,Z,q5,q6⟩:=NU L;refine⟨θ,w,undef,cs,{target:=.fn (.func f) ci.toArray,args:=fi.toArray++c.args.map a.eval}::a.defers,.one ?_,by rw[d];exact J,.refl _ _ _ _,.undef,?_,rfl,by rw[d];exact hu,eP.refl hu⟩
    .refine af0 ho hw ?_;rw[hb,KW.semAt_none];simp[execOp,s,resolve,K,S,eW,AO]
    .rw [d];exact⟨⟨_,_,rfl,λ _ _=>rfl,by simpa using Z.app (W.app q5)⟩,M⟩
   .cases hr
 |panic =>
  simp only[gO]at hr;split at hr
  .rename_i t v;cases hr;obtain⟨x,rfl,L⟩:=R.nX;have⟨cv,S,Z⟩:=L.kR;have G:(o.semAt b.roundOf a.eval).run P w=.halt (.panic (a.eval x)) w:=by
    rcases B with⟨y,s,hy⟩|⟨c,s,K,hy⟩
    .simp only[zg,rp]at hy;subst hy;rw[Aa _ _ _ (λ c'=>by rw[s];simp)];simp[execOp,s,S,Instr.panic,goPanic]
    .rw [Aa _ _ _ (λ c'=>by rw[s];simp)];have⟨cc,hE⟩:=G1 (ρ:=a.eval) s K;rw[hE,wO hy.symm];simp[builtin,S,Instr.panic,goPanic]
   refine⟨θ,w,[{v:=a.eval x,recovered:=B2}],.inRegion ops (i::rest)::k,.one (ad8 ho hw G),by rw[d];exact J,.refl _ _ _ _,by simp,?_⟩;rw[d];exact⟨⟨L,rfl,rfl⟩,trivial⟩
  .cases hr
end
end Go.Am
namespace Go.Am
def cT(s:aL)(tm:T AV):Option Bool :=
 match s.guard with
 |none=>B1 B4
 |some g=>cJ g.2 (tm.get g.1)
def RY(s:aL)(hc:s.gK=B2)(rt:RT)(K:St->fQ)(st:St) :
 (fV s).run rt K st=(cT s st.tm).bind λ w=>cond w ((kS st.tm s.args).bind λ vs=>(gO rt st vs s.op).bind (rP (dW s.dst) s.cq st K)) (K ⟨dW s.dst .undef st.tm,st.aV,st.up,st.H⟩):=by
 have c:(jW s.dst).run=dW s.dst:=by grind [Q5]
 unfold fV cT;rw[hc];cases hg:s.guard with
 |none=>simp_all[Eb,W6]
 |some g=>simp_all[Eb,W6,T.iT,T.get]
def YY(s:aL)(hc:s.gK=B4){d:Nat}(e:s.dst=B1 d)(rt:RT)(K:St->fQ)(st:St) :
 (fV s).run rt K st=(cT s st.tm).bind λ w=>cond w ((kS st.tm s.args).bind λ vs=>cond (pC (λ t=>t.get d) st vs s.op) (K st) B5) (K st):=by
 have c:(T.mP (α:=AV) (T.path d)).run=λ t=>t.get d:=by funext t;exact T.iT _ _
 unfold fV cT;rw[hc,e];cases hg:s.guard with
 |none=>simp_all[Eb]
 |some g =>
  simp only[Eb,c];rw[show(T.mP (T.path g.1)).run st.tm=st.tm.get g.1 from T.iT _ _]
theorem Wj(s:aL)(hc:s.gK=B4)(c:s.dst=B5)(rt:RT)(K:St->fQ)(st:St):(fV s).run rt K st=none:=by
 grind [fV]
def y9(call:bN):Prop:=∀f vs up H e up' H',call f vs up H=B1 (e,up',H')->Ext H H'
def vR(round:hO):Prop:=∀vs l H e H',round vs l H=B1 (e,H')->Ext H H'
def rj:ai->Prop
 | .region steps=>∀s∈steps,df s.op
 | .seq a b=>rj a/\rj b
 | .cond _ a b=>rj a/\rj b
 | .block _ b=>rj b
 | .loop _ b=>rj b
 | .scope b=>rj b
 |_=>True
def yG(fn:b9):Prop:=rj fn.body /\ ∀lp∈fn.loops,rj lp.assign/\rj lp.body
def Nv(AP:iQ):Prop:=∀f fn,AP.func f=B1 fn->yG fn
section
variable{rt:RT}(hc:y9 rt.call)(hr:vR rt.round)
include hc hr
def TT{op:eT}(ho:df op){st:St}{vs:List AV}{r:ig}(h:gO rt st vs op=B1 r):Ext st.H r.heap:=by
 have c:∀(q:bF×ar),Ext st.H q.2->Ext st.H (mA st.aV st.up q).heap:=by
  intro q g;have⟨e,H'⟩:=q;cases e<;>exact g
 cases op with
 |pure f=>simp only[gO,qd,qe]at h;obtain⟨_,_,rfl⟩:=h;exact Ext.refl _
 |read f=>simp only[gO,qd,qe]at h;obtain⟨_,_,rfl⟩:=h;exact Ext.refl _
 |alloc f=>simp only[gO,qd,qe]at h;obtain⟨⟨j,mk⟩,d,rfl⟩:=h;exact Ext.alloc _ _ (ho _ _ _ d)
 |fT f=>simp only[gO,qd,qe]at h;obtain⟨⟨v,H'⟩,d,rfl⟩:=h;exact ho _ _ _ _ d
 |gE f =>
  simp only[gO,cC,j5,qm,qd,qe]at h;obtain⟨⟨e,u,H'⟩,d,rfl⟩:=h;exact c _ (hc _ _ _ _ _ _ _ d)
 |gF =>
  simp only[gO]at h;split at h
  .simp only[cC,j5,qm,qd,qe]at h;obtain⟨⟨e,u,H'⟩,d,rfl⟩:=h;exact c _ (hc _ _ _ _ _ _ _ d)
  .simp only[cC,qd,qe]at h;obtain⟨⟨e,H'⟩,d,rfl⟩:=h;exact c _ (hr _ _ _ _ _ d)
  grind
 |invoke m =>
  simp only[gO]at h;split at h
  .simp only[cC,j5,qm,qd,qe]at h;obtain⟨_,_,⟨e,u,H'⟩,d,rfl⟩:=h;exact c _ (hc _ _ _ _ _ _ _ d)
  grind
 |recover =>
  simp only[gO]at h;split at h
  .cases h
  .split at h
   .split at h<;>(cases h;exact Ext.refl _)
   grind
 |defer =>
  simp only[gO]at h;split at h
  .cases h
  .split at h
   .cases h;exact Ext.refl _
   grind
 |panic =>
  simp only[gO]at h;split at h
  .cases h;exact Ext.refl _
  grind
def W4{op:eT}(ho:df op){st:St}{vs:List AV}{r:ig}(h:gO rt st vs op=B1 r):st.H.au<=r.heap.au:=(TT hc hr ho h).1
def _I{s:aL}(ho:df s.op){K:St->fQ}(g:∀st r,K st=B1 r->Ext st.H r.2.H){st:St}{r:aS×St}(h:(fV s).run rt K st=B1 r):Ext st.H r.2.H:=by
 cases e:s.gK with
 |false =>
  rw[RY s e,qd]at h;have⟨w,hw,h⟩:=h;cases w with
  |false =>
   grind
  |true =>
   simp only[xg,qd]at h;have⟨vs,_,q,l,h⟩:=h;have f:=TT hc hr ho l;cases q with
   |val v d u H'=>exact Ext.trans f (g _ _ h)
   |panic c H' =>
    simp only[rP,qd,qe]at h;obtain⟨_,_,rfl⟩:=h;exact f
 |true =>
  cases j:s.dst with
  |none=>grind [Wj]
  |some d =>
   rw[YY s e j,qd]at h;have⟨w,hw,h⟩:=h;cases w with
   |false =>
    grind
   |true =>
    simp only[xg,qd]at h
    grind
def SV:∀{l:List aL},(∀s∈l,df s.op) -> ∀{st:St}{r:aS×St},(gh l).run rt st=B1 r->Ext st.H r.2.H
 |[],_,st,r,h=>by cases h;exact Ext.refl _
 |s::l,ho,st,r,h=>_I hc hr (by grind) (λ st r h=>SV (by grind) h) h
def S'{l:List aL}(hl:∀s∈l,df s.op){st:St}{r:aS×St}(h:(gh l).run rt st=B1 r):st.H.au<=r.2.H.au:=(SV hc hr hl h).1
omit hc hr in
def T0{body:St->fQ}(hb:∀st r,body st=B1 r->Ext st.H r.2.H)(ah:Option (List Nat)):∀(n:Nat)(st:St)(r:aS×St),fP ah body n st=B1 r->Ext st.H r.2.H
 |0,st,r,h=>by cases h
 |n+1,st,r,h=>by
  simp only[fP,qd]at h;have⟨q,d,h⟩:=h;have c:=hb _ _ d;have c:Ext st.H q.2.H:=by cases ah<;>exact c
  split at h
  .exact Ext.trans c (T0 hb ah n _ _ h)
  .cases h;exact c
omit hc hr in
def xdd{body:St->fQ}(hb:∀st r,body st=B1 r->Ext st.H r.2.H)(ah:Option (List Nat))(n:Nat)(st:St)(r:aS×St)(h:fP ah body n st=B1 r):st.H.au<=r.2.H.au:=(T0 hb ah n st r h).1
omit hr in
def S0{st:St}{k:Nat}{H0:ar}{aV:List aK}{d:Nat}{v:AV}{r:aS×St}(f:Ext st.H H0)(h:ik rt.call rt.round rt.ctx st k H0 aV d v=B1 r):Ext st.H r.2.H:=by
 unfold ik at h;split at h
 .simp only[cC,j5,qm,qd]at h;have⟨⟨e,u,H'⟩,g,h⟩:=h;have c:=(f.trans (Ext.alloc _ _ rfl)).trans (hc _ _ _ _ _ _ _ g);unfold IP at h;split at h
  .cases h;exact c
  .split at h
   .cases h
   .rename_i hg;cases h;exact c.trans (Ext.set hg _ (λ _=>rfl))
   .cases h
 .cases h
omit hr in
def xad{st:St}{k:Nat}{H0:ar}{aV:List aK}{d:Nat}{v:AV}{r:aS×St}(c:Ext st.H H0)(h:ik rt.call rt.round rt.ctx st k H0 aV d v=B1 r):st.H.au<=r.2.H.au:=(S0 hc c h).1
def vZ:∀{c:ai},rj c -> ∀{st:St}{r:aS×St},(bC c).run rt st=B1 r->Ext st.H r.2.H
 | .skip,_,st,r,h=>by cases h;exact Ext.refl _
 | .label _,_,st,r,h=>by cases h;exact Ext.refl _
 | .region steps,hm,st,r,h=>SV hc hr hm h
 | .seq a b,hm,st,r,h=>by
  simp only[bC,qd]at h;have⟨q,e,h⟩:=h;have g:=vZ hm.1 e;unfold rE at h;split at h
  .exact Ext.trans g (vZ hm.2 h)
  grind
 | .cond c a b,hm,st,r,h=>by
  simp only[bC,qd]at h;have⟨v,j,h⟩:=h;unfold rO at h;split at h
  .rcases ju h with⟨_,h⟩|⟨_,h⟩
   .exact vZ hm.1 h
   .exact vZ hm.2 h
  grind
 | .block id b,hm,st,r,h=>by
  simp only[bC,qd]at h;have⟨q,e,h⟩:=h;have g:=vZ (c:=b) hm e
  grind [jC]
 | .loop ah b,hm,st,r,h=>T0 (λ st r h=>vZ (c:=b) hm h) ah _ _ _ h
 | .exit _,_,st,r,h=>by cases h;exact Ext.refl _
 | .goto _,_,st,r,h=>by cases h;exact Ext.refl _
 | .ret,_,st,r,h=>by cases h;exact Ext.refl _
 | .stuck,_,st,r,h=>by cases h
 | .scope b,hm,st,r,h=>by
  simp only[bC,qd]at h;have⟨q,e,h⟩:=h;have g:=vZ (c:=b) hm e;unfold kK at h
  grind
 | .rangeFunc f k,_,st,r,h=>by
  simp only[bC,qd]at h;have⟨v,j,h⟩:=h;unfold pI at h;split at h
  .exact S0 hc (Ext.alloc _ _ rfl) h
  .simp only[qd]at h;have⟨d,_,h⟩:=h;exact S0 hc (Ext.refl _) h
def JA{c:ai}(hm:rj c){st:St}{r:aS×St}(h:(bC c).run rt st=B1 r):st.H.au<=r.2.H.au:=(vZ hc hr hm h).1
end
theorem Oh{call:bN}(hc:y9 call){rs:List dM}{tm:T AV}:∀{ds:List aK}{m:Option aA}{H:ar}{r:bF×ar},bV call rs tm ds m H=B1 r->Ext H r.2
 |[],B5,H,r,h=>by
  grind [bV,qd,Ext.refl]
 |[],B1 c,H,r,h=>by cases h;exact Ext.refl _
 | .im b::ds,m,H,r,h=>by
  simp only[bV]at h;split at h
  .rename_i hg;exact(Ext.set hg _ (λ _=>rfl)).trans (Oh (H:=H.set b _) hc h)
  grind
 | .fn (.func f) args::ds,m,H,r,h=>by
  simp only[bV,qd]at h;have⟨⟨e,u,H'⟩,d,h⟩:=h;have g:=hc _ _ _ _ _ _ _ d;split at h
  .simp only[qd]at h;have⟨j,_,h⟩:=h;exact Ext.trans g (Oh hc h)
  grind
 | .fn (.yield _) _::_,_,_,_,h=>by grind [bV]
def XO{call:bN}(hc:y9 call){rs:List dM}{tm:T AV}{ds:List aK}{m:Option aA}{H:ar}{r:bF×ar}(h:bV call rs tm ds m H=B1 r):H.au<=r.2.au:=(Oh hc h).1
def xak{H H':ar}{l:Nat}{s:lP}{p:Option gH}(h:cA H l s p=B1 H'):Ext H H':=by
 unfold cA at h;split at h
 .rename_i hg;cases h;exact Ext.set hg _ (λ _=>rfl)
 grind
def i'{H H':ar}{l:Nat}(h:beginRound H l=B1 H'):Ext H H':=by
 unfold beginRound at h;split at h
 .rename_i hg;cases h;exact Ext.set hg _ (λ _=>rfl)
 grind
theorem q8i{H H':ar}{l:Nat}{s:lP}{p:Option gH}(h:cA H l s p=B1 H'):H'.au=H.au:=by
 unfold cA at h;split at h
 .cases h;rfl
 grind
def w_{H H':ar}{l:Nat}(h:beginRound H l=B1 H'):H'.au=H.au:=by
 unfold beginRound at h;split at h
 .cases h;rfl
 grind
def NB{AP:iQ}(hp:Nv AP){call:bN}(hc:y9 call)(m:Nat):∀n,vR (rounds AP call m n)
 |0=>λ vs l H e H' h=>by cases h
 |n+1=>λ vs l H e H' h=>by
  have s:=NB hp hc m n;simp only[rounds,roundOf]at h;split at h
  .rename_i st C f k tm d hg;simp only[qd]at h;have⟨fn,p,lp,x,A,_,q,y,h⟩:=h;have c:rj lp.assign/\rj lp.body:=(hp f fn p).2 lp (by grind [kX]);have g:=vZ (rt:=⟨AP,call,rounds AP call m n,m,⟨B1 l,f⟩⟩) hc s c.1 y;have g:Ext H q.2.H:=g;split at h
   .simp only[qd]at h;have⟨t,hb,z,r,h⟩:=h;have j:=vZ (rt:=⟨AP,call,rounds AP call m n,m,⟨B1 l,f⟩⟩) hc s c.2 r;have j:Ext t z.2.H:=j;have u:=(g.trans (i' hb)).trans j;rcases ju h with⟨_,h⟩|⟨_,h⟩
    .unfold DZ at h;split at h
     .grind
     .simp only[qd,qe,xx]at h;obtain⟨B,v,_,rfl⟩:=h;exact u.trans (xak v)
    grind
   grind
  grind
def q57{AP:iQ}(hp:Nv AP){call:bN}(l:y9 call)(n:Nat):y9 (EG AP call n) :=
 λ f vs up H e d H' h=>by
  simp only[EG,qd]at h;have⟨fn,c,q,p,h⟩:=h;have g:=vZ (rt:=⟨AP,call,rounds AP call n n,n,⟨B5,f⟩⟩) l (NB hp l n n) (hp f fn c).1 p;have g:Ext H q.2.H:=g;have j:∀m,((bV call fn.results q.2.tm q.2.aV m q.2.H).bind λ z=>B1 (z.1,q.2.up,z.2))=B1 (e,d,H')->Ext H H':=by
   intro m h;simp only[qd,qe,xx]at h;obtain⟨z,r,_,_,rfl⟩:=h
   grind [Ext.trans,Oh]
  grind [oK]
def V8{AP:iQ}(hp:Nv AP){told:bN}(c:y9 told):∀n,y9 (iZ AP told n)
 |0=>c
 |n+1=>λ f vs up H e d H' h=>by
  simp only[iZ]at h;split at h
  .rename_i r hr;cases h;exact c _ _ _ _ _ _ _ hr
  .exact q57 hp (V8 hp c n) n _ _ _ _ _ _ _ h
end Go.Am
namespace Go.Am
abbrev ng:Machine->Prop:=λ _=>True
structure SR(P:Fv)(base:Nat)(D:Nat->Prop)(θ:Th)(b:Jj)(nt:Nat)(rd:Option Nat)(st:St)(a:Act)(cs:List Jj)(w:J3):Prop where
 heap:HR P base D θ st.H w
 sj:om D θ st.tm a.tmps
 size:nt<=a.tmps.size
 aV:gA D θ st.aV a.defers
 up:oU D θ b.kind st.up cs
 round:vU D θ b.roundOf rd
def Out(P:Fv)(base:Nat)(D:Nat->Prop)(θ:Th)(b:Jj)(nt:Nat)(rd:Option Nat)(k:List Item)(st:St)(cs:List Jj)(w:J3)(m:Machine)(e:aS)(st':St):Prop :=
 ∃θ' a' w' cs' e',ArrivesIn ng P m b k cs' e' a' w'/\SR P base (Up D st.H.au st'.H.au) θ' b nt rd st' a' cs' w'/\bt D st.H θ w st'.H θ' w'/\yA (Up D st.H.au st'.H.au) θ' e e' /\
  st'.up.isSome=st.up.isSome/\eP st.up cs cs'
section
variable{P:Fv}{base:Nat}{D:Nat->Prop}{θ:Th}
def Out.after{b:Jj}{l:Nat}{rd:Option Nat}{k:List Item}{st cQ c:St}{cs d:List Jj}{w n:J3}{m j:Machine}{e:aS}{θ1:Th}(hs:Steps P m j)
 (hg:bt D st.H θ w cQ.H θ1 n) (hu:cQ.up.isSome=st.up.isSome) (u:eP st.up cs d) (hn:cQ.H.au<=c.H.au)
 (h:Out P base (Up D st.H.au cQ.H.au) θ1 b l rd k cQ d n j e c):Out P base D θ b l rd k st cs w m e c:=by
 have⟨θ',p,w',cs',e',q,f,r,g,s,t⟩:=h;rw[Up.up hg.au hn]at f g;exact⟨θ',p,w',cs',e',.of_steps (Ab hs) q,f,hg.trans r Up.of,g,s.trans hu,eP.trans hu u t⟩
def wc{α:Type}:∀{l:List (Option α)}{r:List α},cS l=B1 r->r.length=l.length /\ ∀(i:Nat)(x:α),r[i]? = B1 x->l[i]? = B1 (B1 x)
 |[],r,h=>by cases h;grind
 |y::l,r,h=>by
  simp only[cS,qd,qe]at h;obtain⟨a,rfl,e,hl,rfl⟩:=h;have⟨c,d⟩:=wc hl
  grind
def IZ{ops:Array KW}{l:List (List bE×eT)}{safe:Nat->Option (List Nat)}{q:Bool×Nat}{s:aL}(h:iE ops l safe q=B1 s) :
 ∃o a g,ops[q.2]? = B1 o/\l[q.2]? = B1 a/\guardOf ops o.guard=B1 g/\s = {gK:=q.1,dst:=o.dst,guard:=g,args:=a.1,op:=a.2,cq:=safe q.2}:=by
 grind [iE,qd]
def QY{ops:Array KW}{o:KW}{s:aL}(hg:guardOf ops o.guard=B1 s.guard){tm:T AV}{a:Array Hm}(f:om D θ tm a){q:Bool}(h:cT s tm=B1 q) :
 A1 o (yielded ops a)=q:=by
 unfold cT at h;unfold A1;cases ho:o.guard with
 |none =>
  rw[ho]at hg;injection hg with hg
  grind
 |some g =>
  have⟨j,want⟩:=g;rw[ho]at hg;simp only[guardOf,qd,qe]at hg;have⟨t,⟨r,l,m⟩,hg⟩:=hg;rw[<-hg]at h;simp only at h;have n:((ops[j]?).bind (·.dst)).bind (a[·]?)=a[t]?:=by grind
  simp only[yielded,n];unfold cJ at h;split at h
  .rename_i p hp;have⟨c,d,e⟩:=f t _ hp;injection h with h
   rw[d,<-e.now];simp only[aq];cases p<;>cases want<;>cases q<;>simp_all
  .rename_i hp;have⟨c,d,e⟩:=f t _ hp;injection h with h
   rw[d,<-e.now]
   grind [aq]
  grind
def FA{e:Nat}{tm:T AV}{a:Act}{dst:Option Nat}(h:∀d,dst=B1 d->d<e)(hs:e<=a.tmps.size)(f:om D θ tm a.tmps){v:AV}{c:Hm}(g:VR D θ v c) :
 om D θ (dW dst v tm) (a.put dst c).tmps/\e<=(a.put dst c).tmps.size/\(a.put dst c).defers=a.defers:=by
 cases dst with
 |none=>exact⟨f,hs,rfl⟩
 |some d =>
  refine⟨f.put (by grind) g,?_,rfl⟩
  simpa[Act.put]using hs
def xd7(hP:dB P){rt:RT}(t:yq P base rt.call)(m:vz P base rt.round)(M:rt.AP=aU P)(O:y9 rt.call)(S:vR rt.round)
 {ops:Array KW} {o:KW} {i:Nat} {rest:List Nat} {s:aL} {ca:List bE×eT} (ho:ops[i]? = B1 o) (N:fE P o=B1 ca) (hg:guardOf ops o.guard=B1 s.guard) (h1:s.gK=B2) (h2:s.dst=o.dst) (h3:s.args=ca.1) (h4:s.op=ca.2)
 {b:Jj} {x:Nat} (hdst:nG x o=B4) {k:List Item} {st:St} {a:Act} {cs:List Jj} {w:J3} (e:SR P base D θ b x rt.ctx.round st a cs w) {K:St->fQ} {r:aS×St}
 (z:∀st r,K st=B1 r->st.H.au<=r.2.H.au) (h:(fV s).run rt K st=B1 r) (Q:dL D st.H.au r.2.H.au)
 (g:∀G θ1 cQ Y p X,SR P base G θ1 b x rt.ctx.round cQ Y p X->K cQ=B1 r->dL G cQ.H.au r.2.H.au->Out P base G θ1 b x rt.ctx.round k cQ p X (lone (b.atR Y (.inRegion ops rest::k)) p X) r.1 r.2) :
 Out P base D θ b x rt.ctx.round k st cs w (lone (b.atR a (.inRegion ops (i::rest)::k)) cs w) r.1 r.2:=by
 have A:∀d,o.dst=B1 d->d<x:=by
  grind [nG,uv]
 rw[RY s h1,qd]at h;have⟨q,hq,h⟩:=h;have l:=QY hg e.sj hq;cases q with
 |false =>
  simp only[ze]at h;have⟨V,W,p3⟩:=FA (dst:=o.dst) A e.size e.sj (VR.undef (D:=D) (θ:=θ));rw[h2]at h;have hn:=z _ _ h;have E:=stepR_op_skip (P:=P) (b:=b) (a:=a) (k:=k) (cs:=cs) (w:=w) (ops:=ops) (i:=i) (rest:=rest) (by simp[ho,l]);rw[ho]at E;refine Out.after (.one E) (bt.refl D st.H θ w) rfl (eP.refl e.up) hn ?_;rw[Up.none];exact g D θ ⟨dW o.dst .undef st.tm,st.aV,st.up,st.H⟩ _ cs w ⟨e.heap,V,W,by rw[show(a.put ((B1 o).bind (·.dst)) undef).defers=a.defers from p3];exact e.aV,e.up,e.round⟩ h Q
 |true =>
  simp only[xg,qd]at h;have⟨vs,F,res,j,h⟩:=h;have⟨xs,U,C,B⟩:=Jm hP N;rw[h3]at F;rw[h4]at j;have hv:=Fw (a:=a) e.heap e.sj U F;have R:=W4 O S C.mono j;have hle:res.heap.au<=r.2.H.au:=by
   cases res with
   |val v d u H'=>exact z _ _ h
   |panic c H' =>
    simp only[rP,qd,qe]at h;obtain⟨_,_,rfl⟩:=h;exact qg _
  have n:=SA hP t m M C B (rest:=rest) (k:=k) ho l e.heap e.aV e.up e.round hv j (Q.left hle);cases res with
  |val v d u H' =>
   have⟨θ',w',c,cs',ds,I,J,y,L,Z,g6,g7,g8⟩:=n;simp only[rP,h2]at h;have f:=y.ag;have⟨V,W,p3⟩:=FA (a:={a with defers:=ds}) (dst:=o.dst) A e.size (e.sj.up f Up.of) L;refine Out.after (cQ:=⟨dW o.dst v st.tm,d,u,H'⟩) I y g6 g8 hle ?_;exact g _ θ' _ _ cs' w' ⟨J,V,W,by grind,g7,vU.up f Up.of e.round⟩ h (Q.right R)
  |panic c H' =>
   have⟨θ',w',ps,todo,I,J,y,L,Z⟩:=n;simp only[rP,qd,qe]at h;obtain⟨ds,hds,rfl⟩:=h;have f:=y.ag;refine⟨θ',a,w',cs,.panic ps,⟨todo,Ab I⟩,⟨J,om.forget ds (e.sj.up f Up.of),e.size,gA.up f Up.of e.aV,oU.up f Up.of e.up,vU.up f Up.of e.round⟩,y,⟨L,Z⟩,rfl,eP.refl e.up⟩
theorem Sf(e:dB P){ops:Array KW}{l:List (List bE×eT)}(hl:cS (ops.toList.map (fE P))=B1 l){safe:Nat->Option (List Nat)}{qs:List (Bool×Nat)}{steps:List aL}
 (h:cS (qs.map (iE ops l safe))=B1 steps):∀s∈steps,df s.op:=by
 intro s hs;have⟨i,f⟩:=vn hs;have:=(wc h).2 i s f;rw[xr,xh]at this;have⟨q,_,j⟩:=this;obtain⟨o,a,g,ho,ha,_,rfl⟩:=IZ j;have:=(wc hl).2 _ a ha;rw[xr,xh]at this;have⟨o',_,c⟩:=this;have⟨xs,_,d,_⟩:=Jm e c;exact d.mono
def Vm(A:dB P){rt:RT}(d:yq P base rt.call)(c:vz P base rt.round)(m:rt.AP=aU P)(e:y9 rt.call)(j:vR rt.round)
 {ops:Array KW} {t:Nat} (n:ops.toList.all (nG t)=B4) {l:List (List bE×eT)} (hl:cS (ops.toList.map (fE P))=B1 l) {b:Jj} {k:List Item} {safe:Nat->Option (List Nat)} :
 ∀(todo:List Nat){steps:List aL},cS (todo.map λ i=>iE ops l safe (B2,i))=B1 steps -> ∀{D:Nat->Prop}{θ:Th}{st:St}{a:Act}{cs:List Jj}{w:J3}{r:aS×St},
  SR P base D θ b t rt.ctx.round st a cs w->(gh steps).run rt st=B1 r->dL D st.H.au r.2.H.au->Out P base D θ b t rt.ctx.round k st cs w (lone (b.atR a (.inRegion ops todo::k)) cs w) r.1 r.2
 |[],steps,hs,D,θ,st,a,cs,w,r,hS,h,hf=>by
  cases hs;cases h;refine⟨θ,a,w,cs,.normal,StepsIn.one trivial stepR_region_end,by grind [Up.none],bt.refl _ _ _ _,trivial,rfl,eP.refl hS.up⟩
 |i::todo,steps,hs,D,θ,st,a,cs,w,r,hS,h,hf=>by
  simp only[jm,cS,qd,qe]at hs;obtain⟨s,z,rest,q,rfl⟩:=hs;obtain⟨o,ca,g,ho,y,hg,rfl⟩:=IZ z;have v:fE P o=B1 ca:=by
   have:=(wc hl).2 _ ca y
   grind
  have p:nG t o=true:=by
   grind
  have f:∀s∈rest,df s.op:=by
   have G:cS ((todo.map λ i=>(B2,i)).map (iE ops l safe))=B1 rest:=by rw[Ep];exact q
   grind [Sf]
  exact xd7 A d c m e j (K:=(gh rest).run rt) ho v hg rfl rfl rfl rfl p hS (λ st r h=>S' e j f h) h hf
   (λ E θ1 cQ F B I u C x=>Vm A d c m e j n hl todo q u C x)
end
end Go.Am
namespace Go.Am
def Jd(P:Fv)(base:Nat)(rt:RT):Prop :=
 ∀(nt id:Nat)(ops:Array KW)(c:ai),gZ P nt ops B4=B1 c -> ∀(D:Nat->Prop)θ(b:Jj)k st a cs w r,SR P base D θ b nt rt.ctx.round st a cs w->(bC c).run rt st=B1 r ->
  dL D st.H.au r.2.H.au->Out P base D θ b nt rt.ctx.round k st cs w (lone (b.atR a (.code (.region id ops B4)::k)) cs w) r.1 r.2
section
variable{P:Fv}{base:Nat}
def xdu{d:Nat}{ops:Array KW}{c:ai}(h:gZ P d ops B2=B1 c):∃l steps,ops.toList.all (nG d)=B4/\cS (ops.toList.map (fE P))=B1 l /\
 cS ((Ig ops.size).map λ i=>iE ops l (λ _=>B1 []) (B2,i))=B1 steps/\c=.region steps:=by
 unfold gZ at h;split at h
 .rename_i e;simp only[qd]at h;have⟨l,hl,h⟩:=h;simp only[za,y8,qd,qe]at h
  grind
 grind
theorem xaf(d:dB P){e:Nat}{ops:Array KW}{draw:Bool}{c:ai}(h:gZ P e ops draw=B1 c):rj c:=by
 unfold gZ at h;split at h
 .simp only[qd]at h;have⟨l,hl,h⟩:=h;split at h
  .rcases ju h with⟨_,h⟩|⟨_,h⟩
   .simp only[qd,qe]at h;obtain⟨steps,hs,rfl⟩:=h;exact Sf d hl hs
   .cases h;trivial
  .simp only[qd,qe]at h;obtain⟨steps,hs,rfl⟩:=h;exact Sf (safe:=λ _=>B1 []) (qs:=(Ig ops.size).map λ i=>(B2,i)) d hl (by rw[Ep];exact hs)
 grind
def sn(g:dB P){s:Nat}:∀(c:Code){kk:Nat}{ac:ai}{L:List dT},bY P s kk c=B1 (ac,L)->rj ac /\ ∀lp∈L,rj lp.assign/\rj lp.body
 | .skip,kk,ac,L,h=>by cases h;exact⟨trivial,by simp⟩
 | .region _ ops draw,kk,ac,L,h=>by
  grind [bY,qd,xaf]
 | .seq a b,kk,ac,L,h=>by
  simp only[bY,qd,qe,xx]at h;obtain⟨⟨x,m⟩,d,⟨y,q⟩,l,rfl,rfl⟩:=h;have⟨n,p⟩:=sn g a d;have⟨e,j⟩:=sn g b l;exact⟨⟨n,e⟩,λ lp hl=>by grind⟩
 | .cond c a b,kk,ac,L,h=>by
  simp only[bY,qd,qe,xx]at h;obtain⟨r,_,⟨x,m⟩,d,⟨y,q⟩,l,rfl,rfl⟩:=h;have⟨n,p⟩:=sn g a d;have⟨e,j⟩:=sn g b l;exact⟨⟨n,e⟩,λ lp hl=>by grind⟩
 | .block id b,kk,ac,L,h=>by
  simp only[bY,qd,qe,xx]at h;obtain⟨⟨x,m⟩,d,rfl,rfl⟩:=h;have⟨e,j⟩:=sn g b d;exact⟨e,j⟩
 | .loop b,kk,ac,L,h=>by
  simp only[bY,qd,qe,xx]at h;obtain⟨⟨x,m⟩,d,rfl,rfl⟩:=h;have⟨e,j⟩:=sn g b d;exact⟨e,j⟩
 | .rangeFunc f ps a b,kk,ac,L,h=>by
  simp only[bY,qd]at h;have⟨r,_,⟨x,m⟩,d,⟨y,q⟩,l,h⟩:=h;split at h
  .cases h;have⟨n,p⟩:=sn g a d;have⟨e,j⟩:=sn g b l;refine⟨trivial,λ lp hl=>?_⟩
   grind
  grind
 | .exit _,kk,ac,L,h=>by cases h;exact⟨trivial,by simp⟩
 | .scope b,kk,ac,L,h=>by
  simp only[bY,qd,qe,xx]at h;obtain⟨⟨x,m⟩,d,rfl,rfl⟩:=h;have⟨e,j⟩:=sn g b d;exact⟨e,j⟩
 | .label _,kk,ac,L,h=>by cases h;exact⟨trivial,by simp⟩
 | .goto _,kk,ac,L,h=>by cases h;exact⟨trivial,by simp⟩
 | .ret,kk,ac,L,h=>by cases h;exact⟨trivial,by simp⟩
 | .refuse _,kk,ac,L,h=>by cases h;exact⟨trivial,by simp⟩
def Sw(d:dB P):Nv (aU P):=by
 intro f e h;simp only[aU,qd]at h;have⟨fn,_,h⟩:=h;simp only[rT,qd,qe]at h;obtain⟨b,_,⟨c,L⟩,hc,_,_,rfl⟩:=h;exact sn d b hc
def RS{r:Nat}:∀(c:Code){kk:Nat}{ac:ai}{L:List dT},bY P r kk c=B1 (ac,L) -> ∀l,CF ac l=(findLabel c l).isSome
 | .skip,kk,ac,L,h,l=>by injection h with h;injection h with d g;subst d;rfl
 | .region _ ops draw,kk,ac,L,h,l=>by
  simp only[bY,qd,qe,xx]at h;obtain⟨c,hc,rfl,rfl⟩:=h;unfold gZ at hc;split at hc
  .simp only[qd]at hc;have⟨l,hl,hc⟩:=hc;split at hc
   .rcases ju hc with⟨_,hc⟩|⟨_,hc⟩
    .simp only[qd,qe]at hc;obtain⟨_,_,rfl⟩:=hc;rfl
    .cases hc;rfl
   .simp only[qd,qe]at hc;obtain⟨_,_,rfl⟩:=hc;rfl
  grind
 | .seq a b,kk,ac,L,h,l=>by
  simp only[bY,qd,qe,xx]at h;obtain⟨⟨x,m⟩,j,⟨y,p⟩,n,rfl,rfl⟩:=h;have d:=RS a j l;have g:=RS b n l
  grind [CF,findLabel]
 | .cond c a b,kk,ac,L,h,l=>by
  simp only[bY,qd,qe,xx]at h;obtain⟨q,_,⟨x,m⟩,j,⟨y,p⟩,n,rfl,rfl⟩:=h;rfl
 | .block id b,kk,ac,L,h,l=>by
  simp only[bY,qd,qe,xx]at h;obtain⟨⟨x,m⟩,j,rfl,rfl⟩:=h;rfl
 | .loop b,kk,ac,L,h,l=>by
  simp only[bY,qd,qe,xx]at h;obtain⟨⟨x,m⟩,j,rfl,rfl⟩:=h;rfl
 | .rangeFunc f ps a b,kk,ac,L,h,l=>by
  simp only[bY,qd]at h;have⟨q,_,⟨x,m⟩,j,⟨y,p⟩,n,h⟩:=h;split at h
  .injection h with h;injection h with d g;subst d;rfl
  grind
 | .exit _,kk,ac,L,h,l=>by injection h with h;injection h with d g;subst d;rfl
 | .scope b,kk,ac,L,h,l=>by
  simp only[bY,qd,qe,xx]at h;obtain⟨⟨x,m⟩,j,rfl,rfl⟩:=h;rfl
 | .label l',kk,ac,L,h,l=>by
  injection h with h;injection h with d g;subst d
  simp only[CF,findLabel]
  by_cases e:l'=l
  .simp [e]
  .simp only[beq_iff_eq,e,y8,KV]
   grind [je]
 | .goto _,kk,ac,L,h,l=>by injection h with h;injection h with d g;subst d;rfl
 | .ret,kk,ac,L,h,l=>by injection h with h;injection h with d g;subst d;rfl
 | .refuse _,kk,ac,L,h,l=>by injection h with h;injection h with d g;subst d;rfl
def q58{b:Jj}{a:Act}{body:Code}{k:List Item}{cs:List Jj}{w:J3}:step P (lone (b.atR a (.inScope body::k)) cs w)=.next (lone (b.atR a k) cs w) :=
 step_lone_go (by simp[stepG,stepG.exec,Ap])
def xao{b:Jj}{a:Act}{body:Code}{k:List Item}{cs:List Jj}{w:J3}:step P (lone (b.atR a (.code (.scope body)::k)) cs w)=.next (lone (b.atR a (.code body::.inScope body::k)) cs w) :=
 step_lone_go (by simp[stepG,stepG.exec,Ap])
def Out.pass{D:Nat->Prop}{θ:Th}{b:Jj}{f:Nat}{rd:Option Nat}{x:Item}(s:x.plain=B4){k:List Item}{st:St}{cs:List Jj}{w:J3}{m:Machine}{e:aS}{c:St}(he:vC e=B2)
 (h:Out P base D θ b f rd (x::k) st cs w m e c):Out P base D θ b f rd k st cs w m e c:=by
 have⟨θ',g,w',cs',e',j,l,n,d,p,r⟩:=h;refine⟨θ',g,w',cs',e',.pass s (λ _ _=>.inl ?_) j,l,n,d,p,r⟩;intro q;subst q;cases e<;>first|exact d.elim|cases he
def Out.here{D:Nat->Prop}{θ:Th}{b:Jj}{c:Nat}{rd:Option Nat}{k:List Item}{st:St}{a:Act}{cs:List Jj}{w:J3}{m:Machine}{e:aS}{e':Exit}(f:SR P base D θ b c rd st a cs w)
 (d:ArrivesIn ng P m b k cs e' a w) (g:yA D θ e e'):Out P base D θ b c rd k st cs w m e st :=
 ⟨θ,a,w,cs,e',d,by grind [Up.none],bt.refl _ _ _ _,by grind [Up.none],rfl,eP.refl f.up⟩
def ι{w:J3}(fn:FuncId)(tmps:Array Hm)(c:Array Tmp)(as body:Code){l:Nat}{r:Loop}(h:w.heap[l]? = B1 (.loop r)) :
 (Instr.enterLoop fn tmps c as body (B1 l)).run P w=.ok (w.heap.size,[]) (w.alloc (.loop {state:=.ready,pending:=B5,fn,tmps,params:=c,assign:=as,body,defers:=r.defers})):=by
 simp_all[Instr.enterLoop,run_getLoop]
def q2d{d:Nat}{c:Code}{kk:Nat}{ac:ai}{L:List dT}(h:bY P d kk c=B1 (ac,L)){l:Nat}(hl:CF ac l=B2):findLabel c l=none:=by
 rw[RS c h l]at hl
 simpa using hl
def Wc{b:Jj}{a:Act}{k:List Item}{cs:List Jj}{w:J3}(id:Nat):ArrivesIn ng P (lone (b.atR a (.code (.exit id)::k)) cs w) b k cs (.exit id) a w :=
 ⟨λ _ hk=>.one trivial (stepR_exit hk),λ _ hk=>⟨k,hk,.refl _⟩⟩
def Vr{b:Jj}{a:Act}{k:List Item}{cs:List Jj}{w:J3}(l:Nat):ArrivesIn ng P (lone (b.atR a (.code (.goto l)::k)) cs w) b k cs (.goto l) a w :=
 ⟨λ _ hk=>.one trivial (stepR_goto hk),λ _ hk=>⟨k,hk,.refl _⟩⟩
def U1{b:Jj}{a:Act}{k:List Item}{cs:List Jj}{w:J3}:ArrivesIn ng P (lone (b.atR a (.code .ret::k)) cs w) b k cs .ret a w :=
 ⟨λ hn=>⟨_,.one trivial (stepR_ret hn)⟩,λ _=>⟨k,.refl _⟩⟩
def N_{D:Nat->Prop}{θ:Th}{b:Jj}{a:Act}{k:List Item}{cs:List Jj}{w:J3}(p:Option gH):∃e',yA D θ (po p) e' /\
 ArrivesIn ng P (lone (b.atR a (((p.map lG).map Item.code).toList++k)) cs w) b k cs e' a w:=by
 cases p with
 |none=>exact⟨.normal,trivial,.refl _⟩
 |some j =>
  cases j with
  |exit id=>exact⟨.exit id,rfl,Wc id⟩
  |goto l=>exact⟨.goto l,rfl,Vr l⟩
  |ret=>exact⟨.ret,trivial,U1⟩
def Xk{call:bN}{round:hO}{ctx:Ctx}(L:yq P base call){D:Nat->Prop}{θ:Th}{b:Jj}{nt:Nat}{st:St}{a:Act}{cs:List Jj}{w:J3}{k:List Item}{H0:ar}{aV:List aK}{w0:J3}{mark:List Deferred}{d:Nat}
 (hP:dB P) {g:IY} {A:Array Tmp} {as body:Code} {kk:Nat} {v:AV} {r:aS×St} {θ0:Th}
 (h0:HR P base (Up D st.H.au H0.au) θ0 H0 w0) (g0:bt D st.H θ w H0 θ0 w0) (Q:st.H.au<=H0.au) (F:SR P base D θ b nt ctx.round st a cs w) (hv:VR D θ v (a.eval g)) (hd:Up D st.H.au H0.au d)
 (hdf:gA (Up D st.H.au H0.au) θ0 aV (mark++a.defers)) (N:tu P ctx.fn kk a.tmps.size A as body) (hfn:b.fn=ctx.fn)
 (he:(Instr.enterLoop b.fn a.tmps A as body b.roundOf).run P w=.ok (w0.heap.size,mark) (w0.alloc (.loop {state:=.ready,pending:=B5,fn:=b.fn,tmps:=a.tmps,params:=A,assign:=as,body,defers:=θ0.bQ d})))
 (hr:ik call round ctx st kk H0 aV d v=B1 r) (hf:dL D st.H.au r.2.H.au) (hm:y9 call) :
 Out P base D θ b nt ctx.round k st cs w (lone (b.atR a (.code (.rangeFunc g A as body)::k)) cs w) r.1 r.2:=by
 unfold ik at hr;split at hr
 .rename_i f first cap
  simp only[cC,j5,qm,qd]at hr;have⟨⟨e,u,H'⟩,hcl,hr⟩:=hr;have O:H0.au+1<=H'.au:=(hm _ _ _ _ _ _ _ hcl).1;have hrn:r.2.H.au=H'.au/\r.2.aV=aV/\r.2.tm=st.tm/\r.2.up=st.up:=by
   unfold IP at hr;split at hr
   .grind
   .split at hr
    .cases hr
    .cases hr;exact⟨rfl,rfl,rfl,rfl⟩
    grind
  rw[hrn.1]at hf;have hn:¬Up D st.H.au H0.au H0.au:=λ q=>by
   rcases q with q|⟨_,q⟩
   .exact hf _ Q (by omega) q
   .omega
  -- the record
  have Y:=g0.ag;have G:=Th.gC θ0 H0.au w0.heap.size 0 0 hn;have⟨e1,e2,e3⟩:=Th.dY θ0 H0.au w0.heap.size 0 0;have m:∀x,D x->Up (Up D st.H.au H0.au) H0.au (H0.au+1) x:=λ x z=>.inl (.inl z);have V:Up (Up D st.H.au H0.au) H0.au (H0.au+1) H0.au:=.inr ⟨qg _,zd _⟩;have n:Ag D θ (θ0.add H0.au w0.heap.size 0 0):=Y.trans G (λ x z=>.inl z);have hR:mV P (Up (Up D st.H.au H0.au) H0.au (H0.au+1)) (θ0.add H0.au w0.heap.size 0 0) H0.au (.loop .ready B5 ctx.fn kk st.tm d)
   (.loop {state:=.ready,pending:=B5,fn:=b.fn,tmps:=a.tmps,params:=A,assign:=as,body,defers:=θ0.bQ d}) :=
   ⟨_,rfl,rfl,rfl,hfn,F.sj.up n m,N,.inl hd,((G d hd).1).symm⟩
  have h1:=h0.alloc hn (w':=w0.alloc (.loop {state:=.ready,pending:=B5,fn:=b.fn,tmps:=a.tmps,params:=A,assign:=as,body,defers:=θ0.bQ d})) (co:=.loop {state:=.ready,pending:=B5,fn:=b.fn,tmps:=a.tmps,params:=A,assign:=as,body,defers:=θ0.bQ d}) (k:=w0.heap.size) (off:=0) (ext:=0) (by rw[yP];simp)
   (by simp_all[yP,Im]) (qg _) (by simp) hR
  have g1:=bt.alloc (base:=base) h0 hn (.loop .ready B5 ctx.fn kk st.tm d) (.loop {state:=.ready,pending:=B5,fn:=b.fn,tmps:=a.tmps,params:=A,assign:=as,body,defers:=θ0.bQ d}) 0 0
  -- the call
  have⟨fi,ci,q3,q4,q5,q6⟩:=NU hv;have I:bH (Up (Up D st.H.au H0.au) H0.au (H0.au+1)) (θ0.add H0.au w0.heap.size 0 0) (first++(.fn (.yield H0.au) [] []::cap)) ((fi.toArray ++ #[Hm.func (.yield w0.heap.size) #[] #[]])++ci.toArray).toList:=by
   simp only[Array.toList_append,yo];refine(q4.up n m).app (.cons (λ θ'' h''=>?_) (q5.up n m));simp only[aq,eW,bO];rw[(h'' _ V).1,e1]
  have⟨⟨fn,c,k1,k2⟩,θ',w',cs',fr,e',s1,s2,s3,s4,S,s6,s7,s8,s9,s10⟩:=L _ _ _ _ f _ ((fi.toArray ++ #[Hm.func (.yield w0.heap.size) #[] #[]])++ci.toArray) B5 H' e u .normal
   (b.atR {a with defers:=mark++a.defers} (.inRangeFunc w0.heap.size::k)::cs) h1 I rfl hcl (λ x h3 h4 U=>by
    rw[Up.up Q (jt _)]at U;rcases U with U|⟨_,U⟩
    .exact hf x (by have:H0.au+1<=x:=h3;omega) h4 U
    .have:H0.au+1<=x:=h3;omega)
  have hcs:cs'=b.atR {a with defers:=mark++a.defers} (.inRangeFunc w0.heap.size::k)::cs:=s9;subst hcs;have t:=stepR_rangeFunc (P:=P) (b:=b) (a:=a) (k:=k) (cs:=cs) (w:=w) (g:=g) (l:=w0.heap.size) (d:={target:=.fn (.func f) ci.toArray,args:=fi.toArray ++ #[Hm.func (.yield w0.heap.size) #[] #[]]}) he
   (by
   show(AO (a.eval g) (#[IY.const (.func (.yield w0.heap.size) #[] #[])].map a.eval)).run P _=_;rw[q3];simp[AO,eW,Act.eval];rfl) (by
    show(callFunc f (_++ci.toArray)).run P _=_;exact MT hP k1 k2)
  have hl:=NP s4 s2;have hupa:Up (Up (Up D st.H.au H0.au) H0.au (H0.au+1)) (H0.au+1) H'.au=Up D st.H.au H'.au:=by
   rw[Up.up (jt _) O,Up.up Q (by omega)]
  have y:(H0.alloc (.loop .ready B5 ctx.fn kk st.tm d)).au=H0.au+1:=rfl;rw[y,hupa]at S s6 s10;have h:bt D st.H θ w H' θ' w':=(g0.trans g1 Up.of).trans s7 m;have W:∀x,Up D st.H.au H0.au x->Up D st.H.au H'.au x:=λ x z=>by
   rcases z with z|⟨h1,h2⟩
   .exact .inl z
   .exact .inr ⟨h1,by omega⟩
  have Z:Ag (Up D st.H.au H0.au) θ0 θ':=G.trans s7.ag (λ x z=>.inl z);have X:∀(E:ar)(R:J3),HR P base (Up D st.H.au H'.au) θ' E R->SR P base (Up D st.H.au H'.au) θ' b nt ctx.round {st with aV:=aV,H:=E} {a with defers:=mark++a.defers} cs R:=λ E R hh =>
   ⟨hh,F.sj.up h.ag Up.of,F.size,gA.up Z W hdf,oU.up h.ag Up.of F.up,vU.up h.ag Up.of F.round⟩
  unfold IP at hr;cases e with
  |panic ch =>
   cases hr;cases e' with
   |returned _=>exact S.elim
   |outgrown=>exact S.elim
   |panicked ps' =>
    refine⟨θ',_,w',cs,.panic ps',⟨.inRangeFunc w0.heap.size::k,Ab (.head t (s1.trans (.one (by rw[step_leave_panicked hl,BD]))))⟩,X _ _ s6,h,S,rfl,eP.refl F.up⟩
  |ret x =>
   cases e' with
   |panicked _=>exact S.elim
   |outgrown=>exact S.elim
   |returned cx =>
    have J:Steps P (lone (b.atR a (.code (.rangeFunc g A as body)::k)) cs w) (lone (b.atR {a with defers:=mark++a.defers} (.endRangeFunc w0.heap.size::k)) cs w'):=by
     exact .head t (s1.trans (.one (by rw[step_leave_returned hl,finish_atR_inRangeFunc])))
    simp only at hr;split at hr
    .cases hr
    .rename_i ls p f2 k2' tm2 d2 hnb j;cases hr;obtain⟨hDl',co,hco,rl,rfl,r1,r2,r3,r4,r5,r6,r7⟩:=s6.obj _ _ j;have s:θ'.bQ H0.au=w0.heap.size:=by rw[(s7.ag _ V).1,e1]
     rw[s]at hco;have K:rl.state≠ .busy:=by
      intro q;rw[r1]at q;cases ls with
      |busy=>grind
      |ready=>cases q
      |done=>cases q
      |exhausted=>cases q
     have hend:=run_endLoop (P:=P) hco K;have M:=stepR_endRangeFunc (b:=b) (a:={a with defers:=mark++a.defers}) (k:=k) (cs:=cs) hend;have C:=s6.set (o':=.loop .exhausted p f2 k2' tm2 d2) (co':=.loop {rl with state:=.exhausted}) j rfl rfl ⟨_,rfl,rfl,r2,r3,r4,r5,r6,r7⟩;rw[s]at C;have B:bt (Up D st.H.au H'.au) H' θ' w' (H'.set H0.au (.loop .exhausted p f2 k2' tm2 d2)) θ' (eO w' (θ'.bQ H0.au) (.loop {rl with state:=.exhausted})):=bt.set j rfl (s6.lt j);rw[s]at B;have⟨e'',k3,k4⟩:=N_ (P:=P) (D:=Up D st.H.au H'.au) (θ:=θ') (b:=b) (a:={a with defers:=mark++a.defers}) (k:=k) (cs:=cs) (w:=eO w' w0.heap.size (.loop {rl with state:=.exhausted})) p;rw[<-r2]at k4;exact⟨θ',_,_,cs,e'',.of_steps (Ab (J.trans (.one M))) k4,X _ _ C,h.trans B Up.of,k3,rfl,eP.refl F.up⟩
    grind
 grind
def Out.normal{D:Nat->Prop}{θ:Th}{b:Jj}{e:Nat}{rd:Option Nat}{k:List Item}{st:St}{cs:List Jj}{w:J3}{m:Machine}{c:St}(h:Out P base D θ b e rd k st cs w m .normal c) :
 ∃θ' d w' cs',Steps P m (lone (b.atR d k) cs' w')/\SR P base (Up D st.H.au c.H.au) θ' b e rd c d cs' w'/\bt D st.H θ w c.H θ' w'/\c.up.isSome=st.up.isSome/\eP st.up cs cs':=by
 have⟨θ',d,w',cs',e',f,g,j,l,n,p⟩:=h;cases e'<;>first|exact⟨θ',d,w',cs',AL f,g,j,n,p⟩|exact l.elim
def Out.head{D:Nat->Prop}{θ:Th}{b:Jj}{f:Nat}{rd:Option Nat}{k:List Item}{st:St}{cs:List Jj}{w:J3}{m d:Machine}{e:aS}{c:St}(hs:step P m=.next d)
 (h:Out P base D θ b f rd k st cs w d e c):Out P base D θ b f rd k st cs w m e c:=by
 have⟨θ',g,w',cs',e',j,l,n,p,q,r⟩:=h;exact⟨θ',g,w',cs',e',.of_steps (StepsIn.one trivial hs) j,l,n,p,q,r⟩
def UP(id c:Nat)(k:List Item):exitTo c (.inBlock id::k)=if id=c then B1 k else exitTo c k:=by
 simp[exitTo]
def IU{α:Type}(a b:List α)(i:Nat):nth (a++b) i=if i<a.length then nth a i else nth b (i-a.length):=by
 grind [kX]
set_option maxHeartbeats 1000000 in
def vY(R:dB P){rt:RT}(m:yq P base rt.call)(f:vz P base rt.round)(I:rt.AP=aU P)(z:y9 rt.call)(C:vR rt.round)(t:Jd P base rt)
 {fn:Func} {af:b9} (K:P.funcs[rt.ctx.fn]? = B1 fn) (J:rT P fn=B1 af):∀(c:Code){kk:Nat}{ac:ai}{L:List dT},bY P fn.ntmps kk c=B1 (ac,L)->(∀i l,nth L i=B1 l->nth af.loops (kk+i)=B1 l) ->
 ∀{D:Nat->Prop}{θ:Th}{b:Jj}{k:List Item}{st:St}{a:Act}{cs:List Jj}{w:J3}{r:aS×St},SR P base D θ b fn.ntmps rt.ctx.round st a cs w->b.fn=rt.ctx.fn->(bC ac).run rt st=B1 r ->
  dL D st.H.au r.2.H.au->Out P base D θ b fn.ntmps rt.ctx.round k st cs w (lone (b.atR a (.code c::k)) cs w) r.1 r.2
 | .skip,kk,ac,L,h,hL,D,θ,b,k,st,a,cs,w,r,s,hb,hr,B=>by
  injection h with h;injection h with u E;subst u
  injection hr with hr;subst hr
  exact .here s (e':=.normal) (StepsIn.one trivial stepR_skip) trivial
 | .label _,kk,ac,L,h,hL,D,θ,b,k,st,a,cs,w,r,s,hb,hr,B=>by
  injection h with h;injection h with u E;subst u
  injection hr with hr;subst hr
  exact .here s (e':=.normal) (StepsIn.one trivial stepR_label) trivial
 | .exit id,kk,ac,L,h,hL,D,θ,b,k,st,a,cs,w,r,s,hb,hr,B=>by
  injection h with h;injection h with u E;subst u
  injection hr with hr;subst hr
  exact .here s (Wc id) rfl
 | .goto l,kk,ac,L,h,hL,D,θ,b,k,st,a,cs,w,r,s,hb,hr,B=>by
  injection h with h;injection h with u E;subst u
  injection hr with hr;subst hr
  exact .here s (Vr l) rfl
 | .ret,kk,ac,L,h,hL,D,θ,b,k,st,a,cs,w,r,s,hb,hr,B=>by
  injection h with h;injection h with u E;subst u
  injection hr with hr;subst hr
  exact .here s U1 trivial
 | .refuse _,kk,ac,L,h,hL,D,θ,b,k,st,a,cs,w,r,s,hb,hr,B=>by
  injection h with h;injection h with u E;subst u
  cases hr
 | .region id ops draw,kk,ac,L,h,hL,D,θ,b,k,st,a,cs,w,r,s,hb,hr,B=>by
  simp only[bY,qd,qe,xx]at h;obtain⟨c,hc,rfl,rfl⟩:=h;cases draw with
  |false =>
   obtain⟨l,steps,u,E,N,rfl⟩:=xdu hc;exact .head stepR_region (Vm R m f I z C u E _ N s hr B)
  |true=>exact t _ id ops c hc D θ b k st a cs w r s hr B
 | .seq x y,kk,ac,L,h,hL,D,θ,b,k,st,a,cs,w,r,s,hb,hr,B=>by
  simp only[bY,qd,qe,xx]at h;obtain⟨⟨ax,M⟩,G,⟨ay,ly⟩,hy,rfl,rfl⟩:=h;simp only[bC,qd]at hr;obtain⟨⟨e,cQ⟩,V,hr⟩:=hr;have hmy:=(sn R y hy).1;have X:=JA z C (sn R x G).1 V;have W:∀i l,nth M i=B1 l->nth af.loops (kk+i)=B1 l:=λ i l hl=>hL i l (by
   rw[IU,qv]
   .exact hl
   .rw [kX]at hl;exact(qo.1 hl).1)
  have hLy:∀i l,nth ly i=B1 l->nth af.loops (kk+M.length+i)=B1 l:=λ i l hl=>by
   rw[yz];exact hL (M.length+i) l (by
    show nth (M++ly) (M.length+i)=_;rw[IU,qn (by omega),vj];exact hl)
  refine .head stepR_seq ?_
  by_cases he:e=.normal
  .subst he;simp only[rE]at hr;have A:=JA z C hmy hr;obtain⟨θ',Q,w',cs',u,E,N,F,O⟩:=(vY R m f I z C t K J x G W (k:=.code y::k) s hb V (B.left A)).normal;exact Out.after u N F O A (vY R m f I z C t K J y hy hLy E hb hr (B.right X))
  .have hn:vC e=false:=by cases e<;>first|rfl|exact absurd rfl he
   have hr':r=(e,cQ):=by
    cases e<;>first|exact absurd rfl he|(injection hr with hr;exact hr.symm)
   subst hr';exact Out.pass (x:=.code y) rfl hn (vY R m f I z C t K J x G W s hb V B)
 | .cond c x y,kk,ac,L,h,hL,D,θ,b,k,st,a,cs,w,r,s,hb,hr,B=>by
  simp only[bY,qd,qe,xx]at h;obtain⟨cc,hcc,⟨ax,M⟩,G,⟨ay,ly⟩,hy,rfl,rfl⟩:=h;simp only[bC,qd]at hr;obtain⟨v,hv,hr⟩:=hr;rw[Fu]at hv;have hvr:=BU (a:=a) s.heap s.sj hcc hv;have W:∀i l,nth M i=B1 l->nth af.loops (kk+i)=B1 l:=λ i l hl=>hL i l (by
   rw[IU,qv]
   .exact hl
   .rw [kX]at hl;exact(qo.1 hl).1)
  have hLy:∀i l,nth ly i=B1 l->nth af.loops (kk+M.length+i)=B1 l:=λ i l hl=>by
   rw[yz];exact hL (M.length+i) l (by
    show nth (M++ly) (M.length+i)=_;rw[IU,qn (by omega),vj];exact hl)
  unfold rO at hr;split at hr
  .rename_i q;refine .head (stepR_cond hvr.now.symm) ?_;cases q with
   |true=>exact vY R m f I z C t K J x G W s hb hr B
   |false=>exact vY R m f I z C t K J y hy hLy s hb hr B
  .cases hr
 | .block id x,kk,ac,L,h,hL,D,θ,b,k,st,a,cs,w,r,s,hb,hr,B=>by
  simp only[bY,qd,qe,xx]at h;obtain⟨⟨ax,M⟩,G,rfl,rfl⟩:=h;simp only[bC,qd]at hr;obtain⟨⟨e,cQ⟩,V,hr⟩:=hr;have Z:r.2=cQ:=by
   unfold jC at hr;split at hr<;>(injection hr with hr;subst hr;rfl)
  obtain⟨θ',Q,w',cs',e',u,E,N,F,O,S⟩:=vY R m f I z C t K J x G hL (k:=.inBlock id::k) s hb V (Z▸B);refine .head stepR_block ?_;rw[Z];unfold jC at hr;cases e with
  |normal =>
   injection hr with hr;subst hr
   cases e'<;>try exact F.elim
   exact⟨θ',Q,w',cs',.normal,StepsIn.trans u (.one trivial stepR_inBlock),E,N,trivial,O,S⟩
  |exit id' =>
   injection hr with hr;subst hr
   cases e'<;>try exact F.elim
   rename_i j;have F:j=id':=F;subst F;cases hbq:FW id j with
   |true =>
    simp only[je]at hbq;subst hbq;exact⟨θ',Q,w',cs',.normal,u.1 k (by rw[UP,qv rfl]),E,N,trivial,O,S⟩
   |false =>
    have hne:¬id=j:=by intro q;subst q;simp at hbq
    have G:exitTo j (.inBlock id::k)=exitTo j k:=by rw[UP,qn hne]
    exact⟨θ',Q,w',cs',.exit j,⟨λ k' hk=>u.1 k' (by rw[G];exact hk),λ hr hk=>u.2 hr (by rw[G];exact hk)⟩,E,N,rfl,O,S⟩
  |goto l =>
   injection hr with hr;subst hr
   cases e'<;>try exact F.elim
   rename_i j;have G:gotoIn j (.inBlock id::k)=gotoIn j k:=rfl;exact⟨θ',Q,w',cs',.goto j,⟨λ k' hk=>u.1 k' (by rw[G];exact hk),λ hr hk=>u.2 hr (by rw[G];exact hk)⟩,E,N,F,O,S⟩
  |ret =>
   injection hr with hr;subst hr
   cases e'<;>try exact F.elim
   exact⟨θ',Q,w',cs',.ret,u,E,N,trivial,O,S⟩
  |panic ch =>
   injection hr with hr;subst hr
   cases e'<;>try exact F.elim
   rename_i ps;exact⟨θ',Q,w',cs',.panic ps,u,E,N,F,O,S⟩
 | .scope x,kk,ac,L,h,hL,D,θ,b,k,st,a,cs,w,r,s,hb,hr,B=>by
  simp only[bY,qd,qe,xx]at h;obtain⟨⟨ax,M⟩,G,rfl,rfl⟩:=h;simp only[bC,qd]at hr;obtain⟨⟨e,cQ⟩,V,hr⟩:=hr;have Z:r=(e,cQ) /\ ∀l,e=.goto l->CF ax l=false:=by
   unfold kK at hr;split at hr
   .rename_i l he;simp only at he;rcases ju hr with⟨_,hr⟩|⟨hl,hr⟩
    .cases hr
    .injection hr with hr;subst he;exact⟨hr.symm,λ l' h'=>by injection h' with h';subst h';exact hl⟩
   .rename_i hne;injection hr with hr;exact⟨hr.symm,λ l' h'=>(hne l' h').elim⟩
  obtain⟨rfl,hlab⟩:=Z;obtain⟨θ',Q,w',cs',e',u,E,N,F,O,S⟩:=vY R m f I z C t K J x G hL (k:=.inScope x::k) s hb V B;refine .head xao ?_;cases e with
  |normal =>
   cases e'<;>try exact F.elim
   exact⟨θ',Q,w',cs',.normal,StepsIn.trans u (.one trivial q58),E,N,trivial,O,S⟩
  |exit id' =>
   cases e'<;>try exact F.elim
   rename_i j;have G:exitTo j (.inScope x::k)=exitTo j k:=rfl;exact⟨θ',Q,w',cs',.exit j,⟨λ k' hk=>u.1 k' (by rw[G];exact hk),λ hr hk=>u.2 hr (by rw[G];exact hk)⟩,E,N,F,O,S⟩
  |goto l =>
   cases e'<;>try exact F.elim
   rename_i j;have F:j=l:=F;subst F;have hfl:=q2d G (hlab j rfl);have hg:gotoIn j (.inScope x::k)=gotoIn j k:=by simp[gotoIn,hfl]
   exact⟨θ',Q,w',cs',.goto j,⟨λ k' hk=>u.1 k' (by rw[hg];exact hk),λ hr hk=>u.2 hr (by rw[hg];exact hk)⟩,E,N,rfl,O,S⟩
  |ret =>
   cases e'<;>try exact F.elim
   exact⟨θ',Q,w',cs',.ret,u,E,N,trivial,O,S⟩
  |panic ch =>
   cases e'<;>try exact F.elim
   rename_i ps;exact⟨θ',Q,w',cs',.panic ps,u,E,N,F,O,S⟩
 | .loop x,kk,ac,L,h,hL,D,θ,b,k,st,a,cs,w,r,s,hb,hr,B=>by
  simp only[bY,qd,qe,xx]at h;obtain⟨⟨ax,M⟩,G,rfl,rfl⟩:=h;simp only[bC]at hr;refine .head stepR_loop ?_;have X:=(sn R x G).1;have key:∀(n:Nat)(D:Nat->Prop)(θ:Th)(st:St)(a:Act)(cs:List Jj)(w:J3)(r:aS×St),SR P base D θ b fn.ntmps rt.ctx.round st a cs w->fP B5 ((bC ax).run rt) n st=B1 r->dL D st.H.au r.2.H.au ->
   Out P base D θ b fn.ntmps rt.ctx.round k st cs w (lone (b.atR a (.code x::.inLoop x::k)) cs w) r.1 r.2:=by
   intro n
   induction n with
   |zero=>intro D θ st a cs w r _ hr _;cases hr
   |succ n ih =>
    intro D θ st a cs w r s hr B;simp only[fP,qd]at hr;obtain⟨⟨e,cQ⟩,V,hr⟩:=hr;have hm1:=JA z C X V
    by_cases he:e=.normal
    .subst he;simp only at hr;have A:=xdd (λ st r h=>vZ z C X h) B5 n _ _ hr;obtain⟨θ',Q,w',cs',u,E,N,F,O⟩:=(vY R m f I z C t K J x G hL (k:=.inLoop x::k) s hb V (B.left A)).normal;exact Out.after (u.trans (.one stepR_inLoop)) N F O A (ih _ θ' cQ Q cs' w' r E hr (B.right hm1))
    .have hn:vC e=false:=by cases e<;>first|rfl|exact absurd rfl he
     have hr':r=(e,cQ):=by
      cases e<;>first|exact absurd rfl he|(injection hr with hr;exact hr.symm)
     subst hr';exact Out.pass (x:=.inLoop x) rfl hn (vY R m f I z C t K J x G hL s hb V B)
  exact key _ D θ st a cs w r s hr B
 | .rangeFunc g ps x y,kk,ac,L,h,hL,D,θ,b,k,st,a,cs,w,r,s,hb,hr,B=>by
  simp only[bY,qd]at h;obtain⟨cg,hcg,⟨ax,M⟩,G,⟨ay,ly⟩,hy,h⟩:=h;split at h
  .rename_i Y;have Y:∀p∈ps.toList,p<fn.ntmps:=λ p hp=>by
    rw[EZ]at Y
    simpa[uv]using Y p hp
   injection h with h;injection h with u E;subst u;subst E
   simp only[bC,qd]at hr;obtain⟨v,hv,hr⟩:=hr;rw[Fu]at hv;have hvr:=BU (a:=a) s.heap s.sj hcg hv;have U:tu P rt.ctx.fn kk a.tmps.size ps x y:=by
    refine⟨fn,af,_,kk+1,kk+1+M.length,M,ly,K,J,hL 0 _ rfl,rfl,Y,s.size,G,λ i l hl=>?_,hy,λ i l hl=>?_⟩
    .rw [yz];refine hL (1+i) l ?_;rw[Nat.add_comm 1 i,kX,zw,<-kX,IU,qv]
     .exact hl
     .rw [kX]at hl;exact(qo.1 hl).1
    .rw [yz,yz];refine hL (1+(M.length+i)) l ?_;rw[Nat.add_comm 1 _,kX,zw,<-kX];show nth (M++ly) (M.length+i)=_;rw[IU,qn (by omega),vj];exact hl
   unfold pI at hr;split at hr
   .rename_i hnone;have hro:b.roundOf=none:=by have:=s.round;rw[hnone]at this;exact this
    have A:st.H.au+1<=r.2.H.au:=by
     have:(st.H.alloc (.deferred (B1 []))).au<=r.2.H.au:=xad (st:={st with H:=st.H.alloc (.deferred (B1 []))}) z (Ext.refl _) hr;exact this
    have hn:¬D st.H.au:=B _ (qg _) A;have hag:=Th.gC θ st.H.au w.heap.size 0 0 hn;obtain⟨e1,e2,e3⟩:=Th.dY θ st.H.au w.heap.size 0 0;have hDn:Up D st.H.au (st.H.au+1) st.H.au:=.inr ⟨qg _,zd _⟩;have h0:=s.heap.alloc hn (w':=w.alloc (.deferred (B1 []))) (co:=.deferred (B1 [])) (o:=.deferred (B1 [])) (k:=w.heap.size) (off:=0) (ext:=0) (by rw[yP];simp)
     (λ j hj=>by rw[yP,qn (Im hj)]) (qg _) (by simp) ⟨B1 [],rfl,rfl,rfl⟩
    have g0:=bt.alloc (base:=base) s.heap hn (.deferred (B1 [])) (.deferred (B1 [])) 0 0;refine Xk m R (H0:=st.H.alloc (.deferred (B1 []))) (aV:=.im st.H.au::st.aV) (d:=st.H.au) (mark:=[{target:=.collected w.heap.size,args:=#[]}]) h0 g0 (jt _) s hvr hDn ⟨⟨hDn,by rw[e1]⟩,gA.up hag Up.of s.aV⟩ U hb ?_ hr B z;rw[hro,run_enterLoop_outer,e1];simp
   .rename_i l hl;simp only[qd]at hr;obtain⟨d,hd,hr⟩:=hr;unfold yD at hd;split at hd
    .rename_i f2 k2 tm2 d2 hget;injection hd with hd;subst hd
     obtain⟨hDl,co,hco,rl,rfl,r1,r2,r3,r4,r5,r6,r7⟩:=s.heap.obj _ _ hget;have hro:b.roundOf=B1 (θ.bQ l):=by have:=s.round;rw[hl]at this;exact this.2
     refine Xk m R (mark:=[]) (d:=d2) (by rw[Up.none];exact s.heap) (bt.refl _ _ _ _) (qg _) s hvr (by rw[Up.none];exact r6) (by rw[Up.none];exact s.aV) U hb ?_ hr B z;rw[hro,ι _ _ _ _ _ hco,r7]
    .cases hd
  .cases h
end
end Go.Am
