import Derived.Test.YtgjdmncoonceaaaGreatDoorAmLZa
import Derived.Deep.Upon
import Derived.Lib.UnsafeStr
import Derived.Defers
import Derived.RangeFuncRecord
import Derived.ControlIn
import Derived.RangeFuncIn
set_option linter.defProp false
set_option linter.unusedVariables false
set_option linter.unusedSimpArgs false
open Bool renaming false→B2,true→B4
open Go renaming Frame→O8,MapEntry→Bh,Oper→Pl,Operand→N2,Program→Jv,TypeId→Mj,Value→KP,World→NG
open Go.Addr.mk renaming injEq→C7
open Go.Builtin renaming append_→C4,clear_→Cr,firstCells→CU,zeroCells→BO
open Go.Deferred renaming ofValue→Bb
open Go.Frame renaming atR→CK,raise_atR→Cp
open Go.Instr renaming sameBits→Bg,sureAddr→CF
open Go.Oper renaming semAt_eq→Bv
open Go.Region renaming wanted→B9
open Go.Result renaming andThen_ok→NO
open Go.Sem renaming run_bind→Nw,run_pure→B8
open Go.StepsIn renaming of_steps→C1,steps→BR
open Go.Value.slice renaming injEq→BP
open Go.stepG renaming apply→CJ
open List renaming range→N5,replicate→Jr
open Nat renaming beq→JW,ble→Oh,blt→Pk
open Option renaming none→B5,some→B1
open Prod.mk renaming inj→D6
namespace Go.Am
def sX(P:Jv)(o:Pl)(xs:List N2)(f:List AV->ar->Option (AV×ar)):Prop :=
 ∀base(D:Nat->Prop)θ H(ρ:N2->KP)w vs v H',HR P base D θ H w->bM D θ vs (xs.map ρ)->f vs H=B1 (v,H')->eC D H.au H'.au ->
  ∃θ' w' c,sZ P (execOp ρ o) w c w'/\HR P base (Up D H.au H'.au) θ' H' w'/\bD D H θ w H' θ' w'/\VR (Up D H.au H'.au) θ' v c
section
variable{P:Jv}{base:Nat}{D:Nat->Prop}{θ:Th}{H:ar}{w:NG}
def _1{fz:Nat×Nat}{o n:Nat}(h:dE fz o n=B4):∀j,j<n -> ¬(fz.1<=o+j/\o+j<fz.2):=by
 intro j c;unfold dE at h;simp only[G8,uh]at h;omega
def xdo(pre cs post new:List KP)(o:Nat)(h:o+new.length<=cs.length) :
 ((pre++cs++post).toArray.toList.take (pre.length+o)++new++(pre++cs++post).toArray.toList.drop (pre.length+o+new.length))=pre++(cs.take o++new++cs.drop (o+new.length))++post:=by
 have e1:(pre++cs++post).take (pre.length+o)=pre++cs.take o:=by
  rw[jf,Qy,Qy];have:pre.length+o-pre.length-cs.length=0:=by omega
  simp_all[zi]
 have e2:(pre++cs++post).drop (pre.length+o+new.length)=cs.drop (o+new.length)++post:=by
  grind [IQ,List.drop_of_length_le]
 grind
def HR.store(r:HR P base D θ H w){b o:Nat}{new:List AV}{cs:List KP}{H':ar}(v:bM D θ new cs)(h:H.store b o new=B1 H') :
 ∃w',(storeCells ⟨θ.cm b,θ.off b+o,B5⟩ cs).run P w=.ok () w'/\HR P base D θ H' w'/\bD D H θ w H' θ w'/\H'.au=H.au:=by
 unfold ar.store at h;cases n:aN new with
 |false=>grind
 |true =>
  rw[n]at h;simp only[xu]at h;have y:=tN v n;have hlen:=v.length;split at h
  .rename_i c e fz hg;obtain⟨E,co,hc,hr⟩:=r.obj b _ hg;obtain⟨pre,d,post,p,G,rfl,l,q,z⟩:=hr;obtain⟨rfl,rfl,rfl,t⟩:=z rfl;have x:=q.length;cases u:dE fz o (cQ new)with
   |false=>grind
   |true =>
    rw[u]at h;simp only[xu,AZ]at h;split at h
    .rename_i hle;simp only[qr,qk]at h;subst h;have f:=_1 u;rw[IY]at f;have g:=S8 (P:=P) (θ.off b+o) cs 0 _ w hc (by grind) (λ j L=>by
      have:=f j (by omega);simp only[j7]at l;rcases t with t|⟨I,J⟩<;>omega) y
     rw[vx,<-l,xdo [] d [] cs o (by omega)]at g;rw[<-l];refine⟨_,g,?_,?_,rfl⟩
     .refine r.set hg rfl rfl ⟨[],d.take o++cs++d.drop (o+cs.length),[],p,_,rfl,l,?_,λ _=>(by grind)⟩;rw[hlen];exact((q.take o).app v).app (q.drop _)
     .exact bD.set hg rfl (r.lt hg)
    grind
  .rename_i m s c e fz hg;obtain⟨E,co,hc,hr⟩:=r.obj b _ hg;obtain⟨pre,d,post,p,rfl,l,q,z,A,B,C,K⟩:=hr;have x:=q.length;cases u:dE fz o (cQ new)with
   |false=>grind
   |true =>
    rw[u]at h;simp only[xu,AZ]at h;split at h
    .rename_i hle;simp only[qr,qk]at h;subst h;have f:=_1 u;rw[IY]at f;have g:=S8 (P:=P) (θ.off b+o) cs 0 _ w hc (by grind) (by grind [Tp]) y;rw[vx,<-l,xdo pre d post cs o (by omega)]at g;rw[<-l];refine⟨_,g,?_,?_,rfl⟩
     .have F:(d.take o++cs++d.drop (o+cs.length)).length=d.length:=by grind
      refine r.set hg rfl rfl ⟨pre,d.take o++cs++d.drop (o+cs.length),post,p,rfl,l,?_,?_,A,B,C,?_⟩
      .rw [hlen];exact((q.take o).app v).app (q.drop _)
      .grind
      grind
     .exact bD.set hg rfl (r.lt hg)
    grind
  grind
def xl7{o:Pl}{t:Mj}{x y:N2}{n:Nat}(ho:o.op=.store t x y)(hs:bU P t=B1 n):sX P o [x,y] (Op.store n):=by
 intro base D θ H ρ w vs v H' l h c j;unfold Op.store at c;split at c
 .rename_i b off a;obtain⟨q,r,he,ha,hb⟩:=h.rB;simp only[z8,uw]at he;obtain⟨rfl,rfl⟩:=he;cases hn:JW (cQ a.cells) n with
  |false=>grind
  |true =>
   rw[hn]at c;simp only[xu,qj,qk,zk]at c;obtain⟨H1,g,rfl,rfl⟩:=c;obtain⟨w',e,m,f,p⟩:=l.store hb.cells g;have hl:=hb.cells.length;simp only[IY,ke]at hn;have d:(ρ y).cells.size=n:=by grind
   refine⟨θ,w',_,.inr ⟨?_,rfl⟩,by grind [Up.none],f,.undef⟩;simp only[execOp,ho,<-ha.now,az,Instr.storeAt,CF,storeVar,Nw,B8,NO,vH hs,d,ne_eq,not_true_eq_false,oX,e]
 grind
def Z6{w:NG}{r:Nat}{o:Obj}{ms:Array Bh}{c:Nat}(h:w.heap[r]? = B1 (.map ms c)):(setObj r o).run P w=.ok () (fF w r o):=by
 simp[setObj,Sem.run,h,fF]
def HR.wO(d:HR P base D θ H w){b:Nat}{m:List (AV×AV×Nat)×Nat}(hm:H.fj b=B1 m){es:List (AV×AV×Nat)}{ms:List Bh}{c:Nat}(h:dB D θ es ms) :
 HR P base D θ (H.set b (.map es c)) (fF w (θ.cm b) (.map ms.toArray c))/\bD D H θ w (H.set b (.map es c)) θ (fF w (θ.cm b) (.map ms.toArray c)):=by
 obtain⟨hg,_,_⟩:=d.fj hm;exact⟨d.set hg rfl rfl ⟨ms,rfl,h⟩,bD.set hg rfl (d.lt hg)⟩
def xcu{o:Pl}{c:Call}{xs:List N2}{t s e:Mj}(ho:o.op=.call c)(hc:c.callee=.builtin .clear)(n:c.args.toList=xs)(l:c.argTypes[0]? = B1 t)
 (hu:P.underlying t=B1 (.map s e)):sX P o xs Op.bS:=by
 intro base D θ H ρ w vs v H' j h d p;obtain⟨u,g⟩:=LA (ρ:=ρ) ho hc;unfold Op.bS at d;split at d
 .obtain ⟨x,rfl,ha⟩:=h.p7;simp only[qk,zk]at d;obtain⟨rfl,rfl⟩:=d;refine⟨θ,w,.tuple #[],.inl ?_,by grind [Up.none],.refl _ _ _ _,.tuple .nil⟩;rw[g,AL n];simp[builtin,Cr,l,<-ha.now,az,ya hu]
 .rename_i b;obtain⟨x,rfl,ha⟩:=h.p7;simp only[qj,qk,zk]at d;obtain⟨m,hm,rfl,rfl⟩:=d;obtain⟨_,_,ms,f,y⟩:=j.fj hm;obtain⟨q,r⟩:=j.wO hm (c:=m.2) (es:=[]) (ms:=[]) trivial;refine⟨θ,_,.tuple #[],.inl ?_,by rw[show(H.set b (.map [] m.2)).au=H.au from rfl,Up.none];exact q,r,.tuple .nil⟩;rw[g,AL n];simp[builtin,Cr,l,<-ha.now,az,ya hu,KM f,Z6 f]
 grind
def t6{n:Nat}{a b:AV}{ca c:KP}(ha:VR D θ a ca)(hb:VR D θ b c)(h:Op.uJ a b=B4):Bg n ca c=true:=by
 rw[<-ha.now,<-hb.now];cases a<;>cases b<;>simp only[Op.uJ,zr]at h
 .grind [az,Bg]
 .simp_all [BV,UP,az,Bg]
 simp_all[MP,az,Bg,beq_toListBytes]
def q9f{n:Nat}:∀{a b:List AV}{ca c:List KP},bM D θ a ca->bM D θ b c->Op.fy a b=B4->ca.length=c.length/\((ca.zip c).all λ(x,y)=>Bg n x y)=B4
 |[],[],ca,c,ha,hb,_=>by rw[ha.mC,hb.mC];simp
 |a::x,b::y,ca,c,ha,hb,h=>by
  obtain⟨m,d,rfl,f,j⟩:=ha.eF;obtain⟨p,e,rfl,g,l⟩:=hb.eF;simp only[Op.fy]at h;cases hs:Op.uJ a b with
  |false=>grind
  |true =>
   rw[hs]at h;obtain⟨e1,e2⟩:=q9f (n:=n) j l h;simp only[zz,e1,List.zip_cons_cons,List.all_cons,t6 f g hs,Bool.true_and,e2,and_self]
 |[],_::_,_,_,_,_,h=>by cases h
 |_::_,[],_,_,_,_,h=>by cases h
theorem xki{n:Nat}{a b:AV}{ca d:KP}(ha:VR D θ a ca)(hb:VR D θ b d)(h:Op.stays a b=B4):Bg (n+1) ca d=true:=by
 by_cases c:(∃l,a=.agg l) /\ ∃l,b=.agg l
 .obtain ⟨⟨l,rfl⟩,⟨g,rfl⟩⟩:=c;obtain⟨cs,rfl,e⟩:=ha.fA;obtain⟨cs',rfl,f⟩:=hb.fA;obtain⟨e1,e2⟩:=q9f (n:=n) e f h
  grind [Bg]
 .refine t6 ha hb ?_;cases a<;>cases b<;>first|exact h|grind
def dB.get{D:Nat->Prop}{θ:Th}:∀(es:List (AV×AV×Nat))(ms:List Bh)(i:Nat)(e:AV×AV×Nat),dB D θ es ms->es[i]? = B1 e -> ∃m,ms[i]? = B1 m/\Q3 D θ e m
 |_::_,m::_,0,e,⟨h,_⟩,he=>(by grind)
 |_::es,_::ms,i+1,e,⟨_,h⟩,he=>by simpa using dB.get es ms i e h (by simpa using he)
 |[],_,_,_,_,he=>by grind
 |_::_,[],_,_,h,_=>h.elim
def dB.modify{D:Nat->Prop}{θ:Th}{k v:AV}{c cv:KP}(hk:VR D θ k c)(d:VR D θ v cv):∀(es:List (AV×AV×Nat))(ms:List Bh)(i:Nat),dB D θ es ms ->
 dB D θ (es.modify i λ e=>(k,v,e.2.2)) (ms.modify i λ e=>{e with key:=c,val:=cv})
 |[],[],_,_=>by grind
 |_::_,_::_,0,⟨⟨_,_,h3⟩,h⟩=>by simpa[dB]using⟨⟨hk,d,h3⟩,h⟩
 |_::es,_::ms,i+1,⟨h1,h⟩=>by simpa[dB]using⟨h1,dB.modify hk d es ms i h⟩
 |[],_::_,_,h=>h.elim
 |_::_,[],_,h=>h.elim
def dB.push{D:Nat->Prop}{θ:Th}{k v:AV}{d cv:KP}{c:Nat}(hk:VR D θ k d)(e:VR D θ v cv):∀(es:List (AV×AV×Nat))(ms:List Bh),dB D θ es ms ->
 dB D θ (es ++ [(k,v,c)]) (ms ++ [{key:=d,val:=cv,born:=c}])
 |[],[],_=>⟨⟨hk,e,rfl⟩,trivial⟩
 |_::es,_::ms,⟨h1,h⟩=>⟨h1,dB.push hk e es ms h⟩
 |[],_::_,h=>h.elim
 |_::_,[],h=>h.elim
def qv4{o:Pl}{t I e:Mj}{x y z:N2}{q:aR}(ho:o.op=.mapUpdate t x y z\/o.op=.insert t x y z)(hu:P.underlying t=B1 (.map I e))(G:p9 P I=B1 q) :
 sX P o [x,y,z] (Op.mapUpdate q):=by
 intro base D θ H ρ w vs v H' s h d L;unfold Op.mapUpdate at d;split at d
 .rename_i b k K;obtain⟨R,v0,N,he,ha,hb,hc⟩:=h.ti;simp only[z8,uw]at he;obtain⟨rfl,rfl,rfl⟩:=he;cases f:db q k with
  |false=>rw[f]at d;cases d
  |true =>
   rw[f]at d;simp only[xu,qj]at d;obtain⟨m,hm,r,hr,d⟩:=d;obtain⟨_,_,ms,j,l⟩:=s.fj hm;have hk:=λ em=>XG (em:=em) (w:=w) G hb f;obtain⟨J,F,g⟩:=h_ (w:=w) G hb l hr;cases r with
   |none =>
    cases J with
    |some _=>exact g.elim
    |none =>
     simp only[qk,zk]at d;obtain⟨rfl,rfl⟩:=d;obtain⟨C,E⟩:=s.wO hm (c:=m.2+1) (dB.push (c:=m.2) hb hc _ _ l);refine⟨θ,_,_,.inr ⟨?_,rfl⟩,by rw[show(H.set b (.map (m.1 ++ [(k,K,m.2)]) (m.2+1))).au=H.au from rfl,Up.none];exact C,E,.undef⟩;rcases ho with ho|ho<;>simp[execOp,ho,Instr.mapUpdate,<-ha.now,az,ya hu,hk,F,KM j,Z6 j]
   |some p =>
    obtain⟨i,pv⟩:=p;cases J with
    |none=>exact g.elim
    |some p' =>
     obtain⟨Q,pc⟩:=p';obtain⟨rfl,g⟩:=g;simp only[qj,jP]at d;obtain⟨en,n,d⟩:=d;cases B:Op.stays en.1 k with
     |false=>grind
     |true =>
      rw[B]at d;simp only[xu,qk,zk]at d;obtain⟨rfl,rfl⟩:=d;obtain⟨me,A,⟨e1,e2,O⟩⟩:=dB.get _ _ i en l n;have M:Bg 10000 me.key (ρ y)=true:=(by grind [xki])
      have u:(Instr.keyThatStays me.key (ρ y)).run P w=.ok (ρ y) w:=by simp_all[Instr.keyThatStays]
      obtain⟨C,E⟩:=s.wO hm (c:=m.2) (dB.modify hb hc _ _ i l);refine⟨θ,_,_,.inr ⟨?_,rfl⟩,by rw[show(H.set b (.map (m.1.modify i λ e=>(k,K,e.2.2)) m.2)).au=H.au from rfl,Up.none];exact C,E,.undef⟩;rcases ho with ho|ho<;>simp[execOp,ho,Instr.mapUpdate,<-ha.now,az,ya hu,hk,F,KM j,Z6 j,A,u]
 grind
end
end Go.Am
namespace Go.Am
section
variable{P:Jv}{base:Nat}{D:Nat->Prop}{θ:Th}{H:ar}{w:NG}
def HR.sub(h:HR P base D θ H w){H':ar}(hs:∀b o,H'.get b=B1 o->H.get b=B1 o):HR P base D θ H' w :=
 ⟨λ b o hb=>h.obj b o (hs b o hb),λ b d o o' hb c=>h.inj b d o o' (hs b o hb) (hs d o' c),λ b o hb=>h.lP b o (hs b o hb),h.eL,h.low⟩
theorem Yg(H:ar)(k:Nat):∀b o,(H.kill k).get b=B1 o->H.get b=B1 o:=by
 grind [ar.rH]
def bD.kill(H:ar)(k:Nat):bD D H θ w (H.kill k) θ w :=
 ⟨qm _,Ag.refl _ _,qm _,rfl,rfl,rfl,λ _ _ _=>rfl,λ b o h ho _=>(by grind [Yg])⟩
def HR.move(h:HR P base D θ H w)(hn:¬D H.au){b:Nat}{o o':bE}{co':Obj}{off ext:Nat}(hb:H.get b=B1 o)(ho:own o=B4)(F:own o'=B4)
 (hr:oR P (Up D H.au (H.au+1)) (θ.add H.au (θ.cm b) off ext) H.au o' co') :
 HR P base (Up D H.au (H.au+1)) (θ.add H.au (θ.cm b) off ext) ((H.kill b).alloc o') (fF w (θ.cm b) co') /\
 bD D H θ w ((H.kill b).alloc o') (θ.add H.au (θ.cm b) off ext) (fF w (θ.cm b) co'):=by
 have p:=h.lt hb;have m:=Th.gZ θ H.au (θ.cm b) off ext hn;have⟨e1,e2,I⟩:=Th.eO θ H.au (θ.cm b) off ext;have old:∀x c,H.get x=B1 c->(θ.add H.au (θ.cm b) off ext).cm x = θ.cm x:=λ x c f=>(m x (h.obj x c f).1).1;have d:∀x c,((H.kill b).alloc o').get x=B1 c->(x=H.au/\c=o')\/(x≠H.au/\x≠b/\H.get x=B1 c):=by
  intro x c f;rw[ar.bN,ar.rH]at f
  by_cases e:H.au=x
  .rw [xg (show(H.kill b).au=x from e)]at f
   grind
  .rw [qy (show¬(H.kill b).au=x from e)]at f
   grind
 refine⟨⟨λ x c f=>?_,λ x y c q f G l v=>?_,λ x c f l=>?_,λ g hg=>?_,by rw[Uc];exact h.low⟩,⟨jy _,m,by simp_all[Uc],rfl,rfl,rfl,λ k hk E=>?_,λ x c f l A=>?_⟩⟩
 .rcases d x c f with⟨rfl,rfl⟩|⟨z,s,j⟩
  .exact ⟨.inr ⟨qm _,zu _⟩,co',by rw[e1,Mb _ _ _ _ p];simp,hr⟩
  .have ⟨n,co,t,u⟩:=h.obj x c j;refine⟨.inl n,co,?_,u.up n m Up.of⟩;rw[old x c j,Mb _ _ _ _ p,qy (h.inj b x o c hb j ho (by omega))];exact t
 .rcases d x c f with⟨rfl,rfl⟩|⟨z,s,j⟩<;>rcases d y q G with⟨rfl,rfl⟩|⟨J,K,r⟩
  .omega
  .rw [e1,old y q r];exact h.inj b y o q hb r ho (by omega)
  .rw [e1,old x c j];exact h.inj x b c o j hb l s
  .rw [old x c j,old y q r];exact h.inj x y c q j r l v
 .rcases d x c f with⟨rfl,rfl⟩|⟨z,s,j⟩
  .rw [e1];exact h.lP b o hb ho
  .rw [old x c j];exact h.lP x c j l
 .have ⟨n,t,u⟩:=h.eL g hg;have⟨B,C,_⟩:=m g n;exact⟨.inl n,B.trans t,C.trans u⟩
 .simp_all [Mb]
 grind
def Mw(t:HR P base D θ H w){tx:Mj}(hk:(∃e',P.underlying tx=B1 (.slice e'))\/P.underlying tx=B1 .string){x:AV}{c:KP}{size k:Nat}{l:List AV}
 (p:VR D θ x c) (hl:eJ x=B1 k) (h:firstCells H size k x=B1 l) (C:aN l=B4):∃cs,Src P size tx c k cs w/\bM D θ l cs:=by
 cases hs:isStr x with
 |true =>
  cases x<;>try (cases hs)
  rename_i s;simp only[eJ,IY,qk]at hl;subst hl;simp only[firstCells,LF]at h;cases f:JW size 1 with
  |false=>grind
  |true =>
  rw[f]at h;simp only[xu,qk]at h;subst h;simp only[ke]at f;subst f;rw[<-p.now];show∃cs,Src P 1 tx (.string ⟨s.toArray⟩) s.length cs w/\bM D θ _ cs;have r:∀w:NG,(CU 1 s.length (.string ⟨s.toArray⟩)).run P w=.ok (s.map λ b=>KP.int .u8 b.toNat).toArray w:=by
   intro w;have:=firstCells_string (P:=P) ⟨s.toArray⟩ w;rw[LC]at this;exact this
  refine⟨s.map λ b=>.int .u8 b.toNat,⟨hk,λ w'=>?_,r w,r w.drew,by simp,λ u hu=>?_⟩,λ θ' _=>by rw[vO,AJ];rfl⟩
  .show Result.ok (ByteArray.size ⟨s.toArray⟩) w'=_;rw[LC]
  .obtain ⟨_,_,rfl⟩:=Gs.1 hu;rfl
 |false =>
  obtain⟨a,len,cap,rfl,rfl,e⟩:=UZ t p hl (qm _) hs h;obtain⟨J,v,q,j,rfl,d⟩:=UZ (t.draw (w':=w.drew) rfl) p hl (qm _) hs h;injection j with m E n;subst m;subst n
  rcases e with⟨rfl,rfl,_,F⟩|⟨ad,cs,rfl,z,g,A⟩
  .exact ⟨[],⟨hk,λ _=>rfl,rfl,rfl,by grind,by simp⟩,.nil⟩
  .rcases d with⟨B,_⟩|⟨y,cs',he,G,I,K⟩
   .cases B
   .cases he;have:cs'=cs:=by rw[<-I.now,<-g.now]
    subst this;exact⟨cs',⟨hk,λ _=>rfl,z,G,by rw[g.length];exact A,tN g C⟩,g⟩
def ZV{t tx ty e:Mj}{i:TypeInfo}(g:P.underlying t=B1 (.slice e))(f:P.info? e=B1 i){a:Addr}{sLen sCap n:Nat}{x:KP}{news:List KP}(hs:Src P i.size tx x n news w)
 (c:sLen+n<=sCap) {w':NG} (d:(storeCells (a.add (sLen*i.size)) news).run P w=.ok () w') :
 (C4 #[t,tx] ty #[.slice (B1 a) sLen sCap,x]).run P w=.ok (.slice (B1 a) (sLen+n) sCap) w':=by
 rcases hs.kind with⟨e',hk⟩|hk<;>simp[C4,run_underlying g,run_underlying hk,sizeOf,typeInfo,f,hs.len,c,hs.cells,d]
def xb3(z:Array KP)(n:Nat):(BO z n).size=n*z.size:=by simp[BO]
def xju{D':Nat->Prop}{θ':Th}{id m size:Nat}{cells:List AV}{cs rest:List KP}{e:Mj}{fz:Nat×Nat}(h:bM D' θ' cells cs)(ho:θ'.off id=0)(hl:cells.length=m*size)
 (hr:rest.length = θ'.ext id*size) (c:0<size) (hm:m + θ'.ext id<=maxLen):oR P D' θ' id (.grown m size cells e fz) (.cells (cs++rest).toArray e (0,0)) :=
 ⟨[],cs,rest,(0,0),by simp,by grind,h,hl,hr,c,hm,.inl rfl⟩
def HR.grow(E:HR P base D θ H w)(hn:¬D H.au){t tx ty e:Mj}{i:TypeInfo}{z:KP}(J:P.underlying t=B1 (.slice e))(I:P.info? e=B1 i)(K:i.zero=B1 z)(B:z.cells.size=i.size)
 (G:0<i.size) {bs:Option Addr} {sLen sCap n:Nat} {x:KP} {old new:List AV} {olds news:List KP} (hold:(CU i.size sLen (.slice bs sLen sCap)).run P w.drew=.ok olds.toArray w.drew)
 (hs:Src P i.size tx x n news w) (hg:sCap<sLen+n) (r:fits (sLen+n) i.bytes=B4) (ho:bM D θ old olds) (j:bM D θ new news) (y:old.length=sLen*i.size) (fz:Nat×Nat) :
 ∃θ' w' c,(C4 #[t,tx] ty #[.slice bs sLen sCap,x]).run P w=.ok c w'/\HR P base (Up D H.au (H.au+1)) θ' (dC H e i.size (sLen+n) (kK old new) fz).2 w' /\
  bD D H θ w (dC H e i.size (sLen+n) (kK old new) fz).2 θ' w'/\VR (Up D H.au (H.au+1)) θ' (dC H e i.size (sLen+n) (kK old new) fz).1 c:=by
 unfold fits at r;simp only[zf,uh]at r;have⟨F,L⟩:=r;have d:=run_append_grow_src (P:=P) w t tx ty e i z J I K bs sLen sCap olds hold x n news hs hg (by omega) (growslice_fits hg F);have g:=grownCap_ge w (sLen+n) sCap e;have p:=grownCap_le_maxLen w (sLen+n) sCap e (by unfold maxLen;omega);generalize grownCap w (sLen+n) sCap e=cap at d g p;have v:=hs.newsLen;have hlen:(kK old new).length=(sLen+n)*i.size:=by
  rw[pO,qv,y,<-j.length,v,y9]
 have q:(Obj.cells ((olds++news).toArray++BO z.cells (cap-(sLen+n))) e:Obj)=.cells ((olds++news)++(BO z.cells (cap-(sLen+n))).toList).toArray e (0,0):=by
  simp_all
 have l:=Th.gZ θ H.au w.drew.heap.size 0 (cap-(sLen+n)) hn;have A:bM (Up D H.au (H.au+1)) (θ.add H.au w.drew.heap.size 0 (cap-(sLen+n))) (kK old new) (olds++news):=by
  rw[pO];exact(ho.app j).up l Up.of
 have⟨e1,e2,C⟩:=Th.eO θ H.au w.drew.heap.size 0 (cap-(sLen+n));have hR:=xju (P:=P) (id:=H.au) (m:=sLen+n) (size:=i.size) (e:=e) (fz:=fz) (rest:=(BO z.cells (cap-(sLen+n))).toList) A e2 hlen
  (by rw[C,Array.length_toList,xb3,B]) G (by rw[C];omega)
 rw[<-q]at hR;refine⟨_,_,_,d,HR.alloc (w:=w.drew) (E.draw rfl) hn ?_ ?_ (qm _) ?_ hR,?_,?_⟩
 .rw [Dv];simp
 .simp_all [Dv,K5]
 .simp_all
 .exact (bD.draw (w:=w) (w':=w.drew) rfl rfl rfl rfl).trans (bD.alloc (w:=w.drew) (E.draw rfl) hn _ _ _ _) (λ _ h=>h)
 .have u:(Up D H.au (H.au+1)) H.au:=.inr ⟨qm _,zu _⟩;have:=VR.gslice (θ:=θ.add H.au w.drew.heap.size 0 (cap-(sLen+n))) (i:=0) (m:=sLen+n) (s:=i.size) (alt:=0) (n:=sLen+n) u;intro θ'' f;show az θ'' (.gslice H.au 0 (sLen+n) i.size 0 (sLen+n))=_;rw[this θ'' f];simp_all[az]
def Pa{b i m s alt n:Nat}{c:KP}(h:VR D θ (.gslice b i m s alt n) c):c=.slice (B1 ⟨θ.cm b,θ.off b+(if(m-i) + θ.ext b=0 then alt else i*s),B5⟩) n ((m-i) + θ.ext b):=by
 rw[<-h.now];rfl
theorem MU{b o n d:Nat}{c:KP}(h:VR D θ (.slice b o n d) c):c=.slice (B1 ⟨θ.cm b,θ.off b+o,B5⟩) n d:=by
 rw[<-h.now];rfl
def HR.Ms(O:HR P base D θ H w)(hn:¬D H.au){t tx ty e:Mj}{i:TypeInfo}{z:KP}(ht:P.underlying t=B1 (.slice e))(hi:P.info? e=B1 i)(hz:i.zero=B1 z)(X:z.cells.size=i.size)
 (Y:0<i.size) {b k m sLen n:Nat} {c:List AV} {fz d:Nat×Nat} {alt:Nat} {s x:KP} {old new:List AV} {news:List KP} (hg:H.get b=B1 (.grown m i.size c e fz))
 (V:VR D θ (.gslice b k m i.size alt sLen) s) (hs:Src P i.size tx x n news w) (p:bM D θ new news) (hn0:0<n) (hkm:k+sLen<=m) (Z:m<k+sLen+n) (hf:fits (sLen+n) i.bytes=B4)
 (hold:fR c (k*i.size) (sLen*i.size)=B1 old)
 (N:(fz.2<fz.1\/fz.2<=(k+sLen)*i.size)/\((k=0/\d=fz)\/(fz.2<=k*i.size/\d=cond (JW fz.1 fz.2) (0,0) (1,0)))) :
 ∃θ' w' v,(C4 #[t,tx] ty #[s,x]).run P w=.ok v w'/\HR P base (Up D H.au (H.au+1)) θ' (dC (H.kill b) e i.size (sLen+n) (kK old new) d).2 w' /\
  bD D H θ w (dC (H.kill b) e i.size (sLen+n) (kK old new) d).2 θ' w'/\VR (Up D H.au (H.au+1)) θ' (dC (H.kill b) e i.size (sLen+n) (kK old new) d).1 v:=by
 have U:=Pa V;subst U;obtain⟨hd,co,hc,pre,cs,post,g,rfl,r2,r3,r4,r5,r6,r7,r8⟩:=O.obj b _ hg;have B:=r3.length;have C:=hs.newsLen;rw[tR]at hold;have hle:sLen*i.size<=c.length-k*i.size:=by
  grind
 rw[xg hle]at hold;cases hold;have r:bM D θ ((c.drop (k*i.size)).take (sLen*i.size)) ((cs.drop (k*i.size)).take (sLen*i.size)):=(r3.drop _).take _;have hkc:(k+sLen)*i.size<=c.length:=by simp_all[yd]
 have R:(k+sLen)*i.size=k*i.size+sLen*i.size:=y9 _ _ _
 by_cases u:sLen+n<=(m-k) + θ.ext b
 .-- in place
  have f:¬(m-k) + θ.ext b=0:=by omega
  rw[qy f];have htot:(k+sLen+n)*i.size<=cs.length+post.length:=by
   rw[B,r4,r5,<-y9];exact yd _ (by omega)
  have J:(k+sLen+n)*i.size=k*i.size+sLen*i.size+n*i.size:=by grind
  have F:=S8 (P:=P) (θ.off b+k*i.size+sLen*i.size) news 0 _ w hc (by grind) (by grind [Tp]) hs.one;rw[vx]at F;have E:=ZV (ty:=ty) ht hi (a:=⟨θ.cm b,θ.off b+k*i.size,B5⟩) (sLen:=sLen) (sCap:=(m-k) + θ.ext b) hs u (by rw[yJ];exact F)
  -- the block's cells from the slice's head on
  have hw:((pre++cs++post).take (θ.off b+k*i.size+sLen*i.size)++news++(pre++cs++post).drop (θ.off b+k*i.size+sLen*i.size+news.length)) =
   (pre++cs.take (k*i.size))++((cs.drop (k*i.size)).take (sLen*i.size)++news)++(pre++cs++post).drop (θ.off b+k*i.size+sLen*i.size+news.length):=by
   have e1:(pre++cs++post).take (θ.off b+k*i.size+sLen*i.size)=pre++cs.take (k*i.size)++(cs.drop (k*i.size)).take (sLen*i.size):=by
    rw[jf,Qy,zi (l:=pre) (by omega),jf,show θ.off b+k*i.size+sLen*i.size-pre.length=k*i.size+sLen*i.size from by omega,Qy,
     show k*i.size+sLen*i.size-cs.length=0 from by omega,y8,zn,List.take_add]
   grind
  have L:((pre++cs++post).drop (θ.off b+k*i.size+sLen*i.size+news.length)).length=((m-k) + θ.ext b-(sLen+n))*i.size:=by
   rw[jq,qv,qv,C,Nat.sub_mul,y9,y9,Nat.sub_mul,B,r4,r5,r2];omega
  have K:=Th.gZ θ H.au (θ.cm b) (θ.off b+k*i.size) ((m-k) + θ.ext b-(sLen+n)) hn;have⟨e1,e2,e3⟩:=Th.eO θ H.au (θ.cm b) (θ.off b+k*i.size) ((m-k) + θ.ext b-(sLen+n));have W:((cs.drop (k*i.size)).take (sLen*i.size)).length=sLen*i.size:=by rw[jr,jq];omega
  have⟨G,I⟩:=O.move hn (o':=.grown (sLen+n) i.size (kK ((c.drop (k*i.size)).take (sLen*i.size)) new) e d) (co':=.cells ((pre++cs.take (k*i.size))++((cs.drop (k*i.size)).take (sLen*i.size)++news)++(pre++cs++post).drop (θ.off b+k*i.size+sLen*i.size+news.length)).toArray e g)
   (off:=θ.off b+k*i.size) (ext:=(m-k) + θ.ext b-(sLen+n)) hg rfl rfl ⟨_,_,_,g,rfl,by grind,by rw[pO];exact(r.app p).up K Up.of,
    by rw[pO,qv,<-r.length,W,<-p.length,C,y9],by grind,Y,by omega,by
     rw[e2];have j:(pre++cs.take (k*i.size)).length+((cs.drop (k*i.size)).take (sLen*i.size)++news).length+((pre++cs++post).drop (θ.off b+k*i.size+sLen*i.size+news.length)).length=pre.length+cs.length+post.length:=by
      rw[<-qv,<-qv,<-hw];simp;omega
     rw[j];obtain⟨_,q|⟨q1,q2⟩⟩:=N
     .simp_all
     .unfold Tp at r8⊢;cases A:JW fz.1 fz.2 with
      |true =>
       simp only[ke]at A;omega
      |false =>
       rw[A]at q2;subst q2;have:¬fz.1=fz.2:=by grind [Nat.beq_refl]
       simp only[zp];omega⟩
  refine⟨θ.add H.au (θ.cm b) (θ.off b+k*i.size) ((m-k) + θ.ext b-(sLen+n)),_,_,E,?_,?_,?_⟩
  .rw [show(pre++cs++post).toArray.toList=pre++cs++post from rfl,hw];exact G
  .rw [show(pre++cs++post).toArray.toList=pre++cs++post from rfl,hw];exact I
  .have Q:(Up D H.au (H.au+1)) H.au:=.inr ⟨qm _,zu _⟩;have:=VR.gslice (θ:=θ.add H.au (θ.cm b) (θ.off b+k*i.size) ((m-k) + θ.ext b-(sLen+n))) (i:=0) (m:=sLen+n) (s:=i.size) (alt:=0) (n:=sLen+n) Q;intro θ'' y;show az θ'' (.gslice H.au 0 (sLen+n) i.size 0 (sLen+n))=_;rw[this θ'' y];simp_all[az]
 .have M:(CU i.size sLen (.slice (B1 ⟨θ.cm b,θ.off b+(if(m-k) + θ.ext b=0 then alt else k*i.size),B5⟩) sLen ((m-k) + θ.ext b))).run P w.drew=.ok ((cs.drop (k*i.size)).take (sLen*i.size)).toArray w.drew:=by
   by_cases S:sLen=0
   .subst S;show(loadCells _ (0*i.size)).run P w.drew=_;rw[Ax,y8];rfl
   .have f:¬(m-k) + θ.ext b=0:=by omega
    rw[qy f];show(loadCells _ (sLen*i.size)).run P w.drew=_;have:=_s (P:=P) (w:=w.drew) (k:=θ.cm b) (fz:=g) (e:=e) (arr:=(pre++cs++post).toArray) hc (pre.length+k*i.size) (sLen*i.size) (by grind);rw[_i pre cs post _ _ (by omega),r2]at this;exact this
  have:=(O.sub (Yg H b)).grow (ty:=ty) (H:=H.kill b) hn ht hi hz X Y M hs (by omega) hf r p (by rw[jr,jq];omega) d;have⟨θ',w',v,G,I,g3,g4⟩:=this;exact⟨θ',w',v,G,I,(bD.kill H b).trans g3 (λ _ h=>h),g4⟩
def G2{e:Mj}{n z:Nat}{g:AV}(hs:bU P e=B1 n)(hb:nh P e=B1 z)(c:zeroOf P e=B1 g)(m:g.cells.length=n) :
 ∃i d,P.info? e=B1 i/\i.size=n/\i.bytes=z/\i.zero=B1 d/\d.cells.size=n:=by
 have⟨i,f,h⟩:=He hs;unfold nh at hb;rw[f]at hb;simp only[qr,qk]at hb;unfold zeroOf at c;rw[f]at c;simp only[qr,qj]at c;have⟨d,j,l⟩:=c;refine⟨i,d,f,h,hb,j,?_⟩;have:=(Tj (D:=λ _=>False) (θ:=⟨λ _=>0,λ _=>0,λ _=>0⟩) l).cells.length
 grind
def xn1{b o n d:Nat}{c:KP}(h:VR D θ (.slice b o n d) c)(n':Nat):VR D θ (.slice b o n' d) (.slice (B1 ⟨θ.cm b,θ.off b+o,B5⟩) n' d):=λ θ' ha=>by
 have:=(h θ' ha).trans h.now.symm;simp_all[az]
def xi9{b i m s alt n:Nat}{c:KP}(h:VR D θ (.gslice b i m s alt n) c)(n':Nat):VR D θ (.gslice b i m s alt n') (.slice (B1 ⟨θ.cm b,θ.off b+(if(m-i) + θ.ext b=0 then alt else i*s),B5⟩) n' ((m-i) + θ.ext b)):=λ θ' ha=>by
 have:=(h θ' ha).trans h.now.symm;simp only[az,BP,qk,C7,uw,Gn]at this
 grind [az]
def xi5{o:Pl}{c:Call}{xs:List N2}{t tx e:Mj}{sz z:Nat}{zv:AV}(ho:o.op=.call c)(hc:c.callee=.builtin .append)(hx:c.args.toList=xs)(hts:c.argTypes.toList=[t,tx])
 (hu:P.underlying t=B1 (.slice e)) (hk:(∃e',P.underlying tx=B1 (.slice e'))\/(P.underlying tx=B1 .string)) (hs:bU P e=B1 sz) (hb:nh P e=B1 z) (hz:zeroOf P e=B1 zv) (hzn:zv.cells.length=sz) :
 sX P o xs (Op.append e sz z):=by
 intro base D θ H ρ w vs v H' L h d S;obtain⟨cc,hE⟩:=LA (ρ:=ρ) ho hc;have hats:c.argTypes = #[t,tx]:=by grind
 obtain⟨i,zc,X,rfl,rfl,U,W⟩:=G2 hs hb hz hzn;unfold Op.append at d;split at d
 .rename_i a b;obtain⟨x,y,rfl,ha,hbv⟩:=h.rB;simp only[qj]at d;obtain⟨n,hn,new,Z,d⟩:=d;cases M:aN new with
  |false=>grind
  |true =>
   rw[M]at d;simp only[xu]at d;obtain⟨news,j,A⟩:=Mw L (tx:=tx) hk hbv hn Z M;have g:∀(I:KP)(w':NG),(C4 #[t,tx] o.type #[ρ x,ρ y]).run P w=.ok I w'->(execOp ρ o).run P w=.ok (.value I) w':=by
    simp_all[AL,builtin]
   have hnl:=j.newsLen;have hnlen:=A.length;have f:n=0 -> ∀bs len J,ρ x=.slice bs len J->len<=J->(C4 #[t,tx] o.type #[ρ x,ρ y]).run P w=.ok (ρ x) w:=by
    intro p bs len J he hle;simp_all[run_append_nothing]
   unfold cO at d;split at d
   .-- nil
    cases p:JW n 0 with
    |true =>
     rw[p]at d;simp only[xu,qk,zk]at d;obtain⟨rfl,rfl⟩:=d;exact⟨θ,w,ρ x,.inl (g _ _ (f (by simpa using p) B5 0 0 ha.now.symm (qm _))),by grind [Up.none],.refl _ _ _ _,by grind [Up.none]⟩
    |false =>
     rw[p]at d;simp only[zp]at d;cases B:(fits n i.bytes && Pk 0 i.size)with
     |false=>grind
     |true =>
      rw[B]at d;simp only[xu,qk]at d;simp only[zf,zU]at B;have hn0:n≠0:=by intro q;simp_all
      obtain⟨θ',w',I,N,s,u,l⟩:=L.grow (ty:=o.type) (S H.au (qm _) (by rw[<-(D6 d).2];exact zu _)) hu X U W B.2 (bs:=B5) (sLen:=0) (sCap:=0) (old:=[]) (olds:=[]) rfl j (by omega) (by grind) .nil A (by simp) (0,0);rw[show kK ([]:List AV) new=new from rfl,yf]at s u l;rw[d]at s u l;have:H'.au=H.au+1:=by rw[<-(D6 d).2];rfl
      rw[<-this]at s l;refine⟨θ',w',I,.inl (g _ _ ?_),s,u,l⟩;rw[<-ha.now];exact N
   .-- a slice of a row
    rename_i bb oo len J;cases hle:Oh (len+n) J with
    |true =>
     rw[hle]at d;simp only[uh]at hle;simp only[xu]at d;cases p:JW n 0 with
     |true =>
      rw[p]at d;simp only[xu,qk,zk]at d;obtain⟨rfl,rfl⟩:=d;simp only[ke]at p;subst p;exact⟨θ,w,ρ x,.inl (g _ _ (f rfl _ len J (MU ha) (by omega))),by grind [Up.none],.refl _ _ _ _,by grind [Up.none]⟩
     |false =>
      rw[p]at d;simp only[zp,qj,qk,zk]at d;obtain⟨H1,h1,rfl,rfl⟩:=d;obtain⟨w',N,s,u,l⟩:=L.store A h1;refine⟨θ,w',_,.inl (g _ _ ?_),by grind [Up.none],u,by rw[l,Up.none];exact xn1 ha _⟩;rw[MU ha];exact ZV hu X j hle (by grind [yJ])
    |false =>
     rw[hle]at d;have Y:¬len+n<=J:=by grind [Nat.ble_eq_true_of_le]
     simp only[zp]at d;cases B:(fits (len+n) i.bytes && Oh J (len+n) && Pk 0 i.size)with
     |false=>grind
     |true =>
      rw[B]at d;simp only[xu,qj,qk]at d;obtain⟨old,hold,d⟩:=d;simp only[zf,zU]at B;obtain⟨olds,k1,k2,k3⟩:∃olds:List KP,(CU i.size len (ρ x)).run P w.drew=.ok olds.toArray w.drew/\bM D θ old olds/\old.length=len*i.size:=by
       obtain⟨ad,len',cap',O,hl',Q⟩:=UZ (L.draw (w':=w.drew) rfl) ha (n:=len) rfl (qm _) rfl hold;rcases Q with⟨rfl,rfl,_,p⟩|⟨ad',cs',rfl,k1,k2,k3⟩
       .rw [MU ha]at O;cases O
       .exact ⟨cs',by rw[O];exact k1,k2,k3⟩
      rw[MU ha]at k1;obtain⟨θ',w',I,N,s,u,l⟩:=L.grow (ty:=o.type) (S H.au (qm _) (by rw[<-(D6 d).2];exact zu _)) hu X U W B.2 k1 j (by omega) B.1.1 k2 A k3 (0,0);rw[d]at s u l;have:H'.au=H.au+1:=by rw[<-(D6 d).2];rfl
      rw[<-this]at s l;refine⟨θ',w',I,.inl (g _ _ ?_),s,u,l⟩
      grind [MU]
   .-- a slice of a grown row
    rename_i bb ii m sz alt len;cases p:JW n 0 with
    |true =>
     rw[p]at d;simp only[xu]at d;cases F:Oh (ii+len) m with
     |false=>grind
     |true =>
     rw[F]at d;simp only[xu,qk,zk]at d;obtain⟨rfl,rfl⟩:=d;simp only[ke]at p;subst p;simp only[uh]at F;exact⟨θ,w,ρ x,.inl (g _ _ (f rfl _ len _ (Pa ha) (by omega))),by grind [Up.none],.refl _ _ _ _,by grind [Up.none]⟩
    |false =>
     rw[p]at d;have hn0:n≠0:=by intro q;simp_all
     simp only[zp]at d;cases r:(JW sz i.size && Oh (ii+len) m && Pk 0 i.size)with
     |false=>grind
     |true =>
      rw[r]at d;simp only[zf,ke,uh,zU]at r;obtain⟨⟨rfl,F⟩,hsz⟩:=r;simp only[xu]at d;cases hle:Oh (ii+len+n) m with
      |true =>
       rw[hle]at d;simp only[uh]at hle;simp only[xu,qj,qk,zk]at d;obtain⟨H1,h1,rfl,rfl⟩:=d;obtain⟨w',N,s,u,l⟩:=L.store A h1;refine⟨θ,w',_,.inl (g _ _ ?_),by grind [Up.none],u,by rw[l,Up.none];exact xi9 ha _⟩;rw[Pa ha];refine ZV hu X j (by omega) ?_;rw[qy (by omega),yJ,wq,<-y9];exact N
      |false =>
       rw[hle]at d;have Y:¬ii+len+n<=m:=by grind [Nat.ble_eq_true_of_le]
       simp only[zp]at d;cases B:fits (len+n) i.bytes with
       |false=>grind
       |true =>
        rw[B]at d;simp only[xu]at d;split at d
        .rename_i m' sz' c0 e' fz K;cases r:(JW m m' && JW i.size sz' && JW e' e)with
         |false=>grind
         |true =>
          rw[r]at d;simp only[zf,ke]at r;obtain⟨⟨rfl,rfl⟩,rfl⟩:=r;simp only[xu]at d;have R:∀old E,fR c0 (ii*i.size) (len*i.size)=B1 old->((fz.2<fz.1\/fz.2<=(ii+len)*i.size)/\((ii=0/\E=fz)\/(fz.2<=ii*i.size/\E=cond (JW fz.1 fz.2) (0,0) (1,0)))) ->
           dC (H.kill bb) e' i.size (len+n) (kK old new) E=(v,H') -> ∃θ' w' c,sZ P (execOp ρ o) w c w'/\HR P base (Up D H.au H'.au) θ' H' w'/\bD D H θ w H' θ' w'/\VR (Up D H.au H'.au) θ' v c:=by
           intro old E hold hfz d;have hnx:H'.au=H.au+1:=by rw[<-(D6 d).2];rfl
           obtain⟨θ',w',I,N,s,u,l⟩:=L.Ms (ty:=o.type) (S H.au (qm _) (by omega)) hu X U W hsz K ha j A (by omega) F (by omega) B hold hfz;rw[d]at s u l;rw[<-hnx]at s l;exact⟨θ',w',I,.inl (g _ _ N),s,u,l⟩
          cases C:(JW ii 0 && JW len m && Oh fz.2 (m*i.size))with
          |true =>
           rw[C]at d;simp only[zf,ke,uh]at C;obtain⟨⟨rfl,rfl⟩,C⟩:=C;simp only[xu,qk]at d;obtain⟨_,co,_,pre,cs,post,cfz,_,_,_,r4,_⟩:=L.obj bb _ K;refine R c0 fz ?_ (by grind) d;rw[tR,Ax,<-r4,xg (by omega),yx,LF]
          |false =>
           rw[C]at d;simp only[zp]at d;cases V:Oh fz.2 (ii*i.size)with
           |true =>
            rw[V]at d;simp only[uh]at V;simp only[xu,qj,qk]at d
            grind
           |false =>
            rw[V]at d;simp only[zp]at d;cases G:(JW ii 0 && Oh fz.2 (len*i.size))with
            |false=>grind
            |true =>
             rw[G]at d;simp only[zf,ke,uh]at G;obtain⟨rfl,G⟩:=G;simp only[xu,qj,qk]at d
             grind
        grind
   grind
 grind
def xfg{o:Pl}{c:Call}{xs:List N2}{t e:Mj}{z:AV}(ho:o.op=.call c)(hc:c.callee=.builtin .clear)(B:c.args.toList=xs)(J:c.argTypes[0]? = B1 t)
 (hu:P.underlying t=B1 (.slice e)) (K:zeroOf P e=B1 z):sX P o xs (Op.bP z.cells):=by
 intro base D θ H ρ w vs v H' F h f E;have⟨O,A⟩:=LA (ρ:=ρ) ho hc;unfold Op.bP at f;split at f
 .cases f
 .rename_i d I;obtain⟨x,rfl,ha⟩:=h.p7;simp only[qj]at f;have⟨n,hn,f⟩:=f;cases j:JW n 0 with
  |true =>
   rw[j]at f;simp only[xu,qk,zk]at f;obtain⟨rfl,rfl⟩:=f;simp only[ke]at j;subst j;refine⟨θ,w,.tuple #[],.inl ?_,by grind [Up.none],.refl _ _ _ _,.tuple .nil⟩;rw[A,AL B];have q:∃bs y,ρ x=.slice bs 0 y:=by
    cases d<;>simp only[eJ,reduceCtorEq,qk]at hn
    .grind
    .exact ⟨B5,0,ha.now.symm⟩
    .subst hn;exact⟨_,_,MU ha⟩
    .subst hn;exact⟨_,_,Pa ha⟩
    .exact ⟨_,_,ha.now.symm⟩
   have⟨bs,y,r⟩:=q;cases bs<;>simp[builtin,Cr,J,ya hu,r]
  |false =>
   rw[j]at f;simp only[zp,qj,qk,zk]at f;obtain⟨p,hp,H1,C,rfl,rfl⟩:=f;have⟨n',U,u,Q,R,S⟩:=l_ ha hp;rw[Ax,Nat.sub_zero]at u;have⟨l,L,s⟩:=KZ (w:=w) K;have g:bM D θ (fM n z.cells) (Jr n l.cells.toList).flatten:=Xe (s D θ).cells n;have⟨w',V,W,N,X⟩:=F.store g C;refine⟨θ,w',.tuple #[],.inl ?_,by grind [Up.none],N,.tuple .nil⟩;rw[A,AL B];have m:n'=n:=by
    cases d<;>simp only[eJ,reduceCtorEq,qk]at hn
    .grind
    .simp_all
    .subst hn;rw[MU ha]at u;grind
    .subst hn;rw[Pa ha]at u;grind
    .cases hp
   subst m;have M:(BO l.cells n').toList=(Jr n' l.cells.toList).flatten:=by
    have:=YI l.cells.toList n';simp_all[BO]
   have G:n'≠0:=by omega
   simp_all[builtin,Cr,ya]
 grind
end
end Go.Am
namespace Go.Am
def Ext(H H':ar):Prop:=H.au<=H'.au /\ ∀b o,H'.get b=B1 o->(∃o',H.get b=B1 o'/\(own o'=B4->own o=B4))\/(H.au<=b/\b<H'.au/\own o=B4)
theorem Ext.refl(H:ar):Ext H H:=⟨qm _,λ b o h=>.inl ⟨o,h,λ h=>h⟩⟩
theorem Ext.trans{H H' c:ar}(h:Ext H H')(e:Ext H' c):Ext H c:=by
 refine⟨x9 h.1 e.1,λ b o hb=>?_⟩;rcases e.2 b o hb with⟨o',f,j⟩|⟨f,l,d⟩
 .rcases h.2 b o' f with⟨n,d,g⟩|⟨d,g,m⟩
  .grind
  .exact .inr ⟨d,qn g e.1,j m⟩
 .exact .inr ⟨x9 h.1 f,l,d⟩
theorem Ext.set{H:ar}{b:Nat}{o:bE}(h:H.get b=B1 o)(o':bE)(ho:own o=B4->own o'=B4):Ext H (H.set b o'):=by
 refine⟨qm _,λ x d c=>?_⟩
 grind [ar.aJ]
theorem Ext.alloc(H:ar)(o:bE)(ho:own o=B4):Ext H (H.alloc o):=by
 refine⟨jy _,λ x d c=>?_⟩;rw[ar.bN]at c;split at c
 .rename_i e;subst e;cases c;exact .inr ⟨qm _,zu _,ho⟩
 grind
def Ext.kill(H:ar)(b:Nat):Ext H (H.kill b):=⟨qm _,λ x d c=>(by grind [Yg])⟩
def xdh{H:ar}{b:Nat}{m:List (AV×AV×Nat)×Nat}(h:H.fj b=B1 m):∃o,H.get b=B1 o:=by
 grind [ar.fj]
def dJ:fN->Prop
 | .alloc f=>∀vs ob mk,f vs=B1 (ob,mk)->own ob=B4
 | .gU f=>∀vs H v H',f vs H=B1 (v,H')->Ext H H'
 |_=>True
def ym{α:Type}{c:Bool}{a b:Option α}{x:α}(h:cond c a b=B1 x):(c=B4/\a=B1 x)\/(c=B2/\b=B1 x):=by
 grind
theorem Tr{H H':ar}{b o:Nat}{l:List AV}(h:H.store b o l=B1 H'):Ext H H':=by
 unfold ar.store at h;rcases ym h with⟨_,h⟩|⟨_,h⟩
 .split at h
  .rename_i hg;rcases ym h with⟨_,h⟩|⟨_,h⟩
   .simp only[qj,qk]at h;obtain⟨_,_,rfl⟩:=h;exact Ext.set hg _ (λ _=>rfl)
   grind
  .rename_i hg;rcases ym h with⟨_,h⟩|⟨_,h⟩
   .simp only[qj,qk]at h;obtain⟨_,_,rfl⟩:=h;exact Ext.set hg _ (λ _=>rfl)
   grind
  grind
 grind
def xjs(n:Nat):dJ (.gU (Op.store n)):=by
 intro vs H v H' h;unfold Op.store at h;split at h
 .rcases ym h with⟨_,h⟩|⟨_,h⟩
  .grind [qj,Tr]
  grind
 grind
def υ(q:aR):dJ (.gU (Op.mapUpdate q)):=by
 intro vs H v H' h;unfold Op.mapUpdate at h;split at h
 .rcases ym h with⟨_,h⟩|⟨_,h⟩
  .simp only[qj]at h;have⟨m,hm,r,_,h⟩:=h;have⟨d,c⟩:=xdh hm;split at h
   .simp only[qj]at h;have⟨e,_,h⟩:=h;rcases ym h with⟨_,h⟩|⟨_,h⟩
    .injection h with h;injection h with _ h;subst h;exact Ext.set c _ (λ _=>rfl)
    grind
   .injection h with h;injection h with _ h;subst h;exact Ext.set c _ (λ _=>rfl)
  grind
 grind
def xa6:dJ (.gU Op.bS):=by
 intro vs H v H' h;unfold Op.bS at h;split at h
 .grind [Ext.refl]
 .simp only[qj]at h;have⟨m,hm,h⟩:=h;have⟨d,c⟩:=xdh hm;injection h with h;injection h with _ h;subst h;exact Ext.set c _ (λ _=>rfl)
 grind
def xdq(z:List AV):dJ (.gU (Op.bP z)):=by
 intro vs H v H' h;unfold Op.bP at h;split at h
 .cases h
 .simp only[qj]at h;have⟨_,_,h⟩:=h;rcases ym h with⟨_,h⟩|⟨_,h⟩
  .grind [Ext.refl]
  grind [qj,Tr]
 grind
theorem RP{H H':ar}{e s n:Nat}{c:List AV}{fz:Nat×Nat}{v:AV}(h:B1 (dC H e s n c fz)=B1 (v,H')):Ext H H':=by
 injection h with h;injection h with _ h;subst h;exact Ext.alloc _ _ rfl
def xf6(e s z:Nat):dJ (.gU (Op.append e s z)):=by
 intro vs H v H' h;unfold Op.append at h;split at h
 .simp only[qj]at h;have⟨n,_,new,_,h⟩:=h;rcases ym h with⟨_,h⟩|⟨_,h⟩
  .unfold cO at h;split at h
   .rcases ym h with⟨_,h⟩|⟨_,h⟩
    .grind [Ext.refl]
    .rcases ym h with⟨_,h⟩|⟨_,h⟩
     .exact RP h
     grind
   .rcases ym h with⟨_,h⟩|⟨_,h⟩
    .rcases ym h with⟨_,h⟩|⟨_,h⟩
     .grind [Ext.refl]
     grind [qj,Tr]
    .rcases ym h with⟨_,h⟩|⟨_,h⟩
     .grind [qj,RP]
     grind
   .rcases ym h with⟨_,h⟩|⟨_,h⟩
    .rcases ym h with⟨_,h⟩|⟨_,h⟩
     .grind [Ext.refl]
     grind
    .rcases ym h with⟨_,h⟩|⟨_,h⟩
     .rcases ym h with⟨_,h⟩|⟨_,h⟩
      .grind [qj,Tr]
      .rcases ym h with⟨_,h⟩|⟨_,h⟩
       .split at h
        .rcases ym h with⟨_,h⟩|⟨_,h⟩
         .rcases ym h with⟨_,h⟩|⟨_,h⟩
          .exact (Ext.kill _ _).trans (RP (H:=H.kill _) h)
          .rcases ym h with⟨_,h⟩|⟨_,h⟩
           .simp only[qj]at h;have⟨_,_,h⟩:=h;exact(Ext.kill _ _).trans (RP (H:=H.kill _) h)
           .rcases ym h with⟨_,h⟩|⟨_,h⟩
            .simp only[qj]at h;have⟨_,_,h⟩:=h;exact(Ext.kill _ _).trans (RP (H:=H.kill _) h)
            grind
         grind
        grind
       grind
     grind
   grind
  grind
 grind
end Go.Am
namespace Go.Am
structure Eu(ρ:N2->KP):Prop where
 const:∀v,ρ (.const v)=v
 func:∀f,ρ (.func f)=.func (.func f) #[] #[]
def zN(P:Jv)(o:Pl)(xs:List N2)(f:List AV->Option AV):Prop :=
 ∀(D:Nat->Prop)θ(ρ:N2->KP)w vs v,Eu ρ->bM D θ vs (xs.map ρ)->f vs=B1 v -> ∃c,sZ P (execOp ρ o) w c w/\VR D θ v c
def uD(P:Jv)(o:Pl)(xs:List N2)(f:List AV->Option (bE×(Nat->AV))):Prop :=
 ∀(D:Nat->Prop)θ(ρ:N2->KP)w vs ob mk,Eu ρ->bM D θ vs (xs.map ρ)->f vs=B1 (ob,mk) ->
  own ob=B4 /\ ∃w0 co ext c,(execOp ρ o).run P w=.ok (.value c) (w0.alloc co)/\nS w w0 /\
   ∀(D':Nat->Prop)θ' id,Ag D θ θ'->(∀b,D b->D' b)->D' id -> θ'.cm id=w.heap.size -> θ'.off id=0 -> θ'.ext id=ext->oR P D' θ' id ob co/\VR D' θ' (mk id) c
structure dY(P:Jv):Prop where
 names:∀(f:FuncId)(fn:Func),P.funcs[f]? = B1 fn->fn.name≠ "runtime.NumGoroutine"
 mixed:P.follows .mixedOrders=B4
def sG(P:Jv)(o:Pl)(xs:List N2):fN->Prop
 | .pure f=>zN P o xs f
 | .read f=>rT P o xs f
 | .alloc f=>uD P o xs f/\dJ (.alloc f)
 | .gU f=>sX P o xs f/\dJ (.gU f)
 | .iq f=>∃c fn b,o.op=.call c/\c.callee=.value (.func f)/\xs=c.args.toList/\P.funcs[f]? = B1 fn/\fn.body=B1 b
 | .ic=>∃c x,o.op=.call c/\c.callee=.value x/\xs=x::c.args.toList
 | .invoke m=>∃c x,o.op=.call c/\c.callee=.invoke x m/\xs=x::c.args.toList
 | .recover=>∃c,o.op=.call c/\c.callee=.builtin .recover/\xs=c.args.toList
 | .defer=>∃c x,o.op=.defer c/\c.callee=.value x/\xs=x::c.args.toList
 | .panic=>(∃x,o.op=.panic x/\xs=[x]) \/ ∃c,o.op=.call c/\c.callee=.builtin .panic/\xs=c.args.toList
def xjr{e:Nat}{z:List AV}:dJ (.alloc (Op.alloc e z)):=by
 intro vs c mk h;unfold Op.alloc at h;split at h
 .injection h with h;injection h with h _;subst h;rfl
 .cases h
def ae7{e:Nat}:dJ (.alloc (Op.box e)):=by
 intro vs c mk h;unfold Op.box at h;split at h
 .injection h with h;injection h with h _;subst h;rfl
 .cases h
def q51{e n:Nat}{z:List AV}{c:List (Nat×Nat)}:dJ (.alloc (Op.buildSlice e n z c)):=by
 intro vs d mk h;simp only[Op.buildSlice,qj]at h;have⟨_,_,h⟩:=h;injection h with h;injection h with h _;subst h;rfl
def xdr{e b:Nat}{z:List AV}:dJ (.alloc (Op.mkSlice e b z)):=by
 intro vs c mk h;unfold Op.mkSlice at h;split at h
 .rcases ym h with⟨_,h⟩|⟨_,h⟩
  .injection h with h;injection h with h _;subst h;rfl
  .cases h
 .cases h
def _O:dJ (.alloc Op.mkMap):=by
 intro vs c mk h;unfold Op.mkMap at h;split at h
 .injection h with h;injection h with h _;subst h;rfl
 .cases h
section
variable{P:Jv}{o:Pl}{xs:List N2}
theorem dt.up{f:List AV->Option AV}(h:dt P o xs f):zN P o xs f:=λ D θ ρ w vs v _=>h D θ ρ w vs v
theorem mB.up{f:List AV->Option (bE×(Nat->AV))}(h:mB P o xs f):uD P o xs f:=λ D θ ρ w vs c mk _=>h D θ ρ w vs c mk
def HJ{src dst:Mj}{x:N2}(ho:o.op=.convert src dst x){r:List N2×fN}(h:EZ P src dst x=B1 r):sG P o r.1 r.2:=by
 unfold EZ at h;split at h
 .rename_i c d;cases h;exact(xnl ho c d).up
 .cases h
def xmd{t:Mj}{x y:N2}{k:xI}(h:Il P t x y=B1 k):xC P t x y k:=by
 unfold Il at h;simp only[WK]at h;split at h
 .rename_i hu;cases h;exact hu
 .rename_i e hu;split at h
  .rename_i n hs;cases h;exact⟨e,n,hu,hs⟩
  .cases h
 .rename_i e hu;cases h;exact⟨e,hu⟩
 .rename_i k e hu;cases h;exact⟨k,e,hu⟩
 .rename_i a b c hu;cases h;exact⟨a,b,c,hu⟩
 .rename_i ms hu;split at h
  .cases h;exact⟨ms,hu,.inl ⟨_,rfl⟩⟩
  .cases h;exact⟨ms,hu,.inr ⟨_,rfl⟩⟩
  .cases h;refine⟨⟨ms,hu⟩,λ u q d=>?_⟩;simp only[qj]at d;have⟨i,g,d⟩:=d;split at d
   .rename_i f;exact⟨d,i,g,f⟩
   .cases d
 .rename_i fs hu;split at h
  .cases h
  .rename_i hg;simp only[qj,qk]at h;obtain⟨q,d,rfl⟩:=h;exact⟨by simpa using hg,d,.inl ⟨fs,hu⟩⟩
 .rename_i n e hu;split at h
  .cases h
  .rename_i hg;simp only[qj,qk]at h;obtain⟨q,d,rfl⟩:=h;exact⟨by simpa using hg,d,.inr ⟨n,e,hu⟩⟩
 .cases h
def Ld{op:BinOp}{t c:Mj}{x y:N2}(ho:o.op=.binOp op t x y c){r:List N2×fN}(h:K7 P op t x y=B1 r):sG P o r.1 r.2:=by
 unfold K7 at h;split at h
 .cases h;exact(Θ ho).up
 .cases h;exact(Θ ho).up
 .split at h
  .simp only[qj,qk]at h;obtain⟨k,hk,rfl⟩:=h;exact xnp (neg:=B2) (by simpa using ho) (xmd hk)
  .simp only[qj,qk]at h;obtain⟨k,hk,rfl⟩:=h;exact xnp (neg:=B4) (by simpa using ho) (xmd hk)
  .cases h
def xiz{c:Call}{b:Builtin}(ho:o.op=.call c)(hc:c.callee=.builtin b){r:List N2×fN}(h:VJ P b c.argTypes c.args.toList=B1 r):sG P o r.1 r.2:=by
 have f:∀{d:TypeDesc},(c.argTypes[0]?).bind P.underlying=B1 d -> ∃t,c.argTypes[0]? = B1 t/\P.underlying t=B1 d:=λ h=>by simpa[qj]using h
 unfold VJ at h;split at h
 .split at h
  .rename_i hu;have⟨t,g,hu⟩:=f hu;cases h;exact(xj4 ho hc rfl g hu).up
  .cases h
 .split at h
  .rename_i t tx j;split at h
   .rename_i e e' hu p;simp only[qj]at h;have⟨n,hn,z,l,q,m,h⟩:=h;split at h
    .rename_i hl;cases h;exact⟨xi5 ho hc rfl j hu (.inl ⟨_,p⟩) hn l m hl,xf6 _ _ _⟩
    .cases h
   .cases h
  .cases h
 .cases h;exact(xgd (mx:=B2) ho hc rfl).up
 .split at h
  .rename_i hu;have⟨t,g,hu⟩:=f hu;simp only[qj,qk]at h;obtain⟨z,l,rfl⟩:=h;exact⟨xfg ho hc rfl g hu l,xdq _⟩
  .rename_i hu;have⟨t,g,hu⟩:=f hu;cases h;exact⟨xcu ho hc rfl g hu,xa6⟩
  .cases h
 .cases h;exact⟨c,ho,hc,rfl⟩
 .cases h;exact .inr ⟨c,ho,hc,rfl⟩
 .cases h
def Fz{fn:Func}(n:String)(hn:fn.name=n)(ho:fn.origin = "") {e:Array Mj->Array Mj->Array Mj->Array KP->Sem KP}
 (d:∀(c rs:Array Mj),(((Extern.allNextRows.lookup n).map (· c rs)) <|> ((Extern.allNextRows.lookup "").map (· c rs)))=B5)
 (f:∀(ts c rs:Array Mj),((Extern.allGenericRows.lookup n).map (· ts c rs) <|> (Extern.allTypedRows.lookup n).map (· c rs) <|> Extern.allRows.lookup n)=B1 (e ts c rs)) :
 Extern.findNext fn=B5/\Extern.find fn=B1 (e fn.targs fn.params fn.resultTypes):=by
 unfold Extern.findNext Extern.find;rw[hn,ho];refine⟨d fn.params fn.resultTypes,?_⟩;show(((Extern.allGenericRows.lookup n).map (· fn.targs fn.params fn.resultTypes) <|> (Extern.allTypedRows.lookup n).map (· fn.params fn.resultTypes) <|> Extern.allRows.lookup n) <|> _)=_;rw[f];rfl
def Lk{c:Call}{f:FuncId}{fn:Func}(hn:fn.name≠ "runtime.NumGoroutine") (ho:o.op=.call c) (hc:c.callee=.value (.func f)) (j:P.funcs[f]? = B1 fn) (hb:fn.body=B5) {r:List N2×fN}
 (h:KH P fn c.args.toList=B1 r):sG P o r.1 r.2:=by
 unfold KH at h;split at h
 .cases h
 .rename_i g;have g:fn.origin = "" := by simpa using g
  split at h
  .rename_i d;have d:=eq_of_beq d;cases h;have⟨e1,e2⟩:=Fz (e:=λ _ _ _=>Extern.BytealgIndexByte.indexByte) _ d g (λ m rs=>by kernel_rfl) (λ ts m rs=>by kernel_rfl);intro D θ ρ w vs v l;exact qs4 ho hc j hb hn e1 e2 rfl D θ ρ w vs v (l.func f)
  .cases h
def I9(e:dY P){c:Call}(ho:o.op=.call c){r:List N2×fN}(h:DB P c=B1 r):sG P o r.1 r.2:=by
 unfold DB at h;split at h
 .rename_i f hc;simp only[qj]at h;have⟨fn,d,h⟩:=h;split at h
  .rename_i b hb;cases h;exact⟨c,fn,b,ho,hc,rfl,d,hb⟩
  .rename_i hb;exact Lk (e.names f fn d) ho hc d hb h
 .rename_i x _ hc;cases h;exact⟨c,_,ho,hc,rfl⟩
 .rename_i hc;cases h;exact⟨c,_,ho,hc,rfl⟩
 .rename_i b hc;exact xiz ho hc h
def PC(F:dY P){r:List N2×fN}(h:Rt P o.op=B1 r):sG P o r.1 r.2:=by
 unfold Rt at h;split at h
 .rename_i ho;cases h;exact(_a (.inl ho)).up
 .rename_i ho;cases h;exact(_a (.inr ho)).up
 .rename_i ho;cases h;exact(xnk ho).up
 .rename_i ho;simp only[qj,qk]at h;obtain⟨z,j,rfl⟩:=h;exact⟨(xe0 ho j).up,xjr⟩
 .rename_i ho;cases h;exact⟨(xk7 ho).up,ae7⟩
 .rename_i t parts ho;simp only[qj]at h;have⟨z,j,h⟩:=h;split at h
  .rename_i fs hu;split at h
   .rename_i p;simp only[qj,qk]at h;obtain⟨E,g,rfl⟩:=h;refine(qyo ho j hu (λ f u=>?_) g).up;have:=Gm.1 p f (Array.mem_toList_iff.2 u);exact Option.isSome_iff_exists.1 this
   .cases h
  .rename_i hu;simp only[qj,qk]at h;obtain⟨n,hn,E,g,rfl⟩:=h;exact(q1f ho j hu hn g).up
  .cases h
 .rename_i t len parts ho;split at h
  .rename_i e hu;simp only[qj]at h;have⟨n,hn,z,j,E,g,h⟩:=h;split at h
   .rename_i hc;cases h;exact⟨(qz3 ho hu hn j g hc.1 hc.2).up,q51⟩
   .cases h
  .cases h
 .rename_i t a ho;simp only[qj]at h;have⟨J,hr,h⟩:=h;split at h
  .cases h;exact xj5 ho hr
  .cases h;exact xj6 ho hr
 .rename_i t a x ho;simp only[qj,qk]at h;obtain⟨n,hn,rfl⟩:=h;exact⟨xl7 ho hn,xjs _⟩
 .rename_i ho;cases h;exact(xbh ho).up
 .rename_i ho;exact Ld ho h
 .rename_i ho;cases h;exact(Ie ho).up
 .rename_i ho;exact HJ ho h
 .rename_i t x ho;split at h
  .cases h
  .rename_i d G hu;cases h;exact(xd1 ho ⟨d,hu,by cases d<;>first|rfl|exact(G _ rfl).elim⟩).up
  .cases h
 .rename_i ho;cases h;exact(xge ho).up
 .rename_i ho;cases h;exact⟨λ D θ ρ w vs B mk A=>_e ho (.inl rfl) (λ _=>trivial) D θ ρ w vs B mk A.const,_O⟩
 .rename_i t k n ho;split at h
  .rename_i a b hu;cases h;exact⟨λ D θ ρ w vs B mk A=>_e ho (.inr ⟨k,n,rfl,a,b,hu⟩) (λ _=>trivial) D θ ρ w vs B mk A.const,_O⟩
  .cases h
 .rename_i t l c ho;split at h
  .rename_i e hu;simp only[qj]at h;have⟨b,hb,z,j,n,hn,h⟩:=h;split at h
   .rename_i hc;cases h;exact⟨(q9t ho hu hb hn j hc).up,xdr⟩
   .cases h
  .cases h
 .rename_i t x lo I mx ho;split at h
  .rename_i e hu;simp only[qj,qk]at h;obtain⟨n,hn,rfl⟩:=h;exact(xd3 ho hu hn).up
  .rename_i k e hu;simp only[qj,qk]at h;obtain⟨n,hn,rfl⟩:=h;exact(xbi ho hu hn).up
  .cases h
 .rename_i t x i ho;split at h
  .rename_i fs hu;simp only[qj]at h;have⟨f,u,n,hn,h⟩:=h;split at h
   .cases h
   .rename_i y;cases h;exact(q8a ho hu u hn (by simpa using y)).up
  .cases h
 .rename_i t x i ho;split at h
  .rename_i e hu;simp only[qj,qk]at h;obtain⟨n,hn,rfl⟩:=h;exact(xd0 ho hu hn).up
  .rename_i k e hu;simp only[qj,qk]at h;obtain⟨n,hn,rfl⟩:=h;exact(xbf ho hu hn).up
  .cases h
 .rename_i t x i ho;split at h
  .rename_i hu;cases h;exact(xbg ho hu).up
  .rename_i k e hu;simp only[qj,qk]at h;obtain⟨n,hn,a,ha,rfl⟩:=h;exact(xbe ho hu hn ha).up
  .cases h
 .rename_i t m k ok ho;split at h
  .rename_i C e hu;simp only[qj,qk]at h;obtain⟨q,s,z,j,rfl⟩:=h;exact xgg ho hu s j
  .cases h
 .rename_i t m k v ho;split at h
  .rename_i C e hu;simp only[qj,qk]at h;obtain⟨q,s,rfl⟩:=h;exact⟨qv4 (.inl ho) hu s,υ _⟩
  .cases h
 .rename_i t m k v ho;split at h
  .rename_i C e hu;simp only[qj,qk]at h;obtain⟨q,s,rfl⟩:=h;exact⟨qv4 (.inr ho) hu s,υ _⟩
  .cases h
 .rename_i ho;cases h;exact(xdz ho).up
 .rename_i c ho;exact I9 F ho h
 .rename_i c ho;split at h
  .rename_i f hc;cases h;exact⟨c,f,ho,hc,rfl⟩
  .cases h
 .rename_i x ho;cases h;exact .inl ⟨x,ho,rfl⟩
 .cases h
def sG.mono{c:fN}(h:sG P o xs c):dJ c:=by
 cases c with
 |alloc f=>exact h.2
 |gU f=>exact h.2
 |_=>trivial
def Dy(o:Pl)(aop:fN):Prop:=(∀c,o.op≠ .defer c)\/aop=.defer\/aop=.pure Op.fail
def Le{r:List N2×fN}(h:Rt P o.op=B1 r):Dy o r.2:=by
 by_cases d:∃c,o.op=.defer c
 .have ⟨c,hc⟩:=d;rw[hc]at h;simp only[Rt]at h;split at h
  .cases h;exact .inr (.inl rfl)
  .cases h
 .exact .inl λ c hc=>d ⟨c,hc⟩
def Nk(e:dY P){r:List bL×fN}(h:gA P o=B1 r):∃xs,oe P.globals.size xs=B1 r.1/\sG P o xs r.2/\Dy o r.2:=by
 unfold gA at h;split at h
 .rename_i f hr;cases h;simp only[qj,qk]at hr;obtain⟨q,d,args,c,rfl⟩:=hr;exact⟨q.1,c,PC e d,Le d⟩
 .cases h;exact⟨[],rfl,(xnj []).up,.inr (.inr rfl)⟩
end
end Go.Am
namespace Go.Am
def ib(D:Nat->Prop)(θ:Th):List aK->List Deferred->Prop
 |[],[]=>True
 |d::ds,e::es=>Xy D θ d e/\ib D θ ds es
 |_,_=>False
def K4(D:Nat->Prop)(θ:Th)(e:AV×Bool)(p:PanicEntry):Prop:=VR D θ e.1 p.v/\p.recovered=e.2/\p.goexit=B2
def fI(D:Nat->Prop)(θ:Th):aG->List PanicEntry->Prop
 |[],[]=>True
 |e::es,p::ps=>K4 D θ e p/\fI D θ es ps
 |_,_=>False
def qS(D:Nat->Prop)(θ:Th)(c:aG)(m:FrameMode):Prop :=
 match m with
 | .run=>False
 | .returning=>c=[]
 | .panicking ps=>c≠[]/\fI D θ c ps
def qW(D:Nat->Prop)(θ:Th)(kind:CallKind):Option aG->List O8->Prop
 |none,_=>kind=.normal
 |some ch,c::_=>kind=.deferred/\qS D θ ch c.mode
 |some _,[]=>False
def fD:Option aG->List O8->List O8->Prop
 |none,cs,cs'=>cs'=cs
 |some _,c::rest,cs'=>∃u,cs' = {c with mode:=u}::rest
 |some _,[],_=>False
def AA(D:Nat->Prop)(θ:Th)(ro:Option Nat):Option Nat->Prop
 |none=>ro=B5
 |some l=>D l/\ro=B1 (θ.cm l)
def BU(D:Nat->Prop)(θ:Th):aW->Exit->Prop
 | .normal,.normal=>True
 | .exit i,.exit j=>j=i
 | .goto i,.goto j=>j=i
 | .ret,.ret=>True
 | .panic c,.panic ps=>c≠[]/\fI D θ c ps
 |_,_=>False
def QT(D:Nat->Prop)(θ:Th):bI->Ending->Prop
 | .ret v,.returned c=>VR D θ v c
 | .panic c,.panicked ps=>c≠[]/\fI D θ c ps
 |_,_=>False
section
variable{D D':Nat->Prop}{θ θ':Th}
theorem ib.up(ha:Ag D θ θ')(g:∀b,D b->D' b):∀{l:List aK}{m:List Deferred},ib D θ l m->ib D' θ' l m
 |[],[],_=>trivial
 |d::ds,e::es,⟨h1,h2⟩=>by
  refine⟨?_,ib.up ha g h2⟩;cases d with
  |iy b=>exact⟨g b h1.1,by rw[(ha b h1.1).1];exact h1.2⟩
  |fn f args =>
   have⟨c,cap,q,n,p⟩:=h1;refine⟨c,cap,?_,λ θ'' j=>?_,p.up ha g⟩
   .grind
   .rw [n θ'' (ha.trans j g),n θ' ha]
 |[],_::_,h=>h.elim
 |_::_,[],h=>h.elim
theorem fI.up(ha:Ag D θ θ')(c:∀b,D b->D' b):∀{l:aG}{m:List PanicEntry},fI D θ l m->fI D' θ' l m
 |[],[],_=>trivial
 |e::es,p::ps,⟨⟨h1,h2,h3⟩,h⟩=>⟨⟨h1.up ha c,h2,h3⟩,fI.up ha c h⟩
 |[],_::_,h=>h.elim
 |_::_,[],h=>h.elim
theorem qS.up(ha:Ag D θ θ')(d:∀b,D b->D' b){c:aG}{m:FrameMode}(h:qS D θ c m):qS D' θ' c m:=by
 cases m with
 |run=>exact h.elim
 |returning=>exact h
 |panicking ps=>exact⟨h.1,fI.up ha d h.2⟩
theorem qW.up(ha:Ag D θ θ')(d:∀b,D b->D' b){k:CallKind}{u:Option aG}{cs:List O8}(h:qW D θ k u cs):qW D' θ' k u cs:=by
 cases u with
 |none=>exact h
 |some ch =>
  cases cs with
  |nil=>exact h.elim
  |cons c r=>exact⟨h.1,qS.up ha d h.2⟩
theorem AA.up(ha:Ag D θ θ')(c:∀b,D b->D' b){ro r:Option Nat}(h:AA D θ ro r):AA D' θ' ro r:=by
 cases r with
 |none=>exact h
 |some l=>exact⟨c l h.1,by rw[(ha l h.1).1];exact h.2⟩
theorem fD.refl{D:Nat->Prop}{θ:Th}{k:CallKind}{u:Option aG}{cs:List O8}(h:qW D θ k u cs):fD u cs cs:=by
 cases u with
 |none=>rfl
 |some ch =>
  cases cs with
  |nil=>exact h.elim
  |cons c r=>exact⟨c.mode,rfl⟩
theorem fD.trans{u e:Option aG}(hu:e.isSome=u.isSome){cs cs' d:List O8}(h:fD u cs cs')(f:fD e cs' d):fD u cs d:=by
 cases u with
 |none =>
  cases e with
  |none=>exact Eq.trans f h
  |some _=>cases hu
 |some ch =>
  cases e with
  |none=>cases hu
  |some ch' =>
   cases cs with
   |nil=>exact h.elim
   |cons c r =>
    obtain⟨m,rfl⟩:=h;obtain⟨g,rfl⟩:=f;exact⟨g,rfl⟩
theorem qH.up(ha:Ag D θ θ')(d:∀b,D b->D' b){tm:T AV}{a:Array KP}(h:qH D θ tm a):qH D' θ' tm a:=λ t v e =>
 let⟨c,h1,h2⟩:=h t v e;⟨c,h1,h2.up ha d⟩
theorem qH.put{tm:T AV}{a:Array KP}(h:qH D θ tm a){d:Nat}(g:d<a.size){v:AV}{c:KP}(j:VR D θ v c):qH D θ (tm.set d v) (a.setIfInBounds d c):=by
 intro t x f;rw[T.aJ]at f;rw[Array.getElem?_setIfInBounds]
 by_cases e:d=t
 .grind
 .simp only[e,oX]at f⊢;exact h t x f
def qH.forget{a:Array KP}:∀(ds:List Nat){tm:T AV},qH D θ tm a->qH D θ (forget ds tm) a
 |[],_,h=>h
 |d::ds,tm,h=>qH.forget ds (tm:=tm.put d B5) (λ t v c=>by
  rw[T.kI]at c;split at c
  .cases c
  .exact h t v c)
def T.rA:∀(ds:List Nat)(tm:T AV)(t:Nat),(forget ds tm).get t=if t∈ds then B5 else tm.get t
 |[],tm,t=>by simp[Am.forget]
 |d::ds,tm,t=>by
  rw[Am.forget,T.rA ds,T.kI]
  by_cases f:t∈ds
  .simp [f]
  .by_cases c:d=t
   .simp [c]
   .have g:¬t=d:=λ e=>c e.symm;simp[f,c,g]
end
section
variable{P:Jv}{base:Nat}{D:Nat->Prop}{θ:Th}{H:ar}{w:NG}{a:Act}{tm:T AV}
def EH(l:HR P base D θ H w)(m:qH D θ tm a.tmps){x:N2}{y:bL}(hc:rU P.globals.size x=B1 y){v:AV}(d:rY tm y=B1 v):VR D θ v (a.eval x):=by
 cases x with
 |tmp t =>
  cases hc;have⟨c,e,h⟩:=m t v d
  simpa[Act.eval,e]using h
 |const k =>
  simp only[rU,qj,qk]at hc;obtain⟨u,hu,rfl⟩:=hc;cases d;exact Tj hu
 |global g =>
  simp only[rU]at hc;split at hc
  .rename_i hg;cases hc;cases d;have⟨e,h,j⟩:=l.eL g (by simp_all);have:=VR.ptr (θ:=θ) (o:=0) e;rw[h,j]at this;exact this
  grind
 |func f =>
  cases hc;cases d;exact λ _ _=>rfl
def Ke(d:HR P base D θ H w)(e:qH D θ tm a.tmps):∀{xs:List N2}{ys:List bL},oe P.globals.size xs=B1 ys -> ∀{vs:List AV},mI tm ys=B1 vs->bM D θ vs (xs.map a.eval)
 |[],ys,hc,vs,hv=>by
  cases hc;cases hv;exact .nil
 |x::xs,ys,hc,vs,hv=>by
  simp only[oe,qj,qk]at hc;obtain⟨y,h,l,c,rfl⟩:=hc;simp only[mI,qj,qk]at hv;obtain⟨v,f,j,g,rfl⟩:=hv;exact .cons (EH d e h f) (Ke d e c g)
def J3(x:bL)(tm:T AV):(Oj x).run tm=rY tm x:=by
 cases x<;>simp[Oj,rY,T.jR,T.get]
def Iq:∀(xs:List bL)(tm:T AV),(vL xs).run tm=mI tm xs
 |[],_=>rfl
 |[x],tm=>by simp[vL,mI,J3]
 |x::y::xs,tm=>by
  rw[vL,mI]
  .simp only[J3,Iq (y::xs) tm]
  .simp
def TX(a:Act):Eu a.eval:=⟨λ _=>rfl,λ _=>rfl⟩
theorem U7(d:Option Nat)(v:AV)(tm:T AV):(my d).run v tm=eK d v tm:=by
 cases d<;>simp[my,eK,T.Bq,T.set,T.put]
end
inductive i9 where
 |val (v:AV) (aZ:List aK) (up:Option aG) (H:ar)
 |panic (c:aG) (H:ar)
def nU(aZ:List aK)(up:Option aG)(r:bI×ar):i9 :=
 match r.1 with
 | .ret v=>.val v aZ up r.2
 | .panic c=>.panic c r.2
def iB(rt:RT)(st:St)(vs:List AV):fN->Option i9
 | .pure f=>(f vs).bind λ v=>B1 (.val v st.aZ st.up st.H)
 | .read f=>(f vs st.H).bind λ v=>B1 (.val v st.aZ st.up st.H)
 | .alloc f=>(f vs).bind λ r=>B1 (.val (r.2 st.H.au) st.aZ st.up (st.H.alloc r.1))
 | .gU f=>(f vs st.H).bind λ r=>B1 (.val r.1 st.aZ st.up r.2)
 | .iq f=>(dc rt.call rt.round (.func f) vs st.H).bind λ r=>B1 (nU st.aZ st.up r)
 | .ic=>match vs with
  | .fn (.func f) first cap::args=>(dc rt.call rt.round (.func f) (first++(args++cap)) st.H).bind λ r=>B1 (nU st.aZ st.up r)
  | .fn (.yield l) first []::args=>(dc rt.call rt.round (.yield l) (first++args) st.H).bind λ r=>B1 (nU st.aZ st.up r)
  |_=>B5
 | .invoke name=>match vs with
  | .iface t v::args=>(rt.AP.kD t name).bind λ f=>(dc rt.call rt.round (.func f) (v::args) st.H).bind λ r=>B1 (nU st.aZ st.up r)
  |_=>B5
 | .recover=>match rt.ctx.round with
  |some _=>B5
  |none=>match vs with
   |[]=>match st.up with
    |some ((v,B2)::older)=>B1 (.val v st.aZ (B1 ((v,B4)::older)) st.H)
    |_=>B1 (.val .nili st.aZ st.up st.H)
   |_=>B5
 | .defer=>match rt.ctx.round with
  |some _=>B5
  |none=>match vs with
   | .fn (.func f) first cap::args=>B1 (.val .undef (.fn (.func f) (first++(args++cap))::st.aZ) st.up st.H)
   |_=>B5
 | .panic=>match vs with
  |[.iface t v]=>B1 (.panic [(.iface t v,B2)] st.H)
  |_=>B5
def u7(put:AV->T AV->T AV)(cK:Option (List Nat))(st:St)(k:St->gR):i9->gR
 | .val v aZ up H=>k ⟨put v st.tm,aZ,up,H⟩
 | .panic c H=>cK.bind λ ds=>B1 (.panic c,⟨forget ds st.tm,st.aZ,st.up,H⟩)
theorem UA(put:AV->T AV->T AV)(cK:Option (List Nat))(st:St)(k:St->gR)(r:bI×ar):fV put cK st k r=u7 put cK st k (nU st.aZ st.up r):=by
 unfold fV nU;split<;>rename_i h<;>rw[h]<;>rfl
def E3(put:AV->T AV->T AV)(cK:Option (List Nat))(rt:RT)(st:St)(k:St->gR)(vs:List AV)(op:fN) :
 (rE put cK op).run rt st k vs=(iB rt st vs op).bind (u7 put cK st k):=by
 cases op with
 |pure f=>simp only[rE,BH,iB,yr,qr];rfl
 |read f=>simp only[rE,Eo,iB,yr,qr];rfl
 |alloc f=>simp only[rE,wP,iB,yr,qr];rfl
 |gU f=>simp only[rE,M4,iB,yr,qr];rfl
 |iq f=>grind [rE,C6,iB,UA]
 |ic =>
  simp only[rE,CY,iB]
  grind [UA]
 |invoke name =>
  simp only[rE,tX,iB];split
  .simp_all [yr,UA]
  grind
 |recover =>
  simp only[rE,TD,iB];cases rt.ctx.round with
  |some l=>rfl
  |none =>
   cases vs with
   |cons x xs=>rfl
   |nil =>
    rcases hu:st.up with _|_|⟨⟨v,_|_⟩,c⟩<;>simp only[Qp,hu]<;>rfl
 |defer =>
  simp only[rE,xE,iB];cases rt.ctx.round with
  |some l=>rfl
  |none =>
   simp only;split
   .rfl
   grind
 |panic =>
  simp only[rE,xJ,iB]
  grind [UA,nU]
end Go.Am
namespace Go.Am
section moves
variable{P:Jv}{b:O8}{a:Act}{k:List Item}{cs cs':List O8}{w w':NG}{ops:Array Pl}{i:Nat}{rest:List Nat}{o:Pl}
def NU(ho:ops[i]? = B1 o)(v:KP):(b.atR a (.inRegion ops (i::rest)::k)).finish v=b.atR (a.put o.dst v) (.inRegion ops rest::k):=by
 grind [O8.finish_atR]
def K8(ho:ops[i]? = B1 o)(hw:B9 o (yielded ops a.tmps)=B4){v:KP}(hr:(o.semAt b.roundOf a.eval).run P w=.ok (.value v) w') :
 step P (lone (b.atR a (.inRegion ops (i::rest)::k)) cs w)=.next (lone (b.atR (a.put o.dst v) (.inRegion ops rest::k)) cs w') :=
 step_lone_go (by simp_all[stepGR_op,NU,CJ])
def PL(ho:ops[i]? = B1 o)(hw:B9 o (yielded ops a.tmps)=B4)(hr:(o.semAt b.roundOf a.eval).run P w=.ok .skip w') :
 step P (lone (b.atR a (.inRegion ops (i::rest)::k)) cs w)=.next (lone (b.atR (a.put o.dst undef) (.inRegion ops rest::k)) cs w') :=
 step_lone_go (by simp_all[stepGR_op,NU,CJ])
def ah5(ho:ops[i]? = B1 o)(hw:B9 o (yielded ops a.tmps)=B4){d:Deferred}(hr:(o.semAt b.roundOf a.eval).run P w=.ok (.defer d) w') :
 step P (lone (b.atR a (.inRegion ops (i::rest)::k)) cs w)=.next (lone (b.atR (({a with defers:=d::a.defers}:Act).put o.dst undef) (.inRegion ops rest::k)) cs w'):=by
 refine step_lone_go ?_;have:({b.atR a (.inRegion ops (i::rest)::k)with defers:=d::a.defers}:O8).finish undef =
  b.atR ({a with defers:=d::a.defers}.put o.dst undef) (.inRegion ops rest::k):=by
  have:=O8.finish_atR b {a with defers:=d::a.defers} ops i rest k undef;rw[ho]at this;exact this
 rw[stepGR_op ho hw];simp only[CJ,Sem.runT_eq,hr,GStep.bare_after];exact congrArg (λ fr=>GStep.go {frame:=fr,callers:=cs,status:=.running,dying:=B5} w') this
def Zc(ho:ops[i]? = B1 o)(hw:B9 o (yielded ops a.tmps)=B4){f:FuncId}{args:Array KP}(hr:(o.semAt b.roundOf a.eval).run P w=.ok (.enter f args) w') :
 step P (lone (b.atR a (.inRegion ops (i::rest)::k)) cs w)=.next (lone (Frame.enter P f args .normal) (b.atR a (.inRegion ops (i::rest)::k)::cs) w') :=
 step_lone_go (by rw[stepGR_op ho hw];simp[CJ,hr,CK])
def ae4(ho:ops[i]? = B1 o)(hw:B9 o (yielded ops a.tmps)=B4){l:Nat}{f:FuncId}{tmps:Array KP}{as body:Code}(hr:(o.semAt b.roundOf a.eval).run P w=.ok (.round l f tmps as body) w') :
 step P (lone (b.atR a (.inRegion ops (i::rest)::k)) cs w)=.next (lone (Frame.round l f tmps as body .normal) (b.atR a (.inRegion ops (i::rest)::k)::cs) w') :=
 step_lone_go (by rw[stepGR_op ho hw];simp_all[CJ])
def ae8(ho:ops[i]? = B1 o)(hw:B9 o (yielded ops a.tmps)=B4){v:KP}(hr:(o.semAt b.roundOf a.eval).run P w=.halt (.panic v) w') :
 step P (lone (b.atR a (.inRegion ops (i::rest)::k)) cs w)=.next (lone {b.atR a (.inRegion ops (i::rest)::k)with mode:=.panicking [{v,recovered:=B2}]} cs w') :=
 step_lone_go (by simp_all[stepGR_op,Cp,CJ])
def xiu(ho:ops[i]? = B1 o)(hw:B9 o (yielded ops a.tmps)=B4)(hb:b.roundOf=B5)(hr:(o.semAt b.roundOf a.eval).run P w=.ok .recover w'){v:KP}
 (d:tryRecover (b.atR a (.inRegion ops (i::rest)::k)) cs=B1 (v,cs')) :
 step P (lone (b.atR a (.inRegion ops (i::rest)::k)) cs w)=.next (lone (b.atR (a.put o.dst v) (.inRegion ops rest::k)) cs' w') :=
 step_lone_go (by
  rw[stepGR_op ho hw,<-NU ho];have c:(b.atR a (.inRegion ops (i::rest)::k)).roundOf=none:=hb;simp_all[CJ])
def q34(ho:ops[i]? = B1 o)(hw:B9 o (yielded ops a.tmps)=B4)(hb:b.roundOf=B5)(hr:(o.semAt b.roundOf a.eval).run P w=.ok .recover w')
 (d:tryRecover (b.atR a (.inRegion ops (i::rest)::k)) cs=B5) :
 step P (lone (b.atR a (.inRegion ops (i::rest)::k)) cs w)=.next (lone (b.atR (a.put o.dst .nilIface) (.inRegion ops rest::k)) cs w') :=
 step_lone_go (by
  rw[stepGR_op ho hw,<-NU ho];have c:(b.atR a (.inRegion ops (i::rest)::k)).roundOf=none:=hb;simp_all[CJ])
end moves
def wv(P:Jv)(base:Nat)(call:cj):Prop :=
 ∀(D:Nat->Prop)θ H w f vs(args:Array KP)up H' e up' kind cs,HR P base D θ H w->bM D θ vs args.toList->qW D θ kind up cs->call f vs up H=B1 (e,up',H')->eC D H.au H'.au ->
  (∃fn c,P.funcs[f]? = B1 fn/\fn.body=B1 c) /\
  ∃θ' w' cs' fr e',Steps P (lone (Frame.enter P f args kind) cs w) (lone fr cs' w')/\fr.kind=kind/\fr.fn=f/\fr.going P w' e'/\QT (Up D H.au H'.au) θ' e e' /\
   HR P base (Up D H.au H'.au) θ' H' w'/\bD D H θ w H' θ' w'/\up'.isSome=up.isSome/\fD up cs cs'/\qW (Up D H.au H'.au) θ' kind up' cs'
def xN(P:Jv)(base:Nat)(round:iS):Prop :=
 ∀(D:Nat->Prop)θ H w l vs(args:Array KP)H' e(c:O8)cs,HR P base D θ H w->bM D θ vs args.toList->round vs l H=B1 (e,H')->eC D H.au H'.au ->
  ∃f tmps as body,(Instr.yield (θ.cm l) args).run P w=.ok (.round (θ.cm l) f tmps as body) w /\
  ∃θ' w' fin,Steps P (lone (Frame.round (θ.cm l) f tmps as body .normal) (c::cs) w) (lone fin cs w') /\
   (match e with
    | .ret v=>∃cv,VR (Up D H.au H'.au) θ' v cv/\fin=c.finish cv
    | .panic ch=>∃ps,ch≠[]/\fI (Up D H.au H'.au) θ' ch ps/\fin=c.raise ps) /\
   HR P base (Up D H.au H'.au) θ' H' w'/\bD D H θ w H' θ' w'
def i9.heap:i9->ar
 | .val _ _ _ H=>H
 | .panic _ H=>H
def Kg(P:Jv)(base:Nat)(D:Nat->Prop)(θ:Th)(st:St)(b:O8)(a:Act)(ops:Array Pl)(i:Nat)(rest:List Nat)(k:List Item)(cs:List O8)(w:NG)(o:Pl):i9->Prop
 | .val v aZ up H'=>∃θ' w' c cs' ds,Steps P (lone (b.atR a (.inRegion ops (i::rest)::k)) cs w) (lone (b.atR (({a with defers:=ds}:Act).put o.dst c) (.inRegion ops rest::k)) cs' w') /\
  HR P base (Up D st.H.au H'.au) θ' H' w'/\bD D st.H θ w H' θ' w'/\VR (Up D st.H.au H'.au) θ' v c/\ib (Up D st.H.au H'.au) θ' aZ ds/\up.isSome=st.up.isSome /\
  qW (Up D st.H.au H'.au) θ' b.kind up cs'/\fD st.up cs cs'
 | .panic ch H'=>∃θ' w' ps todo,Steps P (lone (b.atR a (.inRegion ops (i::rest)::k)) cs w) (lone {b.atR a todo with mode:=.panicking ps} cs w') /\
  HR P base (Up D st.H.au H'.au) θ' H' w'/\bD D st.H θ w H' θ' w'/\ch≠[]/\fI (Up D st.H.au H'.au) θ' ch ps
section
variable{P:Jv}{base:Nat}{D:Nat->Prop}{θ:Th}
def UO{fr:O8}{w:NG}{e:Ending}(h:fr.going P w e)(hk:fr.kind=.normal):fr.leaving P w e:=by
 cases e with
 |returned v=>have⟨d,f,g⟩:=h;exact⟨d,f,hk,g⟩
 |panicked c=>exact h
 |outgrown=>trivial
theorem PG{f:FuncId}{fn:Func}{c:Code}{args:Array KP}{w:NG}(e:dY P)(d:P.funcs[f]? = B1 fn)(hb:fn.body=B1 c):(callFunc f args).run P w=.ok (.enter f args) w:=by
 simp[callFunc,d,hb,e.names f fn d]
def xkc{t:Mj}{name:String}{f:Nat}(h:zT P t name=B1 f)(v:KP)(w:NG):(method (P.types.size+Made.depth) t v name).run P w=.ok (f,v) w:=by
 unfold zT at h;simp only[qj]at h;have⟨i,j,m,hm,h⟩:=h;split at h
 .cases h
 .rename_i l;simp only[qj]at h;have⟨p,hp,h⟩:=h;have e:m.path.toList=[]:=by
   grind
  obtain⟨n,hn⟩:∃n,P.types.size+Made.depth=n+1:=⟨P.types.size+99,rfl⟩
  rw[hn];have⟨q,g⟩:=p;have c:(typeInfo t).run P w=.ok i w:=by simp[typeInfo,j]
  simp only[method,Nw,c,NO,hm,e,follow,B8,hp];cases hu:P.underlying t with
  |none=>grind
  |some d =>
   rw[hu]at h;have hr:∀wr,d=d->(receiverAt t (.val v) g wr).run P w=.ok v w/\q=f:=by
    intro wr _;cases d<;>cases g<;>simp only[reduceCtorEq,qk]at h<;>exact(by simp_all[receiverAt,ya,Place.get])
   simp[(hr _ rfl).1,(hr B5 rfl).2]
def W7{call:cj}(hc:wv P base call){st:St}{b:O8}{a:Act}{ops:Array Pl}{i:Nat}{rest:List Nat}{k:List Item}{cs:List O8}{w:NG}{o:Pl}
 (ho:ops[i]? = B1 o) (z:HR P base D θ st.H w) (x:ib D θ st.aZ a.defers) (hu:qW D θ b.kind st.up cs) {f:Nat} {vs:List AV} {args:Array KP} (A:bM D θ vs args.toList)
 (hs:(∃fn c,P.funcs[f]? = B1 fn/\fn.body=B1 c)->step P (lone (b.atR a (.inRegion ops (i::rest)::k)) cs w)=.next (lone (Frame.enter P f args .normal) (b.atR a (.inRegion ops (i::rest)::k)::cs) w))
 {r:bI×ar} {u:Option aG} (hr:call f vs B5 st.H=B1 (r.1,u,r.2)) (y:eC D st.H.au r.2.au) :
 Kg P base D θ st b a ops i rest k cs w o (nU st.aZ st.up r):=by
 have⟨l,θ',w',cs',fr,e',m,q,B,s,g,n,h,C,t,p⟩:=hc D θ st.H w f vs args B5 r.2 r.1 u .normal (b.atR a (.inRegion ops (i::rest)::k)::cs) z A rfl hr y;have j:cs'=b.atR a (.inRegion ops (i::rest)::k)::cs:=t;subst j;have d:=hs l;have hl:=UO s q;have⟨e,H'⟩:=r;cases e with
 |ret v =>
  cases e' with
  |returned c =>
   refine⟨θ',w',c,cs,a.defers,.head d (m.trans (.one ?_)),n,h,g,ib.up h.ag Up.of x,rfl,qW.up h.ag Up.of hu,fD.refl hu⟩;rw[step_leave_returned hl,NU ho]
  |panicked c=>exact g.elim
  |outgrown=>exact g.elim
 |panic ch =>
  cases e' with
  |returned c=>exact g.elim
  |panicked ps =>
   refine⟨θ',w',ps,.inRegion ops (i::rest)::k,.head d (m.trans (.one ?_)),n,h,g.1,g.2⟩;rw[step_leave_panicked hl,Cp]
  |outgrown=>exact g.elim
def US{f:mF}{first cap:List AV}{c:KP}(h:VR D θ (.fn f first cap) c):∃x y:List KP,c=.func (fJ θ f) x.toArray y.toArray/\bM D θ first x/\bM D θ cap y/\(∀θ',Ag D θ θ'->fJ θ' f=fJ θ f):=by
 refine⟨bT θ first,bT θ cap,h.now.symm,λ θ' ha=>?_,λ θ' ha=>?_,λ θ' ha=>?_⟩ <;>
 .have:=(h θ' ha).trans h.now.symm
  grind [az]
set_option maxHeartbeats 1000000 in
def YN(hP:dY P){rt:RT}(E:wv P base rt.call)(V:xN P base rt.round)(hAP:rt.AP=aX P){o:Pl}{I:fN}{xs:List N2}(B:sG P o xs I)(hdef:Dy o I)
 {ops:Array Pl} {i:Nat} {rest:List Nat} {a:Act} (ho:ops[i]? = B1 o) (hw:B9 o (yielded ops a.tmps)=B4) {st:St} {w:NG} {b:O8} {k:List Item} {cs:List O8} {vs:List AV} {r:i9}
 (J:HR P base D θ st.H w) (M:ib D θ st.aZ a.defers) (hu:qW D θ b.kind st.up cs) (hb:AA D θ b.roundOf rt.ctx.round) (R:bM D θ vs (xs.map a.eval)) (hr:iB rt st vs I=B1 r)
 (hf:eC D st.H.au r.heap.au):Kg P base D θ st b a ops i rest k cs w o r:=by
 have d:Up D st.H.au st.H.au=D:=Up.none;have U:I≠ .defer->I≠ .pure Op.fail->o.semAt b.roundOf a.eval=execOp a.eval o:=λ L W=>Bv _ _ _ (by
  rcases hdef with h|h|h
  .exact h
  .exact absurd h L
  .exact absurd h W)
 cases I with
 |pure f =>
  simp only[iB,qj,qk]at hr;obtain⟨v,s,rfl⟩:=hr;have⟨c,A,C⟩:=B D θ a.eval w vs v (TX a) R s;have g:o.semAt b.roundOf a.eval=execOp a.eval o:=U (by intro q;cases q) (by intro q;cases q;cases s);refine⟨θ,w,c,cs,a.defers,.one ?_,by rw[d];exact J,.refl _ _ _ _,by rw[d];exact C,by rw[d];exact M,rfl,by rw[d];exact hu,fD.refl hu⟩;rcases A with A|⟨A,rfl⟩
  .exact K8 ho hw (by rw[g];exact A)
  .exact PL ho hw (by rw[g];exact A)
 |read f =>
  simp only[iB,qj,qk]at hr;obtain⟨v,s,rfl⟩:=hr;have⟨c,A,C⟩:=B base D θ st.H a.eval w vs v J R s;have g:o.semAt b.roundOf a.eval=execOp a.eval o:=U (by intro q;cases q) (by intro q;cases q);refine⟨θ,w,c,cs,a.defers,.one ?_,by rw[d];exact J,.refl _ _ _ _,by rw[d];exact C,by rw[d];exact M,rfl,by rw[d];exact hu,fD.refl hu⟩;rcases A with A|⟨A,rfl⟩
  .exact K8 ho hw (by rw[g];exact A)
  .exact PL ho hw (by rw[g];exact A)
 |alloc f =>
  simp only[iB,qj,qk]at hr;obtain⟨⟨ob,mk⟩,s,rfl⟩:=hr;have⟨hown,w0,co,ext,c,A,C,X⟩:=B.1 D θ a.eval w vs ob mk (TX a) R s;have g:o.semAt b.roundOf a.eval=execOp a.eval o:=U (by intro q;cases q) (by intro q;cases q);have hn:¬D st.H.au:=hf _ (qm _) (zu _);have hag:=Th.gZ θ st.H.au w0.heap.size 0 ext hn;have⟨e1,e2,e3⟩:=Th.eO θ st.H.au w0.heap.size 0 ext;have⟨k1,k2⟩:=X (Up D st.H.au (st.H.au+1)) (θ.add st.H.au w0.heap.size 0 ext) st.H.au hag Up.of (.inr ⟨qm _,zu _⟩) (by rw[e1,C.heap]) e2 e3;have hh0:HR P base D θ st.H w0:=J.draw C.heap;refine⟨θ.add st.H.au w0.heap.size 0 ext,w0.alloc co,c,cs,a.defers,.one (K8 ho hw (by rw[g];exact A)),?_,?_,k2,ib.up hag Up.of M,rfl,qW.up hag Up.of hu,fD.refl hu⟩
  .refine hh0.alloc hn ?_ ?_ (qm _) ?_ k1
   .rw [Dv];simp
   .intro j hj;rw[Dv,qy (K5 hj)]
   .simp
  .exact (bD.draw (w:=w) (w':=w0) C.heap C.os C.tape C.output).trans (bD.alloc (w:=w0) hh0 hn _ _ _ _) (λ _ h=>h)
 |gU f =>
  simp only[iB,qj,qk]at hr;obtain⟨⟨v,H'⟩,s,rfl⟩:=hr;have⟨θ',w',c,A,C,X,g4⟩:=B.1 base D θ st.H a.eval w vs v H' J R s hf;have g:o.semAt b.roundOf a.eval=execOp a.eval o:=U (by intro q;cases q) (by intro q;cases q);refine⟨θ',w',c,cs,a.defers,.one ?_,C,X,g4,ib.up X.ag Up.of M,rfl,qW.up X.ag Up.of hu,fD.refl hu⟩;rcases A with A|⟨A,rfl⟩
  .exact K8 ho hw (by rw[g];exact A)
  .exact PL ho hw (by rw[g];exact A)
 |iq f =>
  obtain⟨c,fn,body,s,K,rfl,h3,h4⟩:=B;simp only[iB,dc,yr,qr,qj,qk]at hr;obtain⟨⟨e,u,H'⟩,hc,rfl⟩:=hr;have g:o.semAt b.roundOf a.eval=execOp a.eval o:=Bv _ _ _ (λ c'=>by rw[s];simp);refine W7 E ho J M hu (args:=c.args.map a.eval) (by simpa using R) (λ _=>Zc ho hw ?_) hc (by cases e<;>exact hf);rw[g];simp[execOp,s,resolve,K,Act.eval,Bb,invoke,PG hP h3 h4]
 |ic =>
  obtain⟨c,x,s,K,rfl⟩:=B;have g:o.semAt b.roundOf a.eval=execOp a.eval o:=Bv _ _ _ (λ c'=>by rw[s];simp);simp only[iB]at hr;split at hr
  .rename_i f first cap args
   simp only[dc,yr,qr,qj,qk]at hr;obtain⟨⟨e,u,H'⟩,hc,rfl⟩:=hr;have⟨cf,ca,z,L,W⟩:=R.eF;simp only[kh,z8]at z;obtain⟨rfl,rfl⟩:=z;have⟨fi,ci,S,Z,q5,_⟩:=US L;refine W7 E ho J M hu (args:=(fi.toArray++c.args.map a.eval)++ci.toArray) ?_ (λ hfn=>Zc ho hw ?_) hc (by cases e<;>exact hf)
   .simpa using Z.app (W.app q5)
   .have ⟨fn,body,h3,h4⟩:=hfn;rw[g];simp[execOp,s,resolve,K,S,fJ,Bb,invoke,PG hP h3 h4]
  .rename_i l first args
   simp only[dc,qj,qk]at hr;obtain⟨⟨e,H'⟩,hc,rfl⟩:=hr;have⟨cf,ca,z,L,W⟩:=R.eF;simp only[kh,z8]at z;obtain⟨rfl,rfl⟩:=z;have⟨fi,ci,S,Z,q5,_⟩:=US L;have hf':eC D st.H.au H'.au:=by cases e<;>exact hf
   have⟨f,tmps,as,body,A,θ',w',fin,C,X,g4,g5⟩:=V D θ st.H w l (first++args) (fi.toArray++c.args.map a.eval) H' e (b.atR a (.inRegion ops (i::rest)::k)) cs J (by simpa using Z.app W) hc hf';have N:=ae4 (P:=P) (b:=b) (k:=k) (cs:=cs) (w:=w) (rest:=rest) ho hw (l:=θ.cm l) (f:=f) (tmps:=tmps) (as:=as) (body:=body) (w':=w) (by
    rw[g];simp[execOp,s,resolve,K,S,fJ,Bb,invoke,A])
   cases e with
   |ret v =>
    obtain⟨cv,k1,rfl⟩:=X;refine⟨θ',w',cv,cs,a.defers,.head N ?_,g4,g5,k1,ib.up g5.ag Up.of M,rfl,qW.up g5.ag Up.of hu,fD.refl hu⟩;rw[NU ho]at C;exact C
   |panic ch =>
    obtain⟨Y,k0,k1,rfl⟩:=X;refine⟨θ',w',Y,.inRegion ops (i::rest)::k,.head N ?_,g4,g5,k0,k1⟩;rw[Cp]at C;exact C
  .cases hr
 |invoke m =>
  obtain⟨c,x,s,K,rfl⟩:=B;have g:o.semAt b.roundOf a.eval=execOp a.eval o:=Bv _ _ _ (λ c'=>by rw[s];simp);simp only[iB]at hr;split at hr
  .rename_i t v args;simp only[dc,yr,qr,qj,qk]at hr;obtain⟨f,hm,⟨e,u,H'⟩,hc,rfl⟩:=hr;have⟨cf,ca,z,L,W⟩:=R.eF;simp only[kh,z8]at z;obtain⟨rfl,rfl⟩:=z;have⟨cv,S,Z⟩:=L.mA;rw[hAP]at hm;have hm':zT P t m=B1 f:=hm;refine W7 E ho J M hu (args:=#[cv]++c.args.map a.eval) (by simpa using bM.cons Z W) (λ hfn=>Zc ho hw ?_) hc (by cases e<;>exact hf);have⟨fn,body,h3,h4⟩:=hfn;rw[g];have hx:(#[KP.iface t cv]++c.args.map a.eval)[0]? = B1 (.iface t cv):=by
    rw[Array.getElem?_append];simp
   have hx2:(#[KP.iface t cv]++c.args.map a.eval).extract 1 (#[KP.iface t cv]++c.args.map a.eval).size=c.args.map a.eval:=by
    apply Array.ext';rw[Array.toList_extract,Array.toList_append];simp[List.extract,zi]
   simp only[execOp,s,resolve,K,Nw,B8,NO,invoke,S,hx,hx2,callMethod,program,Sem.run,xkc hm',PG hP h3 h4]
  .cases hr
 |recover =>
  obtain⟨c,s,K,rfl⟩:=B;have g:o.semAt b.roundOf a.eval=execOp a.eval o:=Bv _ _ _ (λ c'=>by rw[s];simp);simp only[iB]at hr;split at hr
  .cases hr
  .rename_i F;rw[F]at hb;have hb:b.roundOf=none:=hb;have G:(o.semAt b.roundOf a.eval).run P w=.ok .recover w:=by
    rw[g];have⟨cc,hE⟩:=LA (ρ:=a.eval) s K;rw[hE];rfl
   split at hr
   .split at hr
    .rename_i v older O;cases hr;rw[O]at hu;cases cs with
     |nil=>exact hu.elim
     |cons c0 kW =>
      have⟨hk,hm⟩:=hu;cases n:c0.mode with
      |run=>rw[n]at hm;exact hm.elim
      |returning=>rw[n]at hm;cases hm
      |panicking Y =>
       rw[n]at hm;have⟨_,hm⟩:=hm;cases Y with
       |nil=>exact hm.elim
       |cons p Y =>
        have⟨⟨m1,m2,m3⟩,m4⟩:=hm;have⟨pv,pr,pg⟩:=p;simp only at m1 m2 m3;subst m2;subst m3;refine⟨θ,w,pv,{c0 with mode:=.panicking ({v:=pv,recovered:=B4}::Y)}::kW,a.defers,.one ?_,by rw[d];exact J,.refl _ _ _ _,by rw[d];exact m1,by rw[d];exact M,by rw[O];rfl,?_,?_⟩
        .refine xiu ho hw hb G ?_;simp[tryRecover,CK,hk,n]
        .rw [d];exact⟨hk,by simp,⟨m1,rfl,rfl⟩,m4⟩
        .rw [O];exact⟨_,rfl⟩
    .rename_i O;cases hr;refine⟨θ,w,.nilIface,cs,a.defers,.one (q34 ho hw hb G ?_),by rw[d];exact J,.refl _ _ _ _,λ _ _=>rfl,by rw[d];exact M,rfl,by rw[d];exact hu,fD.refl hu⟩;unfold tryRecover;cases Q:st.up with
     |none =>
      rw[Q]at hu;have hk:b.kind=.normal:=hu;simp[CK,hk]
     |some ch =>
      rw[Q]at hu;cases cs with
      |nil=>exact hu.elim
      |cons c0 kW =>
       have⟨hk,hm⟩:=hu;cases n:c0.mode with
       |run=>rw[n]at hm;exact hm.elim
       |returning=>simp[CK,hk,n]
       |panicking Y =>
        rw[n]at hm;have⟨_,hm⟩:=hm;cases Y with
        |nil=>simp[CK,hk,n]
        |cons p Y =>
         cases ch with
         |nil=>exact hm.elim
         |cons e es =>
          have⟨⟨m1,m2,m3⟩,m4⟩:=hm;have⟨pv,pr,pg⟩:=p;have⟨ev,er⟩:=e;simp only at m2 m3;subst m2;subst m3;cases pr with
          |false=>exact absurd Q (O _ _)
          |true=>simp[CK,hk,n]
   .cases hr
 |defer =>
  obtain⟨c,x,s,K,rfl⟩:=B;simp only[iB]at hr;split at hr
  .cases hr
  .rename_i F;rw[F]at hb;have hb:b.roundOf=none:=hb;split at hr
   .rename_i f first cap args
    cases hr;have⟨cf,ca,z,L,W⟩:=R.eF;simp only[kh,z8]at z;obtain⟨rfl,rfl⟩:=z;have⟨fi,ci,S,Z,q5,q6⟩:=US L;refine⟨θ,w,undef,cs,{target:=.fn (.func f) ci.toArray,args:=fi.toArray++c.args.map a.eval}::a.defers,.one ?_,by rw[d];exact J,.refl _ _ _ _,.undef,?_,rfl,by rw[d];exact hu,fD.refl hu⟩
    .refine ah5 ho hw ?_;rw[hb,Pl.semAt_none];simp[execOp,s,resolve,K,S,fJ,Bb]
    .rw [d];exact⟨⟨_,_,rfl,λ _ _=>rfl,by simpa using Z.app (W.app q5)⟩,M⟩
   .cases hr
 |panic =>
  simp only[iB]at hr;split at hr
  .rename_i t v;cases hr;obtain⟨x,rfl,L⟩:=R.p7;have⟨cv,S,Z⟩:=L.mA;have G:(o.semAt b.roundOf a.eval).run P w=.halt (.panic (a.eval x)) w:=by
    rcases B with⟨y,s,hy⟩|⟨c,s,K,hy⟩
    .simp only[z8,uw]at hy;subst hy;rw[Bv _ _ _ (λ c'=>by rw[s];simp)];simp[execOp,s,S,Instr.panic,goPanic]
    .rw [Bv _ _ _ (λ c'=>by rw[s];simp)];have⟨cc,hE⟩:=LA (ρ:=a.eval) s K;rw[hE,AL hy.symm];simp[builtin,S,Instr.panic,goPanic]
   refine⟨θ,w,[{v:=a.eval x,recovered:=B2}],.inRegion ops (i::rest)::k,.one (ae8 ho hw G),by rw[d];exact J,.refl _ _ _ _,by simp,?_⟩;rw[d];exact⟨⟨L,rfl,rfl⟩,trivial⟩
  .cases hr
end
end Go.Am
namespace Go.Am
def dv(s:aP)(tm:T AV):Option Bool :=
 match s.guard with
 |none=>B1 B4
 |some g=>cT g.2 (tm.get g.1)
def WM(s:aP)(hc:s.iv=B2)(rt:RT)(K:St->gR)(st:St) :
 (gY s).run rt K st=(dv s st.tm).bind λ w=>cond w ((mI st.tm s.args).bind λ vs=>(iB rt st vs s.op).bind (u7 (eK s.dst) s.cK st K)) (K ⟨eK s.dst .undef st.tm,st.aZ,st.up,st.H⟩):=by
 have c:(my s.dst).run=eK s.dst:=by grind [U7]
 unfold gY dv;rw[hc];cases hg:s.guard with
 |none=>simp_all[Iq,E3]
 |some g=>simp_all[Iq,E3,T.jR,T.get]
def R1(s:aP)(hc:s.iv=B4){d:Nat}(e:s.dst=B1 d)(rt:RT)(K:St->gR)(st:St) :
 (gY s).run rt K st=(dv s st.tm).bind λ w=>cond w ((mI st.tm s.args).bind λ vs=>cond (rC (λ t=>t.get d) st vs s.op) (K st) B5) (K st):=by
 have c:(T.pw (α:=AV) (T.path d)).run=λ t=>t.get d:=by funext t;exact T.jR _ _
 unfold gY dv;rw[hc,e];cases hg:s.guard with
 |none=>simp_all[Iq]
 |some g =>
  simp only[Iq,c];rw[show(T.pw (T.path g.1)).run st.tm=st.tm.get g.1 from T.jR _ _]
theorem V_(s:aP)(hc:s.iv=B4)(c:s.dst=B5)(rt:RT)(K:St->gR)(st:St):(gY s).run rt K st=none:=by
 grind [gY]
def qB(call:cj):Prop:=∀f vs up H e up' H',call f vs up H=B1 (e,up',H')->Ext H H'
def AE(round:iS):Prop:=∀vs l H e H',round vs l H=B1 (e,H')->Ext H H'
def uy:ai->Prop
 | .region steps=>∀s∈steps,dJ s.op
 | .seq a b=>uy a/\uy b
 | .cond _ a b=>uy a/\uy b
 | .block _ b=>uy b
 | .loop _ b=>uy b
 | .scope b=>uy b
 |_=>True
def af9(fn:bZ):Prop:=uy fn.body /\ ∀lp∈fn.loops,uy lp.assign/\uy lp.body
def Sr(AP:jU):Prop:=∀f fn,AP.func f=B1 fn->af9 fn
section
variable{rt:RT}(hc:qB rt.call)(hr:AE rt.round)
include hc hr
def Yk{op:fN}(ho:dJ op){st:St}{vs:List AV}{r:i9}(h:iB rt st vs op=B1 r):Ext st.H r.heap:=by
 have c:∀(q:bI×ar),Ext st.H q.2->Ext st.H (nU st.aZ st.up q).heap:=by
  intro q g;have⟨e,H'⟩:=q;cases e<;>exact g
 cases op with
 |pure f=>simp only[iB,qj,qk]at h;obtain⟨_,_,rfl⟩:=h;exact Ext.refl _
 |read f=>simp only[iB,qj,qk]at h;obtain⟨_,_,rfl⟩:=h;exact Ext.refl _
 |alloc f=>simp only[iB,qj,qk]at h;obtain⟨⟨j,mk⟩,d,rfl⟩:=h;exact Ext.alloc _ _ (ho _ _ _ d)
 |gU f=>simp only[iB,qj,qk]at h;obtain⟨⟨v,H'⟩,d,rfl⟩:=h;exact ho _ _ _ _ d
 |iq f =>
  simp only[iB,dc,yr,qr,qj,qk]at h;obtain⟨⟨e,u,H'⟩,d,rfl⟩:=h;exact c _ (hc _ _ _ _ _ _ _ d)
 |ic =>
  simp only[iB]at h;split at h
  .simp only[dc,yr,qr,qj,qk]at h;obtain⟨⟨e,u,H'⟩,d,rfl⟩:=h;exact c _ (hc _ _ _ _ _ _ _ d)
  .simp only[dc,qj,qk]at h;obtain⟨⟨e,H'⟩,d,rfl⟩:=h;exact c _ (hr _ _ _ _ _ d)
  grind
 |invoke m =>
  simp only[iB]at h;split at h
  .simp only[dc,yr,qr,qj,qk]at h;obtain⟨_,_,⟨e,u,H'⟩,d,rfl⟩:=h;exact c _ (hc _ _ _ _ _ _ _ d)
  grind
 |recover =>
  simp only[iB]at h;split at h
  .cases h
  .split at h
   .split at h<;>(cases h;exact Ext.refl _)
   grind
 |defer =>
  simp only[iB]at h;split at h
  .cases h
  .split at h
   .cases h;exact Ext.refl _
   grind
 |panic =>
  simp only[iB]at h;split at h
  .cases h;exact Ext.refl _
  grind
def qq{op:fN}(ho:dJ op){st:St}{vs:List AV}{r:i9}(h:iB rt st vs op=B1 r):st.H.au<=r.heap.au:=(Yk hc hr ho h).1
def xn2{s:aP}(ho:dJ s.op){K:St->gR}(g:∀st r,K st=B1 r->Ext st.H r.2.H){st:St}{r:aW×St}(h:(gY s).run rt K st=B1 r):Ext st.H r.2.H:=by
 cases e:s.iv with
 |false =>
  rw[WM s e,qj]at h;have⟨w,hw,h⟩:=h;cases w with
  |false =>
   grind
  |true =>
   simp only[xu,qj]at h;have⟨vs,_,q,l,h⟩:=h;have f:=Yk hc hr ho l;cases q with
   |val v d u H'=>exact Ext.trans f (g _ _ h)
   |panic c H' =>
    simp only[u7,qj,qk]at h;obtain⟨_,_,rfl⟩:=h;exact f
 |true =>
  cases j:s.dst with
  |none=>grind [V_]
  |some d =>
   rw[R1 s e j,qj]at h;have⟨w,hw,h⟩:=h;cases w with
   |false =>
    grind
   |true =>
    simp only[xu,qj]at h
    grind
def YE:∀{l:List aP},(∀s∈l,dJ s.op) -> ∀{st:St}{r:aW×St},(ia l).run rt st=B1 r->Ext st.H r.2.H
 |[],_,st,r,h=>by cases h;exact Ext.refl _
 |s::l,ho,st,r,h=>xn2 hc hr (by grind) (λ st r h=>YE (by grind) h) h
def xgr{l:List aP}(hl:∀s∈l,dJ s.op){st:St}{r:aW×St}(h:(ia l).run rt st=B1 r):st.H.au<=r.2.H.au:=(YE hc hr hl h).1
omit hc hr in
def gX{body:St->gR}(hb:∀st r,body st=B1 r->Ext st.H r.2.H)(ah:Option (List Nat)):∀(n:Nat)(st:St)(r:aW×St),gV ah body n st=B1 r->Ext st.H r.2.H
 |0,st,r,h=>by cases h
 |n+1,st,r,h=>by
  simp only[gV,qj]at h;have⟨q,d,h⟩:=h;have c:=hb _ _ d;have c:Ext st.H q.2.H:=by cases ah<;>exact c
  split at h
  .exact Ext.trans c (gX hb ah n _ _ h)
  .cases h;exact c
omit hc hr in
def xjq{body:St->gR}(hb:∀st r,body st=B1 r->Ext st.H r.2.H)(ah:Option (List Nat))(n:Nat)(st:St)(r:aW×St)(h:gV ah body n st=B1 r):st.H.au<=r.2.H.au:=(gX hb ah n st r h).1
omit hr in
def WS{st:St}{k:Nat}{H0:ar}{aZ:List aK}{d:Nat}{v:AV}{r:aW×St}(f:Ext st.H H0)(h:jK rt.call rt.round rt.ctx st k H0 aZ d v=B1 r):Ext st.H r.2.H:=by
 unfold jK at h;split at h
 .simp only[dc,yr,qr,qj]at h;have⟨⟨e,u,H'⟩,g,h⟩:=h;have c:=(f.trans (Ext.alloc _ _ rfl)).trans (hc _ _ _ _ _ _ _ g);unfold Nv at h;split at h
  .cases h;exact c
  .split at h
   .cases h
   .rename_i hg;cases h;exact c.trans (Ext.set hg _ (λ _=>rfl))
   .cases h
 .cases h
omit hr in
def xgf{st:St}{k:Nat}{H0:ar}{aZ:List aK}{d:Nat}{v:AV}{r:aW×St}(c:Ext st.H H0)(h:jK rt.call rt.round rt.ctx st k H0 aZ d v=B1 r):st.H.au<=r.2.H.au:=(WS hc c h).1
def AH:∀{c:ai},uy c -> ∀{st:St}{r:aW×St},(bK c).run rt st=B1 r->Ext st.H r.2.H
 | .skip,_,st,r,h=>by cases h;exact Ext.refl _
 | .label _,_,st,r,h=>by cases h;exact Ext.refl _
 | .region steps,hm,st,r,h=>YE hc hr hm h
 | .seq a b,hm,st,r,h=>by
  simp only[bK,qj]at h;have⟨q,e,h⟩:=h;have g:=AH hm.1 e;unfold vK at h;split at h
  .exact Ext.trans g (AH hm.2 h)
  grind
 | .cond c a b,hm,st,r,h=>by
  simp only[bK,qj]at h;have⟨v,j,h⟩:=h;unfold uG at h;split at h
  .rcases ym h with⟨_,h⟩|⟨_,h⟩
   .exact AH hm.1 h
   .exact AH hm.2 h
  grind
 | .block id b,hm,st,r,h=>by
  simp only[bK,qj]at h;have⟨q,e,h⟩:=h;have g:=AH (c:=b) hm e
  grind [kP]
 | .loop ah b,hm,st,r,h=>gX (λ st r h=>AH (c:=b) hm h) ah _ _ _ h
 | .exit _,_,st,r,h=>by cases h;exact Ext.refl _
 | .goto _,_,st,r,h=>by cases h;exact Ext.refl _
 | .ret,_,st,r,h=>by cases h;exact Ext.refl _
 | .stuck,_,st,r,h=>by cases h
 | .scope b,hm,st,r,h=>by
  simp only[bK,qj]at h;have⟨q,e,h⟩:=h;have g:=AH (c:=b) hm e;unfold mq at h
  grind
 | .rangeFunc f k,_,st,r,h=>by
  simp only[bK,qj]at h;have⟨v,j,h⟩:=h;unfold qZ at h;split at h
  .exact WS hc (Ext.alloc _ _ rfl) h
  .simp only[qj]at h;have⟨d,_,h⟩:=h;exact WS hc (Ext.refl _) h
def NQ{c:ai}(hm:uy c){st:St}{r:aW×St}(h:(bK c).run rt st=B1 r):st.H.au<=r.2.H.au:=(AH hc hr hm h).1
end
theorem TM{call:cj}(hc:qB call){rs:List d9}{tm:T AV}:∀{ds:List aK}{m:Option aG}{H:ar}{r:bI×ar},ct call rs tm ds m H=B1 r->Ext H r.2
 |[],B5,H,r,h=>by
  grind [ct,qj,Ext.refl]
 |[],B1 c,H,r,h=>by cases h;exact Ext.refl _
 | .iy b::ds,m,H,r,h=>by
  simp only[ct]at h;split at h
  .rename_i hg;exact(Ext.set hg _ (λ _=>rfl)).trans (TM (H:=H.set b _) hc h)
  grind
 | .fn (.func f) args::ds,m,H,r,h=>by
  simp only[ct,qj]at h;have⟨⟨e,u,H'⟩,d,h⟩:=h;have g:=hc _ _ _ _ _ _ _ d;split at h
  .simp only[qj]at h;have⟨j,_,h⟩:=h;exact Ext.trans g (TM hc h)
  grind
 | .fn (.yield _) _::_,_,_,_,h=>by grind [ct]
def _x{call:cj}(hc:qB call){rs:List d9}{tm:T AV}{ds:List aK}{m:Option aG}{H:ar}{r:bI×ar}(h:ct call rs tm ds m H=B1 r):H.au<=r.2.au:=(TM hc h).1
def xgn{H H':ar}{l:Nat}{s:nj}{p:Option im}(h:cX H l s p=B1 H'):Ext H H':=by
 unfold cX at h;split at h
 .rename_i hg;cases h;exact Ext.set hg _ (λ _=>rfl)
 grind
def q7b{H H':ar}{l:Nat}(h:beginRound H l=B1 H'):Ext H H':=by
 unfold beginRound at h;split at h
 .rename_i hg;cases h;exact Ext.set hg _ (λ _=>rfl)
 grind
theorem xee{H H':ar}{l:Nat}{s:nj}{p:Option im}(h:cX H l s p=B1 H'):H'.au=H.au:=by
 unfold cX at h;split at h
 .cases h;rfl
 grind
def q37{H H':ar}{l:Nat}(h:beginRound H l=B1 H'):H'.au=H.au:=by
 unfold beginRound at h;split at h
 .cases h;rfl
 grind
def Tn{AP:jU}(hp:Sr AP){call:cj}(hc:qB call)(m:Nat):∀n,AE (rounds AP call m n)
 |0=>λ vs l H e H' h=>by cases h
 |n+1=>λ vs l H e H' h=>by
  have s:=Tn hp hc m n;simp only[rounds,roundOf]at h;split at h
  .rename_i st C f k tm d hg;simp only[qj]at h;have⟨fn,p,lp,x,A,_,q,y,h⟩:=h;have c:uy lp.assign/\uy lp.body:=(hp f fn p).2 lp (by grind [jP]);have g:=AH (rt:=⟨AP,call,rounds AP call m n,m,⟨B1 l,f⟩⟩) hc s c.1 y;have g:Ext H q.2.H:=g;split at h
   .simp only[qj]at h;have⟨t,hb,z,r,h⟩:=h;have j:=AH (rt:=⟨AP,call,rounds AP call m n,m,⟨B1 l,f⟩⟩) hc s c.2 r;have j:Ext t z.2.H:=j;have u:=(g.trans (q7b hb)).trans j;rcases ym h with⟨_,h⟩|⟨_,h⟩
    .unfold GA at h;split at h
     .grind
     .simp only[qj,qk,zk]at h;obtain⟨B,v,_,rfl⟩:=h;exact u.trans (xgn v)
    grind
   grind
  grind
def xbw{AP:jU}(hp:Sr AP){call:cj}(l:qB call)(n:Nat):qB (Ig AP call n) :=
 λ f vs up H e d H' h=>by
  simp only[Ig,qj]at h;have⟨fn,c,q,p,h⟩:=h;have g:=AH (rt:=⟨AP,call,rounds AP call n n,n,⟨B5,f⟩⟩) l (Tn hp l n n) (hp f fn c).1 p;have g:Ext H q.2.H:=g;have j:∀m,((ct call fn.results q.2.tm q.2.aZ m q.2.H).bind λ z=>B1 (z.1,q.2.up,z.2))=B1 (e,d,H')->Ext H H':=by
   intro m h;simp only[qj,qk,zk]at h;obtain⟨z,r,_,_,rfl⟩:=h
   grind [Ext.trans,TM]
  grind [qO]
def q30{AP:jU}(hp:Sr AP){told:cj}(c:qB told):∀n,qB (kN AP told n)
 |0=>c
 |n+1=>λ f vs up H e d H' h=>by
  simp only[kN]at h;split at h
  .rename_i r hr;cases h;exact c _ _ _ _ _ _ _ hr
  .exact xbw hp (q30 hp c n) n _ _ _ _ _ _ _ h
end Go.Am
namespace Go.Am
abbrev oV:Machine->Prop:=λ _=>True
structure SR(P:Jv)(base:Nat)(D:Nat->Prop)(θ:Th)(b:O8)(nt:Nat)(rd:Option Nat)(st:St)(a:Act)(cs:List O8)(w:NG):Prop where
 heap:HR P base D θ st.H w
 vC:qH D θ st.tm a.tmps
 size:nt<=a.tmps.size
 aZ:ib D θ st.aZ a.defers
 up:qW D θ b.kind st.up cs
 round:AA D θ b.roundOf rd
def Out(P:Jv)(base:Nat)(D:Nat->Prop)(θ:Th)(b:O8)(nt:Nat)(rd:Option Nat)(k:List Item)(st:St)(cs:List O8)(w:NG)(m:Machine)(e:aW)(st':St):Prop :=
 ∃θ' a' w' cs' e',ArrivesIn oV P m b k cs' e' a' w'/\SR P base (Up D st.H.au st'.H.au) θ' b nt rd st' a' cs' w'/\bD D st.H θ w st'.H θ' w'/\BU (Up D st.H.au st'.H.au) θ' e e' /\
  st'.up.isSome=st.up.isSome/\fD st.up cs cs'
section
variable{P:Jv}{base:Nat}{D:Nat->Prop}{θ:Th}
def Out.after{b:O8}{l:Nat}{rd:Option Nat}{k:List Item}{st dh c:St}{cs d:List O8}{w w1:NG}{m j:Machine}{e:aW}{θ1:Th}(hs:Steps P m j)
 (hg:bD D st.H θ w dh.H θ1 w1) (hu:dh.up.isSome=st.up.isSome) (t:fD st.up cs d) (hn:dh.H.au<=c.H.au)
 (h:Out P base (Up D st.H.au dh.H.au) θ1 b l rd k dh d w1 j e c):Out P base D θ b l rd k st cs w m e c:=by
 have⟨θ',n,w',cs',e',p,f,q,g,r,s⟩:=h;rw[Up.up hg.au hn]at f g;exact⟨θ',n,w',cs',e',.of_steps (C1 hs) p,f,hg.trans q Up.of,g,r.trans hu,fD.trans hu t s⟩
def AG{α:Type}:∀{l:List (Option α)}{r:List α},du l=B1 r->r.length=l.length /\ ∀(i:Nat)(x:α),r[i]? = B1 x->l[i]? = B1 (B1 x)
 |[],r,h=>by cases h;grind
 |y::l,r,h=>by
  simp only[du,qj,qk]at h;obtain⟨a,rfl,e,hl,rfl⟩:=h;have⟨c,d⟩:=AG hl
  grind
def NA{ops:Array Pl}{l:List (List bL×fN)}{safe:Nat->Option (List Nat)}{q:Bool×Nat}{s:aP}(h:jD ops l safe q=B1 s) :
 ∃o a g,ops[q.2]? = B1 o/\l[q.2]? = B1 a/\guardOf ops o.guard=B1 g/\s = {iv:=q.1,dst:=o.dst,guard:=g,args:=a.1,op:=a.2,cK:=safe q.2}:=by
 grind [jD,qj]
def WL{ops:Array Pl}{o:Pl}{s:aP}(hg:guardOf ops o.guard=B1 s.guard){tm:T AV}{a:Array KP}(f:qH D θ tm a){q:Bool}(h:dv s tm=B1 q) :
 B9 o (yielded ops a)=q:=by
 unfold dv at h;unfold B9;cases ho:o.guard with
 |none =>
  rw[ho]at hg;injection hg with hg
  grind
 |some g =>
  have⟨j,want⟩:=g;rw[ho]at hg;simp only[guardOf,qj,qk]at hg;have⟨t,⟨r,l,m⟩,hg⟩:=hg;rw[<-hg]at h;simp only at h;have n:((ops[j]?).bind (·.dst)).bind (a[·]?)=a[t]?:=by grind
  simp only[yielded,n];unfold cT at h;split at h
  .rename_i p hp;have⟨c,d,e⟩:=f t _ hp;injection h with h
   rw[d,<-e.now];simp only[az];cases p<;>cases want<;>cases q<;>simp_all
  .rename_i hp;have⟨c,d,e⟩:=f t _ hp;injection h with h
   rw[d,<-e.now]
   grind [az]
  grind
def Jk{e:Nat}{tm:T AV}{a:Act}{dst:Option Nat}(h:∀d,dst=B1 d->d<e)(hs:e<=a.tmps.size)(f:qH D θ tm a.tmps){v:AV}{c:KP}(g:VR D θ v c) :
 qH D θ (eK dst v tm) (a.put dst c).tmps/\e<=(a.put dst c).tmps.size/\(a.put dst c).defers=a.defers:=by
 cases dst with
 |none=>exact⟨f,hs,rfl⟩
 |some d =>
  refine⟨f.put (by grind) g,?_,rfl⟩
  simpa[Act.put]using hs
def xkk(hP:dY P){rt:RT}(t:wv P base rt.call)(m:xN P base rt.round)(M:rt.AP=aX P)(O:qB rt.call)(S:AE rt.round)
 {ops:Array Pl} {o:Pl} {i:Nat} {rest:List Nat} {s:aP} {ca:List bL×fN} (ho:ops[i]? = B1 o) (N:gA P o=B1 ca) (hg:guardOf ops o.guard=B1 s.guard) (h1:s.iv=B2) (Z:s.dst=o.dst) (h3:s.args=ca.1) (h4:s.op=ca.2)
 {b:O8} {x:Nat} (hdst:pz x o=B4) {k:List Item} {st:St} {a:Act} {cs:List O8} {w:NG} (e:SR P base D θ b x rt.ctx.round st a cs w) {K:St->gR} {r:aW×St}
 (z:∀st r,K st=B1 r->st.H.au<=r.2.H.au) (h:(gY s).run rt K st=B1 r) (Q:eC D st.H.au r.2.H.au)
 (g:∀G θ1 dh X p w1,SR P base G θ1 b x rt.ctx.round dh X p w1->K dh=B1 r->eC G dh.H.au r.2.H.au->Out P base G θ1 b x rt.ctx.round k dh p w1 (lone (b.atR X (.inRegion ops rest::k)) p w1) r.1 r.2) :
 Out P base D θ b x rt.ctx.round k st cs w (lone (b.atR a (.inRegion ops (i::rest)::k)) cs w) r.1 r.2:=by
 have A:∀d,o.dst=B1 d->d<x:=by
  grind [pz,zU]
 rw[WM s h1,qj]at h;have⟨q,hq,h⟩:=h;have l:=WL hg e.vC hq;cases q with
 |false =>
  simp only[zp]at h;have⟨V,W,p3⟩:=Jk (dst:=o.dst) A e.size e.vC (VR.undef (D:=D) (θ:=θ));rw[Z]at h;have hn:=z _ _ h;have E:=stepR_op_skip (P:=P) (b:=b) (a:=a) (k:=k) (cs:=cs) (w:=w) (ops:=ops) (i:=i) (rest:=rest) (by simp[ho,l]);rw[ho]at E;refine Out.after (.one E) (bD.refl D st.H θ w) rfl (fD.refl e.up) hn ?_;rw[Up.none];exact g D θ ⟨eK o.dst .undef st.tm,st.aZ,st.up,st.H⟩ _ cs w ⟨e.heap,V,W,by rw[show(a.put ((B1 o).bind (·.dst)) undef).defers=a.defers from p3];exact e.aZ,e.up,e.round⟩ h Q
 |true =>
  simp only[xu,qj]at h;have⟨vs,F,res,j,h⟩:=h;have⟨xs,U,C,B⟩:=Nk hP N;rw[h3]at F;rw[h4]at j;have hv:=Ke (a:=a) e.heap e.vC U F;have R:=qq O S C.mono j;have hle:res.heap.au<=r.2.H.au:=by
   cases res with
   |val v d u H'=>exact z _ _ h
   |panic c H' =>
    simp only[u7,qj,qk]at h;obtain⟨_,_,rfl⟩:=h;exact qm _
  have n:=YN hP t m M C B (rest:=rest) (k:=k) ho l e.heap e.aZ e.up e.round hv j (Q.left hle);cases res with
  |val v d u H' =>
   have⟨θ',w',c,cs',ds,I,J,y,L,Y,g6,g7,g8⟩:=n;simp only[u7,Z]at h;have f:=y.ag;have⟨V,W,p3⟩:=Jk (a:={a with defers:=ds}) (dst:=o.dst) A e.size (e.vC.up f Up.of) L;refine Out.after (dh:=⟨eK o.dst v st.tm,d,u,H'⟩) I y g6 g8 hle ?_;exact g _ θ' _ _ cs' w' ⟨J,V,W,by grind,g7,AA.up f Up.of e.round⟩ h (Q.right R)
  |panic c H' =>
   have⟨θ',w',ps,todo,I,J,y,L,Y⟩:=n;simp only[u7,qj,qk]at h;obtain⟨ds,hds,rfl⟩:=h;have f:=y.ag;refine⟨θ',a,w',cs,.panic ps,⟨todo,C1 I⟩,⟨J,qH.forget ds (e.vC.up f Up.of),e.size,ib.up f Up.of e.aZ,qW.up f Up.of e.up,AA.up f Up.of e.round⟩,y,⟨L,Y⟩,rfl,fD.refl e.up⟩
theorem YB(e:dY P){ops:Array Pl}{l:List (List bL×fN)}(hl:du (ops.toList.map (gA P))=B1 l){safe:Nat->Option (List Nat)}{qs:List (Bool×Nat)}{steps:List aP}
 (h:du (qs.map (jD ops l safe))=B1 steps):∀s∈steps,dJ s.op:=by
 intro s hs;have⟨i,f⟩:=L7 hs;have:=(AG h).2 i s f;rw[xm,xt]at this;have⟨q,_,j⟩:=this;obtain⟨o,a,g,ho,ha,_,rfl⟩:=NA j;have:=(AG hl).2 _ a ha;rw[xm,xt]at this;have⟨o',_,c⟩:=this;have⟨xs,_,d,_⟩:=Nk e c;exact d.mono
def ο(A:dY P){rt:RT}(d:wv P base rt.call)(c:xN P base rt.round)(m:rt.AP=aX P)(e:qB rt.call)(j:AE rt.round)
 {ops:Array Pl} {t:Nat} (n:ops.toList.all (pz t)=B4) {l:List (List bL×fN)} (hl:du (ops.toList.map (gA P))=B1 l) {b:O8} {k:List Item} {safe:Nat->Option (List Nat)} :
 ∀(todo:List Nat){steps:List aP},du (todo.map λ i=>jD ops l safe (B2,i))=B1 steps -> ∀{D:Nat->Prop}{θ:Th}{st:St}{a:Act}{cs:List O8}{w:NG}{r:aW×St},
  SR P base D θ b t rt.ctx.round st a cs w->(ia steps).run rt st=B1 r->eC D st.H.au r.2.H.au->Out P base D θ b t rt.ctx.round k st cs w (lone (b.atR a (.inRegion ops todo::k)) cs w) r.1 r.2
 |[],steps,hs,D,θ,st,a,cs,w,r,hS,h,hf=>by
  cases hs;cases h;refine⟨θ,a,w,cs,.normal,StepsIn.one trivial stepR_region_end,by grind [Up.none],bD.refl _ _ _ _,trivial,rfl,fD.refl hS.up⟩
 |i::todo,steps,hs,D,θ,st,a,cs,w,r,hS,h,hf=>by
  simp only[kh,du,qj,qk]at hs;obtain⟨s,z,rest,q,rfl⟩:=hs;obtain⟨o,ca,g,ho,y,hg,rfl⟩:=NA z;have v:gA P o=B1 ca:=by
   have:=(AG hl).2 _ ca y
   grind
  have p:pz t o=true:=by
   grind
  have f:∀s∈rest,dJ s.op:=by
   have G:du ((todo.map λ i=>(B2,i)).map (jD ops l safe))=B1 rest:=by rw[AJ];exact q
   grind [YB]
  exact xkk A d c m e j (K:=(ia rest).run rt) ho v hg rfl rfl rfl rfl p hS (λ st r h=>xgr e j f h) h hf
   (λ E θ1 dh F B w1 u C x=>ο A d c m e j n hl todo q u C x)
end
end Go.Am
namespace Go.Am
def Oy(P:Jv)(base:Nat)(rt:RT):Prop :=
 ∀(nt id:Nat)(ops:Array Pl)(c:ai),iZ P nt ops B4=B1 c -> ∀(D:Nat->Prop)θ(b:O8)k st a cs w r,SR P base D θ b nt rt.ctx.round st a cs w->(bK c).run rt st=B1 r ->
  eC D st.H.au r.2.H.au->Out P base D θ b nt rt.ctx.round k st cs w (lone (b.atR a (.code (.region id ops B4)::k)) cs w) r.1 r.2
section
variable{P:Jv}{base:Nat}
def xj7{d:Nat}{ops:Array Pl}{c:ai}(h:iZ P d ops B2=B1 c):∃l steps,ops.toList.all (pz d)=B4/\du (ops.toList.map (gA P))=B1 l /\
 du ((N5 ops.size).map λ i=>jD ops l (λ _=>B1 []) (B2,i))=B1 steps/\c=.region steps:=by
 unfold iZ at h;split at h
 .rename_i e;simp only[qj]at h;have⟨l,hl,h⟩:=h;simp only[zr,oX,qj,qk]at h
  grind
 grind
theorem xgh(d:dY P){e:Nat}{ops:Array Pl}{draw:Bool}{c:ai}(h:iZ P e ops draw=B1 c):uy c:=by
 unfold iZ at h;split at h
 .simp only[qj]at h;have⟨l,hl,h⟩:=h;split at h
  .rcases ym h with⟨_,h⟩|⟨_,h⟩
   .simp only[qj,qk]at h;obtain⟨steps,hs,rfl⟩:=h;exact YB d hl hs
   .cases h;trivial
  .simp only[qj,qk]at h;obtain⟨steps,hs,rfl⟩:=h;exact YB (safe:=λ _=>B1 []) (qs:=(N5 ops.size).map λ i=>(B2,i)) d hl (by rw[AJ];exact hs)
 grind
def vY(g:dY P){s:Nat}:∀(c:Code){kk:Nat}{ac:ai}{L:List dT},cw P s kk c=B1 (ac,L)->uy ac /\ ∀lp∈L,uy lp.assign/\uy lp.body
 | .skip,kk,ac,L,h=>by cases h;exact⟨trivial,by simp⟩
 | .region _ ops draw,kk,ac,L,h=>by
  grind [cw,qj,xgh]
 | .seq a b,kk,ac,L,h=>by
  simp only[cw,qj,qk,zk]at h;obtain⟨⟨x,m⟩,d,⟨y,q⟩,l,rfl,rfl⟩:=h;have⟨n,p⟩:=vY g a d;have⟨e,j⟩:=vY g b l;exact⟨⟨n,e⟩,λ lp hl=>by grind⟩
 | .cond c a b,kk,ac,L,h=>by
  simp only[cw,qj,qk,zk]at h;obtain⟨r,_,⟨x,m⟩,d,⟨y,q⟩,l,rfl,rfl⟩:=h;have⟨n,p⟩:=vY g a d;have⟨e,j⟩:=vY g b l;exact⟨⟨n,e⟩,λ lp hl=>by grind⟩
 | .block id b,kk,ac,L,h=>by
  simp only[cw,qj,qk,zk]at h;obtain⟨⟨x,m⟩,d,rfl,rfl⟩:=h;have⟨e,j⟩:=vY g b d;exact⟨e,j⟩
 | .loop b,kk,ac,L,h=>by
  simp only[cw,qj,qk,zk]at h;obtain⟨⟨x,m⟩,d,rfl,rfl⟩:=h;have⟨e,j⟩:=vY g b d;exact⟨e,j⟩
 | .rangeFunc f ps a b,kk,ac,L,h=>by
  simp only[cw,qj]at h;have⟨r,_,⟨x,m⟩,d,⟨y,q⟩,l,h⟩:=h;split at h
  .cases h;have⟨n,p⟩:=vY g a d;have⟨e,j⟩:=vY g b l;refine⟨trivial,λ lp hl=>?_⟩
   grind
  grind
 | .exit _,kk,ac,L,h=>by cases h;exact⟨trivial,by simp⟩
 | .scope b,kk,ac,L,h=>by
  simp only[cw,qj,qk,zk]at h;obtain⟨⟨x,m⟩,d,rfl,rfl⟩:=h;have⟨e,j⟩:=vY g b d;exact⟨e,j⟩
 | .label _,kk,ac,L,h=>by cases h;exact⟨trivial,by simp⟩
 | .goto _,kk,ac,L,h=>by cases h;exact⟨trivial,by simp⟩
 | .ret,kk,ac,L,h=>by cases h;exact⟨trivial,by simp⟩
 | .refuse _,kk,ac,L,h=>by cases h;exact⟨trivial,by simp⟩
def VO(d:dY P):Sr (aX P):=by
 intro f e h;simp only[aX,qj]at h;have⟨fn,_,h⟩:=h;simp only[vM,qj,qk]at h;obtain⟨b,_,⟨c,L⟩,hc,_,_,rfl⟩:=h;exact vY d b hc
def XH{r:Nat}:∀(c:Code){kk:Nat}{ac:ai}{L:List dT},cw P r kk c=B1 (ac,L) -> ∀l,FU ac l=(findLabel c l).isSome
 | .skip,kk,ac,L,h,l=>by injection h with h;injection h with d g;subst d;rfl
 | .region _ ops draw,kk,ac,L,h,l=>by
  simp only[cw,qj,qk,zk]at h;obtain⟨c,hc,rfl,rfl⟩:=h;unfold iZ at hc;split at hc
  .simp only[qj]at hc;have⟨l,hl,hc⟩:=hc;split at hc
   .rcases ym hc with⟨_,hc⟩|⟨_,hc⟩
    .simp only[qj,qk]at hc;obtain⟨_,_,rfl⟩:=hc;rfl
    .cases hc;rfl
   .simp only[qj,qk]at hc;obtain⟨_,_,rfl⟩:=hc;rfl
  grind
 | .seq a b,kk,ac,L,h,l=>by
  simp only[cw,qj,qk,zk]at h;obtain⟨⟨x,m⟩,j,⟨y,p⟩,n,rfl,rfl⟩:=h;have d:=XH a j l;have g:=XH b n l
  grind [FU,findLabel]
 | .cond c a b,kk,ac,L,h,l=>by
  simp only[cw,qj,qk,zk]at h;obtain⟨q,_,⟨x,m⟩,j,⟨y,p⟩,n,rfl,rfl⟩:=h;rfl
 | .block id b,kk,ac,L,h,l=>by
  simp only[cw,qj,qk,zk]at h;obtain⟨⟨x,m⟩,j,rfl,rfl⟩:=h;rfl
 | .loop b,kk,ac,L,h,l=>by
  simp only[cw,qj,qk,zk]at h;obtain⟨⟨x,m⟩,j,rfl,rfl⟩:=h;rfl
 | .rangeFunc f ps a b,kk,ac,L,h,l=>by
  simp only[cw,qj]at h;have⟨q,_,⟨x,m⟩,j,⟨y,p⟩,n,h⟩:=h;split at h
  .injection h with h;injection h with d g;subst d;rfl
  grind
 | .exit _,kk,ac,L,h,l=>by injection h with h;injection h with d g;subst d;rfl
 | .scope b,kk,ac,L,h,l=>by
  simp only[cw,qj,qk,zk]at h;obtain⟨⟨x,m⟩,j,rfl,rfl⟩:=h;rfl
 | .label l',kk,ac,L,h,l=>by
  injection h with h;injection h with d g;subst d
  simp only[FU,findLabel]
  by_cases e:l'=l
  .simp [e]
  .simp only[beq_iff_eq,e,oX,N8]
   grind [ke]
 | .goto _,kk,ac,L,h,l=>by injection h with h;injection h with d g;subst d;rfl
 | .ret,kk,ac,L,h,l=>by injection h with h;injection h with d g;subst d;rfl
 | .refuse _,kk,ac,L,h,l=>by injection h with h;injection h with d g;subst d;rfl
def xbx{b:O8}{a:Act}{body:Code}{k:List Item}{cs:List O8}{w:NG}:step P (lone (b.atR a (.inScope body::k)) cs w)=.next (lone (b.atR a k) cs w) :=
 step_lone_go (by simp[stepG,stepG.exec,CK])
def xgq{b:O8}{a:Act}{body:Code}{k:List Item}{cs:List O8}{w:NG}:step P (lone (b.atR a (.code (.scope body)::k)) cs w)=.next (lone (b.atR a (.code body::.inScope body::k)) cs w) :=
 step_lone_go (by simp[stepG,stepG.exec,CK])
def Out.pass{D:Nat->Prop}{θ:Th}{b:O8}{f:Nat}{rd:Option Nat}{x:Item}(s:x.plain=B4){k:List Item}{st:St}{cs:List O8}{w:NG}{m:Machine}{e:aW}{c:St}(he:Ak e=B2)
 (h:Out P base D θ b f rd (x::k) st cs w m e c):Out P base D θ b f rd k st cs w m e c:=by
 have⟨θ',g,w',cs',e',j,l,n,d,p,r⟩:=h;refine⟨θ',g,w',cs',e',.pass s (λ _ _=>.inl ?_) j,l,n,d,p,r⟩;intro q;subst q;cases e<;>first|exact d.elim|cases he
def Out.here{D:Nat->Prop}{θ:Th}{b:O8}{c:Nat}{rd:Option Nat}{k:List Item}{st:St}{a:Act}{cs:List O8}{w:NG}{m:Machine}{e:aW}{e':Exit}(f:SR P base D θ b c rd st a cs w)
 (d:ArrivesIn oV P m b k cs e' a w) (g:BU D θ e e'):Out P base D θ b c rd k st cs w m e st :=
 ⟨θ,a,w,cs,e',d,by grind [Up.none],bD.refl _ _ _ _,by grind [Up.none],rfl,fD.refl f.up⟩
def qut{w:NG}(fn:FuncId)(tmps:Array KP)(c:Array Tmp)(as body:Code){l:Nat}{r:Loop}(h:w.heap[l]? = B1 (.loop r)) :
 (Instr.enterLoop fn tmps c as body (B1 l)).run P w=.ok (w.heap.size,[]) (w.alloc (.loop {state:=.ready,pending:=B5,fn,tmps,params:=c,assign:=as,body,defers:=r.defers})):=by
 simp_all[Instr.enterLoop,run_getLoop]
def q7o{d:Nat}{c:Code}{kk:Nat}{ac:ai}{L:List dT}(h:cw P d kk c=B1 (ac,L)){l:Nat}(hl:FU ac l=B2):findLabel c l=none:=by
 rw[XH c h l]at hl
 simpa using hl
def mu{b:O8}{a:Act}{k:List Item}{cs:List O8}{w:NG}(id:Nat):ArrivesIn oV P (lone (b.atR a (.code (.exit id)::k)) cs w) b k cs (.exit id) a w :=
 ⟨λ _ hk=>.one trivial (stepR_exit hk),λ _ hk=>⟨k,hk,.refl _⟩⟩
def qzw{b:O8}{a:Act}{k:List Item}{cs:List O8}{w:NG}(l:Nat):ArrivesIn oV P (lone (b.atR a (.code (.goto l)::k)) cs w) b k cs (.goto l) a w :=
 ⟨λ _ hk=>.one trivial (stepR_goto hk),λ _ hk=>⟨k,hk,.refl _⟩⟩
def Φ{b:O8}{a:Act}{k:List Item}{cs:List O8}{w:NG}:ArrivesIn oV P (lone (b.atR a (.code .ret::k)) cs w) b k cs .ret a w :=
 ⟨λ hn=>⟨_,.one trivial (stepR_ret hn)⟩,λ _=>⟨k,.refl _⟩⟩
def xda{D:Nat->Prop}{θ:Th}{b:O8}{a:Act}{k:List Item}{cs:List O8}{w:NG}(p:Option im):∃e',BU D θ (qP p) e' /\
 ArrivesIn oV P (lone (b.atR a (((p.map mJ).map Item.code).toList++k)) cs w) b k cs e' a w:=by
 cases p with
 |none=>exact⟨.normal,trivial,.refl _⟩
 |some j =>
  cases j with
  |exit id=>exact⟨.exit id,rfl,mu id⟩
  |goto l=>exact⟨.goto l,rfl,qzw l⟩
  |ret=>exact⟨.ret,trivial,Φ⟩
def sq{call:cj}{round:iS}{ctx:Ctx}(L:wv P base call){D:Nat->Prop}{θ:Th}{b:O8}{nt:Nat}{st:St}{a:Act}{cs:List O8}{w:NG}{k:List Item}{H0:ar}{aZ:List aK}{w0:NG}{mark:List Deferred}{d:Nat}
 (hP:dY P) {g:N2} {A:Array Tmp} {as body:Code} {kk:Nat} {v:AV} {r:aW×St} {θ0:Th}
 (h0:HR P base (Up D st.H.au H0.au) θ0 H0 w0) (g0:bD D st.H θ w H0 θ0 w0) (Q:st.H.au<=H0.au) (F:SR P base D θ b nt ctx.round st a cs w) (hv:VR D θ v (a.eval g)) (hd:Up D st.H.au H0.au d)
 (hdf:ib (Up D st.H.au H0.au) θ0 aZ (mark++a.defers)) (N:wM P ctx.fn kk a.tmps.size A as body) (hfn:b.fn=ctx.fn)
 (he:(Instr.enterLoop b.fn a.tmps A as body b.roundOf).run P w=.ok (w0.heap.size,mark) (w0.alloc (.loop {state:=.ready,pending:=B5,fn:=b.fn,tmps:=a.tmps,params:=A,assign:=as,body,defers:=θ0.cm d})))
 (hr:jK call round ctx st kk H0 aZ d v=B1 r) (hf:eC D st.H.au r.2.H.au) (hm:qB call) :
 Out P base D θ b nt ctx.round k st cs w (lone (b.atR a (.code (.rangeFunc g A as body)::k)) cs w) r.1 r.2:=by
 unfold jK at hr;split at hr
 .rename_i f first cap
  simp only[dc,yr,qr,qj]at hr;have⟨⟨e,u,H'⟩,hcl,hr⟩:=hr;have O:H0.au+1<=H'.au:=(hm _ _ _ _ _ _ _ hcl).1;have hrn:r.2.H.au=H'.au/\r.2.aZ=aZ/\r.2.tm=st.tm/\r.2.up=st.up:=by
   unfold Nv at hr;split at hr
   .grind
   .split at hr
    .cases hr
    .cases hr;exact⟨rfl,rfl,rfl,rfl⟩
    grind
  rw[hrn.1]at hf;have hn:¬Up D st.H.au H0.au H0.au:=λ q=>by
   rcases q with q|⟨_,q⟩
   .exact hf _ Q (by omega) q
   .omega
  -- the record
  have Y:=g0.ag;have G:=Th.gZ θ0 H0.au w0.heap.size 0 0 hn;have⟨e1,e2,e3⟩:=Th.eO θ0 H0.au w0.heap.size 0 0;have m:∀x,D x->Up (Up D st.H.au H0.au) H0.au (H0.au+1) x:=λ x z=>.inl (.inl z);have V:Up (Up D st.H.au H0.au) H0.au (H0.au+1) H0.au:=.inr ⟨qm _,zu _⟩;have n:Ag D θ (θ0.add H0.au w0.heap.size 0 0):=Y.trans G (λ x z=>.inl z);have hR:oR P (Up (Up D st.H.au H0.au) H0.au (H0.au+1)) (θ0.add H0.au w0.heap.size 0 0) H0.au (.loop .ready B5 ctx.fn kk st.tm d)
   (.loop {state:=.ready,pending:=B5,fn:=b.fn,tmps:=a.tmps,params:=A,assign:=as,body,defers:=θ0.cm d}) :=
   ⟨_,rfl,rfl,rfl,hfn,F.vC.up n m,N,.inl hd,((G d hd).1).symm⟩
  have h1:=h0.alloc hn (w':=w0.alloc (.loop {state:=.ready,pending:=B5,fn:=b.fn,tmps:=a.tmps,params:=A,assign:=as,body,defers:=θ0.cm d})) (co:=.loop {state:=.ready,pending:=B5,fn:=b.fn,tmps:=a.tmps,params:=A,assign:=as,body,defers:=θ0.cm d}) (k:=w0.heap.size) (off:=0) (ext:=0) (by rw[Dv];simp)
   (by simp_all[Dv,K5]) (qm _) (by simp) hR
  have g1:=bD.alloc (base:=base) h0 hn (.loop .ready B5 ctx.fn kk st.tm d) (.loop {state:=.ready,pending:=B5,fn:=b.fn,tmps:=a.tmps,params:=A,assign:=as,body,defers:=θ0.cm d}) 0 0
  -- the call
  have⟨fi,ci,q3,q4,q5,q6⟩:=US hv;have I:bM (Up (Up D st.H.au H0.au) H0.au (H0.au+1)) (θ0.add H0.au w0.heap.size 0 0) (first++(.fn (.yield H0.au) [] []::cap)) ((fi.toArray ++ #[KP.func (.yield w0.heap.size) #[] #[]])++ci.toArray).toList:=by
   simp only[Array.toList_append,jf];refine(q4.up n m).app (.cons (λ θ'' h''=>?_) (q5.up n m));simp only[az,fJ,bT];rw[(h'' _ V).1,e1]
  have⟨⟨fn,c,k1,k2⟩,θ',w',cs',fr,e',s1,s2,s3,s4,S,s6,s7,s8,s9,s10⟩:=L _ _ _ _ f _ ((fi.toArray ++ #[KP.func (.yield w0.heap.size) #[] #[]])++ci.toArray) B5 H' e u .normal
   (b.atR {a with defers:=mark++a.defers} (.inRangeFunc w0.heap.size::k)::cs) h1 I rfl hcl (λ x h3 h4 U=>by
    rw[Up.up Q (jy _)]at U;rcases U with U|⟨_,U⟩
    .exact hf x (by have:H0.au+1<=x:=h3;omega) h4 U
    .have:H0.au+1<=x:=h3;omega)
  have hcs:cs'=b.atR {a with defers:=mark++a.defers} (.inRangeFunc w0.heap.size::k)::cs:=s9;subst hcs;have t:=stepR_rangeFunc (P:=P) (b:=b) (a:=a) (k:=k) (cs:=cs) (w:=w) (g:=g) (l:=w0.heap.size) (d:={target:=.fn (.func f) ci.toArray,args:=fi.toArray ++ #[KP.func (.yield w0.heap.size) #[] #[]]}) he
   (by
   show(Bb (a.eval g) (#[N2.const (.func (.yield w0.heap.size) #[] #[])].map a.eval)).run P _=_;rw[q3];simp[Bb,fJ,Act.eval];rfl) (by
    show(callFunc f (_++ci.toArray)).run P _=_;exact PG hP k1 k2)
  have hl:=UO s4 s2;have hupa:Up (Up (Up D st.H.au H0.au) H0.au (H0.au+1)) (H0.au+1) H'.au=Up D st.H.au H'.au:=by
   rw[Up.up (jy _) O,Up.up Q (by omega)]
  have y:(H0.alloc (.loop .ready B5 ctx.fn kk st.tm d)).au=H0.au+1:=rfl;rw[y,hupa]at S s6 s10;have h:bD D st.H θ w H' θ' w':=(g0.trans g1 Up.of).trans s7 m;have W:∀x,Up D st.H.au H0.au x->Up D st.H.au H'.au x:=λ x z=>by
   rcases z with z|⟨h1,h2⟩
   .exact .inl z
   .exact .inr ⟨h1,by omega⟩
  have Z:Ag (Up D st.H.au H0.au) θ0 θ':=G.trans s7.ag (λ x z=>.inl z);have X:∀(E:ar)(R:NG),HR P base (Up D st.H.au H'.au) θ' E R->SR P base (Up D st.H.au H'.au) θ' b nt ctx.round {st with aZ:=aZ,H:=E} {a with defers:=mark++a.defers} cs R:=λ E R hh =>
   ⟨hh,F.vC.up h.ag Up.of,F.size,ib.up Z W hdf,qW.up h.ag Up.of F.up,AA.up h.ag Up.of F.round⟩
  unfold Nv at hr;cases e with
  |panic ch =>
   cases hr;cases e' with
   |returned _=>exact S.elim
   |outgrown=>exact S.elim
   |panicked ps' =>
    refine⟨θ',_,w',cs,.panic ps',⟨.inRangeFunc w0.heap.size::k,C1 (.head t (s1.trans (.one (by rw[step_leave_panicked hl,Cp]))))⟩,X _ _ s6,h,S,rfl,fD.refl F.up⟩
  |ret x =>
   cases e' with
   |panicked _=>exact S.elim
   |outgrown=>exact S.elim
   |returned cx =>
    have J:Steps P (lone (b.atR a (.code (.rangeFunc g A as body)::k)) cs w) (lone (b.atR {a with defers:=mark++a.defers} (.endRangeFunc w0.heap.size::k)) cs w'):=by
     exact .head t (s1.trans (.one (by rw[step_leave_returned hl,finish_atR_inRangeFunc])))
    simp only at hr;split at hr
    .cases hr
    .rename_i ls p f2 k2' tm2 d2 hnb j;cases hr;obtain⟨hDl',co,hco,rl,rfl,r1,r2,r3,r4,r5,r6,r7⟩:=s6.obj _ _ j;have s:θ'.cm H0.au=w0.heap.size:=by rw[(s7.ag _ V).1,e1]
     rw[s]at hco;have K:rl.state≠ .busy:=by
      intro q;rw[r1]at q;cases ls with
      |busy=>grind
      |ready=>cases q
      |done=>cases q
      |exhausted=>cases q
     have hend:=run_endLoop (P:=P) hco K;have M:=stepR_endRangeFunc (b:=b) (a:={a with defers:=mark++a.defers}) (k:=k) (cs:=cs) hend;have C:=s6.set (o':=.loop .exhausted p f2 k2' tm2 d2) (co':=.loop {rl with state:=.exhausted}) j rfl rfl ⟨_,rfl,rfl,r2,r3,r4,r5,r6,r7⟩;rw[s]at C;have B:bD (Up D st.H.au H'.au) H' θ' w' (H'.set H0.au (.loop .exhausted p f2 k2' tm2 d2)) θ' (fF w' (θ'.cm H0.au) (.loop {rl with state:=.exhausted})):=bD.set j rfl (s6.lt j);rw[s]at B;have⟨e'',k3,k4⟩:=xda (P:=P) (D:=Up D st.H.au H'.au) (θ:=θ') (b:=b) (a:={a with defers:=mark++a.defers}) (k:=k) (cs:=cs) (w:=fF w' w0.heap.size (.loop {rl with state:=.exhausted})) p;rw[<-r2]at k4;exact⟨θ',_,_,cs,e'',.of_steps (C1 (J.trans (.one M))) k4,X _ _ C,h.trans B Up.of,k3,rfl,fD.refl F.up⟩
    grind
 grind
def Out.normal{D:Nat->Prop}{θ:Th}{b:O8}{e:Nat}{rd:Option Nat}{k:List Item}{st:St}{cs:List O8}{w:NG}{m:Machine}{c:St}(h:Out P base D θ b e rd k st cs w m .normal c) :
 ∃θ' d w' cs',Steps P m (lone (b.atR d k) cs' w')/\SR P base (Up D st.H.au c.H.au) θ' b e rd c d cs' w'/\bD D st.H θ w c.H θ' w'/\c.up.isSome=st.up.isSome/\fD st.up cs cs':=by
 have⟨θ',d,w',cs',e',f,g,j,l,n,p⟩:=h;cases e'<;>first|exact⟨θ',d,w',cs',BR f,g,j,n,p⟩|exact l.elim
def Out.head{D:Nat->Prop}{θ:Th}{b:O8}{f:Nat}{rd:Option Nat}{k:List Item}{st:St}{cs:List O8}{w:NG}{m d:Machine}{e:aW}{c:St}(hs:step P m=.next d)
 (h:Out P base D θ b f rd k st cs w d e c):Out P base D θ b f rd k st cs w m e c:=by
 have⟨θ',g,w',cs',e',j,l,n,p,q,r⟩:=h;exact⟨θ',g,w',cs',e',.of_steps (StepsIn.one trivial hs) j,l,n,p,q,r⟩
def _G(id c:Nat)(k:List Item):exitTo c (.inBlock id::k)=if id=c then B1 k else exitTo c k:=by
 simp[exitTo]
def Nj{α:Type}(a b:List α)(i:Nat):nth (a++b) i=if i<a.length then nth a i else nth b (i-a.length):=by
 grind [jP]
set_option maxHeartbeats 1000000 in
def AU(R:dY P){rt:RT}(m:wv P base rt.call)(f:xN P base rt.round)(I:rt.AP=aX P)(z:qB rt.call)(C:AE rt.round)(t:Oy P base rt)
 {fn:Func} {af:bZ} (K:P.funcs[rt.ctx.fn]? = B1 fn) (J:vM P fn=B1 af):∀(c:Code){kk:Nat}{ac:ai}{L:List dT},cw P fn.ntmps kk c=B1 (ac,L)->(∀i l,nth L i=B1 l->nth af.loops (kk+i)=B1 l) ->
 ∀{D:Nat->Prop}{θ:Th}{b:O8}{k:List Item}{st:St}{a:Act}{cs:List O8}{w:NG}{r:aW×St},SR P base D θ b fn.ntmps rt.ctx.round st a cs w->b.fn=rt.ctx.fn->(bK ac).run rt st=B1 r ->
  eC D st.H.au r.2.H.au->Out P base D θ b fn.ntmps rt.ctx.round k st cs w (lone (b.atR a (.code c::k)) cs w) r.1 r.2
 | .skip,kk,ac,L,h,hL,D,θ,b,k,st,a,cs,w,r,s,hb,hr,B=>by
  injection h with h;injection h with u E;subst u
  injection hr with hr;subst hr
  exact .here s (e':=.normal) (StepsIn.one trivial stepR_skip) trivial
 | .label _,kk,ac,L,h,hL,D,θ,b,k,st,a,cs,w,r,s,hb,hr,B=>by
  injection h with h;injection h with u E;subst u
  injection hr with hr;subst hr
  exact .here s (e':=.normal) (StepsIn.one trivial stepR_label) trivial
 | .exit id,kk,ac,L,h,hL,D,θ,b,k,st,a,cs,w,r,s,hb,hr,B=>by
  injection h with h;injection h with u E;subst u
  injection hr with hr;subst hr
  exact .here s (mu id) rfl
 | .goto l,kk,ac,L,h,hL,D,θ,b,k,st,a,cs,w,r,s,hb,hr,B=>by
  injection h with h;injection h with u E;subst u
  injection hr with hr;subst hr
  exact .here s (qzw l) rfl
 | .ret,kk,ac,L,h,hL,D,θ,b,k,st,a,cs,w,r,s,hb,hr,B=>by
  injection h with h;injection h with u E;subst u
  injection hr with hr;subst hr
  exact .here s Φ trivial
 | .refuse _,kk,ac,L,h,hL,D,θ,b,k,st,a,cs,w,r,s,hb,hr,B=>by
  injection h with h;injection h with u E;subst u
  cases hr
 | .region id ops draw,kk,ac,L,h,hL,D,θ,b,k,st,a,cs,w,r,s,hb,hr,B=>by
  simp only[cw,qj,qk,zk]at h;obtain⟨c,hc,rfl,rfl⟩:=h;cases draw with
  |false =>
   obtain⟨l,steps,u,E,N,rfl⟩:=xj7 hc;exact .head stepR_region (ο R m f I z C u E _ N s hr B)
  |true=>exact t _ id ops c hc D θ b k st a cs w r s hr B
 | .seq x y,kk,ac,L,h,hL,D,θ,b,k,st,a,cs,w,r,s,hb,hr,B=>by
  simp only[cw,qj,qk,zk]at h;obtain⟨⟨ax,M⟩,G,⟨ay,ly⟩,hy,rfl,rfl⟩:=h;simp only[bK,qj]at hr;obtain⟨⟨e,dh⟩,V,hr⟩:=hr;have hmy:=(vY R y hy).1;have X:=NQ z C (vY R x G).1 V;have W:∀i l,nth M i=B1 l->nth af.loops (kk+i)=B1 l:=λ i l hl=>hL i l (by
   rw[Nj,xg]
   .exact hl
   .rw [jP]at hl;exact(qo.1 hl).1)
  have hLy:∀i l,nth ly i=B1 l->nth af.loops (kk+M.length+i)=B1 l:=λ i l hl=>by
   rw[wq];exact hL (M.length+i) l (by
    show nth (M++ly) (M.length+i)=_;rw[Nj,qy (by omega),Ow];exact hl)
  refine .head stepR_seq ?_
  by_cases he:e=.normal
  .subst he;simp only[vK]at hr;have A:=NQ z C hmy hr;obtain⟨θ',Q,w',cs',u,E,N,F,O⟩:=(AU R m f I z C t K J x G W (k:=.code y::k) s hb V (B.left A)).normal;exact Out.after u N F O A (AU R m f I z C t K J y hy hLy E hb hr (B.right X))
  .have hn:Ak e=false:=by cases e<;>first|rfl|exact absurd rfl he
   have hr':r=(e,dh):=by
    cases e<;>first|exact absurd rfl he|(injection hr with hr;exact hr.symm)
   subst hr';exact Out.pass (x:=.code y) rfl hn (AU R m f I z C t K J x G W s hb V B)
 | .cond c x y,kk,ac,L,h,hL,D,θ,b,k,st,a,cs,w,r,s,hb,hr,B=>by
  simp only[cw,qj,qk,zk]at h;obtain⟨cc,hcc,⟨ax,M⟩,G,⟨ay,ly⟩,hy,rfl,rfl⟩:=h;simp only[bK,qj]at hr;obtain⟨v,hv,hr⟩:=hr;rw[J3]at hv;have hvr:=EH (a:=a) s.heap s.vC hcc hv;have W:∀i l,nth M i=B1 l->nth af.loops (kk+i)=B1 l:=λ i l hl=>hL i l (by
   rw[Nj,xg]
   .exact hl
   .rw [jP]at hl;exact(qo.1 hl).1)
  have hLy:∀i l,nth ly i=B1 l->nth af.loops (kk+M.length+i)=B1 l:=λ i l hl=>by
   rw[wq];exact hL (M.length+i) l (by
    show nth (M++ly) (M.length+i)=_;rw[Nj,qy (by omega),Ow];exact hl)
  unfold uG at hr;split at hr
  .rename_i q;refine .head (stepR_cond hvr.now.symm) ?_;cases q with
   |true=>exact AU R m f I z C t K J x G W s hb hr B
   |false=>exact AU R m f I z C t K J y hy hLy s hb hr B
  .cases hr
 | .block id x,kk,ac,L,h,hL,D,θ,b,k,st,a,cs,w,r,s,hb,hr,B=>by
  simp only[cw,qj,qk,zk]at h;obtain⟨⟨ax,M⟩,G,rfl,rfl⟩:=h;simp only[bK,qj]at hr;obtain⟨⟨e,dh⟩,V,hr⟩:=hr;have Z:r.2=dh:=by
   unfold kP at hr;split at hr<;>(injection hr with hr;subst hr;rfl)
  obtain⟨θ',Q,w',cs',e',u,E,N,F,O,S⟩:=AU R m f I z C t K J x G hL (k:=.inBlock id::k) s hb V (Z▸B);refine .head stepR_block ?_;rw[Z];unfold kP at hr;cases e with
  |normal =>
   injection hr with hr;subst hr
   cases e'<;>try exact F.elim
   exact⟨θ',Q,w',cs',.normal,StepsIn.trans u (.one trivial stepR_inBlock),E,N,trivial,O,S⟩
  |exit id' =>
   injection hr with hr;subst hr
   cases e'<;>try exact F.elim
   rename_i j;have F:j=id':=F;subst F;cases hbq:JW id j with
   |true =>
    simp only[ke]at hbq;subst hbq;exact⟨θ',Q,w',cs',.normal,u.1 k (by rw[_G,xg rfl]),E,N,trivial,O,S⟩
   |false =>
    have hne:¬id=j:=by intro q;subst q;simp at hbq
    have G:exitTo j (.inBlock id::k)=exitTo j k:=by rw[_G,qy hne]
    exact⟨θ',Q,w',cs',.exit j,⟨λ k' hk=>u.1 k' (by rw[G];exact hk),λ hr hk=>u.2 hr (by rw[G];exact hk)⟩,E,N,rfl,O,S⟩
  |goto l =>
   injection hr with hr;subst hr
   cases e'<;>try exact F.elim
   rename_i j;have G:gotoIn j (.inBlock id::k)=gotoIn j k:=rfl;exact⟨θ',Q,w',cs',.goto j,⟨λ k' hk=>u.1 k' (by rw[G];exact hk),λ hr hk=>u.2 hr (by rw[G];exact hk)⟩,E,N,F,O,S⟩
  |ret =>
   injection hr with hr;subst hr
   cases e'<;>try exact F.elim
   exact⟨θ',Q,w',cs',.ret,u,E,N,trivial,O,S⟩
  |panic ch =>
   injection hr with hr;subst hr
   cases e'<;>try exact F.elim
   rename_i ps;exact⟨θ',Q,w',cs',.panic ps,u,E,N,F,O,S⟩
 | .scope x,kk,ac,L,h,hL,D,θ,b,k,st,a,cs,w,r,s,hb,hr,B=>by
  simp only[cw,qj,qk,zk]at h;obtain⟨⟨ax,M⟩,G,rfl,rfl⟩:=h;simp only[bK,qj]at hr;obtain⟨⟨e,dh⟩,V,hr⟩:=hr;have Z:r=(e,dh) /\ ∀l,e=.goto l->FU ax l=false:=by
   unfold mq at hr;split at hr
   .rename_i l he;simp only at he;rcases ym hr with⟨_,hr⟩|⟨hl,hr⟩
    .cases hr
    .injection hr with hr;subst he;exact⟨hr.symm,λ l' h'=>by injection h' with h';subst h';exact hl⟩
   .rename_i hne;injection hr with hr;exact⟨hr.symm,λ l' h'=>(hne l' h').elim⟩
  obtain⟨rfl,hlab⟩:=Z;obtain⟨θ',Q,w',cs',e',u,E,N,F,O,S⟩:=AU R m f I z C t K J x G hL (k:=.inScope x::k) s hb V B;refine .head xgq ?_;cases e with
  |normal =>
   cases e'<;>try exact F.elim
   exact⟨θ',Q,w',cs',.normal,StepsIn.trans u (.one trivial xbx),E,N,trivial,O,S⟩
  |exit id' =>
   cases e'<;>try exact F.elim
   rename_i j;have G:exitTo j (.inScope x::k)=exitTo j k:=rfl;exact⟨θ',Q,w',cs',.exit j,⟨λ k' hk=>u.1 k' (by rw[G];exact hk),λ hr hk=>u.2 hr (by rw[G];exact hk)⟩,E,N,F,O,S⟩
  |goto l =>
   cases e'<;>try exact F.elim
   rename_i j;have F:j=l:=F;subst F;have hfl:=q7o G (hlab j rfl);have hg:gotoIn j (.inScope x::k)=gotoIn j k:=by simp[gotoIn,hfl]
   exact⟨θ',Q,w',cs',.goto j,⟨λ k' hk=>u.1 k' (by rw[hg];exact hk),λ hr hk=>u.2 hr (by rw[hg];exact hk)⟩,E,N,rfl,O,S⟩
  |ret =>
   cases e'<;>try exact F.elim
   exact⟨θ',Q,w',cs',.ret,u,E,N,trivial,O,S⟩
  |panic ch =>
   cases e'<;>try exact F.elim
   rename_i ps;exact⟨θ',Q,w',cs',.panic ps,u,E,N,F,O,S⟩
 | .loop x,kk,ac,L,h,hL,D,θ,b,k,st,a,cs,w,r,s,hb,hr,B=>by
  simp only[cw,qj,qk,zk]at h;obtain⟨⟨ax,M⟩,G,rfl,rfl⟩:=h;simp only[bK]at hr;refine .head stepR_loop ?_;have X:=(vY R x G).1;have key:∀(n:Nat)(D:Nat->Prop)(θ:Th)(st:St)(a:Act)(cs:List O8)(w:NG)(r:aW×St),SR P base D θ b fn.ntmps rt.ctx.round st a cs w->gV B5 ((bK ax).run rt) n st=B1 r->eC D st.H.au r.2.H.au ->
   Out P base D θ b fn.ntmps rt.ctx.round k st cs w (lone (b.atR a (.code x::.inLoop x::k)) cs w) r.1 r.2:=by
   intro n
   induction n with
   |zero=>intro D θ st a cs w r _ hr _;cases hr
   |succ n ih =>
    intro D θ st a cs w r s hr B;simp only[gV,qj]at hr;obtain⟨⟨e,dh⟩,V,hr⟩:=hr;have hm1:=NQ z C X V
    by_cases he:e=.normal
    .subst he;simp only at hr;have A:=xjq (λ st r h=>AH z C X h) B5 n _ _ hr;obtain⟨θ',Q,w',cs',u,E,N,F,O⟩:=(AU R m f I z C t K J x G hL (k:=.inLoop x::k) s hb V (B.left A)).normal;exact Out.after (u.trans (.one stepR_inLoop)) N F O A (ih _ θ' dh Q cs' w' r E hr (B.right hm1))
    .have hn:Ak e=false:=by cases e<;>first|rfl|exact absurd rfl he
     have hr':r=(e,dh):=by
      cases e<;>first|exact absurd rfl he|(injection hr with hr;exact hr.symm)
     subst hr';exact Out.pass (x:=.inLoop x) rfl hn (AU R m f I z C t K J x G hL s hb V B)
  exact key _ D θ st a cs w r s hr B
 | .rangeFunc g ps x y,kk,ac,L,h,hL,D,θ,b,k,st,a,cs,w,r,s,hb,hr,B=>by
  simp only[cw,qj]at h;obtain⟨cg,hcg,⟨ax,M⟩,G,⟨ay,ly⟩,hy,h⟩:=h;split at h
  .rename_i Y;have Y:∀p∈ps.toList,p<fn.ntmps:=λ p hp=>by
    rw[Gm]at Y
    simpa[zU]using Y p hp
   injection h with h;injection h with u E;subst u;subst E
   simp only[bK,qj]at hr;obtain⟨v,hv,hr⟩:=hr;rw[J3]at hv;have hvr:=EH (a:=a) s.heap s.vC hcg hv;have U:wM P rt.ctx.fn kk a.tmps.size ps x y:=by
    refine⟨fn,af,_,kk+1,kk+1+M.length,M,ly,K,J,hL 0 _ rfl,rfl,Y,s.size,G,λ i l hl=>?_,hy,λ i l hl=>?_⟩
    .rw [wq];refine hL (1+i) l ?_;rw[Nat.add_comm 1 i,jP,jb,<-jP,Nj,xg]
     .exact hl
     .rw [jP]at hl;exact(qo.1 hl).1
    .rw [wq,wq];refine hL (1+(M.length+i)) l ?_;rw[Nat.add_comm 1 _,jP,jb,<-jP];show nth (M++ly) (M.length+i)=_;rw[Nj,qy (by omega),Ow];exact hl
   unfold qZ at hr;split at hr
   .rename_i hnone;have hro:b.roundOf=none:=by have:=s.round;rw[hnone]at this;exact this
    have A:st.H.au+1<=r.2.H.au:=by
     have:(st.H.alloc (.deferred (B1 []))).au<=r.2.H.au:=xgf (st:={st with H:=st.H.alloc (.deferred (B1 []))}) z (Ext.refl _) hr;exact this
    have hn:¬D st.H.au:=B _ (qm _) A;have hag:=Th.gZ θ st.H.au w.heap.size 0 0 hn;obtain⟨e1,e2,e3⟩:=Th.eO θ st.H.au w.heap.size 0 0;have hDn:Up D st.H.au (st.H.au+1) st.H.au:=.inr ⟨qm _,zu _⟩;have h0:=s.heap.alloc hn (w':=w.alloc (.deferred (B1 []))) (co:=.deferred (B1 [])) (o:=.deferred (B1 [])) (k:=w.heap.size) (off:=0) (ext:=0) (by rw[Dv];simp)
     (λ j hj=>by rw[Dv,qy (K5 hj)]) (qm _) (by simp) ⟨B1 [],rfl,rfl,rfl⟩
    have g0:=bD.alloc (base:=base) s.heap hn (.deferred (B1 [])) (.deferred (B1 [])) 0 0;refine sq m R (H0:=st.H.alloc (.deferred (B1 []))) (aZ:=.iy st.H.au::st.aZ) (d:=st.H.au) (mark:=[{target:=.collected w.heap.size,args:=#[]}]) h0 g0 (jy _) s hvr hDn ⟨⟨hDn,by rw[e1]⟩,ib.up hag Up.of s.aZ⟩ U hb ?_ hr B z;rw[hro,run_enterLoop_outer,e1];simp
   .rename_i l hl;simp only[qj]at hr;obtain⟨d,hd,hr⟩:=hr;unfold CE at hd;split at hd
    .rename_i f2 k2 tm2 d2 hget;injection hd with hd;subst hd
     obtain⟨hDl,co,hco,rl,rfl,r1,r2,r3,r4,r5,r6,r7⟩:=s.heap.obj _ _ hget;have hro:b.roundOf=B1 (θ.cm l):=by have:=s.round;rw[hl]at this;exact this.2
     refine sq m R (mark:=[]) (d:=d2) (by rw[Up.none];exact s.heap) (bD.refl _ _ _ _) (qm _) s hvr (by rw[Up.none];exact r6) (by rw[Up.none];exact s.aZ) U hb ?_ hr B z;rw[hro,qut _ _ _ _ _ hco,r7]
    .cases hd
  .cases h
end
end Go.Am
