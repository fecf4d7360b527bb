import Derived.Test.YtpnpgihabgglcaaGreatDoorAmUZa
import Derived.Deep.Upon
import Derived.Lib.UnsafeStr
import Derived.Defers
import Derived.RangeFuncRecord
import Derived.ControlIn
import Derived.RangeFuncIn
set_option linter.defProp false
set_option linter.unusedVariables false
set_option linter.unusedSimpArgs false
namespace Go.Am
def rC(P:Program)(o:Oper)(xs:List Operand)(f:List AV->ar->Option (AV×ar)):Prop :=
 ∀base(D:Nat->Prop)θ H(ρ:Operand->Value)w vs v H',HR P base D θ H w->bL D θ vs (xs.map ρ)->f vs H=some (v,H')->dV D H.au H'.au ->
  ∃θ' w' c,rL P (execOp ρ o) w c w'/\HR P base (Up D H.au H'.au) θ' H' w'/\bB D H θ w H' θ' w'/\VR (Up D H.au H'.au) θ' v c
section
variable{P:Program}{base:Nat}{D:Nat->Prop}{θ:Th}{H:ar}{w:World}
def lx{fz:Nat×Nat}{o n:Nat}(h:dY fz o n=true):∀j,j<n -> ¬(fz.1<=o+j/\o+j<fz.2):=by
 intro j c;unfold dY at h;simp only[wc,ww]at h;omega
def YO(pre cs post new:List Value)(o:Nat)(h:o+new.length<=cs.length) :
 ((pre++cs++post).toArray.toList.take (pre.length+o)++new++(pre++cs++post).toArray.toList.drop (pre.length+o+new.length))=pre++(cs.take o++new++cs.drop (o+new.length))++post:=by
 have c:(pre++cs++post).take (pre.length+o)=pre++cs.take o:=by
  rw[zm,L5,L5];have:pre.length+o-pre.length-cs.length=0:=by omega
  rw[zg (by omega),this,show pre.length+o-pre.length=o from by omega];simp
 have d:(pre++cs++post).drop (pre.length+o+new.length)=cs.drop (o+new.length)++post:=by
  rw[zm,wv,List.drop_of_length_le (by omega),wv];have:pre.length+o+new.length-pre.length-cs.length=0:=by omega
  rw[this,show pre.length+o+new.length-pre.length=o+new.length from by omega];simp
 simp only[List.toList_toArray];rw[c,d];simp
def HR.store(u:HR P base D θ H w){b o:Nat}{new:List AV}{cs:List Value}{H':ar}(v:bL D θ new cs)(h:H.store b o new=some H') :
 ∃w',(storeCells ⟨θ.bV b,θ.off b+o,none⟩ cs).run P w=.ok () w'/\HR P base D θ H' w'/\bB D H θ w H' θ w'/\H'.au=H.au:=by
 unfold ar.store at h;cases g:aJ new with
 |false=>rw[g]at h;cases h
 |true =>
  rw[g]at h;simp only[xm]at h;have z:=YJ v g;have hlen:=v.length;split at h
  .rename_i c e fz hg;obtain⟨G,co,hc,hr⟩:=u.obj b _ hg;obtain⟨pre,f,post,p,J,rfl,n,q,A⟩:=hr;obtain⟨rfl,rfl,rfl,r⟩:=A rfl;have x:=q.length;cases t:dY fz o (cQ new)with
   |false=>rw[t]at h;cases h
   |true =>
    rw[t]at h;simp only[xm,Ep]at h;split at h
    .rename_i hle;simp only[qm,qe]at h;subst h;have d:=lx t;rw[FQ]at d;have l:=QE (P:=P) (θ.off b+o) cs 0 _ w hc (by simp[<-n];simp at n;omega) (λ j I=>by
      have:=d j (by omega);simp only[yi]at n;rcases r with r|⟨K,L⟩<;>omega) z
     rw[vf,<-n,YO [] f [] cs o (by omega)]at l;rw[<-n];refine⟨_,l,?_,?_,rfl⟩
     .refine u.set hg rfl rfl ⟨[],f.take o++cs++f.drop (o+cs.length),[],p,_,rfl,n,?_,λ _=>⟨rfl,rfl,rfl,r⟩⟩;rw[hlen];exact((q.take o).app v).app (q.drop _)
     .exact bB.set hg rfl (u.lt hg)
    .cases h
  .rename_i m s c e fz hg;obtain⟨G,co,hc,hr⟩:=u.obj b _ hg;obtain⟨pre,f,post,p,rfl,n,q,A,C,E,F,B⟩:=hr;have x:=q.length;cases t:dY fz o (cQ new)with
   |false=>rw[t]at h;cases h
   |true =>
    rw[t]at h;simp only[xm,Ep]at h;split at h
    .rename_i hle;simp only[qm,qe]at h;subst h;have d:=lx t;rw[FQ]at d;have l:=QE (P:=P) (θ.off b+o) cs 0 _ w hc (by simp;omega) (λ j I=>by
      have:=d j (by omega);unfold Rb at B;omega) z
     rw[vf,<-n,YO pre f post cs o (by omega)]at l;rw[<-n];refine⟨_,l,?_,?_,rfl⟩
     .have y:(f.take o++cs++f.drop (o+cs.length)).length=f.length:=by simp;omega
      refine u.set hg rfl rfl ⟨pre,f.take o++cs++f.drop (o+cs.length),post,p,rfl,n,?_,?_,C,E,F,?_⟩
      .rw [hlen];exact((q.take o).app v).app (q.drop _)
      .simp;omega
      .rw [y];exact B
     .exact bB.set hg rfl (u.lt hg)
    .cases h
  .cases h
def xiq{o:Oper}{t:TypeId}{x y:Operand}{n:Nat}(ho:o.op=.store t x y)(hs:bN P t=some n):rC P o [x,y] (Op.store n):=by
 intro base D θ H ρ w vs v H' p h c m;unfold Op.store at c;split at c
 .rename_i b off a;obtain⟨q,r,he,ha,hb⟩:=h.qI;simp only[zk,rk]at he;obtain⟨rfl,rfl⟩:=he;cases hn:Nat.beq (cQ a.cells) n with
  |false=>rw[hn]at c;cases c
  |true =>
   rw[hn]at c;simp only[xm,qd,qe,xv]at c;obtain⟨H1,l,rfl,rfl⟩:=c;obtain⟨w',e,f,g,j⟩:=p.store hb.cells l;have hl:=hb.cells.length;simp only[FQ,jh]at hn;have d:(ρ y).cells.size=n:=by rw[<-vg];omega
   refine⟨θ,w',_,.inr ⟨?_,rfl⟩,by rw[j,Up.none];exact f,g,.undef⟩;simp only[execOp,ho,<-ha.now,az,Instr.storeAt,Instr.sureAddr,storeVar,Sem.run_bind,Sem.run_pure,Result.andThen_ok,tz hs,d,ne_eq,not_true_eq_false,wz,e]
 .cases c
def Ve{w:World}{r:Nat}{o:Obj}{ms:Array MapEntry}{c:Nat}(h:w.heap[r]? = some (.map ms c)):(setObj r o).run P w=.ok () (eX w r o):=by
 simp[setObj,Sem.run,h,eX]
def HR.uZ(d:HR P base D θ H w){b:Nat}{m:List (AV×AV×Nat)×Nat}(hm:H.gI b=some m){es:List (AV×AV×Nat)}{ms:List MapEntry}{c:Nat}(h:db D θ es ms) :
 HR P base D θ (H.set b (.map es c)) (eX w (θ.bV b) (.map ms.toArray c))/\bB D H θ w (H.set b (.map es c)) θ (eX w (θ.bV b) (.map ms.toArray c)):=by
 obtain⟨hg,_,_⟩:=d.gI hm;exact⟨d.set hg rfl rfl ⟨ms,rfl,h⟩,bB.set hg rfl (d.lt hg)⟩
def q9u{o:Oper}{c:Call}{xs:List Operand}{t s e:TypeId}(ho:o.op=.call c)(hc:c.callee=.builtin .clear)(n:c.args.toList=xs)(l:c.argTypes[0]? = some t)
 (hu:P.underlying t=some (.map s e)):rC P o xs Op.bO:=by
 intro base D θ H ρ w vs v H' f h d p;obtain⟨u,j⟩:=Mi (ρ:=ρ) ho hc;unfold Op.bO at d;split at d
 .obtain ⟨x,rfl,ha⟩:=h.pn;simp only[qe,xv]at d;obtain⟨rfl,rfl⟩:=d;refine⟨θ,w,.tuple #[],.inl ?_,by rw[Up.none];exact f,.refl _ _ _ _,.tuple .nil⟩;rw[j,Ao n];simp[builtin,Builtin.clear_,l,<-ha.now,az,j5 hu]
 .rename_i b;obtain⟨x,rfl,ha⟩:=h.pn;simp only[qd,qe,xv]at d;obtain⟨m,hm,rfl,rfl⟩:=d;obtain⟨_,_,ms,g,y⟩:=f.gI hm;obtain⟨q,r⟩:=f.uZ hm (c:=m.2) (es:=[]) (ms:=[]) trivial;refine⟨θ,_,.tuple #[],.inl ?_,by rw[show(H.set b (.map [] m.2)).au=H.au from rfl,Up.none];exact q,r,.tuple .nil⟩;rw[j,Ao n];simp[builtin,Builtin.clear_,l,<-ha.now,az,j5 hu,J5 g,Ve g]
 .cases d
def Zf{n:Nat}{a b:AV}{ca c:Value}(ha:VR D θ a ca)(hb:VR D θ b c)(h:Op.tj a b=true):Instr.sameBits n ca c=true:=by
 rw[<-ha.now,<-hb.now];cases a<;>cases b<;>simp only[Op.tj,zx]at h
 .cases n<;>simpa[az,Instr.sameBits]using h
 .simp only[xt,BU,EO,QI,KT]at h;cases n<;>simp[az,Instr.sameBits,h]
 .simp only[J7,EO]at h;cases n<;>simp[az,Instr.sameBits,h,beq_toListBytes]
def sg{n:Nat}:∀{a b:List AV}{ca c:List Value},bL D θ a ca->bL D θ b c->Op.eT a b=true->ca.length=c.length/\((ca.zip c).all λ(x,y)=>Instr.sameBits n x y)=true
 |[],[],ca,c,ha,hb,_=>by rw[ha.mT,hb.mT];simp
 |a::x,b::y,ca,c,ha,hb,h=>by
  obtain⟨q,d,rfl,j,m⟩:=ha.eJ;obtain⟨r,e,rfl,l,p⟩:=hb.eJ;simp only[Op.eT]at h;cases hs:Op.tj a b with
  |false=>rw[hs]at h;cases h
  |true =>
   rw[hs]at h;obtain⟨f,g⟩:=sg (n:=n) m p h;simp only[z6,f,List.zip_cons_cons,D6,Zf j l hs,Bool.true_and,g,and_self]
 |[],_::_,_,_,_,_,h=>by cases h
 |_::_,[],_,_,_,_,h=>by cases h
def xg7{n:Nat}{a b:AV}{ca d:Value}(ha:VR D θ a ca)(hb:VR D θ b d)(h:Op.stays a b=true):Instr.sameBits (n+1) ca d=true:=by
 by_cases c:(∃l,a=.agg l) /\ ∃l,b=.agg l
 .obtain ⟨⟨l,rfl⟩,⟨m,rfl⟩⟩:=c;obtain⟨cs,rfl,g⟩:=ha.eU;obtain⟨cs',rfl,j⟩:=hb.eU;obtain⟨e,f⟩:=sg (n:=n) g j h;simp[Instr.sameBits,e]
  simpa using f
 .refine Zf ha hb ?_;cases a<;>cases b<;>first|exact h|exact absurd ⟨⟨_,rfl⟩,⟨_,rfl⟩⟩ c
def db.get{D:Nat->Prop}{θ:Th}:∀(es:List (AV×AV×Nat))(ms:List MapEntry)(i:Nat)(e:AV×AV×Nat),db D θ es ms->es[i]? = some e -> ∃m,ms[i]? = some m/\PI D θ e m
 |_::_,m::_,0,e,⟨h,_⟩,he=>⟨m,rfl,by simp at he;subst he;exact h⟩
 |_::es,_::ms,i+1,e,⟨_,h⟩,he=>by simpa using db.get es ms i e h (by simpa using he)
 |[],_,_,_,_,he=>by simp at he
 |_::_,[],_,_,h,_=>h.elim
def db.modify{D:Nat->Prop}{θ:Th}{k v:AV}{c cv:Value}(hk:VR D θ k c)(d:VR D θ v cv):∀(es:List (AV×AV×Nat))(ms:List MapEntry)(i:Nat),db D θ es ms ->
 db D θ (es.modify i λ e=>(k,v,e.2.2)) (ms.modify i λ e=>{e with key:=c,val:=cv})
 |[],[],_,_=>by simp[db]
 |_::_,_::_,0,⟨⟨_,_,h3⟩,h⟩=>by simpa[db]using⟨⟨hk,d,h3⟩,h⟩
 |_::es,_::ms,i+1,⟨h1,h⟩=>by simpa[db]using⟨h1,db.modify hk d es ms i h⟩
 |[],_::_,_,h=>h.elim
 |_::_,[],_,h=>h.elim
def db.push{D:Nat->Prop}{θ:Th}{k v:AV}{d cv:Value}{c:Nat}(hk:VR D θ k d)(e:VR D θ v cv):∀(es:List (AV×AV×Nat))(ms:List MapEntry),db D θ es ms ->
 db D θ (es ++ [(k,v,c)]) (ms ++ [{key:=d,val:=cv,born:=c}])
 |[],[],_=>⟨⟨hk,e,rfl⟩,trivial⟩
 |_::es,_::ms,⟨h1,h⟩=>⟨h1,db.push hk e es ms h⟩
 |[],_::_,h=>h.elim
 |_::_,[],h=>h.elim
def q7g{o:Oper}{t K e:TypeId}{x y z:Operand}{q:aP}(ho:o.op=.mapUpdate t x y z\/o.op=.insert t x y z)(hu:P.underlying t=some (.map K e))(J:qG P K=some q) :
 rC P o [x,y,z] (Op.mapUpdate q):=by
 intro base D θ H ρ w vs v H' A h d O;unfold Op.mapUpdate at d;split at d
 .rename_i b k M;obtain⟨V,v0,Q,he,ha,hb,hc⟩:=h.rD;simp only[zk,rk]at he;obtain⟨rfl,rfl,rfl⟩:=he;cases f:cW q k with
  |false=>rw[f]at d;cases d
  |true =>
   rw[f]at d;simp only[xm,qd]at d;obtain⟨m,hm,r,hr,d⟩:=d;obtain⟨_,_,ms,l,s⟩:=A.gI hm;have hk:=λ em=>XW (em:=em) (w:=w) J hb f;obtain⟨L,I,j⟩:=Zj (w:=w) J hb s hr;cases r with
   |none =>
    cases L with
    |some _=>exact j.elim
    |none =>
     simp only[qe,xv]at d;obtain⟨rfl,rfl⟩:=d;obtain⟨F,G⟩:=A.uZ hm (c:=m.2+1) (db.push (c:=m.2) hb hc _ _ s);refine⟨θ,_,_,.inr ⟨?_,rfl⟩,by rw[show(H.set b (.map (m.1 ++ [(k,M,m.2)]) (m.2+1))).au=H.au from rfl,Up.none];exact F,G,.undef⟩;rcases ho with ho|ho<;>simp[execOp,ho,Instr.mapUpdate,<-ha.now,az,j5 hu,hk,I,J5 l,Ve l]
   |some p =>
    obtain⟨i,pv⟩:=p;cases L with
    |none=>exact j.elim
    |some p' =>
     obtain⟨U,pc⟩:=p';obtain⟨rfl,j⟩:=j;simp only[qd,lR]at d;obtain⟨en,u,d⟩:=d;cases g:Op.stays en.1 k with
     |false=>rw[g]at d;cases d
     |true =>
      rw[g]at d;simp only[xm,qe,xv]at d;obtain⟨rfl,rfl⟩:=d;obtain⟨me,C,⟨N,R,S⟩⟩:=db.get _ _ i en s u;have E:Instr.sameBits 10000 me.key (ρ y)=true:=xg7 (n:=9999) N hb g;have B:(Instr.keyThatStays me.key (ρ y)).run P w=.ok (ρ y) w:=by unfold Instr.keyThatStays;rw[qr E];rfl
      obtain⟨F,G⟩:=A.uZ hm (c:=m.2) (db.modify hb hc _ _ i s);refine⟨θ,_,_,.inr ⟨?_,rfl⟩,by rw[show(H.set b (.map (m.1.modify i λ e=>(k,M,e.2.2)) m.2)).au=H.au from rfl,Up.none];exact F,G,.undef⟩;rcases ho with ho|ho<;>simp[execOp,ho,Instr.mapUpdate,<-ha.now,az,j5 hu,hk,I,J5 l,Ve l,C,B]
 .cases d
end
end Go.Am
namespace Go.Am
section
variable{P:Program}{base:Nat}{D:Nat->Prop}{θ:Th}{H:ar}{w:World}
def HR.sub(h:HR P base D θ H w){H':ar}(hs:∀b o,H'.get b=some o->H.get b=some o):HR P base D θ H' w :=
 ⟨λ b o hb=>h.obj b o (hs b o hb),λ b d o o' hb c=>h.inj b d o o' (hs b o hb) (hs d o' c),λ b o hb=>h.kP b o (hs b o hb),h.d8,h.low⟩
def Ur(H:ar)(k:Nat):∀b o,(H.kill k).get b=some o->H.get b=some o:=by
 intro b o h;rw[ar.qR]at h;split at h
 .cases h
 .exact h
def bB.kill(H:ar)(k:Nat):bB D H θ w (H.kill k) θ w :=
 ⟨qg _,Ag.refl _ _,qg _,rfl,rfl,rfl,λ _ _ _=>rfl,λ b o h ho _=>⟨b,o,Ur H k b o h,ho,rfl⟩⟩
def HR.move(h:HR P base D θ H w)(hn:¬D H.au){b:Nat}{o o':bH}{co':Obj}{off ext:Nat}(hb:H.get b=some o)(ho:own o=true)(I:own o'=true)
 (hr:nU P (Up D H.au (H.au+1)) (θ.add H.au (θ.bV b) off ext) H.au o' co') :
 HR P base (Up D H.au (H.au+1)) (θ.add H.au (θ.bV b) off ext) ((H.kill b).alloc o') (eX w (θ.bV b) co') /\
 bB D H θ w ((H.kill b).alloc o') (θ.add H.au (θ.bV b) off ext) (eX w (θ.bV b) co'):=by
 have n:=h.lt hb;have m:=Th.gM θ H.au (θ.bV b) off ext hn
 obtain⟨p,L,M⟩:=Th.eH θ H.au (θ.bV b) off ext
 have old:∀x c,H.get x=some c->(θ.add H.au (θ.bV b) off ext).bV x = θ.bV x:=λ x c d=>(m x (h.obj x c d).1).1;have f:∀x c,((H.kill b).alloc o').get x=some c->(x=H.au/\c=o')\/(x≠H.au/\x≠b/\H.get x=some c):=by
  intro x c d;rw[ar.bJ,ar.qR]at d
  by_cases e:H.au=x
  .rw [qr (show(H.kill b).au=x from e)]at d;injection d with d
   exact .inl ⟨e.symm,d.symm⟩
  .rw [qo (show¬(H.kill b).au=x from e)]at d
   by_cases e':b=x
   .rw [qr e']at d;cases d
   .rw [qo e']at d;exact .inr ⟨λ q=>e q.symm,λ q=>e' q.symm,d⟩
 refine⟨⟨λ x c d=>?_,λ x y c u d J l t=>?_,λ x c d l=>?_,λ g hg=>?_,by rw[QR];exact h.low⟩,⟨ku _,m,by rw[QR];exact qg _,rfl,rfl,rfl,λ k hk C=>?_,λ x c d l E=>?_⟩⟩
 .rcases f x c d with⟨rfl,rfl⟩|⟨z,r,j⟩
  .exact ⟨.inr ⟨qg _,zp _⟩,co',by rw[p,Kj _ _ _ _ n];simp,hr⟩
  .obtain ⟨s,co,A,B⟩:=h.obj x c j;refine⟨.inl s,co,?_,B.up s m Up.of⟩;rw[old x c j,Kj _ _ _ _ n,qo (h.inj b x o c hb j ho (λ q=>r q.symm))];exact A
 .rcases f x c d with⟨rfl,rfl⟩|⟨z,r,j⟩<;>rcases f y u J with⟨rfl,rfl⟩|⟨N,K,v⟩
  .exact absurd rfl t
  .rw [p,old y u v];exact h.inj b y o u hb v ho (λ q=>K q.symm)
  .rw [p,old x c j];exact h.inj x b c o j hb l r
  .rw [old x c j,old y u v];exact h.inj x y c u j v l t
 .rcases f x c d with⟨rfl,rfl⟩|⟨z,r,j⟩
  .rw [p];exact h.kP b o hb ho
  .rw [old x c j];exact h.kP x c j l
 .obtain ⟨s,A,B⟩:=h.d8 g hg;obtain⟨F,G,_⟩:=m g s;exact⟨.inl s,F.trans A,G.trans B⟩
 .rw [Kj _ _ _ _ n,qo (C b o hb ho)]
 .rcases f x c d with⟨rfl,rfl⟩|⟨z,r,j⟩
  .exact ⟨b,o,hb,ho,p.symm⟩
  .exact ⟨x,c,j,l,(old x c j).symm⟩
def Jz(v:HR P base D θ H w){tx:TypeId}(hk:(∃e',P.underlying tx=some (.slice e'))\/P.underlying tx=some .string){x:AV}{c:Value}{size k:Nat}{l:List AV}
 (q:VR D θ x c) (hl:eY x=some k) (h:firstCells H size k x=some l) (E:aJ l=true):∃cs,Src P size tx c k cs w/\bL D θ l cs:=by
 cases hs:isStr x with
 |true =>
  cases x<;>try (cases hs)
  rename_i s;simp only[eY,FQ,qe]at hl;subst hl;simp only[firstCells,List.take_length]at h;cases e:Nat.beq size 1 with
  |false=>rw[e]at h;cases h
  |true =>
  rw[e]at h;simp only[xm,qe]at h;subst h;simp only[jh]at e;subst e;rw[<-q.now];show∃cs,Src P 1 tx (.string ⟨s.toArray⟩) s.length cs w/\bL D θ _ cs;have t:∀w:World,(Builtin.firstCells 1 s.length (.string ⟨s.toArray⟩)).run P w=.ok (s.map λ b=>Value.int .u8 b.toNat).toArray w:=by
   intro w;have:=firstCells_string (P:=P) ⟨s.toArray⟩ w;rw[Ka]at this;exact this
  refine⟨s.map λ b=>.int .u8 b.toNat,⟨hk,λ w'=>?_,t w,t w.drew,by simp,λ u hu=>?_⟩,λ θ' _=>by rw[u7,we];rfl⟩
  .show Result.ok (ByteArray.size ⟨s.toArray⟩) w'=_;rw[Ka]
  .obtain ⟨_,_,rfl⟩:=FE.1 hu;rfl
 |false =>
  obtain⟨a,len,cap,rfl,rfl,f⟩:=WJ v q hl (qg _) hs h;obtain⟨J,y,r,j,rfl,d⟩:=WJ (v.draw (w':=w.drew) rfl) q hl (qg _) hs h;injection j with m F n;subst m;subst n
  rcases f with⟨rfl,rfl,_,p⟩|⟨ad,cs,rfl,A,g,B⟩
  .exact ⟨[],⟨hk,λ _=>rfl,rfl,rfl,by simp[p],by simp⟩,.nil⟩
  .rcases d with⟨C,_⟩|⟨z,cs',he,G,I,K⟩
   .cases C
   .injection he with he;subst he
    have:cs'=cs:=by rw[<-I.now,<-g.now]
    subst this;exact⟨cs',⟨hk,λ _=>rfl,A,G,by rw[g.length];exact B,YJ g E⟩,g⟩
def UZ{t tx ty e:TypeId}{i:TypeInfo}(g:P.underlying t=some (.slice e))(f:P.info? e=some i){a:Addr}{sLen sCap n:Nat}{x:Value}{news:List Value}(hs:Src P i.size tx x n news w)
 (c:sLen+n<=sCap) {w':World} (d:(storeCells (a.add (sLen*i.size)) news).run P w=.ok () w') :
 (Builtin.append_ #[t,tx] ty #[.slice (some a) sLen sCap,x]).run P w=.ok (.slice (some a) (sLen+n) sCap) w':=by
 rcases hs.kind with⟨e',hk⟩|hk<;>simp[Builtin.append_,run_underlying g,run_underlying hk,sizeOf,typeInfo,f,hs.len,c,hs.cells,d]
def q82(z:Array Value)(n:Nat):(Builtin.zeroCells z n).size=n*z.size:=by simp[Builtin.zeroCells]
def xgk{D':Nat->Prop}{θ':Th}{id m size:Nat}{cells:List AV}{cs rest:List Value}{e:TypeId}{fz:Nat×Nat}(h:bL D' θ' cells cs)(ho:θ'.off id=0)(hl:cells.length=m*size)
 (hr:rest.length = θ'.ext id*size) (c:0<size) (hm:m + θ'.ext id<=maxLen):nU P D' θ' id (.grown m size cells e fz) (.cells (cs++rest).toArray e (0,0)) :=
 ⟨[],cs,rest,(0,0),by simp,by simp[ho],h,hl,hr,c,hm,.inl rfl⟩
def HR.grow(G:HR P base D θ H w)(hn:¬D H.au){t tx ty e:TypeId}{i:TypeInfo}{z:Value}(N:P.underlying t=some (.slice e))(L:P.info? e=some i)(O:i.zero=some z)(E:z.cells.size=i.size)
 (K:0<i.size) {bs:Option Addr} {sLen sCap n:Nat} {x:Value} {old new:List AV} {olds news:List Value} (hold:(Builtin.firstCells i.size sLen (.slice bs sLen sCap)).run P w.drew=.ok olds.toArray w.drew)
 (hs:Src P i.size tx x n news w) (hg:sCap<sLen+n) (v:fits (sLen+n) i.bytes=true) (ho:bL D θ old olds) (l:bL D θ new news) (B:old.length=sLen*i.size) (fz:Nat×Nat) :
 ∃θ' w' c,(Builtin.append_ #[t,tx] ty #[.slice bs sLen sCap,x]).run P w=.ok c w'/\HR P base (Up D H.au (H.au+1)) θ' (dk H e i.size (sLen+n) (jU old new) fz).2 w' /\
  bB D H θ w (dk H e i.size (sLen+n) (jU old new) fz).2 θ' w'/\VR (Up D H.au (H.au+1)) θ' (dk H e i.size (sLen+n) (jU old new) fz).1 c:=by
 unfold fits at v;simp only[xt,ww]at v;obtain⟨J,Q⟩:=v;have d:=run_append_grow_src (P:=P) w t tx ty e i z N L O bs sLen sCap olds hold x n news hs hg (by omega) (growslice_fits hg J);have g:=grownCap_ge w (sLen+n) sCap e;have r:=grownCap_le_maxLen w (sLen+n) sCap e (by unfold maxLen;omega);generalize grownCap w (sLen+n) sCap e=cap at d g r;have A:=hs.newsLen;have hlen:(jU old new).length=(sLen+n)*i.size:=by
  rw[oJ,qv,B,<-l.length,A,yd]
 have u:(Obj.cells ((olds++news).toArray++Builtin.zeroCells z.cells (cap-(sLen+n))) e:Obj)=.cells ((olds++news)++(Builtin.zeroCells z.cells (cap-(sLen+n))).toList).toArray e (0,0):=by
  congr 1;apply G0;simp
 have q:=Th.gM θ H.au w.drew.heap.size 0 (cap-(sLen+n)) hn
 have C:bL (Up D H.au (H.au+1)) (θ.add H.au w.drew.heap.size 0 (cap-(sLen+n))) (jU old new) (olds++news):=by
  rw[oJ];exact(ho.app l).up q Up.of
 obtain⟨I,F,p⟩:=Th.eH θ H.au w.drew.heap.size 0 (cap-(sLen+n))
 have hR:=xgk (P:=P) (id:=H.au) (m:=sLen+n) (size:=i.size) (e:=e) (fz:=fz) (rest:=(Builtin.zeroCells z.cells (cap-(sLen+n))).toList) C F hlen
  (by rw[p,vg,q82,E]) K (by rw[p];omega)
 rw[<-u]at hR;refine⟨_,_,_,d,HR.alloc (w:=w.drew) (G.draw rfl) hn ?_ ?_ (qg _) ?_ hR,?_,?_⟩
 .rw [CE];simp
 .intro j M;rw[CE,qo (Jo M)]
 .show w.drew.heap.size<=(w.drew.alloc _).heap.size;simp
 .exact (bB.draw (w:=w) (w':=w.drew) rfl rfl rfl rfl).trans (bB.alloc (w:=w.drew) (G.draw rfl) hn _ _ _ _) (λ _ h=>h)
 .have y:(Up D H.au (H.au+1)) H.au:=.inr ⟨qg _,zp _⟩
  have:=VR.gslice (θ:=θ.add H.au w.drew.heap.size 0 (cap-(sLen+n))) (i:=0) (m:=sLen+n) (s:=i.size) (alt:=0) (n:=sLen+n) y;intro θ'' f;show az θ'' (.gslice H.au 0 (sLen+n) i.size 0 (sLen+n))=_;rw[this θ'' f];simp only[az,I,F,p,wh,ite_self,vf,HA];congr 1;omega
def O1{b i m s alt n:Nat}{c:Value}(h:VR D θ (.gslice b i m s alt n) c):c=.slice (some ⟨θ.bV b,θ.off b+(if(m-i) + θ.ext b=0 then alt else i*s),none⟩) n ((m-i) + θ.ext b):=by
 rw[<-h.now];rfl
def Kk{b o n d:Nat}{c:Value}(h:VR D θ (.slice b o n d) c):c=.slice (some ⟨θ.bV b,θ.off b+o,none⟩) n d:=by
 rw[<-h.now];rfl
def HR.J6(W:HR P base D θ H w)(hn:¬D H.au){t tx ty e:TypeId}{i:TypeInfo}{z:Value}(ht:P.underlying t=some (.slice e))(hi:P.info? e=some i)(hz:i.zero=some z)(hzs:z.cells.size=i.size)
 (h0:0<i.size) {b k m sLen n:Nat} {c:List AV} {fz d:Nat×Nat} {alt:Nat} {s x:Value} {old new:List AV} {news:List Value} (hg:H.get b=some (.grown m i.size c e fz))
 (hsv:VR D θ (.gslice b k m i.size alt sLen) s) (hs:Src P i.size tx x n news w) (A:bL D θ new news) (hn0:0<n) (Z:k+sLen<=m) (hbig:m<k+sLen+n) (hf:fits (sLen+n) i.bytes=true)
 (hold:fG c (k*i.size) (sLen*i.size)=some old)
 (F:(fz.2<fz.1\/fz.2<=(k+sLen)*i.size)/\((k=0/\d=fz)\/(fz.2<=k*i.size/\d=cond (Nat.beq fz.1 fz.2) (0,0) (1,0)))) :
 ∃θ' w' v,(Builtin.append_ #[t,tx] ty #[s,x]).run P w=.ok v w'/\HR P base (Up D H.au (H.au+1)) θ' (dk (H.kill b) e i.size (sLen+n) (jU old new) d).2 w' /\
  bB D H θ w (dk (H.kill b) e i.size (sLen+n) (jU old new) d).2 θ' w'/\VR (Up D H.au (H.au+1)) θ' (dk (H.kill b) e i.size (sLen+n) (jU old new) d).1 v:=by
 have hsc:=O1 hsv;subst hsc;obtain⟨hd,co,hc,pre,cs,post,p,rfl,r2,r3,L,r5,r6,r7,r8⟩:=W.obj b _ hg;have r:=r3.length;have G:=hs.newsLen;rw[u4]at hold;have hle:sLen*i.size<=c.length-k*i.size:=by
  rw[L,<-Nat.sub_mul];exact jv _ (by omega)
 rw[qr hle]at hold;injection hold with hold;subst hold
 have B:bL D θ ((c.drop (k*i.size)).take (sLen*i.size)) ((cs.drop (k*i.size)).take (sLen*i.size)):=(r3.drop _).take _;have hkc:(k+sLen)*i.size<=c.length:=by rw[L];exact jv _ Z
 have Y:(k+sLen)*i.size=k*i.size+sLen*i.size:=yd _ _ _
 by_cases C:sLen+n<=(m-k) + θ.ext b
 .-- in place
  have g:¬(m-k) + θ.ext b=0:=by omega
  rw[qo g];have htot:(k+sLen+n)*i.size<=cs.length+post.length:=by
   rw[r,L,r5,<-yd];exact jv _ (by omega)
  have S:(k+sLen+n)*i.size=k*i.size+sLen*i.size+n*i.size:=by rw[yd,yd]
  have J:=QE (P:=P) (θ.off b+k*i.size+sLen*i.size) news 0 _ w hc (by simp;omega) (λ j hj=>by
   unfold Rb at r8;obtain⟨q1,K⟩:=F;omega) hs.one
  rw[vf]at J;have I:=UZ (ty:=ty) ht hi (a:=⟨θ.bV b,θ.off b+k*i.size,none⟩) (sLen:=sLen) (sCap:=(m-k) + θ.ext b) hs C (by rw[vV];exact J)
  -- the block's cells from the slice's head on
  have hw:((pre++cs++post).take (θ.off b+k*i.size+sLen*i.size)++news++(pre++cs++post).drop (θ.off b+k*i.size+sLen*i.size+news.length)) =
   (pre++cs.take (k*i.size))++((cs.drop (k*i.size)).take (sLen*i.size)++news)++(pre++cs++post).drop (θ.off b+k*i.size+sLen*i.size+news.length):=by
   have M:(pre++cs++post).take (θ.off b+k*i.size+sLen*i.size)=pre++cs.take (k*i.size)++(cs.drop (k*i.size)).take (sLen*i.size):=by
    rw[zm,L5,zg (l:=pre) (by omega),zm,show θ.off b+k*i.size+sLen*i.size-pre.length=k*i.size+sLen*i.size from by omega,L5,
     show k*i.size+sLen*i.size-cs.length=0 from by omega,yz,ze,List.take_add]
   rw[M];simp
  have u:((pre++cs++post).drop (θ.off b+k*i.size+sLen*i.size+news.length)).length=((m-k) + θ.ext b-(sLen+n))*i.size:=by
   rw[kr,qv,qv,G,Nat.sub_mul,yd,yd,Nat.sub_mul,r,L,r5,r2];have:=jv i.size (show k<=m by omega);omega
  have U:=Th.gM θ H.au (θ.bV b) (θ.off b+k*i.size) ((m-k) + θ.ext b-(sLen+n)) hn
  obtain⟨M,N,O⟩:=Th.eH θ H.au (θ.bV b) (θ.off b+k*i.size) ((m-k) + θ.ext b-(sLen+n))
  have hsz:((cs.drop (k*i.size)).take (sLen*i.size)).length=sLen*i.size:=by rw[j6,kr];omega
  obtain⟨Q,R⟩:=W.move hn (o':=.grown (sLen+n) i.size (jU ((c.drop (k*i.size)).take (sLen*i.size)) new) e d) (co':=.cells ((pre++cs.take (k*i.size))++((cs.drop (k*i.size)).take (sLen*i.size)++news)++(pre++cs++post).drop (θ.off b+k*i.size+sLen*i.size+news.length)).toArray e p)
   (off:=θ.off b+k*i.size) (ext:=(m-k) + θ.ext b-(sLen+n)) hg rfl rfl ⟨_,_,_,p,rfl,by rw[N,qv,j6];omega,by rw[oJ];exact(B.app A).up U Up.of,
    by rw[oJ,qv,<-B.length,hsz,<-A.length,G,yd],by rw[O];exact u,h0,by rw[O];unfold maxLen at r7⊢;omega,by
     rw[N];have y:(pre++cs.take (k*i.size)).length+((cs.drop (k*i.size)).take (sLen*i.size)++news).length+((pre++cs++post).drop (θ.off b+k*i.size+sLen*i.size+news.length)).length=pre.length+cs.length+post.length:=by
      rw[<-qv,<-qv,<-hw];simp;omega
     rw[y];obtain⟨_,q|⟨q1,K⟩⟩:=F
     .obtain ⟨rfl,rfl⟩:=q;simpa using r8
     .unfold Rb at r8⊢;cases f:Nat.beq fz.1 fz.2 with
      |true =>
       simp only[jh]at f;rw[f]at K;simp only[Nat.beq_refl,xm]at K;omega
      |false =>
       rw[f]at K;subst K;have:¬fz.1=fz.2:=by intro h;rw[h,Nat.beq_refl]at f;cases f
       simp only[zj];omega⟩
  refine⟨θ.add H.au (θ.bV b) (θ.off b+k*i.size) ((m-k) + θ.ext b-(sLen+n)),_,_,I,?_,?_,?_⟩
  .rw [show(pre++cs++post).toArray.toList=pre++cs++post from rfl,hw];exact Q
  .rw [show(pre++cs++post).toArray.toList=pre++cs++post from rfl,hw];exact R
  .have X:(Up D H.au (H.au+1)) H.au:=.inr ⟨qg _,zp _⟩
   have:=VR.gslice (θ:=θ.add H.au (θ.bV b) (θ.off b+k*i.size) ((m-k) + θ.ext b-(sLen+n))) (i:=0) (m:=sLen+n) (s:=i.size) (alt:=0) (n:=sLen+n) X;intro θ'' E;show az θ'' (.gslice H.au 0 (sLen+n) i.size 0 (sLen+n))=_;rw[this θ'' E];simp only[az,M,N,O,wh,ite_self,vf,HA];congr 1;omega
 .have V:(Builtin.firstCells i.size sLen (.slice (some ⟨θ.bV b,θ.off b+(if(m-k) + θ.ext b=0 then alt else k*i.size),none⟩) sLen ((m-k) + θ.ext b))).run P w.drew=.ok ((cs.drop (k*i.size)).take (sLen*i.size)).toArray w.drew:=by
   by_cases hl0:sLen=0
   .subst hl0;show(loadCells _ (0*i.size)).run P w.drew=_;rw[wh,yz];rfl
   .have g:¬(m-k) + θ.ext b=0:=by omega
    rw[qo g];show(loadCells _ (sLen*i.size)).run P w.drew=_;have:=Yq (P:=P) (w:=w.drew) (k:=θ.bV b) (fz:=p) (e:=e) (arr:=(pre++cs++post).toArray) hc (pre.length+k*i.size) (sLen*i.size) (by simp;omega);rw[Z0 pre cs post _ _ (by rw[r];exact hle),r2]at this;exact this
  have:=(W.sub (Ur H b)).grow (ty:=ty) (H:=H.kill b) hn ht hi hz hzs h0 V hs (by omega) hf B A (by rw[j6,kr];omega) d;obtain⟨θ',w',v,Q,R,g3,g4⟩:=this;exact⟨θ',w',v,Q,R,(bB.kill H b).trans g3 (λ _ h=>h),g4⟩
def EZ{e:TypeId}{n z:Nat}{h:AV}(hs:bN P e=some n)(hb:mz P e=some z)(c:zeroOf P e=some h)(g:h.cells.length=n) :
 ∃i d,P.info? e=some i/\i.size=n/\i.bytes=z/\i.zero=some d/\d.cells.size=n:=by
 obtain⟨i,f,j⟩:=qxj hs;unfold mz at hb;rw[f]at hb;simp only[qm,qe]at hb;unfold zeroOf at c;rw[f]at c;simp only[qm,qd]at c;obtain⟨d,l,m⟩:=c;refine⟨i,d,f,j,hb,l,?_⟩;have:=(RR (D:=λ _=>False) (θ:=⟨λ _=>0,λ _=>0,λ _=>0⟩) m).cells.length;rw[g]at this;simpa using this
def xkl{b o n d:Nat}{c:Value}(h:VR D θ (.slice b o n d) c)(n':Nat):VR D θ (.slice b o n' d) (.slice (some ⟨θ.bV b,θ.off b+o,none⟩) n' d):=λ θ' ha=>by
 have:=(h θ' ha).trans h.now.symm;simp only[az,Value.slice.injEq,qe,Addr.mk.injEq,rk]at this;simp only[az,this.1,this.2]
def xfz{b i m s alt n:Nat}{c:Value}(h:VR D θ (.gslice b i m s alt n) c)(n':Nat):VR D θ (.gslice b i m s alt n') (.slice (some ⟨θ.bV b,θ.off b+(if(m-i) + θ.ext b=0 then alt else i*s),none⟩) n' ((m-i) + θ.ext b)):=λ θ' ha=>by
 have:=(h θ' ha).trans h.now.symm;simp only[az,Value.slice.injEq,qe,Addr.mk.injEq,rk,B0]at this;obtain⟨⟨f,d⟩,e⟩:=this;rw[e]at d;simp only[az,f,e,d]
def xfv{o:Oper}{c:Call}{xs:List Operand}{t tx e:TypeId}{sz z:Nat}{zv:AV}(ho:o.op=.call c)(hc:c.callee=.builtin .append)(hx:c.args.toList=xs)(hts:c.argTypes.toList=[t,tx])
 (hu:P.underlying t=some (.slice e)) (hk:(∃e',P.underlying tx=some (.slice e'))\/(P.underlying tx=some .string)) (hs:bN P e=some sz) (hb:mz P e=some z) (hz:zeroOf P e=some zv) (hzn:zv.cells.length=sz) :
 rC P o xs (Op.append e sz z):=by
 intro base D θ H ρ w vs v H' G h d U;obtain⟨cc,hE⟩:=Mi (ρ:=ρ) ho hc;have Y:c.argTypes = #[t,tx]:=by apply G0;simpa using hts
 obtain⟨i,zc,X,rfl,rfl,V,W⟩:=EZ hs hb hz hzn;unfold Op.append at d;split at d
 .rename_i a b;obtain⟨x,y,rfl,ha,hbv⟩:=h.qI;simp only[qd]at d;obtain⟨n,hn,new,hnew,d⟩:=d;cases J:aJ new with
  |false=>rw[J]at d;cases d
  |true =>
   rw[J]at d;simp only[xm]at d;obtain⟨news,j,C⟩:=Jz G (tx:=tx) hk hbv hn hnew J;have g:∀(K:Value)(w':World),(Builtin.append_ #[t,tx] o.type #[ρ x,ρ y]).run P w=.ok K w'->(execOp ρ o).run P w=.ok (.value K) w':=by
    intro K w' hr;rw[hE,Ao hx,Y];simp[builtin,hr]
   have hnl:=j.newsLen;have hnlen:=C.length;have f:n=0 -> ∀bs len L,ρ x=.slice bs len L->len<=L->(Builtin.append_ #[t,tx] o.type #[ρ x,ρ y]).run P w=.ok (ρ x) w:=by
    intro r bs len L he hle;subst r;have:news=[]:=List.eq_nil_of_length_eq_zero (by simpa using hnl);subst this;rw[he];exact run_append_nothing w t tx o.type e i hu X bs len L hle (ρ y) j
   unfold cV at d;split at d
   .-- nil
    cases r:Nat.beq n 0 with
    |true =>
     rw[r]at d;simp only[xm,qe,xv]at d;obtain⟨rfl,rfl⟩:=d;exact⟨θ,w,ρ x,.inl (g _ _ (f (by simpa using r) none 0 0 ha.now.symm (qg _))),by rw[Up.none];exact G,.refl _ _ _ _,by rw[Up.none];exact ha⟩
    |false =>
     rw[r]at d;simp only[zj]at d;cases u:(fits n i.bytes && Nat.blt 0 i.size)with
     |false=>rw[u]at d;cases d
     |true =>
      rw[u]at d;simp only[xm,qe]at d;simp only[xt,sX]at u;have hn0:n≠0:=by intro q;subst q;cases r
      obtain⟨θ',w',K,N,s,B,p⟩:=G.grow (ty:=o.type) (U H.au (qg _) (by rw[<-(Prod.mk.inj d).2];exact zp _)) hu X V W u.2 (bs:=none) (sLen:=0) (sCap:=0) (old:=[]) (olds:=[]) rfl j (by omega) (by simpa using u.1) .nil C (by simp) (0,0);rw[show jU ([]:List AV) new=new from rfl,jy]at s B p;rw[d]at s B p;have:H'.au=H.au+1:=by rw[<-(Prod.mk.inj d).2];rfl
      rw[<-this]at s p;refine⟨θ',w',K,.inl (g _ _ ?_),s,B,p⟩;rw[<-ha.now];exact N
   .-- a slice of a row
    rename_i bb oo len L;cases hle:Nat.ble (len+n) L with
    |true =>
     rw[hle]at d;simp only[ww]at hle;simp only[xm]at d;cases r:Nat.beq n 0 with
     |true =>
      rw[r]at d;simp only[xm,qe,xv]at d;obtain⟨rfl,rfl⟩:=d;simp only[jh]at r;subst r;exact⟨θ,w,ρ x,.inl (g _ _ (f rfl _ len L (Kk ha) (by omega))),by rw[Up.none];exact G,.refl _ _ _ _,by rw[Up.none];exact ha⟩
     |false =>
      rw[r]at d;simp only[zj,qd,qe,xv]at d;obtain⟨H1,h1,rfl,rfl⟩:=d;obtain⟨w',N,s,B,p⟩:=G.store C h1;refine⟨θ,w',_,.inl (g _ _ ?_),by rw[p,Up.none];exact s,B,by rw[p,Up.none];exact xkl ha _⟩;rw[Kk ha];exact UZ hu X j hle (by rw[vV,vw];exact N)
    |false =>
     rw[hle]at d;have Z:¬len+n<=L:=by intro q;rw[Nat.ble_eq_true_of_le q]at hle;cases hle
     simp only[zj]at d;cases u:(fits (len+n) i.bytes && Nat.ble L (len+n) && Nat.blt 0 i.size)with
     |false=>rw[u]at d;cases d
     |true =>
      rw[u]at d;simp only[xm,qd,qe]at d;obtain⟨old,hold,d⟩:=d;simp only[xt,sX]at u;obtain⟨olds,k1,k2,k3⟩:∃olds:List Value,(Builtin.firstCells i.size len (ρ x)).run P w.drew=.ok olds.toArray w.drew/\bL D θ old olds/\old.length=len*i.size:=by
       obtain⟨ad,len',cap',R,hl',S⟩:=WJ (G.draw (w':=w.drew) rfl) ha (n:=len) rfl (qg _) rfl hold;rcases S with⟨rfl,rfl,_,r⟩|⟨ad',cs',rfl,k1,k2,k3⟩
       .rw [Kk ha]at R;cases R
       .exact ⟨cs',by rw[R];exact k1,k2,k3⟩
      rw[Kk ha]at k1;obtain⟨θ',w',K,N,s,B,p⟩:=G.grow (ty:=o.type) (U H.au (qg _) (by rw[<-(Prod.mk.inj d).2];exact zp _)) hu X V W u.2 k1 j (by omega) u.1.1 k2 C k3 (0,0);rw[d]at s B p;have:H'.au=H.au+1:=by rw[<-(Prod.mk.inj d).2];rfl
      rw[<-this]at s p;refine⟨θ',w',K,.inl (g _ _ ?_),s,B,p⟩;rw[Kk ha];exact N
   .-- a slice of a grown row
    rename_i bb ii m sz alt len;cases r:Nat.beq n 0 with
    |true =>
     rw[r]at d;simp only[xm]at d;cases I:Nat.ble (ii+len) m with
     |false=>rw[I]at d;cases d
     |true =>
     rw[I]at d;simp only[xm,qe,xv]at d;obtain⟨rfl,rfl⟩:=d;simp only[jh]at r;subst r;simp only[ww]at I;exact⟨θ,w,ρ x,.inl (g _ _ (f rfl _ len _ (O1 ha) (by omega))),by rw[Up.none];exact G,.refl _ _ _ _,by rw[Up.none];exact ha⟩
    |false =>
     rw[r]at d;have hn0:n≠0:=by intro q;subst q;cases r
     simp only[zj]at d;cases l:(Nat.beq sz i.size && Nat.ble (ii+len) m && Nat.blt 0 i.size)with
     |false=>rw[l]at d;cases d
     |true =>
      rw[l]at d;simp only[xt,jh,ww,sX]at l;obtain⟨⟨rfl,I⟩,hsz⟩:=l;simp only[xm]at d;cases hle:Nat.ble (ii+len+n) m with
      |true =>
       rw[hle]at d;simp only[ww]at hle;simp only[xm,qd,qe,xv]at d;obtain⟨H1,h1,rfl,rfl⟩:=d;obtain⟨w',N,s,B,p⟩:=G.store C h1;refine⟨θ,w',_,.inl (g _ _ ?_),by rw[p,Up.none];exact s,B,by rw[p,Up.none];exact xfz ha _⟩;rw[O1 ha];refine UZ hu X j (by omega) ?_;rw[qo (by omega),vV,vw,<-yd];exact N
      |false =>
       rw[hle]at d;have Z:¬ii+len+n<=m:=by intro q;rw[Nat.ble_eq_true_of_le q]at hle;cases hle
       simp only[zj]at d;cases u:fits (len+n) i.bytes with
       |false=>rw[u]at d;cases d
       |true =>
        rw[u]at d;simp only[xm]at d;split at d
        .rename_i m' sz' c0 e' fz Q;cases l:(Nat.beq m m' && Nat.beq i.size sz' && Nat.beq e' e)with
         |false=>rw[l]at d;cases d
         |true =>
          rw[l]at d;simp only[xt,jh]at l;obtain⟨⟨rfl,rfl⟩,rfl⟩:=l;simp only[xm]at d;have A:∀old M,fG c0 (ii*i.size) (len*i.size)=some old->((fz.2<fz.1\/fz.2<=(ii+len)*i.size)/\((ii=0/\M=fz)\/(fz.2<=ii*i.size/\M=cond (Nat.beq fz.1 fz.2) (0,0) (1,0)))) ->
           dk (H.kill bb) e' i.size (len+n) (jU old new) M=(v,H') -> ∃θ' w' c,rL P (execOp ρ o) w c w'/\HR P base (Up D H.au H'.au) θ' H' w'/\bB D H θ w H' θ' w'/\VR (Up D H.au H'.au) θ' v c:=by
           intro old M hold hfz d;have hnx:H'.au=H.au+1:=by rw[<-(Prod.mk.inj d).2];rfl
           obtain⟨θ',w',K,N,s,B,p⟩:=G.J6 (ty:=o.type) (U H.au (qg _) (by rw[hnx];exact zp _)) hu X V W hsz Q ha j C (by omega) I (by omega) u hold hfz;rw[d]at s B p;rw[<-hnx]at s p;exact⟨θ',w',K,.inl (g _ _ N),s,B,p⟩
          cases E:(Nat.beq ii 0 && Nat.beq len m && Nat.ble fz.2 (m*i.size))with
          |true =>
           rw[E]at d;simp only[xt,jh,ww]at E;obtain⟨⟨rfl,rfl⟩,E⟩:=E;simp only[xm,qe]at d;obtain⟨_,co,_,pre,cs,post,cfz,_,_,_,r4,_⟩:=G.obj bb _ Q;refine A c0 fz ?_ ⟨.inr (by simpa using E),.inl ⟨rfl,rfl⟩⟩ d;rw[u4,wh,<-r4,qr (by omega),ym,List.take_length]
          |false =>
           rw[E]at d;simp only[zj]at d;cases O:Nat.ble fz.2 (ii*i.size)with
           |true =>
            rw[O]at d;simp only[ww]at O;simp only[xm,qd,qe]at d;obtain⟨old,hold,d⟩:=d;exact A old _ hold ⟨.inr (by rw[yd];omega),.inr ⟨O,rfl⟩⟩ d
           |false =>
            rw[O]at d;simp only[zj]at d;cases F:(Nat.beq ii 0 && Nat.ble fz.2 (len*i.size))with
            |false=>rw[F]at d;cases d
            |true =>
             rw[F]at d;simp only[xt,jh,ww]at F;obtain⟨rfl,F⟩:=F;simp only[xm,qd,qe]at d;obtain⟨old,hold,d⟩:=d;exact A old fz (by rw[wh];exact hold) ⟨.inr (by rw[jy];exact F),.inl ⟨rfl,rfl⟩⟩ d
        .cases d
   .cases d
 .cases d
def xb5{o:Oper}{c:Call}{xs:List Operand}{t e:TypeId}{z:AV}(ho:o.op=.call c)(hc:c.callee=.builtin .clear)(I:c.args.toList=xs)(G:c.argTypes[0]? = some t)
 (hu:P.underlying t=some (.slice e)) (M:zeroOf P e=some z):rC P o xs (Op.bS z.cells):=by
 intro base D θ H ρ w vs v H' F h f K;obtain⟨S,E⟩:=Mi (ρ:=ρ) ho hc;unfold Op.bS at f;split at f
 .cases f
 .rename_i d l;obtain⟨x,rfl,ha⟩:=h.pn;simp only[qd]at f;obtain⟨n,hn,f⟩:=f;cases m:Nat.beq n 0 with
  |true =>
   rw[m]at f;simp only[xm,qe,xv]at f;obtain⟨rfl,rfl⟩:=f;simp only[jh]at m;subst m;refine⟨θ,w,.tuple #[],.inl ?_,by rw[Up.none];exact F,.refl _ _ _ _,.tuple .nil⟩;rw[E,Ao I];have s:∃bs C,ρ x=.slice bs 0 C:=by
    cases d<;>simp only[eY,reduceCtorEq,qe]at hn
    .exact (l _ rfl).elim
    .exact ⟨none,0,ha.now.symm⟩
    .subst hn;exact⟨_,_,Kk ha⟩
    .subst hn;exact⟨_,_,O1 ha⟩
    .exact ⟨_,_,ha.now.symm⟩
   obtain⟨bs,C,u⟩:=s;cases bs<;>simp[builtin,Builtin.clear_,G,j5 hu,u]
  |false =>
   rw[m]at f;simp only[zj,qd,qe,xv]at f;obtain⟨p,hp,H1,J,rfl,rfl⟩:=f;obtain⟨n',X,g,U,V,W⟩:=q2h ha hp;rw[wh,HA]at g;obtain⟨q,y,A⟩:=Js (w:=w) M;have j:bL D θ (fq n z.cells) (List.replicate n q.cells.toList).flatten:=UY (A D θ).cells n;obtain⟨w',N,O,Q,R⟩:=F.store j J;refine⟨θ,w',.tuple #[],.inl ?_,by rw[R,Up.none];exact O,Q,.tuple .nil⟩;rw[E,Ao I];have r:n'=n:=by
    cases d<;>simp only[eY,reduceCtorEq,qe]at hn
    .exact (l _ rfl).elim
    .rw [<-ha.now]at g;cases g
    .subst hn;rw[Kk ha]at g;injection g with _ k _;exact k.symm
    .subst hn;rw[O1 ha]at g;injection g with _ k _;exact k.symm
    .cases hp
   subst r;have B:(Builtin.zeroCells q.cells n').toList=(List.replicate n' q.cells.toList).flatten:=by
    have:=VM q.cells.toList n';unfold Builtin.zeroCells;rw[<-vg]
    simpa using congrArg Array.toList this
   have L:n'≠0:=by omega
   obtain⟨k,rfl⟩:∃k,n'=k+1:=⟨n'-1,by omega⟩
   simp[builtin,Builtin.clear_,G,j5 hu,g,y,B,N]
 .cases f
end
end Go.Am
namespace Go.Am
def Ext(H H':ar):Prop:=H.au<=H'.au /\ ∀b o,H'.get b=some o->(∃o',H.get b=some o'/\(own o'=true->own o=true))\/(H.au<=b/\b<H'.au/\own o=true)
def Ext.refl(H:ar):Ext H H:=⟨qg _,λ b o h=>.inl ⟨o,h,λ h=>h⟩⟩
def Ext.trans{H H' c:ar}(h:Ext H H')(e:Ext H' c):Ext H c:=by
 refine⟨xu h.1 e.1,λ b o hb=>?_⟩;rcases e.2 b o hb with⟨o',f,l⟩|⟨f,m,d⟩
 .rcases h.2 b o' f with⟨j,d,g⟩|⟨d,g,n⟩
  .exact .inl ⟨j,d,λ q=>l (g q)⟩
  .exact .inr ⟨d,qj g e.1,l n⟩
 .exact .inr ⟨xu h.1 f,m,d⟩
def Ext.set{H:ar}{b:Nat}{o:bH}(h:H.get b=some o)(o':bH)(ho:own o=true->own o'=true):Ext H (H.set b o'):=by
 refine⟨qg _,λ x d c=>?_⟩;rw[ar.aI]at c;split at c
 .rename_i e;subst e;injection c with c;subst c
  exact .inl ⟨o,h,ho⟩
 .exact .inl ⟨d,c,λ h=>h⟩
def Ext.alloc(H:ar)(o:bH)(ho:own o=true):Ext H (H.alloc o):=by
 refine⟨ku _,λ x d c=>?_⟩;rw[ar.bJ]at c;split at c
 .rename_i e;subst e;injection c with c;subst c
  exact .inr ⟨qg _,zp _,ho⟩
 .exact .inl ⟨d,c,λ h=>h⟩
def Ext.kill(H:ar)(b:Nat):Ext H (H.kill b):=⟨qg _,λ x c d=>.inl ⟨c,Ur H b x c d,λ h=>h⟩⟩
def xaf{H:ar}{b:Nat}{m:List (AV×AV×Nat)×Nat}(h:H.gI b=some m):∃o,H.get b=some o:=by
 unfold ar.gI at h;split at h
 .exact ⟨_,by assumption⟩
 .cases h
def dt:ft->Prop
 | .alloc f=>∀vs ob mk,f vs=some (ob,mk)->own ob=true
 | .gJ f=>∀vs H v H',f vs H=some (v,H')->Ext H H'
 |_=>True
def ki{α:Type}{c:Bool}{a b:Option α}{x:α}(h:cond c a b=some x):(c=true/\a=some x)\/(c=false/\b=some x):=by
 cases c<;>simp_all
def QP{H H':ar}{b o:Nat}{l:List AV}(h:H.store b o l=some H'):Ext H H':=by
 unfold ar.store at h;rcases ki h with⟨_,h⟩|⟨_,h⟩
 .split at h
  .rename_i hg;rcases ki h with⟨_,h⟩|⟨_,h⟩
   .simp only[qd,qe]at h;obtain⟨_,_,rfl⟩:=h;exact Ext.set hg _ (λ _=>rfl)
   .cases h
  .rename_i hg;rcases ki h with⟨_,h⟩|⟨_,h⟩
   .simp only[qd,qe]at h;obtain⟨_,_,rfl⟩:=h;exact Ext.set hg _ (λ _=>rfl)
   .cases h
  .cases h
 .cases h
def xgi(n:Nat):dt (.gJ (Op.store n)):=by
 intro vs H v H' h;unfold Op.store at h;split at h
 .rcases ki h with⟨_,h⟩|⟨_,h⟩
  .simp only[qd,qe,xv]at h;obtain⟨_,c,_,rfl⟩:=h;exact QP c
  .cases h
 .cases h
def q5j(q:aP):dt (.gJ (Op.mapUpdate q)):=by
 intro vs H v H' h;unfold Op.mapUpdate at h;split at h
 .rcases ki h with⟨_,h⟩|⟨_,h⟩
  .simp only[qd]at h;obtain⟨m,hm,r,_,h⟩:=h;obtain⟨d,c⟩:=xaf hm;split at h
   .simp only[qd]at h;obtain⟨e,_,h⟩:=h;rcases ki h with⟨_,h⟩|⟨_,h⟩
    .injection h with h;injection h with _ h;subst h;exact Ext.set c _ (λ _=>rfl)
    .cases h
   .injection h with h;injection h with _ h;subst h;exact Ext.set c _ (λ _=>rfl)
  .cases h
 .cases h
def q8a:dt (.gJ Op.bO):=by
 intro vs H v H' h;unfold Op.bO at h;split at h
 .injection h with h;injection h with _ h;subst h;exact Ext.refl _
 .simp only[qd]at h;obtain⟨m,hm,h⟩:=h;obtain⟨d,c⟩:=xaf hm;injection h with h;injection h with _ h;subst h;exact Ext.set c _ (λ _=>rfl)
 .cases h
def xan(z:List AV):dt (.gJ (Op.bS z)):=by
 intro vs H v H' h;unfold Op.bS at h;split at h
 .cases h
 .simp only[qd]at h;obtain⟨_,_,h⟩:=h;rcases ki h with⟨_,h⟩|⟨_,h⟩
  .injection h with h;injection h with _ h;subst h;exact Ext.refl _
  .simp only[qd,qe,xv]at h;obtain⟨_,_,_,c,_,rfl⟩:=h;exact QP c
 .cases h
def NY{H H':ar}{e s n:Nat}{c:List AV}{fz:Nat×Nat}{v:AV}(h:some (dk H e s n c fz)=some (v,H')):Ext H H':=by
 injection h with h;injection h with _ h;subst h;exact Ext.alloc _ _ rfl
def xcu(e s z:Nat):dt (.gJ (Op.append e s z)):=by
 intro vs H v H' h;unfold Op.append at h;split at h
 .simp only[qd]at h;obtain⟨n,_,new,_,h⟩:=h;rcases ki h with⟨_,h⟩|⟨_,h⟩
  .unfold cV at h;split at h
   .rcases ki h with⟨_,h⟩|⟨_,h⟩
    .injection h with h;injection h with _ h;subst h;exact Ext.refl _
    .rcases ki h with⟨_,h⟩|⟨_,h⟩
     .exact NY h
     .cases h
   .rcases ki h with⟨_,h⟩|⟨_,h⟩
    .rcases ki h with⟨_,h⟩|⟨_,h⟩
     .injection h with h;injection h with _ h;subst h;exact Ext.refl _
     .simp only[qd,qe,xv]at h;obtain⟨_,c,_,rfl⟩:=h;exact QP c
    .rcases ki h with⟨_,h⟩|⟨_,h⟩
     .simp only[qd]at h;obtain⟨_,_,h⟩:=h;exact NY h
     .cases h
   .rcases ki h with⟨_,h⟩|⟨_,h⟩
    .rcases ki h with⟨_,h⟩|⟨_,h⟩
     .injection h with h;injection h with _ h;subst h;exact Ext.refl _
     .cases h
    .rcases ki h with⟨_,h⟩|⟨_,h⟩
     .rcases ki h with⟨_,h⟩|⟨_,h⟩
      .simp only[qd,qe,xv]at h;obtain⟨_,c,_,rfl⟩:=h;exact QP c
      .rcases ki h with⟨_,h⟩|⟨_,h⟩
       .split at h
        .rcases ki h with⟨_,h⟩|⟨_,h⟩
         .rcases ki h with⟨_,h⟩|⟨_,h⟩
          .exact (Ext.kill _ _).trans (NY (H:=H.kill _) h)
          .rcases ki h with⟨_,h⟩|⟨_,h⟩
           .simp only[qd]at h;obtain⟨_,_,h⟩:=h;exact(Ext.kill _ _).trans (NY (H:=H.kill _) h)
           .rcases ki h with⟨_,h⟩|⟨_,h⟩
            .simp only[qd]at h;obtain⟨_,_,h⟩:=h;exact(Ext.kill _ _).trans (NY (H:=H.kill _) h)
            .cases h
         .cases h
        .cases h
       .cases h
     .cases h
   .cases h
  .cases h
 .cases h
end Go.Am
namespace Go.Am
structure zO(ρ:Operand->Value):Prop where
 const:∀v,ρ (.const v)=v
 func:∀f,ρ (.func f)=.func (.func f) #[] #[]
def xC(P:Program)(o:Oper)(xs:List Operand)(f:List AV->Option AV):Prop :=
 ∀(D:Nat->Prop)θ(ρ:Operand->Value)w vs v,zO ρ->bL D θ vs (xs.map ρ)->f vs=some v -> ∃c,rL P (execOp ρ o) w c w/\VR D θ v c
def tc(P:Program)(o:Oper)(xs:List Operand)(f:List AV->Option (bH×(Nat->AV))):Prop :=
 ∀(D:Nat->Prop)θ(ρ:Operand->Value)w vs ob mk,zO ρ->bL D θ vs (xs.map ρ)->f vs=some (ob,mk) ->
  own ob=true /\ ∃w0 co ext c,(execOp ρ o).run P w=.ok (.value c) (w0.alloc co)/\mV w w0 /\
   ∀(D':Nat->Prop)θ' id,Ag D θ θ'->(∀b,D b->D' b)->D' id -> θ'.bV id=w.heap.size -> θ'.off id=0 -> θ'.ext id=ext->nU P D' θ' id ob co/\VR D' θ' (mk id) c
structure dL(P:Program):Prop where
 names:∀(f:FuncId)(fn:Func),P.funcs[f]? = some fn->fn.name≠ "runtime.NumGoroutine"
 mixed:P.follows .mixedOrders=true
def rj(P:Program)(o:Oper)(xs:List Operand):ft->Prop
 | .pure f=>xC P o xs f
 | .read f=>qJ P o xs f
 | .alloc f=>tc P o xs f/\dt (.alloc f)
 | .gJ f=>rC P o xs f/\dt (.gJ f)
 | .gY f=>∃c fn b,o.op=.call c/\c.callee=.value (.func f)/\xs=c.args.toList/\P.funcs[f]? = some fn/\fn.body=some b
 | .gS=>∃c x,o.op=.call c/\c.callee=.value x/\xs=x::c.args.toList
 | .invoke m=>∃c x,o.op=.call c/\c.callee=.invoke x m/\xs=x::c.args.toList
 | .recover=>∃c,o.op=.call c/\c.callee=.builtin .recover/\xs=c.args.toList
 | .defer=>∃c x,o.op=.defer c/\c.callee=.value x/\xs=x::c.args.toList
 | .panic=>(∃x,o.op=.panic x/\xs=[x]) \/ ∃c,o.op=.call c/\c.callee=.builtin .panic/\xs=c.args.toList
def xgh{e:Nat}{z:List AV}:dt (.alloc (Op.alloc e z)):=by
 intro vs c mk h;unfold Op.alloc at h;split at h
 .injection h with h;injection h with h _;subst h;rfl
 .cases h
def Az{e:Nat}:dt (.alloc (Op.box e)):=by
 intro vs c mk h;unfold Op.box at h;split at h
 .injection h with h;injection h with h _;subst h;rfl
 .cases h
def q3n{e n:Nat}{z:List AV}{c:List (Nat×Nat)}:dt (.alloc (Op.buildSlice e n z c)):=by
 intro vs d mk h;simp only[Op.buildSlice,qd]at h;obtain⟨_,_,h⟩:=h;injection h with h;injection h with h _;subst h;rfl
def xao{e b:Nat}{z:List AV}:dt (.alloc (Op.mkSlice e b z)):=by
 intro vs c mk h;unfold Op.mkSlice at h;split at h
 .rcases ki h with⟨_,h⟩|⟨_,h⟩
  .injection h with h;injection h with h _;subst h;rfl
  .cases h
 .cases h
def Zo:dt (.alloc Op.mkMap):=by
 intro vs c mk h;unfold Op.mkMap at h;split at h
 .injection h with h;injection h with h _;subst h;rfl
 .cases h
section
variable{P:Program}{o:Oper}{xs:List Operand}
def dh.up{f:List AV->Option AV}(h:dh P o xs f):xC P o xs f:=λ D θ ρ w vs v _=>h D θ ρ w vs v
def lE.up{f:List AV->Option (bH×(Nat->AV))}(h:lE P o xs f):tc P o xs f:=λ D θ ρ w vs c mk _=>h D θ ρ w vs c mk
def Ft{src dst:TypeId}{x:Operand}(ho:o.op=.convert src dst x){r:List Operand×ft}(h:Dz P src dst x=some r):rj P o r.1 r.2:=by
 unfold Dz at h;split at h
 .rename_i c d;injection h with h;subst h;exact(xj8 ho c d).up
 .cases h
def xi0{t:TypeId}{x y:Operand}{k:tu}(h:EN P t x y=some k):ur P t x y k:=by
 unfold EN at h;simp only[Xj]at h;split at h
 .rename_i hu;injection h with h;subst h;exact hu
 .rename_i e hu;split at h
  .rename_i n hs;injection h with h;subst h;exact⟨e,n,hu,hs⟩
  .cases h
 .rename_i e hu;injection h with h;subst h;exact⟨e,hu⟩
 .rename_i k e hu;injection h with h;subst h;exact⟨k,e,hu⟩
 .rename_i a b c hu;injection h with h;subst h;exact⟨a,b,c,hu⟩
 .rename_i ms hu;split at h
  .injection h with h;subst h;exact⟨ms,hu,.inl ⟨_,rfl⟩⟩
  .injection h with h;subst h;exact⟨ms,hu,.inr ⟨_,rfl⟩⟩
  .injection h with h;subst h
   refine⟨⟨ms,hu⟩,λ u q d=>?_⟩;simp only[qd]at d;obtain⟨i,g,d⟩:=d;split at d
   .rename_i f;exact⟨d,i,g,f⟩
   .cases d
 .rename_i fs hu;split at h
  .cases h
  .rename_i hg;simp only[qd,qe]at h;obtain⟨q,d,rfl⟩:=h;exact⟨by simpa using hg,d,.inl ⟨fs,hu⟩⟩
 .rename_i n e hu;split at h
  .cases h
  .rename_i hg;simp only[qd,qe]at h;obtain⟨q,d,rfl⟩:=h;exact⟨by simpa using hg,d,.inr ⟨n,e,hu⟩⟩
 .cases h
def Kr{op:BinOp}{t c:TypeId}{x y:Operand}(ho:o.op=.binOp op t x y c){r:List Operand×ft}(h:Jg P op t x y=some r):rj P o r.1 r.2:=by
 unfold Jg at h;split at h
 .injection h with h;subst h;exact(xev ho).up
 .injection h with h;subst h;exact(xev ho).up
 .split at h
  .simp only[qd,qe]at h;obtain⟨k,hk,rfl⟩:=h;exact YB (neg:=false) (by simpa using ho) (xi0 hk)
  .simp only[qd,qe]at h;obtain⟨k,hk,rfl⟩:=h;exact YB (neg:=true) (by simpa using ho) (xi0 hk)
  .cases h
def xfp{c:Call}{b:Builtin}(ho:o.op=.call c)(hc:c.callee=.builtin b){r:List Operand×ft}(h:XE P b c.argTypes c.args.toList=some r):rj P o r.1 r.2:=by
 have f:∀{d:TypeDesc},(c.argTypes[0]?).bind P.underlying=some d -> ∃t,c.argTypes[0]? = some t/\P.underlying t=some d:=λ h=>by simpa[qd]using h
 unfold XE at h;split at h
 .split at h
  .rename_i hu;obtain⟨t,g,hu⟩:=f hu;injection h with h;subst h;exact(xgs ho hc rfl g hu).up
  .cases h
 .split at h
  .rename_i t tx j;split at h
   .rename_i e e' hu p;simp only[qd]at h;obtain⟨n,hn,z,l,q,m,h⟩:=h;split at h
    .rename_i hl;injection h with h;subst h;exact⟨xfv ho hc rfl j hu (.inl ⟨_,p⟩) hn l m hl,xcu _ _ _⟩
    .cases h
   .cases h
  .cases h
 .split at h
  .rename_i hu;obtain⟨t,g,hu⟩:=f hu;simp only[qd,qe]at h;obtain⟨z,l,rfl⟩:=h;exact⟨xb5 ho hc rfl g hu l,xan _⟩
  .rename_i hu;obtain⟨t,g,hu⟩:=f hu;injection h with h;subst h;exact⟨q9u ho hc rfl g hu,q8a⟩
  .cases h
 .injection h with h;subst h;exact⟨c,ho,hc,rfl⟩
 .injection h with h;subst h;exact .inr ⟨c,ho,hc,rfl⟩
 .cases h
def As{fn:Func}(n:String)(hn:fn.name=n)(ho:fn.origin = "") {e:Array TypeId->Array TypeId->Array TypeId->Array Value->Sem Value}
 (d:∀(c rs:Array TypeId),(((Extern.allNextRows.lookup n).map (· c rs)) <|> ((Extern.allNextRows.lookup "").map (· c rs)))=none)
 (f:∀(ts c rs:Array TypeId),((Extern.allGenericRows.lookup n).map (· ts c rs) <|> (Extern.allTypedRows.lookup n).map (· c rs) <|> Extern.allRows.lookup n)=some (e ts c rs)) :
 Extern.findNext fn=none/\Extern.find fn=some (e fn.targs fn.params fn.resultTypes):=by
 unfold Extern.findNext Extern.find;rw[hn,ho];refine⟨d fn.params fn.resultTypes,?_⟩;show(((Extern.allGenericRows.lookup n).map (· fn.targs fn.params fn.resultTypes) <|> (Extern.allTypedRows.lookup n).map (· fn.params fn.resultTypes) <|> Extern.allRows.lookup n) <|> _)=_;rw[f];rfl
def K8{c:Call}{f:FuncId}{fn:Func}(hn:fn.name≠ "runtime.NumGoroutine") (ho:o.op=.call c) (hc:c.callee=.value (.func f)) (m:P.funcs[f]? = some fn) (hb:fn.body=none) {r:List Operand×ft}
 (h:JE P fn c.args.toList=some r):rj P o r.1 r.2:=by
 unfold JE at h;split at h
 .cases h
 .rename_i g;have g:fn.origin = "" := by simpa using g
  split at h
  .rename_i d;have d:=eq_of_beq d;injection h with h;subst h
   obtain⟨j,l⟩:=As (e:=λ _ _ _=>Extern.BytealgIndexByte.indexByte) _ d g (λ p rs=>by kernel_rfl) (λ ts p rs=>by kernel_rfl);intro D θ ρ w vs v n;exact qq3 ho hc m hb hn j l rfl D θ ρ w vs v (n.func f)
  .cases h
def Fv(e:dL P){c:Call}(ho:o.op=.call c){r:List Operand×ft}(h:Cu P c=some r):rj P o r.1 r.2:=by
 unfold Cu at h;split at h
 .rename_i f hc;simp only[qd]at h;obtain⟨fn,d,h⟩:=h;split at h
  .rename_i b hb;injection h with h;subst h
   exact⟨c,fn,b,ho,hc,rfl,d,hb⟩
  .rename_i hb;exact K8 (e.names f fn d) ho hc d hb h
 .rename_i x _ hc;injection h with h;subst h;exact⟨c,_,ho,hc,rfl⟩
 .rename_i hc;injection h with h;subst h;exact⟨c,_,ho,hc,rfl⟩
 .rename_i b hc;exact xfp ho hc h
def NA(E:dL P){r:List Operand×ft}(h:Qo P o.op=some r):rj P o r.1 r.2:=by
 unfold Qo at h;split at h
 .rename_i ho;injection h with h;subst h;exact(xaz (.inl ho)).up
 .rename_i ho;injection h with h;subst h;exact(xaz (.inr ho)).up
 .rename_i ho;injection h with h;subst h;exact(xj7 ho).up
 .rename_i ho;simp only[qd,qe]at h;obtain⟨z,j,rfl⟩:=h;exact⟨(xbq ho j).up,xgh⟩
 .rename_i ho;injection h with h;subst h;exact⟨(xhu ho).up,Az⟩
 .rename_i t parts ho;simp only[qd]at h;obtain⟨z,j,h⟩:=h;split at h
  .rename_i fs hu;split at h
   .rename_i p;simp only[qd,qe]at h;obtain⟨C,g,rfl⟩:=h;refine(qwg ho j hu (λ f s=>?_) g).up;have:=wq.1 p f (Array.mem_toList_iff.2 s);exact Option.isSome_iff_exists.1 this
   .cases h
  .rename_i hu;simp only[qd,qe]at h;obtain⟨n,hn,C,g,rfl⟩:=h;exact(qy1 ho j hu hn g).up
  .cases h
 .rename_i t len parts ho;split at h
  .rename_i e hu;simp only[qd]at h;obtain⟨n,hn,z,j,C,g,h⟩:=h;split at h
   .rename_i hc;injection h with h;subst h
    exact⟨(qxr ho hu hn j g hc.1 hc.2).up,q3n⟩
   .cases h
  .cases h
 .rename_i t a ho;simp only[qd]at h;obtain⟨K,hr,h⟩:=h;split at h
  .injection h with h;subst h;exact xgu ho hr
  .injection h with h;subst h;exact xgv ho hr
 .rename_i t a x ho;simp only[qd,qe]at h;obtain⟨n,hn,rfl⟩:=h;exact⟨xiq ho hn,xgi _⟩
 .rename_i ho;injection h with h;subst h;exact(q8l ho).up
 .rename_i ho;exact Kr ho h
 .rename_i ho;injection h with h;subst h;exact(FP ho).up
 .rename_i ho;exact Ft ho h
 .rename_i t x ho;split at h
  .cases h
  .rename_i d F hu;injection h with h;subst h
   exact(xay ho ⟨d,hu,by cases d<;>first|rfl|exact(F _ rfl).elim⟩).up
  .cases h
 .rename_i ho;injection h with h;subst h;exact(xc1 ho).up
 .rename_i ho;injection h with h;subst h
  exact⟨λ D θ ρ w vs B mk A=>q1p ho (.inl rfl) (λ _=>trivial) D θ ρ w vs B mk A.const,Zo⟩
 .rename_i t k n ho;split at h
  .rename_i a b hu;injection h with h;subst h
   exact⟨λ D θ ρ w vs B mk A=>q1p ho (.inr ⟨k,n,rfl,a,b,hu⟩) (λ _=>trivial) D θ ρ w vs B mk A.const,Zo⟩
  .cases h
 .rename_i t l c ho;split at h
  .rename_i e hu;simp only[qd]at h;obtain⟨b,hb,z,j,n,hn,h⟩:=h;split at h
   .rename_i hc;injection h with h;subst h
    exact⟨(q6z ho hu hb hn j hc).up,xao⟩
   .cases h
  .cases h
 .rename_i t x lo I J ho;split at h
  .rename_i e hu;simp only[qd,qe]at h;obtain⟨n,hn,rfl⟩:=h;exact(xa0 ho hu hn).up
  .rename_i k e hu;simp only[qd,qe]at h;obtain⟨n,hn,rfl⟩:=h;exact(q8m ho hu hn).up
  .cases h
 .rename_i t x i ho;split at h
  .rename_i fs hu;simp only[qd]at h;obtain⟨f,s,n,hn,h⟩:=h;split at h
   .cases h
   .rename_i u;injection h with h;subst h
    exact(q5k ho hu s hn (by simpa using u)).up
  .cases h
 .rename_i t x i ho;split at h
  .rename_i e hu;simp only[qd,qe]at h;obtain⟨n,hn,rfl⟩:=h;exact(xax ho hu hn).up
  .rename_i k e hu;simp only[qd,qe]at h;obtain⟨n,hn,rfl⟩:=h;exact(q8j ho hu hn).up
  .cases h
 .rename_i t x i ho;split at h
  .rename_i hu;injection h with h;subst h;exact(q8k ho hu).up
  .rename_i k e hu;simp only[qd,qe]at h;obtain⟨n,hn,a,ha,rfl⟩:=h;exact(q8i ho hu hn ha).up
  .cases h
 .rename_i t m k ok ho;split at h
  .rename_i G e hu;simp only[qd,qe]at h;obtain⟨q,y,z,j,rfl⟩:=h;exact xc4 ho hu y j
  .cases h
 .rename_i t m k v ho;split at h
  .rename_i G e hu;simp only[qd,qe]at h;obtain⟨q,y,rfl⟩:=h;exact⟨q7g (.inl ho) hu y,q5j _⟩
  .cases h
 .rename_i ho;injection h with h;subst h;exact(xaw ho).up
 .rename_i c ho;exact Fv E ho h
 .rename_i c ho;split at h
  .rename_i f hc;injection h with h;subst h;exact⟨c,f,ho,hc,rfl⟩
  .cases h
 .rename_i x ho;injection h with h;subst h;exact .inl ⟨x,ho,rfl⟩
 .cases h
def rj.mono{c:ft}(h:rj P o xs c):dt c:=by
 cases c with
 |alloc f=>exact h.2
 |gJ f=>exact h.2
 |_=>trivial
def Cl(o:Oper)(aop:ft):Prop:=(∀c,o.op≠ .defer c)\/aop=.defer\/aop=.pure Op.fail
def JZ{r:List Operand×ft}(h:Qo P o.op=some r):Cl o r.2:=by
 by_cases d:∃c,o.op=.defer c
 .obtain ⟨c,hc⟩:=d;rw[hc]at h;simp only[Qo]at h;split at h
  .injection h with h;subst h;exact .inr (.inl rfl)
  .cases h
 .exact .inl λ c hc=>d ⟨c,hc⟩
def ML(e:dL P){r:List bI×ft}(h:fT P o=some r):∃xs,nG P.globals.size xs=some r.1/\rj P o xs r.2/\Cl o r.2:=by
 unfold fT at h;split at h
 .rename_i f hr;injection h with h;subst h
  simp only[qd,qe]at hr;obtain⟨q,d,args,c,rfl⟩:=hr;exact⟨q.1,c,NA e d,JZ d⟩
 .injection h with h;subst h
  exact⟨[],rfl,(xj6 []).up,.inr (.inr rfl)⟩
end
end Go.Am
namespace Go.Am
def gR(D:Nat->Prop)(θ:Th):List aM->List Deferred->Prop
 |[],[]=>True
 |d::ds,e::es=>VT D θ d e/\gR D θ ds es
 |_,_=>False
def I5(D:Nat->Prop)(θ:Th)(e:AV×Bool)(p:PanicEntry):Prop:=VR D θ e.1 p.v/\p.recovered=e.2/\p.goexit=false
def fF(D:Nat->Prop)(θ:Th):aE->List PanicEntry->Prop
 |[],[]=>True
 |e::es,p::ps=>I5 D θ e p/\fF D θ es ps
 |_,_=>False
def qF(D:Nat->Prop)(θ:Th)(c:aE)(m:FrameMode):Prop :=
 match m with
 | .run=>False
 | .returning=>c=[]
 | .panicking ps=>c≠[]/\fF D θ c ps
def qT(D:Nat->Prop)(θ:Th)(kind:CallKind):Option aE->List Frame->Prop
 |none,_=>kind=.normal
 |some ch,c::_=>kind=.deferred/\qF D θ ch c.mode
 |some _,[]=>False
def eW:Option aE->List Frame->List Frame->Prop
 |none,cs,cs'=>cs'=cs
 |some _,c::rest,cs'=>∃u,cs' = {c with mode:=u}::rest
 |some _,[],_=>False
def xS(D:Nat->Prop)(θ:Th)(ro:Option Nat):Option Nat->Prop
 |none=>ro=none
 |some l=>D l/\ro=some (θ.bV l)
def BN(D:Nat->Prop)(θ:Th):aU->Exit->Prop
 | .normal,.normal=>True
 | .exit i,.exit j=>j=i
 | .goto i,.goto j=>j=i
 | .ret,.ret=>True
 | .panic c,.panic ps=>c≠[]/\fF D θ c ps
 |_,_=>False
def Nd(D:Nat->Prop)(θ:Th):bE->Ending->Prop
 | .ret v,.returned c=>VR D θ v c
 | .panic c,.panicked ps=>c≠[]/\fF D θ c ps
 |_,_=>False
section
variable{D D':Nat->Prop}{θ θ':Th}
def gR.up(ha:Ag D θ θ')(g:∀b,D b->D' b):∀{l:List aM}{m:List Deferred},gR D θ l m->gR D' θ' l m
 |[],[],_=>trivial
 |d::ds,e::es,⟨h1,h2⟩=>by
  refine⟨?_,gR.up ha g h2⟩;cases d with
  |iU b=>exact⟨g b h1.1,by rw[(ha b h1.1).1];exact h1.2⟩
  |fn f args =>
   obtain⟨c,cap,p,n,q⟩:=h1;refine⟨c,cap,?_,λ θ'' j=>?_,q.up ha g⟩
   .rw [p,n θ' ha]
   .rw [n θ'' (ha.trans j g),n θ' ha]
 |[],_::_,h=>h.elim
 |_::_,[],h=>h.elim
def fF.up(ha:Ag D θ θ')(c:∀b,D b->D' b):∀{l:aE}{m:List PanicEntry},fF D θ l m->fF D' θ' l m
 |[],[],_=>trivial
 |e::es,p::ps,⟨⟨h1,h2,h3⟩,h⟩=>⟨⟨h1.up ha c,h2,h3⟩,fF.up ha c h⟩
 |[],_::_,h=>h.elim
 |_::_,[],h=>h.elim
def qF.up(ha:Ag D θ θ')(d:∀b,D b->D' b){c:aE}{m:FrameMode}(h:qF D θ c m):qF D' θ' c m:=by
 cases m with
 |run=>exact h.elim
 |returning=>exact h
 |panicking ps=>exact⟨h.1,fF.up ha d h.2⟩
def qT.up(ha:Ag D θ θ')(d:∀b,D b->D' b){k:CallKind}{u:Option aE}{cs:List Frame}(h:qT D θ k u cs):qT D' θ' k u cs:=by
 cases u with
 |none=>exact h
 |some ch =>
  cases cs with
  |nil=>exact h.elim
  |cons c r=>exact⟨h.1,qF.up ha d h.2⟩
def xS.up(ha:Ag D θ θ')(c:∀b,D b->D' b){ro r:Option Nat}(h:xS D θ ro r):xS D' θ' ro r:=by
 cases r with
 |none=>exact h
 |some l=>exact⟨c l h.1,by rw[(ha l h.1).1];exact h.2⟩
def eW.refl{D:Nat->Prop}{θ:Th}{k:CallKind}{u:Option aE}{cs:List Frame}(h:qT D θ k u cs):eW u cs cs:=by
 cases u with
 |none=>rfl
 |some ch =>
  cases cs with
  |nil=>exact h.elim
  |cons c r=>exact⟨c.mode,rfl⟩
def eW.trans{u e:Option aE}(hu:e.isSome=u.isSome){cs cs' d:List Frame}(h:eW u cs cs')(f:eW e cs' d):eW u cs d:=by
 cases u with
 |none =>
  cases e with
  |none=>exact Eq.trans f h
  |some _=>cases hu
 |some ch =>
  cases e with
  |none=>cases hu
  |some ch' =>
   cases cs with
   |nil=>exact h.elim
   |cons c r =>
    obtain⟨m,rfl⟩:=h;obtain⟨g,rfl⟩:=f;exact⟨g,rfl⟩
def pz.up(ha:Ag D θ θ')(d:∀b,D b->D' b){tm:T AV}{a:Array Value}(h:pz D θ tm a):pz D' θ' tm a:=λ t v e =>
 let⟨c,h1,h2⟩:=h t v e;⟨c,h1,h2.up ha d⟩
def pz.put{tm:T AV}{a:Array Value}(h:pz D θ tm a){d:Nat}(g:d<a.size){v:AV}{c:Value}(j:VR D θ v c):pz D θ (tm.set d v) (a.setIfInBounds d c):=by
 intro t x f;rw[T.aI]at f;rw[vr]
 by_cases e:d=t
 .subst e;simp only[ri,qe]at f;subst f;exact⟨c,by simp[g],j⟩
 .simp only[e,wz]at f⊢;exact h t x f
def pz.forget{a:Array Value}:∀(ds:List Nat){tm:T AV},pz D θ tm a->pz D θ (forget ds tm) a
 |[],_,h=>h
 |d::ds,tm,h=>pz.forget ds (tm:=tm.put d none) (λ t v c=>by
  rw[T.jM]at c;split at c
  .cases c
  .exact h t v c)
def T.pR:∀(ds:List Nat)(tm:T AV)(t:Nat),(forget ds tm).get t=if t∈ds then none else tm.get t
 |[],tm,t=>by simp[Am.forget]
 |d::ds,tm,t=>by
  rw[Am.forget,T.pR ds,T.jM]
  by_cases f:t∈ds
  .simp [f]
  .by_cases c:d=t
   .simp [c]
   .have g:¬t=d:=λ e=>c e.symm;simp[f,c,g]
end
section
variable{P:Program}{base:Nat}{D:Nat->Prop}{θ:Th}{H:ar}{w:World}{a:Act}{tm:T AV}
def CF(l:HR P base D θ H w)(m:pz D θ tm a.tmps){x:Operand}{y:bI}(hc:qL P.globals.size x=some y){v:AV}(d:qU tm y=some v):VR D θ v (a.eval x):=by
 cases x with
 |tmp t =>
  injection hc with hc;subst hc
  obtain⟨c,e,h⟩:=m t v d
  simpa[Act.eval,e]using h
 |const k =>
  simp only[qL,qd,qe]at hc;obtain⟨u,hu,rfl⟩:=hc;injection d with d;subst d
  exact RR hu
 |global g =>
  simp only[qL]at hc;split at hc
  .rename_i hg;injection hc with hc;subst hc
   injection d with d;subst d
   obtain⟨e,h,j⟩:=l.d8 g (by simpa[sX]using hg);have:=VR.ptr (θ:=θ) (o:=0) e;rw[h,j]at this;exact this
  .cases hc
 |func f =>
  injection hc with hc;subst hc
  injection d with d;subst d
  exact λ _ _=>rfl
def Hk(e:HR P base D θ H w)(f:pz D θ tm a.tmps):∀{xs:List Operand}{ys:List bI},nG P.globals.size xs=some ys -> ∀{vs:List AV},lK tm ys=some vs->bL D θ vs (xs.map a.eval)
 |[],ys,hc,vs,c=>by
  injection hc with hc;subst hc
  injection c with c;subst c
  exact .nil
 |x::xs,ys,hc,vs,c=>by
  simp only[nG,qd,qe]at hc;obtain⟨y,j,m,d,rfl⟩:=hc;simp only[lK,qd,qe]at c;obtain⟨v,g,l,h,rfl⟩:=c;exact .cons (CF e f j g) (Hk e f d h)
def IW(x:bI)(tm:T AV):(LM x).run tm=qU tm x:=by
 cases x<;>simp[LM,qU,T.jL,T.get]
def Gc:∀(xs:List bI)(tm:T AV),(sY xs).run tm=lK tm xs
 |[],_=>rfl
 |[x],tm=>by simp[sY,lK,IW]
 |x::y::xs,tm=>by
  rw[sY,lK]
  .simp only[IW,Gc (y::xs) tm]
  .simp
def QN(a:Act):zO a.eval:=⟨λ _=>rfl,λ _=>rfl⟩
def TK(d:Option Nat)(v:AV)(tm:T AV):(kZ d).run v tm=ey d v tm:=by
 cases d<;>simp[kZ,ey,T.DG,T.set,T.put]
end
inductive gZ where
 |val (v:AV) (aX:List aM) (up:Option aE) (H:ar)
 |panic (c:aE) (H:ar)
def mN(aX:List aM)(up:Option aE)(r:bE×ar):gZ :=
 match r.1 with
 | .ret v=>.val v aX up r.2
 | .panic c=>.panic c r.2
def ia(rt:RT)(st:St)(vs:List AV):ft->Option gZ
 | .pure f=>(f vs).bind λ v=>some (.val v st.aX st.up st.H)
 | .read f=>(f vs st.H).bind λ v=>some (.val v st.aX st.up st.H)
 | .alloc f=>(f vs).bind λ r=>some (.val (r.2 st.H.au) st.aX st.up (st.H.alloc r.1))
 | .gJ f=>(f vs st.H).bind λ r=>some (.val r.1 st.aX st.up r.2)
 | .gY f=>(cP rt.call rt.round (.func f) vs st.H).bind λ r=>some (mN st.aX st.up r)
 | .gS=>match vs with
  | .fn (.func f) first cap::args=>(cP rt.call rt.round (.func f) (first++(args++cap)) st.H).bind λ r=>some (mN st.aX st.up r)
  | .fn (.yield l) first []::args=>(cP rt.call rt.round (.yield l) (first++args) st.H).bind λ r=>some (mN st.aX st.up r)
  |_=>none
 | .invoke name=>match vs with
  | .iface t v::args=>(rt.AP.jN t name).bind λ f=>(cP rt.call rt.round (.func f) (v::args) st.H).bind λ r=>some (mN st.aX st.up r)
  |_=>none
 | .recover=>match rt.ctx.round with
  |some _=>none
  |none=>match vs with
   |[]=>match st.up with
    |some ((v,false)::older)=>some (.val v st.aX (some ((v,true)::older)) st.H)
    |_=>some (.val .nili st.aX st.up st.H)
   |_=>none
 | .defer=>match rt.ctx.round with
  |some _=>none
  |none=>match vs with
   | .fn (.func f) first cap::args=>some (.val .undef (.fn (.func f) (first++(args++cap))::st.aX) st.up st.H)
   |_=>none
 | .panic=>match vs with
  |[.iface t v]=>some (.panic [(.iface t v,false)] st.H)
  |_=>none
def tD(put:AV->T AV->T AV)(ct:Option (List Nat))(st:St)(k:St->gC):gZ->gC
 | .val v aX up H=>k ⟨put v st.tm,aX,up,H⟩
 | .panic c H=>ct.bind λ ds=>some (.panic c,⟨forget ds st.tm,st.aX,st.up,H⟩)
def Qq(put:AV->T AV->T AV)(ct:Option (List Nat))(st:St)(k:St->gC)(r:bE×ar):fK put ct st k r=tD put ct st k (mN st.aX st.up r):=by
 unfold fK mN;split<;>rename_i h<;>rw[h]<;>rfl
def xj0(put:AV->T AV->T AV)(ct:Option (List Nat))(rt:RT)(st:St)(k:St->gC)(vs:List AV)(op:ft) :
 (qA put ct op).run rt st k vs=(ia rt st vs op).bind (tD put ct st k):=by
 cases op with
 |pure f=>simp only[qA,CR,ia,j4,qm];rfl
 |read f=>simp only[qA,DU,ia,j4,qm];rfl
 |alloc f=>simp only[qA,vB,ia,j4,qm];rfl
 |gJ f=>simp only[qA,Ja,ia,j4,qm];rfl
 |gY f=>simp only[qA,Au,ia,j4,qm,Qq]
 |gS =>
  simp only[qA,AE,ia];split
  .simp only[j4,qm,Qq]
  .simp only[j4,qm,Qq]
  .rename_i c e;split
   .exact (c _ _ _ _ rfl).elim
   .exact (e _ _ _ rfl).elim
   .rfl
 |invoke name =>
  simp only[qA,sk,ia];split
  .simp only[j4,qm,Qq]
  .rename_i c;split
   .exact (c _ _ _ rfl).elim
   .rfl
 |recover =>
  simp only[qA,Ru,ia];cases rt.ctx.round with
  |some l=>rfl
  |none =>
   cases vs with
   |cons x xs=>rfl
   |nil =>
    rcases hu:st.up with _|_|⟨⟨v,_|_⟩,d⟩<;>simp only[NP,hu]<;>rfl
 |defer =>
  simp only[qA,vC,ia];cases rt.ctx.round with
  |some l=>rfl
  |none =>
   simp only;split
   .rfl
   .rename_i h;split
    .exact (h _ _ _ _ rfl).elim
    .rfl
 |panic =>
  simp only[qA,vH,ia];split
  .simp only[Qq,mN,qm]
  .rename_i h;split
   .exact (h _ _ rfl).elim
   .rfl
end Go.Am
namespace Go.Am
section moves
variable{P:Program}{b:Frame}{a:Act}{k:List Item}{cs cs':List Frame}{w w':World}{ops:Array Oper}{i:Nat}{rest:List Nat}{o:Oper}
def Mh(ho:ops[i]? = some o)(v:Value):(b.atR a (.inRegion ops (i::rest)::k)).finish v=b.atR (a.put o.dst v) (.inRegion ops rest::k):=by
 rw[Frame.finish_atR,ho];rfl
def JX(ho:ops[i]? = some o)(hw:Region.wanted o (yielded ops a.tmps)=true){v:Value}(hr:(o.semAt b.roundOf a.eval).run P w=.ok (.value v) w') :
 step P (lone (b.atR a (.inRegion ops (i::rest)::k)) cs w)=.next (lone (b.atR (a.put o.dst v) (.inRegion ops rest::k)) cs w') :=
 step_lone_go (by rw[stepGR_op ho hw,<-Mh ho];simp[stepG.apply,hr])
def P7(ho:ops[i]? = some o)(hw:Region.wanted o (yielded ops a.tmps)=true)(hr:(o.semAt b.roundOf a.eval).run P w=.ok .skip w') :
 step P (lone (b.atR a (.inRegion ops (i::rest)::k)) cs w)=.next (lone (b.atR (a.put o.dst undef) (.inRegion ops rest::k)) cs w') :=
 step_lone_go (by rw[stepGR_op ho hw,<-Mh ho];simp[stepG.apply,hr])
def zM(ho:ops[i]? = some o)(hw:Region.wanted o (yielded ops a.tmps)=true){d:Deferred}(hr:(o.semAt b.roundOf a.eval).run P w=.ok (.defer d) w') :
 step P (lone (b.atR a (.inRegion ops (i::rest)::k)) cs w)=.next (lone (b.atR (({a with defers:=d::a.defers}:Act).put o.dst undef) (.inRegion ops rest::k)) cs w'):=by
 refine step_lone_go ?_;have:({b.atR a (.inRegion ops (i::rest)::k)with defers:=d::a.defers}:Frame).finish undef =
  b.atR ({a with defers:=d::a.defers}.put o.dst undef) (.inRegion ops rest::k):=by
  have:=Frame.finish_atR b {a with defers:=d::a.defers} ops i rest k undef;rw[ho]at this;exact this
 rw[stepGR_op ho hw];simp only[stepG.apply,Sem.runT_eq,hr,GStep.bare_after];exact congrArg (λ fr=>GStep.go {frame:=fr,callers:=cs,status:=.running,dying:=none} w') this
def VH(ho:ops[i]? = some o)(hw:Region.wanted o (yielded ops a.tmps)=true){f:FuncId}{args:Array Value}(hr:(o.semAt b.roundOf a.eval).run P w=.ok (.enter f args) w') :
 step P (lone (b.atR a (.inRegion ops (i::rest)::k)) cs w)=.next (lone (Frame.enter P f args .normal) (b.atR a (.inRegion ops (i::rest)::k)::cs) w') :=
 step_lone_go (by rw[stepGR_op ho hw];simp[stepG.apply,hr,Frame.atR])
def C6(ho:ops[i]? = some o)(hw:Region.wanted o (yielded ops a.tmps)=true){l:Nat}{f:FuncId}{tmps:Array Value}{as body:Code}(hr:(o.semAt b.roundOf a.eval).run P w=.ok (.round l f tmps as body) w') :
 step P (lone (b.atR a (.inRegion ops (i::rest)::k)) cs w)=.next (lone (Frame.round l f tmps as body .normal) (b.atR a (.inRegion ops (i::rest)::k)::cs) w') :=
 step_lone_go (by rw[stepGR_op ho hw];simp[stepG.apply,hr,Frame.atR])
def zV(ho:ops[i]? = some o)(hw:Region.wanted o (yielded ops a.tmps)=true){v:Value}(hr:(o.semAt b.roundOf a.eval).run P w=.halt (.panic v) w') :
 step P (lone (b.atR a (.inRegion ops (i::rest)::k)) cs w)=.next (lone {b.atR a (.inRegion ops (i::rest)::k)with mode:=.panicking [{v,recovered:=false}]} cs w') :=
 step_lone_go (by rw[stepGR_op ho hw,<-Frame.raise_atR];simp[stepG.apply,hr])
def xfm(ho:ops[i]? = some o)(hw:Region.wanted o (yielded ops a.tmps)=true)(hb:b.roundOf=none)(hr:(o.semAt b.roundOf a.eval).run P w=.ok .recover w'){v:Value}
 (d:tryRecover (b.atR a (.inRegion ops (i::rest)::k)) cs=some (v,cs')) :
 step P (lone (b.atR a (.inRegion ops (i::rest)::k)) cs w)=.next (lone (b.atR (a.put o.dst v) (.inRegion ops rest::k)) cs' w') :=
 step_lone_go (by
  rw[stepGR_op ho hw,<-Mh ho];have c:(b.atR a (.inRegion ops (i::rest)::k)).roundOf=none:=hb;simp[stepG.apply,hr,c,d])
def q1r(ho:ops[i]? = some o)(hw:Region.wanted o (yielded ops a.tmps)=true)(hb:b.roundOf=none)(hr:(o.semAt b.roundOf a.eval).run P w=.ok .recover w')
 (d:tryRecover (b.atR a (.inRegion ops (i::rest)::k)) cs=none) :
 step P (lone (b.atR a (.inRegion ops (i::rest)::k)) cs w)=.next (lone (b.atR (a.put o.dst .nilIface) (.inRegion ops rest::k)) cs w') :=
 step_lone_go (by
  rw[stepGR_op ho hw,<-Mh ho];have c:(b.atR a (.inRegion ops (i::rest)::k)).roundOf=none:=hb;simp[stepG.apply,hr,c,d])
end moves
def wx(P:Program)(base:Nat)(call:bU):Prop :=
 ∀(D:Nat->Prop)θ H w f vs(args:Array Value)up H' e up' kind cs,HR P base D θ H w->bL D θ vs args.toList->qT D θ kind up cs->call f vs up H=some (e,up',H')->dV D H.au H'.au ->
  (∃fn c,P.funcs[f]? = some fn/\fn.body=some c) /\
  ∃θ' w' cs' fr e',Steps P (lone (Frame.enter P f args kind) cs w) (lone fr cs' w')/\fr.kind=kind/\fr.fn=f/\fr.going P w' e'/\Nd (Up D H.au H'.au) θ' e e' /\
   HR P base (Up D H.au H'.au) θ' H' w'/\bB D H θ w H' θ' w'/\up'.isSome=up.isSome/\eW up cs cs'/\qT (Up D H.au H'.au) θ' kind up' cs'
def uz(P:Program)(base:Nat)(round:iD):Prop :=
 ∀(D:Nat->Prop)θ H w l vs(args:Array Value)H' e(c:Frame)cs,HR P base D θ H w->bL D θ vs args.toList->round vs l H=some (e,H')->dV D H.au H'.au ->
  ∃f tmps as body,(Instr.yield (θ.bV l) args).run P w=.ok (.round (θ.bV l) f tmps as body) w /\
  ∃θ' w' fin,Steps P (lone (Frame.round (θ.bV l) f tmps as body .normal) (c::cs) w) (lone fin cs w') /\
   (match e with
    | .ret v=>∃cv,VR (Up D H.au H'.au) θ' v cv/\fin=c.finish cv
    | .panic ch=>∃ps,ch≠[]/\fF (Up D H.au H'.au) θ' ch ps/\fin=c.raise ps) /\
   HR P base (Up D H.au H'.au) θ' H' w'/\bB D H θ w H' θ' w'
def gZ.heap:gZ->ar
 | .val _ _ _ H=>H
 | .panic _ H=>H
def HS(P:Program)(base:Nat)(D:Nat->Prop)(θ:Th)(st:St)(b:Frame)(a:Act)(ops:Array Oper)(i:Nat)(rest:List Nat)(k:List Item)(cs:List Frame)(w:World)(o:Oper):gZ->Prop
 | .val v aX up H'=>∃θ' w' c cs' ds,Steps P (lone (b.atR a (.inRegion ops (i::rest)::k)) cs w) (lone (b.atR (({a with defers:=ds}:Act).put o.dst c) (.inRegion ops rest::k)) cs' w') /\
  HR P base (Up D st.H.au H'.au) θ' H' w'/\bB D st.H θ w H' θ' w'/\VR (Up D st.H.au H'.au) θ' v c/\gR (Up D st.H.au H'.au) θ' aX ds/\up.isSome=st.up.isSome /\
  qT (Up D st.H.au H'.au) θ' b.kind up cs'/\eW st.up cs cs'
 | .panic ch H'=>∃θ' w' ps todo,Steps P (lone (b.atR a (.inRegion ops (i::rest)::k)) cs w) (lone {b.atR a todo with mode:=.panicking ps} cs w') /\
  HR P base (Up D st.H.au H'.au) θ' H' w'/\bB D st.H θ w H' θ' w'/\ch≠[]/\fF (Up D st.H.au H'.au) θ' ch ps
section
variable{P:Program}{base:Nat}{D:Nat->Prop}{θ:Th}
def SI{fr:Frame}{w:World}{e:Ending}(h:fr.going P w e)(hk:fr.kind=.normal):fr.leaving P w e:=by
 cases e with
 |returned v=>obtain⟨d,f,g⟩:=h;exact⟨d,f,hk,g⟩
 |panicked c=>exact h
 |outgrown=>trivial
def Oe{f:FuncId}{fn:Func}{c:Code}{args:Array Value}{w:World}(e:dL P)(d:P.funcs[f]? = some fn)(hb:fn.body=some c):(callFunc f args).run P w=.ok (.enter f args) w:=by
 simp[callFunc,d,hb,e.names f fn d]
def xg1{t:TypeId}{name:String}{f:Nat}(h:wK P t name=some f)(v:Value)(w:World):(method (P.types.size+Made.depth) t v name).run P w=.ok (f,v) w:=by
 unfold wK at h;simp only[qd]at h;obtain⟨i,l,m,hm,h⟩:=h;split at h
 .cases h
 .rename_i g;simp only[qd]at h;obtain⟨p,hp,h⟩:=h;have e:m.path.toList=[]:=by
   have:m.path.isEmpty=true:=by simpa using g
   simpa using this
  obtain⟨n,hn⟩:∃n,P.types.size+Made.depth=n+1:=⟨P.types.size+99,rfl⟩
  rw[hn];obtain⟨q,j⟩:=p;have c:(typeInfo t).run P w=.ok i w:=by simp[typeInfo,l]
  simp only[method,Sem.run_bind,c,Result.andThen_ok,hm,e,follow,Sem.run_pure,hp];cases hu:P.underlying t with
  |none=>rw[hu]at h;cases h
  |some d =>
   rw[hu]at h;have hr:∀wr,d=d->(receiverAt t (.val v) j wr).run P w=.ok v w/\q=f:=by
    intro wr _;cases d<;>cases j<;>simp only[reduceCtorEq,qe]at h<;>exact⟨by simp[receiverAt,j5 hu,Place.get],h⟩
   simp[(hr _ rfl).1,(hr none rfl).2]
def VP{call:bU}(hc:wx P base call){st:St}{b:Frame}{a:Act}{ops:Array Oper}{i:Nat}{rest:List Nat}{k:List Item}{cs:List Frame}{w:World}{o:Oper}
 (ho:ops[i]? = some o) (z:HR P base D θ st.H w) (x:gR D θ st.aX a.defers) (hu:qT D θ b.kind st.up cs) {f:Nat} {vs:List AV} {args:Array Value} (A:bL D θ vs args.toList)
 (hs:(∃fn c,P.funcs[f]? = some fn/\fn.body=some c)->step P (lone (b.atR a (.inRegion ops (i::rest)::k)) cs w)=.next (lone (Frame.enter P f args .normal) (b.atR a (.inRegion ops (i::rest)::k)::cs) w))
 {r:bE×ar} {u:Option aE} (hr:call f vs none st.H=some (r.1,u,r.2)) (y:dV D st.H.au r.2.au) :
 HS P base D θ st b a ops i rest k cs w o (mN st.aX st.up r):=by
 obtain⟨l,θ',w',cs',fr,e',m,q,B,s,g,n,h,C,t,p⟩:=hc D θ st.H w f vs args none r.2 r.1 u .normal (b.atR a (.inRegion ops (i::rest)::k)::cs) z A rfl hr y;have j:cs'=b.atR a (.inRegion ops (i::rest)::k)::cs:=t;subst j;have d:=hs l;have hl:=SI s q;obtain⟨e,H'⟩:=r;cases e with
 |ret v =>
  cases e' with
  |returned c =>
   refine⟨θ',w',c,cs,a.defers,.head d (m.trans (.one ?_)),n,h,g,gR.up h.ag Up.of x,rfl,qT.up h.ag Up.of hu,eW.refl hu⟩;rw[step_leave_returned hl,Mh ho]
  |panicked c=>exact g.elim
  |outgrown=>exact g.elim
 |panic ch =>
  cases e' with
  |returned c=>exact g.elim
  |panicked ps =>
   refine⟨θ',w',ps,.inRegion ops (i::rest)::k,.head d (m.trans (.one ?_)),n,h,g.1,g.2⟩;rw[step_leave_panicked hl,Frame.raise_atR]
  |outgrown=>exact g.elim
def QT{f:lJ}{first cap:List AV}{c:Value}(h:VR D θ (.fn f first cap) c):∃x y:List Value,c=.func (fD θ f) x.toArray y.toArray/\bL D θ first x/\bL D θ cap y/\(∀θ',Ag D θ θ'->fD θ' f=fD θ f):=by
 refine⟨bR θ first,bR θ cap,h.now.symm,λ θ' ha=>?_,λ θ' ha=>?_,λ θ' ha=>?_⟩ <;>
 .have:=(h θ' ha).trans h.now.symm;simp only[az,Value.func.injEq]at this
  first
  |exact this.1
  |(have:=this.2.1;simpa using this)
  |(have:=this.2.2;simpa using this)
set_option maxHeartbeats 1000000 in
def WK(hP:dL P){rt:RT}(E:wx P base rt.call)(V:uz P base rt.round)(hAP:rt.AP=aV P){o:Oper}{I:ft}{xs:List Operand}(B:rj P o xs I)(hdef:Cl o I)
 {ops:Array Oper} {i:Nat} {rest:List Nat} {a:Act} (ho:ops[i]? = some o) (hw:Region.wanted o (yielded ops a.tmps)=true) {st:St} {w:World} {b:Frame} {k:List Item} {cs:List Frame} {vs:List AV} {r:gZ}
 (J:HR P base D θ st.H w) (M:gR D θ st.aX a.defers) (hu:qT D θ b.kind st.up cs) (hb:xS D θ b.roundOf rt.ctx.round) (R:bL D θ vs (xs.map a.eval)) (hr:ia rt st vs I=some r)
 (hf:dV D st.H.au r.heap.au):HS P base D θ st b a ops i rest k cs w o r:=by
 have d:Up D st.H.au st.H.au=D:=Up.none
 have U:I≠ .defer->I≠ .pure Op.fail->o.semAt b.roundOf a.eval=execOp a.eval o:=λ L W=>Oper.semAt_eq _ _ _ (by
  rcases hdef with h|h|h
  .exact h
  .exact absurd h L
  .exact absurd h W)
 cases I with
 |pure f =>
  simp only[ia,qd,qe]at hr;obtain⟨v,s,rfl⟩:=hr;obtain⟨c,A,C⟩:=B D θ a.eval w vs v (QN a) R s;have g:o.semAt b.roundOf a.eval=execOp a.eval o:=U (by intro q;cases q) (by intro q;injection q with q;subst q;cases s);refine⟨θ,w,c,cs,a.defers,.one ?_,by rw[d];exact J,.refl _ _ _ _,by rw[d];exact C,by rw[d];exact M,rfl,by rw[d];exact hu,eW.refl hu⟩;rcases A with A|⟨A,rfl⟩
  .exact JX ho hw (by rw[g];exact A)
  .exact P7 ho hw (by rw[g];exact A)
 |read f =>
  simp only[ia,qd,qe]at hr;obtain⟨v,s,rfl⟩:=hr;obtain⟨c,A,C⟩:=B base D θ st.H a.eval w vs v J R s;have g:o.semAt b.roundOf a.eval=execOp a.eval o:=U (by intro q;cases q) (by intro q;cases q);refine⟨θ,w,c,cs,a.defers,.one ?_,by rw[d];exact J,.refl _ _ _ _,by rw[d];exact C,by rw[d];exact M,rfl,by rw[d];exact hu,eW.refl hu⟩;rcases A with A|⟨A,rfl⟩
  .exact JX ho hw (by rw[g];exact A)
  .exact P7 ho hw (by rw[g];exact A)
 |alloc f =>
  simp only[ia,qd,qe]at hr;obtain⟨⟨ob,mk⟩,s,rfl⟩:=hr;obtain⟨hown,w0,co,ext,c,A,C,X⟩:=B.1 D θ a.eval w vs ob mk (QN a) R s;have g:o.semAt b.roundOf a.eval=execOp a.eval o:=U (by intro q;cases q) (by intro q;cases q);have hn:¬D st.H.au:=hf _ (qg _) (zp _)
  have hag:=Th.gM θ st.H.au w0.heap.size 0 ext hn
  obtain⟨e1,e2,e3⟩:=Th.eH θ st.H.au w0.heap.size 0 ext
  obtain⟨k1,k2⟩:=X (Up D st.H.au (st.H.au+1)) (θ.add st.H.au w0.heap.size 0 ext) st.H.au hag Up.of (.inr ⟨qg _,zp _⟩) (by rw[e1,C.heap]) e2 e3
  have hh0:HR P base D θ st.H w0:=J.draw C.heap;refine⟨θ.add st.H.au w0.heap.size 0 ext,w0.alloc co,c,cs,a.defers,.one (JX ho hw (by rw[g];exact A)),?_,?_,k2,gR.up hag Up.of M,rfl,qT.up hag Up.of hu,eW.refl hu⟩
  .refine hh0.alloc hn ?_ ?_ (qg _) ?_ k1
   .rw [CE];simp
   .intro j hj;rw[CE,qo (Jo hj)]
   .simp
  .exact (bB.draw (w:=w) (w':=w0) C.heap C.os C.tape C.output).trans (bB.alloc (w:=w0) hh0 hn _ _ _ _) (λ _ h=>h)
 |gJ f =>
  simp only[ia,qd,qe]at hr;obtain⟨⟨v,H'⟩,s,rfl⟩:=hr;obtain⟨θ',w',c,A,C,X,g4⟩:=B.1 base D θ st.H a.eval w vs v H' J R s hf;have g:o.semAt b.roundOf a.eval=execOp a.eval o:=U (by intro q;cases q) (by intro q;cases q);refine⟨θ',w',c,cs,a.defers,.one ?_,C,X,g4,gR.up X.ag Up.of M,rfl,qT.up X.ag Up.of hu,eW.refl hu⟩;rcases A with A|⟨A,rfl⟩
  .exact JX ho hw (by rw[g];exact A)
  .exact P7 ho hw (by rw[g];exact A)
 |gY f =>
  obtain⟨c,fn,body,s,K,rfl,h3,h4⟩:=B;simp only[ia,cP,j4,qm,qd,qe]at hr;obtain⟨⟨e,u,H'⟩,hc,rfl⟩:=hr;have g:o.semAt b.roundOf a.eval=execOp a.eval o:=Oper.semAt_eq _ _ _ (λ c'=>by rw[s];simp);refine VP E ho J M hu (args:=c.args.map a.eval) (by simpa using R) (λ _=>VH ho hw ?_) hc (by cases e<;>exact hf);rw[g];simp[execOp,s,resolve,K,Act.eval,Deferred.ofValue,invoke,Oe hP h3 h4]
 |gS =>
  obtain⟨c,x,s,K,rfl⟩:=B;have g:o.semAt b.roundOf a.eval=execOp a.eval o:=Oper.semAt_eq _ _ _ (λ c'=>by rw[s];simp);simp only[ia]at hr;split at hr
  .rename_i f first cap args
   simp only[cP,j4,qm,qd,qe]at hr;obtain⟨⟨e,u,H'⟩,hc,rfl⟩:=hr;obtain⟨cf,ca,z,L,W⟩:=R.eJ;simp only[ji,zk]at z;obtain⟨rfl,rfl⟩:=z;obtain⟨fi,ci,S,Z,q5,_⟩:=QT L;refine VP E ho J M hu (args:=(fi.toArray++c.args.map a.eval)++ci.toArray) ?_ (λ hfn=>VH ho hw ?_) hc (by cases e<;>exact hf)
   .simpa using Z.app (W.app q5)
   .obtain ⟨fn,body,h3,h4⟩:=hfn;rw[g];simp[execOp,s,resolve,K,S,fD,Deferred.ofValue,invoke,Oe hP h3 h4]
  .rename_i l first args
   simp only[cP,qd,qe]at hr;obtain⟨⟨e,H'⟩,hc,rfl⟩:=hr;obtain⟨cf,ca,z,L,W⟩:=R.eJ;simp only[ji,zk]at z;obtain⟨rfl,rfl⟩:=z;obtain⟨fi,ci,S,Z,q5,_⟩:=QT L;have hf':dV D st.H.au H'.au:=by cases e<;>exact hf
   obtain⟨f,tmps,as,body,A,θ',w',fin,C,X,g4,g5⟩:=V D θ st.H w l (first++args) (fi.toArray++c.args.map a.eval) H' e (b.atR a (.inRegion ops (i::rest)::k)) cs J (by simpa using Z.app W) hc hf';have N:=C6 (P:=P) (b:=b) (k:=k) (cs:=cs) (w:=w) (rest:=rest) ho hw (l:=θ.bV l) (f:=f) (tmps:=tmps) (as:=as) (body:=body) (w':=w) (by
    rw[g];simp[execOp,s,resolve,K,S,fD,Deferred.ofValue,invoke,A])
   cases e with
   |ret v =>
    obtain⟨cv,k1,rfl⟩:=X;refine⟨θ',w',cv,cs,a.defers,.head N ?_,g4,g5,k1,gR.up g5.ag Up.of M,rfl,qT.up g5.ag Up.of hu,eW.refl hu⟩;rw[Mh ho]at C;exact C
   |panic ch =>
    obtain⟨Y,k0,k1,rfl⟩:=X;refine⟨θ',w',Y,.inRegion ops (i::rest)::k,.head N ?_,g4,g5,k0,k1⟩;rw[Frame.raise_atR]at C;exact C
  .cases hr
 |invoke m =>
  obtain⟨c,x,s,K,rfl⟩:=B;have g:o.semAt b.roundOf a.eval=execOp a.eval o:=Oper.semAt_eq _ _ _ (λ c'=>by rw[s];simp);simp only[ia]at hr;split at hr
  .rename_i t v args;simp only[cP,j4,qm,qd,qe]at hr;obtain⟨f,hm,⟨e,u,H'⟩,hc,rfl⟩:=hr;obtain⟨cf,ca,z,L,W⟩:=R.eJ;simp only[ji,zk]at z;obtain⟨rfl,rfl⟩:=z;obtain⟨cv,S,Z⟩:=L.lG;rw[hAP]at hm;have hm':wK P t m=some f:=hm;refine VP E ho J M hu (args:=#[cv]++c.args.map a.eval) (by simpa using bL.cons Z W) (λ hfn=>VH ho hw ?_) hc (by cases e<;>exact hf);obtain⟨fn,body,h3,h4⟩:=hfn;rw[g];have hx:(#[Value.iface t cv]++c.args.map a.eval)[0]? = some (.iface t cv):=by
    rw[Array.getElem?_append];simp
   have hx2:(#[Value.iface t cv]++c.args.map a.eval).extract 1 (#[Value.iface t cv]++c.args.map a.eval).size=c.args.map a.eval:=by
    apply G0;rw[Array.toList_extract,Array.toList_append];simp[List.extract,zg]
   simp only[execOp,s,resolve,K,Sem.run_bind,Sem.run_pure,Result.andThen_ok,invoke,S,hx,hx2,callMethod,program,Sem.run,xg1 hm',Oe hP h3 h4]
  .cases hr
 |recover =>
  obtain⟨c,s,K,rfl⟩:=B;have g:o.semAt b.roundOf a.eval=execOp a.eval o:=Oper.semAt_eq _ _ _ (λ c'=>by rw[s];simp);simp only[ia]at hr;split at hr
  .cases hr
  .rename_i F;rw[F]at hb;have hb:b.roundOf=none:=hb;have G:(o.semAt b.roundOf a.eval).run P w=.ok .recover w:=by
    rw[g];obtain⟨cc,hE⟩:=Mi (ρ:=a.eval) s K;rw[hE];rfl
   split at hr
   .split at hr
    .rename_i v older O;injection hr with hr;subst hr
     rw[O]at hu;cases cs with
     |nil=>exact hu.elim
     |cons c0 cs0 =>
      obtain⟨hk,hm⟩:=hu;cases n:c0.mode with
      |run=>rw[n]at hm;exact hm.elim
      |returning=>rw[n]at hm;cases hm
      |panicking Y =>
       rw[n]at hm;obtain⟨_,hm⟩:=hm;cases Y with
       |nil=>exact hm.elim
       |cons p Y =>
        obtain⟨⟨m1,m2,m3⟩,m4⟩:=hm;obtain⟨pv,pr,pg⟩:=p;simp only at m1 m2 m3;subst m2;subst m3;refine⟨θ,w,pv,{c0 with mode:=.panicking ({v:=pv,recovered:=true}::Y)}::cs0,a.defers,.one ?_,by rw[d];exact J,.refl _ _ _ _,by rw[d];exact m1,by rw[d];exact M,by rw[O];rfl,?_,?_⟩
        .refine xfm ho hw hb G ?_;simp[tryRecover,Frame.atR,hk,n]
        .rw [d];exact⟨hk,by simp,⟨m1,rfl,rfl⟩,m4⟩
        .rw [O];exact⟨_,rfl⟩
    .rename_i O;injection hr with hr;subst hr
     refine⟨θ,w,.nilIface,cs,a.defers,.one (q1r ho hw hb G ?_),by rw[d];exact J,.refl _ _ _ _,λ _ _=>rfl,by rw[d];exact M,rfl,by rw[d];exact hu,eW.refl hu⟩;unfold tryRecover;cases Q:st.up with
     |none =>
      rw[Q]at hu;have hk:b.kind=.normal:=hu;simp[Frame.atR,hk]
     |some ch =>
      rw[Q]at hu;cases cs with
      |nil=>exact hu.elim
      |cons c0 cs0 =>
       obtain⟨hk,hm⟩:=hu;cases n:c0.mode with
       |run=>rw[n]at hm;exact hm.elim
       |returning=>simp[Frame.atR,hk,n]
       |panicking Y =>
        rw[n]at hm;obtain⟨_,hm⟩:=hm;cases Y with
        |nil=>simp[Frame.atR,hk,n]
        |cons p Y =>
         cases ch with
         |nil=>exact hm.elim
         |cons e es =>
          obtain⟨⟨m1,m2,m3⟩,m4⟩:=hm;obtain⟨pv,pr,pg⟩:=p;obtain⟨ev,er⟩:=e;simp only at m2 m3;subst m2;subst m3;cases pr with
          |false=>exact absurd Q (O _ _)
          |true=>simp[Frame.atR,hk,n]
   .cases hr
 |defer =>
  obtain⟨c,x,s,K,rfl⟩:=B;simp only[ia]at hr;split at hr
  .cases hr
  .rename_i F;rw[F]at hb;have hb:b.roundOf=none:=hb;split at hr
   .rename_i f first cap args
    injection hr with hr;subst hr
    obtain⟨cf,ca,z,L,W⟩:=R.eJ;simp only[ji,zk]at z;obtain⟨rfl,rfl⟩:=z;obtain⟨fi,ci,S,Z,q5,q6⟩:=QT L;refine⟨θ,w,undef,cs,{target:=.fn (.func f) ci.toArray,args:=fi.toArray++c.args.map a.eval}::a.defers,.one ?_,by rw[d];exact J,.refl _ _ _ _,.undef,?_,rfl,by rw[d];exact hu,eW.refl hu⟩
    .refine zM ho hw ?_;rw[hb,Oper.semAt_none];simp[execOp,s,resolve,K,S,fD,Deferred.ofValue]
    .rw [d];exact⟨⟨_,_,rfl,λ _ _=>rfl,by simpa using Z.app (W.app q5)⟩,M⟩
   .cases hr
 |panic =>
  simp only[ia]at hr;split at hr
  .rename_i t v;injection hr with hr;subst hr
   obtain⟨x,rfl,L⟩:=R.pn;obtain⟨cv,S,Z⟩:=L.lG;have G:(o.semAt b.roundOf a.eval).run P w=.halt (.panic (a.eval x)) w:=by
    rcases B with⟨y,s,hy⟩|⟨c,s,K,hy⟩
    .simp only[zk,rk]at hy;subst hy;rw[Oper.semAt_eq _ _ _ (λ c'=>by rw[s];simp)];simp[execOp,s,S,Instr.panic,goPanic]
    .rw [Oper.semAt_eq _ _ _ (λ c'=>by rw[s];simp)];obtain⟨cc,hE⟩:=Mi (ρ:=a.eval) s K;rw[hE,Ao hy.symm];simp[builtin,S,Instr.panic,goPanic]
   refine⟨θ,w,[{v:=a.eval x,recovered:=false}],.inRegion ops (i::rest)::k,.one (zV ho hw G),by rw[d];exact J,.refl _ _ _ _,by simp,?_⟩;rw[d];exact⟨⟨L,rfl,rfl⟩,trivial⟩
  .cases hr
end
end Go.Am
namespace Go.Am
def df(s:aN)(tm:T AV):Option Bool :=
 match s.guard with
 |none=>some true
 |some g=>cN g.2 (tm.get g.1)
def Xi(s:aN)(hc:s.gW=false)(rt:RT)(K:St->gC)(st:St) :
 (gF s).run rt K st=(df s st.tm).bind λ w=>cond w ((lK st.tm s.args).bind λ vs=>(ia rt st vs s.op).bind (tD (ey s.dst) s.ct st K)) (K ⟨ey s.dst .undef st.tm,st.aX,st.up,st.H⟩):=by
 have c:(kZ s.dst).run=ey s.dst:=by funext v tm;exact TK _ _ _
 unfold gF df;rw[hc];cases hg:s.guard with
 |none=>simp only[qm,xm,Gc,xj0,c]
 |some g=>simp only[Gc,xj0,c,T.jL,T.get]
def Zw(s:aN)(hc:s.gW=true){d:Nat}(e:s.dst=some d)(rt:RT)(K:St->gC)(st:St) :
 (gF s).run rt K st=(df s st.tm).bind λ w=>cond w ((lK st.tm s.args).bind λ vs=>cond (pP (λ t=>t.get d) st vs s.op) (K st) none) (K st):=by
 have c:(T.nO (α:=AV) (T.path d)).run=λ t=>t.get d:=by funext t;exact T.jL _ _
 unfold gF df;rw[hc,e];cases hg:s.guard with
 |none=>simp only[qm,xm,Gc,c]
 |some g =>
  simp only[Gc,c];rw[show(T.nO (T.path g.1)).run st.tm=st.tm.get g.1 from T.jL _ _]
def qrt(s:aN)(hc:s.gW=true)(c:s.dst=none)(rt:RT)(K:St->gC)(st:St):(gF s).run rt K st=none:=by
 unfold gF;rw[hc,c];cases s.guard<;>rfl
def pE(call:bU):Prop:=∀f vs up H e up' H',call f vs up H=some (e,up',H')->Ext H H'
def xR(round:iD):Prop:=∀vs l H e H',round vs l H=some (e,H')->Ext H H'
def sO:ai->Prop
 | .region steps=>∀s∈steps,dt s.op
 | .seq a b=>sO a/\sO b
 | .cond _ a b=>sO a/\sO b
 | .block _ b=>sO b
 | .loop _ b=>sO b
 | .scope b=>sO b
 |_=>True
def Bf(fn:cj):Prop:=sO fn.body /\ ∀lp∈fn.loops,sO lp.assign/\sO lp.body
def Qx(AP:jH):Prop:=∀f fn,AP.func f=some fn->Bf fn
section
variable{rt:RT}(hc:pE rt.call)(hr:xR rt.round)
include hc hr
def UO{op:ft}(ho:dt op){st:St}{vs:List AV}{r:gZ}(h:ia rt st vs op=some r):Ext st.H r.heap:=by
 have c:∀(q:bE×ar),Ext st.H q.2->Ext st.H (mN st.aX st.up q).heap:=by
  intro q g;obtain⟨e,H'⟩:=q;cases e<;>exact g
 cases op with
 |pure f=>simp only[ia,qd,qe]at h;obtain⟨_,_,rfl⟩:=h;exact Ext.refl _
 |read f=>simp only[ia,qd,qe]at h;obtain⟨_,_,rfl⟩:=h;exact Ext.refl _
 |alloc f=>simp only[ia,qd,qe]at h;obtain⟨⟨j,mk⟩,d,rfl⟩:=h;exact Ext.alloc _ _ (ho _ _ _ d)
 |gJ f=>simp only[ia,qd,qe]at h;obtain⟨⟨v,H'⟩,d,rfl⟩:=h;exact ho _ _ _ _ d
 |gY f =>
  simp only[ia,cP,j4,qm,qd,qe]at h;obtain⟨⟨e,u,H'⟩,d,rfl⟩:=h;exact c _ (hc _ _ _ _ _ _ _ d)
 |gS =>
  simp only[ia]at h;split at h
  .simp only[cP,j4,qm,qd,qe]at h;obtain⟨⟨e,u,H'⟩,d,rfl⟩:=h;exact c _ (hc _ _ _ _ _ _ _ d)
  .simp only[cP,qd,qe]at h;obtain⟨⟨e,H'⟩,d,rfl⟩:=h;exact c _ (hr _ _ _ _ _ d)
  .cases h
 |invoke m =>
  simp only[ia]at h;split at h
  .simp only[cP,j4,qm,qd,qe]at h;obtain⟨_,_,⟨e,u,H'⟩,d,rfl⟩:=h;exact c _ (hc _ _ _ _ _ _ _ d)
  .cases h
 |recover =>
  simp only[ia]at h;split at h
  .cases h
  .split at h
   .split at h<;>(injection h with h;subst h;exact Ext.refl _)
   .cases h
 |defer =>
  simp only[ia]at h;split at h
  .cases h
  .split at h
   .injection h with h;subst h;exact Ext.refl _
   .cases h
 |panic =>
  simp only[ia]at h;split at h
  .injection h with h;subst h;exact Ext.refl _
  .cases h
def Yd{op:ft}(ho:dt op){st:St}{vs:List AV}{r:gZ}(h:ia rt st vs op=some r):st.H.au<=r.heap.au:=(UO hc hr ho h).1
def xkn{s:aN}(ho:dt s.op){K:St->gC}(f:∀st r,K st=some r->Ext st.H r.2.H){st:St}{r:aU×St}(h:(gF s).run rt K st=some r):Ext st.H r.2.H:=by
 cases e:s.gW with
 |false =>
  rw[Xi s e,qd]at h;obtain⟨w,hw,h⟩:=h;cases w with
  |false =>
   simp only[zj]at h;have l:=f _ _ h;exact l
  |true =>
   simp only[xm,qd]at h;obtain⟨vs,_,q,m,h⟩:=h;have g:=UO hc hr ho m;cases q with
   |val v d u H'=>exact Ext.trans g (f _ _ h)
   |panic c H' =>
    simp only[tD,qd,qe]at h;obtain⟨_,_,rfl⟩:=h;exact g
 |true =>
  cases j:s.dst with
  |none=>rw[qrt s e j]at h;cases h
  |some d =>
   rw[Zw s e j,qd]at h;obtain⟨w,hw,h⟩:=h;cases w with
   |false =>
    simp only[zj]at h;exact f _ _ h
   |true =>
    simp only[xm,qd]at h;obtain⟨vs,_,h⟩:=h;rcases ki h with⟨_,h⟩|⟨_,h⟩
    .exact f _ _ h
    .cases h
def WQ:∀{l:List aN},(∀s∈l,dt s.op) -> ∀{st:St}{r:aU×St},(gQ l).run rt st=some r->Ext st.H r.2.H
 |[],_,st,r,h=>by injection h with h;subst h;exact Ext.refl _
 |s::l,ho,st,r,h=>xkn hc hr (ho s (by simp)) (λ st r h=>WQ (λ s hs=>ho s (by simp[hs])) h) h
def xdm{l:List aN}(hl:∀s∈l,dt s.op){st:St}{r:aU×St}(h:(gQ l).run rt st=some r):st.H.au<=r.2.H.au:=(WQ hc hr hl h).1
omit hc hr in
def U2{body:St->gC}(hb:∀st r,body st=some r->Ext st.H r.2.H)(ah:Option (List Nat)):∀(n:Nat)(st:St)(r:aU×St),gE ah body n st=some r->Ext st.H r.2.H
 |0,st,r,h=>by cases h
 |n+1,st,r,h=>by
  simp only[gE,qd]at h;obtain⟨q,d,h⟩:=h;have c:=hb _ _ d;have c:Ext st.H q.2.H:=by cases ah<;>exact c
  split at h
  .exact Ext.trans c (U2 hb ah n _ _ h)
  .injection h with h;subst h;exact c
omit hc hr in
def xgg{body:St->gC}(hb:∀st r,body st=some r->Ext st.H r.2.H)(ah:Option (List Nat))(n:Nat)(st:St)(r:aU×St)(h:gE ah body n st=some r):st.H.au<=r.2.H.au:=(U2 hb ah n st r h).1
omit hr in
def U8{st:St}{k:Nat}{H0:ar}{aX:List aM}{d:Nat}{v:AV}{r:aU×St}(f:Ext st.H H0)(h:iT rt.call rt.round rt.ctx st k H0 aX d v=some r):Ext st.H r.2.H:=by
 unfold iT at h;split at h
 .simp only[cP,j4,qm,qd]at h;obtain⟨⟨e,u,H'⟩,g,h⟩:=h;have c:=(f.trans (Ext.alloc _ _ rfl)).trans (hc _ _ _ _ _ _ _ g);unfold LV at h;split at h
  .injection h with h;subst h;exact c
  .split at h
   .cases h
   .rename_i hg;injection h with h;subst h;exact c.trans (Ext.set hg _ (λ _=>rfl))
   .cases h
 .cases h
omit hr in
def xc3{st:St}{k:Nat}{H0:ar}{aX:List aM}{d:Nat}{v:AV}{r:aU×St}(c:Ext st.H H0)(h:iT rt.call rt.round rt.ctx st k H0 aX d v=some r):st.H.au<=r.2.H.au:=(U8 hc c h).1
def yX:∀{c:ai},sO c -> ∀{st:St}{r:aU×St},(bG c).run rt st=some r->Ext st.H r.2.H
 | .skip,_,st,r,h=>by injection h with h;subst h;exact Ext.refl _
 | .label _,_,st,r,h=>by injection h with h;subst h;exact Ext.refl _
 | .region steps,hm,st,r,h=>WQ hc hr hm h
 | .seq a b,hm,st,r,h=>by
  simp only[bG,qd]at h;obtain⟨q,g,h⟩:=h;have e:=yX hm.1 g;unfold ta at h;split at h
  .exact Ext.trans e (yX hm.2 h)
  .injection h with h;subst h;exact e
 | .cond c a b,hm,st,r,h=>by
  simp only[bG,qd]at h;obtain⟨v,j,h⟩:=h;unfold tG at h;split at h
  .rcases ki h with⟨_,h⟩|⟨_,h⟩
   .exact yX hm.1 h
   .exact yX hm.2 h
  .cases h
 | .block id b,hm,st,r,h=>by
  simp only[bG,qd]at h;obtain⟨q,g,h⟩:=h;have e:=yX (c:=b) hm g;unfold jP at h;split at h<;>(injection h with h;subst h;exact e)
 | .loop ah b,hm,st,r,h=>U2 (λ st r h=>yX (c:=b) hm h) ah _ _ _ h
 | .exit _,_,st,r,h=>by injection h with h;subst h;exact Ext.refl _
 | .goto _,_,st,r,h=>by injection h with h;subst h;exact Ext.refl _
 | .ret,_,st,r,h=>by injection h with h;subst h;exact Ext.refl _
 | .stuck,_,st,r,h=>by cases h
 | .scope b,hm,st,r,h=>by
  simp only[bG,qd]at h;obtain⟨q,g,h⟩:=h;have e:=yX (c:=b) hm g;unfold kU at h;split at h
  .rcases ki h with⟨_,h⟩|⟨_,h⟩
   .cases h
   .injection h with h;subst h;exact e
  .injection h with h;subst h;exact e
 | .rangeFunc f k,_,st,r,h=>by
  simp only[bG,qd]at h;obtain⟨v,j,h⟩:=h;unfold qP at h;split at h
  .exact U8 hc (Ext.alloc _ _ rfl) h
  .simp only[qd]at h;obtain⟨d,_,h⟩:=h;exact U8 hc (Ext.refl _) h
def Mw{c:ai}(hm:sO c){st:St}{r:aU×St}(h:(bG c).run rt st=some r):st.H.au<=r.2.H.au:=(yX hc hr hm h).1
end
def R6{call:bU}(hc:pE call){rs:List dX}{tm:T AV}:∀{ds:List aM}{m:Option aE}{H:ar}{r:bE×ar},bW call rs tm ds m H=some r->Ext H r.2
 |[],none,H,r,h=>by
  simp only[bW,qd,qe]at h;obtain⟨_,_,rfl⟩:=h;exact Ext.refl _
 |[],some c,H,r,h=>by injection h with h;subst h;exact Ext.refl _
 | .iU b::ds,m,H,r,h=>by
  simp only[bW]at h;split at h
  .rename_i hg;exact(Ext.set hg _ (λ _=>rfl)).trans (R6 (H:=H.set b _) hc h)
  .cases h
 | .fn (.func f) args::ds,m,H,r,h=>by
  simp only[bW,qd]at h;obtain⟨⟨e,u,H'⟩,d,h⟩:=h;have g:=hc _ _ _ _ _ _ _ d;split at h
  .simp only[qd]at h;obtain⟨j,_,h⟩:=h;exact Ext.trans g (R6 hc h)
  .cases h
 | .fn (.yield _) _::_,_,_,_,h=>by simp[bW]at h
def qxo{call:bU}(hc:pE call){rs:List dX}{tm:T AV}{ds:List aM}{m:Option aE}{H:ar}{r:bE×ar}(h:bW call rs tm ds m H=some r):H.au<=r.2.au:=(R6 hc h).1
def xdi{H H':ar}{l:Nat}{s:mC}{p:Option gU}(h:cM H l s p=some H'):Ext H H':=by
 unfold cM at h;split at h
 .rename_i hg;injection h with h;subst h;exact Ext.set hg _ (λ _=>rfl)
 .cases h
def q4p{H H':ar}{l:Nat}(h:beginRound H l=some H'):Ext H H':=by
 unfold beginRound at h;split at h
 .rename_i hg;injection h with h;subst h;exact Ext.set hg _ (λ _=>rfl)
 .cases h
def xa9{H H':ar}{l:Nat}{s:mC}{p:Option gU}(h:cM H l s p=some H'):H'.au=H.au:=by
 unfold cM at h;split at h
 .injection h with h;subst h;rfl
 .cases h
def q1u{H H':ar}{l:Nat}(h:beginRound H l=some H'):H'.au=H.au:=by
 unfold beginRound at h;split at h
 .injection h with h;subst h;rfl
 .cases h
def RZ{AP:jH}(hp:Qx AP){call:bU}(hc:pE call)(m:Nat):∀n,xR (rounds AP call m n)
 |0=>λ vs l H e H' h=>by cases h
 |n+1=>λ vs l H e H' h=>by
  have u:=RZ hp hc m n;simp only[rounds,roundOf]at h;split at h
  .rename_i st C f k tm d hg;simp only[qd]at h;obtain⟨fn,r,lp,g,A,_,q,y,h⟩:=h;have c:sO lp.assign/\sO lp.body:=(hp f fn r).2 lp (by rw[lR]at g;exact x9 g);have j:=yX (rt:=⟨AP,call,rounds AP call m n,m,⟨some l,f⟩⟩) hc u c.1 y;have j:Ext H q.2.H:=j;split at h
   .simp only[qd]at h;obtain⟨v,hb,z,s,h⟩:=h;have p:=yX (rt:=⟨AP,call,rounds AP call m n,m,⟨some l,f⟩⟩) hc u c.2 s;have p:Ext v z.2.H:=p;have t:=(j.trans (q4p hb)).trans p;rcases ki h with⟨_,h⟩|⟨_,h⟩
    .unfold Gw at h;split at h
     .injection h with h;injection h with _ h;subst h
      exact t
     .simp only[qd,qe,xv]at h;obtain⟨B,x,_,rfl⟩:=h;exact t.trans (xdi x)
    .cases h
   .cases h
  .cases h
def q8u{AP:jH}(hp:Qx AP){call:bU}(j:pE call)(n:Nat):pE (EJ AP call n) :=
 λ f vs up H e l H' h=>by
  simp only[EJ,qd]at h;obtain⟨fn,g,q,p,h⟩:=h;have d:=yX (rt:=⟨AP,call,rounds AP call n n,n,⟨none,f⟩⟩) j (RZ hp j n n) (hp f fn g).1 p;have d:Ext H q.2.H:=d;have c:∀m,((bW call fn.results q.2.tm q.2.aX m q.2.H).bind λ z=>some (z.1,q.2.up,z.2))=some (e,l,H')->Ext H H':=by
   intro m h;simp only[qd,qe,xv]at h;obtain⟨z,r,_,_,rfl⟩:=h;exact Ext.trans d (R6 j r)
  unfold pJ at h;split at h
  .exact c _ h
  .exact c _ h
  .exact c _ h
  .cases h
def q1n{AP:jH}(hp:Qx AP){told:bU}(c:pE told):∀n,pE (jS AP told n)
 |0=>c
 |n+1=>λ f vs up H e d H' h=>by
  simp only[jS]at h;split at h
  .rename_i r hr;injection h with h;subst h
   exact c _ _ _ _ _ _ _ hr
  .exact q8u hp (q1n hp c n) n _ _ _ _ _ _ _ h
end Go.Am
namespace Go.Am
abbrev oa:Machine->Prop:=λ _=>True
structure SR(P:Program)(base:Nat)(D:Nat->Prop)(θ:Th)(b:Frame)(nt:Nat)(rd:Option Nat)(st:St)(a:Act)(cs:List Frame)(w:World):Prop where
 heap:HR P base D θ st.H w
 tl:pz D θ st.tm a.tmps
 size:nt<=a.tmps.size
 aX:gR D θ st.aX a.defers
 up:qT D θ b.kind st.up cs
 round:xS D θ b.roundOf rd
def Out(P:Program)(base:Nat)(D:Nat->Prop)(θ:Th)(b:Frame)(nt:Nat)(rd:Option Nat)(k:List Item)(st:St)(cs:List Frame)(w:World)(m:Machine)(e:aU)(st':St):Prop :=
 ∃θ' a' w' cs' e',ArrivesIn oa P m b k cs' e' a' w'/\SR P base (Up D st.H.au st'.H.au) θ' b nt rd st' a' cs' w'/\bB D st.H θ w st'.H θ' w'/\BN (Up D st.H.au st'.H.au) θ' e e' /\
  st'.up.isSome=st.up.isSome/\eW st.up cs cs'
section
variable{P:Program}{base:Nat}{D:Nat->Prop}{θ:Th}
def Out.after{b:Frame}{l:Nat}{rd:Option Nat}{k:List Item}{st cS c:St}{cs d:List Frame}{w n:World}{m j:Machine}{e:aU}{θ1:Th}(hs:Steps P m j)
 (hg:bB D st.H θ w cS.H θ1 n) (hu:cS.up.isSome=st.up.isSome) (u:eW st.up cs d) (hn:cS.H.au<=c.H.au)
 (h:Out P base (Up D st.H.au cS.H.au) θ1 b l rd k cS d n j e c):Out P base D θ b l rd k st cs w m e c:=by
 obtain⟨θ',p,w',cs',e',q,f,r,g,s,t⟩:=h;rw[Up.up hg.au hn]at f g;exact⟨θ',p,w',cs',e',.of_steps (StepsIn.of_steps hs) q,f,hg.trans r Up.of,g,s.trans hu,eW.trans hu u t⟩
def xH{α:Type}:∀{l:List (Option α)}{r:List α},dg l=some r->r.length=l.length /\ ∀(i:Nat)(x:α),r[i]? = some x->l[i]? = some (some x)
 |[],r,h=>by injection h with h;subst h;exact⟨rfl,λ i x c=>by simp at c⟩
 |y::l,r,h=>by
  simp only[dg,qd,qe]at h;obtain⟨a,rfl,f,hl,rfl⟩:=h;obtain⟨d,e⟩:=xH hl;refine⟨by simp[d],λ i x c=>?_⟩;cases i with
  |zero=>simpa using c
  |succ i=>simpa using e i x (by simpa using c)
def Mv{ops:Array Oper}{l:List (List bI×ft)}{safe:Nat->Option (List Nat)}{q:Bool×Nat}{s:aN}(h:iX ops l safe q=some s) :
 ∃o a g,ops[q.2]? = some o/\l[q.2]? = some a/\guardOf ops o.guard=some g/\s = {gW:=q.1,dst:=o.dst,guard:=g,args:=a.1,op:=a.2,ct:=safe q.2}:=by
 simp only[iX,qd,qe]at h;obtain⟨o,ho,a,ha,g,hg,rfl⟩:=h;exact⟨o,a,g,ho,ha,hg,rfl⟩
def UD{ops:Array Oper}{o:Oper}{s:aN}(hg:guardOf ops o.guard=some s.guard){tm:T AV}{a:Array Value}(m:pz D θ tm a){q:Bool}(h:df s tm=some q) :
 Region.wanted o (yielded ops a)=q:=by
 unfold df at h;unfold Region.wanted;cases ho:o.guard with
 |none =>
  rw[ho]at hg;injection hg with hg
  rw[<-hg]at h;injection h
 |some g =>
  obtain⟨j,want⟩:=g;rw[ho]at hg;simp only[guardOf,qd,qe]at hg;obtain⟨t,⟨r,f,l⟩,hg⟩:=hg;rw[<-hg]at h;simp only at h;have n:((ops[j]?).bind (·.dst)).bind (a[·]?)=a[t]?:=by rw[f];simp[l]
  simp only[yielded,n];unfold cN at h;split at h
  .rename_i p hp;obtain⟨c,d,e⟩:=m t _ hp;injection h with h
   rw[d,<-e.now];simp only[az];cases p<;>cases want<;>cases q<;>simp_all
  .rename_i hp;obtain⟨c,d,e⟩:=m t _ hp;injection h with h
   rw[d,<-e.now];simp only[az];subst h;rfl
  .cases h
def HQ{e:Nat}{tm:T AV}{a:Act}{dst:Option Nat}(g:∀d,dst=some d->d<e)(hs:e<=a.tmps.size)(f:pz D θ tm a.tmps){v:AV}{c:Value}(h:VR D θ v c) :
 pz D θ (ey dst v tm) (a.put dst c).tmps/\e<=(a.put dst c).tmps.size/\(a.put dst c).defers=a.defers:=by
 cases dst with
 |none=>exact⟨f,hs,rfl⟩
 |some d =>
  refine⟨f.put (qj (g d rfl) hs) h,?_,rfl⟩
  simpa[Act.put]using hs
def xg9(hP:dL P){rt:RT}(x:wx P base rt.call)(n:uz P base rt.round)(O:rt.AP=aV P)(R:pE rt.call)(V:xR rt.round)
 {ops:Array Oper} {o:Oper} {i:Nat} {rest:List Nat} {s:aN} {ca:List bI×ft} (ho:ops[i]? = some o) (Q:fT P o=some ca) (hg:guardOf ops o.guard=some s.guard) (h1:s.gW=false) (h2:s.dst=o.dst) (h3:s.args=ca.1) (h4:s.op=ca.2)
 {b:Frame} {y:Nat} (g:pj y o=true) {k:List Item} {st:St} {a:Act} {cs:List Frame} {w:World} (e:SR P base D θ b y rt.ctx.round st a cs w) {K:St->gC} {r:aU×St}
 (A:∀st r,K st=some r->st.H.au<=r.2.H.au) (h:(gF s).run rt K st=some r) (S:dV D st.H.au r.2.H.au)
 (j:∀I θ1 cS a1 t w1,SR P base I θ1 b y rt.ctx.round cS a1 t w1->K cS=some r->dV I cS.H.au r.2.H.au->Out P base I θ1 b y rt.ctx.round k cS t w1 (lone (b.atR a1 (.inRegion ops rest::k)) t w1) r.1 r.2) :
 Out P base D θ b y rt.ctx.round k st cs w (lone (b.atR a (.inRegion ops (i::rest)::k)) cs w) r.1 r.2:=by
 have B:∀d,o.dst=some d->d<y:=by
  intro d hd;unfold pj at g;rw[hd]at g
  simpa[sX]using g
 rw[Xi s h1,qd]at h;obtain⟨q,hq,h⟩:=h;have m:=UD hg e.tl hq;cases q with
 |false =>
  simp only[zj]at h;obtain⟨X,Y,Z⟩:=HQ (dst:=o.dst) B e.size e.tl (VR.undef (D:=D) (θ:=θ));rw[h2]at h;have hn:=A _ _ h;have F:=stepR_op_skip (P:=P) (b:=b) (a:=a) (k:=k) (cs:=cs) (w:=w) (ops:=ops) (i:=i) (rest:=rest) (by simp[ho,m]);rw[ho]at F;refine Out.after (.one F) (bB.refl D st.H θ w) rfl (eW.refl e.up) hn ?_;rw[Up.none];exact j D θ ⟨ey o.dst .undef st.tm,st.aX,st.up,st.H⟩ _ cs w ⟨e.heap,X,Y,by rw[show(a.put ((some o).bind (·.dst)) undef).defers=a.defers from Z];exact e.aX,e.up,e.round⟩ h S
 |true =>
  simp only[xm,qd]at h;obtain⟨vs,G,res,l,h⟩:=h;obtain⟨xs,W,E,C⟩:=ML hP Q;rw[h3]at G;rw[h4]at l;have hv:=Hk (a:=a) e.heap e.tl W G;have U:=Yd R V E.mono l;have hle:res.heap.au<=r.2.H.au:=by
   cases res with
   |val v d u H'=>exact A _ _ h
   |panic c H' =>
    simp only[tD,qd,qe]at h;obtain⟨_,_,rfl⟩:=h;exact qg _
  have p:=WK hP x n O E C (rest:=rest) (k:=k) ho m e.heap e.aX e.up e.round hv l (S.left hle);cases res with
  |val v d u H' =>
   obtain⟨θ',w',c,cs',ds,J,L,z,M,N,g6,g7,g8⟩:=p;simp only[tD,h2]at h;have f:=z.ag;obtain⟨X,Y,Z⟩:=HQ (a:={a with defers:=ds}) (dst:=o.dst) B e.size (e.tl.up f Up.of) M;refine Out.after (cS:=⟨ey o.dst v st.tm,d,u,H'⟩) J z g6 g8 hle ?_;exact j _ θ' _ _ cs' w' ⟨L,X,Y,by rw[Z];exact N,g7,xS.up f Up.of e.round⟩ h (S.right U)
  |panic c H' =>
   obtain⟨θ',w',ps,todo,J,L,z,M,N⟩:=p;simp only[tD,qd,qe]at h;obtain⟨ds,hds,rfl⟩:=h;have f:=z.ag;refine⟨θ',a,w',cs,.panic ps,⟨todo,StepsIn.of_steps J⟩,⟨L,pz.forget ds (e.tl.up f Up.of),e.size,gR.up f Up.of e.aX,qT.up f Up.of e.up,xS.up f Up.of e.round⟩,z,⟨M,N⟩,rfl,eW.refl e.up⟩
def Un(e:dL P){ops:Array Oper}{l:List (List bI×ft)}(hl:dg (ops.toList.map (fT P))=some l){safe:Nat->Option (List Nat)}{qs:List (Bool×Nat)}{steps:List aN}
 (h:dg (qs.map (iX ops l safe))=some steps):∀s∈steps,dt s.op:=by
 intro s hs;obtain⟨i,f⟩:=Ks hs;have:=(xH h).2 i s f;rw[xj,xl]at this;obtain⟨q,_,j⟩:=this;obtain⟨o,a,g,ho,ha,_,rfl⟩:=Mv j;have:=(xH hl).2 _ a ha;rw[xj,xl]at this;obtain⟨o',_,c⟩:=this;obtain⟨xs,_,d,_⟩:=ML e c;exact d.mono
def Yv(u:dL P){rt:RT}(d:wx P base rt.call)(c:uz P base rt.round)(n:rt.AP=aV P)(f:pE rt.call)(m:xR rt.round)
 {ops:Array Oper} {t:Nat} (e:ops.toList.all (pj t)=true) {l:List (List bI×ft)} (hl:dg (ops.toList.map (fT P))=some l) {b:Frame} {k:List Item} {safe:Nat->Option (List Nat)} :
 ∀(todo:List Nat){steps:List aN},dg (todo.map λ i=>iX ops l safe (false,i))=some steps -> ∀{D:Nat->Prop}{θ:Th}{st:St}{a:Act}{cs:List Frame}{w:World}{r:aU×St},
  SR P base D θ b t rt.ctx.round st a cs w->(gQ steps).run rt st=some r->dV D st.H.au r.2.H.au->Out P base D θ b t rt.ctx.round k st cs w (lone (b.atR a (.inRegion ops todo::k)) cs w) r.1 r.2
 |[],steps,hs,D,θ,st,a,cs,w,r,hS,h,hf=>by
  injection hs with hs;subst hs
  injection h with h;subst h
  refine⟨θ,a,w,cs,.normal,StepsIn.one trivial stepR_region_end,by rw[Up.none];exact hS,bB.refl _ _ _ _,trivial,rfl,eW.refl hS.up⟩
 |i::todo,steps,hs,D,θ,st,a,cs,w,r,hS,h,hf=>by
  simp only[ji,dg,qd,qe]at hs;obtain⟨s,A,rest,q,rfl⟩:=hs;obtain⟨o,ca,g,ho,z,hg,rfl⟩:=Mv A;have x:fT P o=some ca:=by
   have:=(xH hl).2 _ ca z;rw[xj,j8,ho]at this
   simpa using this
  have p:pj t o=true:=by
   rw[wq]at e;exact e o (by have:=Array.mem_of_getElem? ho;simpa using this)
  have j:∀s∈rest,dt s.op:=by
   have E:dg ((todo.map λ i=>(false,i)).map (iX ops l safe))=some rest:=by rw[we];exact q
   exact Un u hl E
  exact xg9 u d c n f m (K:=(gQ rest).run rt) ho x hg rfl rfl rfl rfl p hS (λ st r h=>xdm f m j h) h hf
   (λ F θ1 cS G B I v C y=>Yv u d c n f m e hl todo q v C y)
end
end Go.Am
namespace Go.Am
def Mc(P:Program)(base:Nat)(rt:RT):Prop :=
 ∀(nt id:Nat)(ops:Array Oper)(c:ai),iF P nt ops true=some c -> ∀(D:Nat->Prop)θ(b:Frame)k st a cs w r,SR P base D θ b nt rt.ctx.round st a cs w->(bG c).run rt st=some r ->
  dV D st.H.au r.2.H.au->Out P base D θ b nt rt.ctx.round k st cs w (lone (b.atR a (.code (.region id ops true)::k)) cs w) r.1 r.2
section
variable{P:Program}{base:Nat}
def xgw{d:Nat}{ops:Array Oper}{c:ai}(h:iF P d ops false=some c):∃l steps,ops.toList.all (pj d)=true/\dg (ops.toList.map (fT P))=some l /\
 dg ((List.range ops.size).map λ i=>iX ops l (λ _=>some []) (false,i))=some steps/\c=.region steps:=by
 unfold iF at h;split at h
 .rename_i e;simp only[qd]at h;obtain⟨l,hl,h⟩:=h;simp only[zx,wz,qd,qe]at h;obtain⟨steps,hs,rfl⟩:=h;exact⟨l,steps,e,hl,hs,rfl⟩
 .cases h
def xdd(d:dL P){e:Nat}{ops:Array Oper}{draw:Bool}{c:ai}(h:iF P e ops draw=some c):sO c:=by
 unfold iF at h;split at h
 .simp only[qd]at h;obtain⟨l,hl,h⟩:=h;split at h
  .rcases ki h with⟨_,h⟩|⟨_,h⟩
   .simp only[qd,qe]at h;obtain⟨steps,hs,rfl⟩:=h;exact Un d hl hs
   .injection h with h;subst h;trivial
  .simp only[qd,qe]at h;obtain⟨steps,hs,rfl⟩:=h;exact Un (safe:=λ _=>some []) (qs:=(List.range ops.size).map λ i=>(false,i)) d hl (by rw[we];exact hs)
 .cases h
def tT(m:dL P){u:Nat}:∀(c:Code){kk:Nat}{ac:ai}{L:List dZ},b9 P u kk c=some (ac,L)->sO ac /\ ∀lp∈L,sO lp.assign/\sO lp.body
 | .skip,kk,ac,L,h=>by injection h with h;injection h with d e;subst d;subst e;exact⟨trivial,by simp⟩
 | .region _ ops draw,kk,ac,L,h=>by
  simp only[b9,qd,qe,xv]at h;obtain⟨c,hc,rfl,rfl⟩:=h;exact⟨xdd m hc,by simp⟩
 | .seq a b,kk,ac,L,h=>by
  simp only[b9,qd,qe,xv]at h;obtain⟨⟨x,r⟩,l,⟨y,s⟩,q,rfl,rfl⟩:=h;obtain⟨n,p⟩:=tT m a l;obtain⟨g,j⟩:=tT m b q;exact⟨⟨n,g⟩,λ lp hl=>by rcases zt.1 hl with hl|hl;exact p lp hl;exact j lp hl⟩
 | .cond c a b,kk,ac,L,h=>by
  simp only[b9,qd,qe,xv]at h;obtain⟨t,_,⟨x,r⟩,l,⟨y,s⟩,q,rfl,rfl⟩:=h;obtain⟨n,p⟩:=tT m a l;obtain⟨g,j⟩:=tT m b q;exact⟨⟨n,g⟩,λ lp hl=>by rcases zt.1 hl with hl|hl;exact p lp hl;exact j lp hl⟩
 | .block id b,kk,ac,L,h=>by
  simp only[b9,qd,qe,xv]at h;obtain⟨⟨x,r⟩,l,rfl,rfl⟩:=h;obtain⟨g,j⟩:=tT m b l;exact⟨g,j⟩
 | .loop b,kk,ac,L,h=>by
  simp only[b9,qd,qe,xv]at h;obtain⟨⟨x,r⟩,l,rfl,rfl⟩:=h;obtain⟨g,j⟩:=tT m b l;exact⟨g,j⟩
 | .rangeFunc f ps a b,kk,ac,L,h=>by
  simp only[b9,qd]at h;obtain⟨t,_,⟨x,r⟩,l,⟨y,s⟩,q,h⟩:=h;split at h
  .injection h with h;injection h with d e;subst d;subst e
   obtain⟨n,p⟩:=tT m a l;obtain⟨g,j⟩:=tT m b q;refine⟨trivial,λ lp hl=>?_⟩;rcases jf.1 hl with rfl|hl
   .exact ⟨n,g⟩
   .rcases zt.1 hl with hl|hl
    .exact p lp hl
    .exact j lp hl
  .cases h
 | .exit _,kk,ac,L,h=>by injection h with h;injection h with d e;subst d;subst e;exact⟨trivial,by simp⟩
 | .scope b,kk,ac,L,h=>by
  simp only[b9,qd,qe,xv]at h;obtain⟨⟨x,r⟩,l,rfl,rfl⟩:=h;obtain⟨g,j⟩:=tT m b l;exact⟨g,j⟩
 | .label _,kk,ac,L,h=>by injection h with h;injection h with d e;subst d;subst e;exact⟨trivial,by simp⟩
 | .goto _,kk,ac,L,h=>by injection h with h;injection h with d e;subst d;subst e;exact⟨trivial,by simp⟩
 | .ret,kk,ac,L,h=>by injection h with h;injection h with d e;subst d;subst e;exact⟨trivial,by simp⟩
 | .refuse _,kk,ac,L,h=>by injection h with h;injection h with d e;subst d;subst e;exact⟨trivial,by simp⟩
def Wh(d:dL P):Qx (aV P):=by
 intro f e h;simp only[aV,qd]at h;obtain⟨fn,_,h⟩:=h;simp only[th,qd,qe]at h;obtain⟨b,_,⟨c,L⟩,hc,_,_,rfl⟩:=h;exact tT d b hc
def TF{r:Nat}:∀(c:Code){kk:Nat}{ac:ai}{L:List dZ},b9 P r kk c=some (ac,L) -> ∀l,D5 ac l=(findLabel c l).isSome
 | .skip,kk,ac,L,h,l=>by injection h with h;injection h with d g;subst d;rfl
 | .region _ ops draw,kk,ac,L,h,l=>by
  simp only[b9,qd,qe,xv]at h;obtain⟨c,hc,rfl,rfl⟩:=h;unfold iF at hc;split at hc
  .simp only[qd]at hc;obtain⟨l,hl,hc⟩:=hc;split at hc
   .rcases ki hc with⟨_,hc⟩|⟨_,hc⟩
    .simp only[qd,qe]at hc;obtain⟨_,_,rfl⟩:=hc;rfl
    .injection hc with hc;subst hc;rfl
   .simp only[qd,qe]at hc;obtain⟨_,_,rfl⟩:=hc;rfl
  .cases hc
 | .seq a b,kk,ac,L,h,l=>by
  simp only[b9,qd,qe,xv]at h;obtain⟨⟨x,m⟩,j,⟨y,p⟩,n,rfl,rfl⟩:=h;have d:=TF a j l;have g:=TF b n l;simp only[D5,findLabel,d,g];cases findLabel a l<;>simp
 | .cond c a b,kk,ac,L,h,l=>by
  simp only[b9,qd,qe,xv]at h;obtain⟨q,_,⟨x,m⟩,j,⟨y,p⟩,n,rfl,rfl⟩:=h;rfl
 | .block id b,kk,ac,L,h,l=>by
  simp only[b9,qd,qe,xv]at h;obtain⟨⟨x,m⟩,j,rfl,rfl⟩:=h;rfl
 | .loop b,kk,ac,L,h,l=>by
  simp only[b9,qd,qe,xv]at h;obtain⟨⟨x,m⟩,j,rfl,rfl⟩:=h;rfl
 | .rangeFunc f ps a b,kk,ac,L,h,l=>by
  simp only[b9,qd]at h;obtain⟨q,_,⟨x,m⟩,j,⟨y,p⟩,n,h⟩:=h;split at h
  .injection h with h;injection h with d g;subst d;rfl
  .cases h
 | .exit _,kk,ac,L,h,l=>by injection h with h;injection h with d g;subst d;rfl
 | .scope b,kk,ac,L,h,l=>by
  simp only[b9,qd,qe,xv]at h;obtain⟨⟨x,m⟩,j,rfl,rfl⟩:=h;rfl
 | .label l',kk,ac,L,h,l=>by
  injection h with h;injection h with d g;subst d
  simp only[D5,findLabel]
  by_cases e:l'=l
  .simp [e]
  .simp only[EO,e,wz,Jv];cases hb:Nat.beq l' l with
   |false=>rfl
   |true=>simp only[jh]at hb;exact absurd hb e
 | .goto _,kk,ac,L,h,l=>by injection h with h;injection h with d g;subst d;rfl
 | .ret,kk,ac,L,h,l=>by injection h with h;injection h with d g;subst d;rfl
 | .refuse _,kk,ac,L,h,l=>by injection h with h;injection h with d g;subst d;rfl
def q8v{b:Frame}{a:Act}{body:Code}{k:List Item}{cs:List Frame}{w:World}:step P (lone (b.atR a (.inScope body::k)) cs w)=.next (lone (b.atR a k) cs w) :=
 step_lone_go (by simp[stepG,stepG.exec,Frame.atR])
def xdl{b:Frame}{a:Act}{body:Code}{k:List Item}{cs:List Frame}{w:World}:step P (lone (b.atR a (.code (.scope body)::k)) cs w)=.next (lone (b.atR a (.code body::.inScope body::k)) cs w) :=
 step_lone_go (by simp[stepG,stepG.exec,Frame.atR])
def Out.pass{D:Nat->Prop}{θ:Th}{b:Frame}{f:Nat}{rd:Option Nat}{x:Item}(s:x.plain=true){k:List Item}{st:St}{cs:List Frame}{w:World}{m:Machine}{e:aU}{c:St}(he:yM e=false)
 (h:Out P base D θ b f rd (x::k) st cs w m e c):Out P base D θ b f rd k st cs w m e c:=by
 obtain⟨θ',g,w',cs',e',j,l,n,d,p,r⟩:=h;refine⟨θ',g,w',cs',e',.pass s (λ _ _=>.inl ?_) j,l,n,d,p,r⟩;intro q;subst q;cases e<;>first|exact d.elim|cases he
def Out.here{D:Nat->Prop}{θ:Th}{b:Frame}{d:Nat}{rd:Option Nat}{k:List Item}{st:St}{a:Act}{cs:List Frame}{w:World}{m:Machine}{e:aU}{e':Exit}(c:SR P base D θ b d rd st a cs w)
 (f:ArrivesIn oa P m b k cs e' a w) (g:BN D θ e e'):Out P base D θ b d rd k st cs w m e st :=
 ⟨θ,a,w,cs,e',f,by rw[Up.none];exact c,bB.refl _ _ _ _,by rw[Up.none];exact g,rfl,eW.refl c.up⟩
def qsk{w:World}(fn:FuncId)(tmps:Array Value)(c:Array Tmp)(as body:Code){l:Nat}{r:Loop}(h:w.heap[l]? = some (.loop r)) :
 (Instr.enterLoop fn tmps c as body (some l)).run P w=.ok (w.heap.size,[]) (w.alloc (.loop {state:=.ready,pending:=none,fn,tmps,params:=c,assign:=as,body,defers:=r.defers})):=by
 unfold Instr.enterLoop;simp only[Sem.run_bind,run_getLoop h,run_newObj_alloc,Result.andThen,Sem.run_pure]
def q40{d:Nat}{c:Code}{kk:Nat}{ac:ai}{L:List dZ}(h:b9 P d kk c=some (ac,L)){l:Nat}(hl:D5 ac l=false):findLabel c l=none:=by
 rw[TF c h l]at hl
 simpa using hl
def qxe{b:Frame}{a:Act}{k:List Item}{cs:List Frame}{w:World}(id:Nat):ArrivesIn oa P (lone (b.atR a (.code (.exit id)::k)) cs w) b k cs (.exit id) a w :=
 ⟨λ _ hk=>.one trivial (stepR_exit hk),λ _ hk=>⟨k,hk,.refl _⟩⟩
def qxi{b:Frame}{a:Act}{k:List Item}{cs:List Frame}{w:World}(l:Nat):ArrivesIn oa P (lone (b.atR a (.code (.goto l)::k)) cs w) b k cs (.goto l) a w :=
 ⟨λ _ hk=>.one trivial (stepR_goto hk),λ _ hk=>⟨k,hk,.refl _⟩⟩
def tr{b:Frame}{a:Act}{k:List Item}{cs:List Frame}{w:World}:ArrivesIn oa P (lone (b.atR a (.code .ret::k)) cs w) b k cs .ret a w :=
 ⟨λ hn=>⟨_,.one trivial (stepR_ret hn)⟩,λ _=>⟨k,.refl _⟩⟩
def q96{D:Nat->Prop}{θ:Th}{b:Frame}{a:Act}{k:List Item}{cs:List Frame}{w:World}(p:Option gU):∃e',BN D θ (qC p) e' /\
 ArrivesIn oa P (lone (b.atR a (((p.map lY).map Item.code).toList++k)) cs w) b k cs e' a w:=by
 cases p with
 |none=>exact⟨.normal,trivial,.refl _⟩
 |some j =>
  cases j with
  |exit id=>exact⟨.exit id,rfl,qxe id⟩
  |goto l=>exact⟨.goto l,rfl,qxi l⟩
  |ret=>exact⟨.ret,trivial,tr⟩
def q32{call:bU}{round:iD}{ctx:Ctx}(M:wx P base call){D:Nat->Prop}{θ:Th}{b:Frame}{nt:Nat}{st:St}{a:Act}{cs:List Frame}{w:World}{k:List Item}{H0:ar}{aX:List aM}{w0:World}{mark:List Deferred}{d:Nat}
 (hP:dL P) {g:Operand} {B:Array Tmp} {as body:Code} {kk:Nat} {v:AV} {r:aU×St} {θ0:Th}
 (h0:HR P base (Up D st.H.au H0.au) θ0 H0 w0) (g0:bB D st.H θ w H0 θ0 w0) (S:st.H.au<=H0.au) (G:SR P base D θ b nt ctx.round st a cs w) (hv:VR D θ v (a.eval g)) (hd:Up D st.H.au H0.au d)
 (hdf:gR (Up D st.H.au H0.au) θ0 aX (mark++a.defers)) (O:uy P ctx.fn kk a.tmps.size B as body) (hfn:b.fn=ctx.fn)
 (he:(Instr.enterLoop b.fn a.tmps B as body b.roundOf).run P w=.ok (w0.heap.size,mark) (w0.alloc (.loop {state:=.ready,pending:=none,fn:=b.fn,tmps:=a.tmps,params:=B,assign:=as,body,defers:=θ0.bV d})))
 (hr:iT call round ctx st kk H0 aX d v=some r) (hf:dV D st.H.au r.2.H.au) (hm:pE call) :
 Out P base D θ b nt ctx.round k st cs w (lone (b.atR a (.code (.rangeFunc g B as body)::k)) cs w) r.1 r.2:=by
 unfold iT at hr;split at hr
 .rename_i f first cap
  simp only[cP,j4,qm,qd]at hr;obtain⟨⟨e,u,H'⟩,hcl,hr⟩:=hr;have Q:H0.au+1<=H'.au:=(hm _ _ _ _ _ _ _ hcl).1
  have hrn:r.2.H.au=H'.au/\r.2.aX=aX/\r.2.tm=st.tm/\r.2.up=st.up:=by
   unfold LV at hr;split at hr
   .injection hr with hr;subst hr;exact⟨rfl,rfl,rfl,rfl⟩
   .split at hr
    .cases hr
    .injection hr with hr;subst hr;exact⟨rfl,rfl,rfl,rfl⟩
    .cases hr
  rw[hrn.1]at hf;have hn:¬Up D st.H.au H0.au H0.au:=λ q=>by
   rcases q with q|⟨_,q⟩
   .exact hf _ S (by omega) q
   .omega
  -- the record
  have hag0:=g0.ag;have I:=Th.gM θ0 H0.au w0.heap.size 0 0 hn
  obtain⟨e1,e2,e3⟩:=Th.eH θ0 H0.au w0.heap.size 0 0
  have n:∀x,D x->Up (Up D st.H.au H0.au) H0.au (H0.au+1) x:=λ x A=>.inl (.inl A)
  have X:Up (Up D st.H.au H0.au) H0.au (H0.au+1) H0.au:=.inr ⟨qg _,zp _⟩
  have s:Ag D θ (θ0.add H0.au w0.heap.size 0 0):=hag0.trans I (λ x A=>.inl A);have hR:nU P (Up (Up D st.H.au H0.au) H0.au (H0.au+1)) (θ0.add H0.au w0.heap.size 0 0) H0.au (.loop .ready none ctx.fn kk st.tm d)
   (.loop {state:=.ready,pending:=none,fn:=b.fn,tmps:=a.tmps,params:=B,assign:=as,body,defers:=θ0.bV d}) :=
   ⟨_,rfl,rfl,rfl,hfn,G.tl.up s n,O,.inl hd,((I d hd).1).symm⟩
  have h1:=h0.alloc hn (w':=w0.alloc (.loop {state:=.ready,pending:=none,fn:=b.fn,tmps:=a.tmps,params:=B,assign:=as,body,defers:=θ0.bV d})) (co:=.loop {state:=.ready,pending:=none,fn:=b.fn,tmps:=a.tmps,params:=B,assign:=as,body,defers:=θ0.bV d}) (k:=w0.heap.size) (off:=0) (ext:=0) (by rw[CE];simp)
   (λ j hj=>by rw[CE,qo (Jo hj)]) (qg _) (by simp) hR
  have g1:=bB.alloc (base:=base) h0 hn (.loop .ready none ctx.fn kk st.tm d) (.loop {state:=.ready,pending:=none,fn:=b.fn,tmps:=a.tmps,params:=B,assign:=as,body,defers:=θ0.bV d}) 0 0
  -- the call
  obtain⟨fi,ci,q3,q4,q5,q6⟩:=QT hv;have J:bL (Up (Up D st.H.au H0.au) H0.au (H0.au+1)) (θ0.add H0.au w0.heap.size 0 0) (first++(.fn (.yield H0.au) [] []::cap)) ((fi.toArray ++ #[Value.func (.yield w0.heap.size) #[] #[]])++ci.toArray).toList:=by
   simp only[Array.toList_append,zm];refine(q4.up s n).app (.cons (λ θ'' h''=>?_) (q5.up s n));simp only[az,fD,bR];rw[(h'' _ X).1,e1]
  obtain⟨⟨fn,c,k1,k2⟩,θ',w',cs',fr,e',s1,s2,s3,s4,V,s6,s7,s8,s9,s10⟩:=M _ _ _ _ f _ ((fi.toArray ++ #[Value.func (.yield w0.heap.size) #[] #[]])++ci.toArray) none H' e u .normal
   (b.atR {a with defers:=mark++a.defers} (.inRangeFunc w0.heap.size::k)::cs) h1 J rfl hcl (λ x h3 h4 W=>by
    rw[Up.up S (ku _)]at W;rcases W with W|⟨_,W⟩
    .exact hf x (by have:H0.au+1<=x:=h3;omega) h4 W
    .have:H0.au+1<=x:=h3;omega)
  have hcs:cs'=b.atR {a with defers:=mark++a.defers} (.inRangeFunc w0.heap.size::k)::cs:=s9;subst hcs;have y:=stepR_rangeFunc (P:=P) (b:=b) (a:=a) (k:=k) (cs:=cs) (w:=w) (g:=g) (l:=w0.heap.size) (d:={target:=.fn (.func f) ci.toArray,args:=fi.toArray ++ #[Value.func (.yield w0.heap.size) #[] #[]]}) he
   (by
   show(Deferred.ofValue (a.eval g) (#[Operand.const (.func (.yield w0.heap.size) #[] #[])].map a.eval)).run P _=_;rw[q3];simp[Deferred.ofValue,fD,Act.eval];rfl) (by
    show(callFunc f (_++ci.toArray)).run P _=_;exact Oe hP k1 k2)
  have hl:=SI s4 s2;have hupa:Up (Up (Up D st.H.au H0.au) H0.au (H0.au+1)) (H0.au+1) H'.au=Up D st.H.au H'.au:=by
   rw[Up.up (ku _) Q,Up.up S (by omega)]
  have z:(H0.alloc (.loop .ready none ctx.fn kk st.tm d)).au=H0.au+1:=rfl
  rw[z,hupa]at V s6 s10;have h:bB D st.H θ w H' θ' w':=(g0.trans g1 Up.of).trans s7 n;have Y:∀x,Up D st.H.au H0.au x->Up D st.H.au H'.au x:=λ x A=>by
   rcases A with A|⟨h1,h2⟩
   .exact .inl A
   .exact .inr ⟨h1,by omega⟩
  have hagf:Ag (Up D st.H.au H0.au) θ0 θ':=I.trans s7.ag (λ x A=>.inl A);have Z:∀(F:ar)(U:World),HR P base (Up D st.H.au H'.au) θ' F U->SR P base (Up D st.H.au H'.au) θ' b nt ctx.round {st with aX:=aX,H:=F} {a with defers:=mark++a.defers} cs U:=λ F U hh =>
   ⟨hh,G.tl.up h.ag Up.of,G.size,gR.up hagf Y hdf,qT.up h.ag Up.of G.up,xS.up h.ag Up.of G.round⟩
  unfold LV at hr;cases e with
  |panic ch =>
   injection hr with hr;subst hr
   cases e' with
   |returned _=>exact V.elim
   |outgrown=>exact V.elim
   |panicked ps' =>
    refine⟨θ',_,w',cs,.panic ps',⟨.inRangeFunc w0.heap.size::k,StepsIn.of_steps (.head y (s1.trans (.one (by rw[step_leave_panicked hl,Frame.raise_atR]))))⟩,Z _ _ s6,h,V,rfl,eW.refl G.up⟩
  |ret x =>
   cases e' with
   |panicked _=>exact V.elim
   |outgrown=>exact V.elim
   |returned cx =>
    have K:Steps P (lone (b.atR a (.code (.rangeFunc g B as body)::k)) cs w) (lone (b.atR {a with defers:=mark++a.defers} (.endRangeFunc w0.heap.size::k)) cs w'):=by
     exact .head y (s1.trans (.one (by rw[step_leave_returned hl,finish_atR_inRangeFunc])))
    simp only at hr;split at hr
    .cases hr
    .rename_i ls p f2 k2' tm2 d2 R m;injection hr with hr;subst hr
     obtain⟨hDl',co,hco,rl,rfl,r1,r2,r3,r4,r5,r6,r7⟩:=s6.obj _ _ m;have t:θ'.bV H0.au=w0.heap.size:=by rw[(s7.ag _ X).1,e1]
     rw[t]at hco;have L:rl.state≠ .busy:=by
      intro q;rw[r1]at q;cases ls with
      |busy=>first|exact R _ _ _ _ _ rfl|exact R rfl|exact R
      |ready=>cases q
      |done=>cases q
      |exhausted=>cases q
     have hend:=run_endLoop (P:=P) hco L;have N:=stepR_endRangeFunc (b:=b) (a:={a with defers:=mark++a.defers}) (k:=k) (cs:=cs) hend;have E:=s6.set (o':=.loop .exhausted p f2 k2' tm2 d2) (co':=.loop {rl with state:=.exhausted}) m rfl rfl ⟨_,rfl,rfl,r2,r3,r4,r5,r6,r7⟩;rw[t]at E;have C:bB (Up D st.H.au H'.au) H' θ' w' (H'.set H0.au (.loop .exhausted p f2 k2' tm2 d2)) θ' (eX w' (θ'.bV H0.au) (.loop {rl with state:=.exhausted})):=bB.set m rfl (s6.lt m);rw[t]at C;obtain⟨e'',k3,k4⟩:=q96 (P:=P) (D:=Up D st.H.au H'.au) (θ:=θ') (b:=b) (a:={a with defers:=mark++a.defers}) (k:=k) (cs:=cs) (w:=eX w' w0.heap.size (.loop {rl with state:=.exhausted})) p;rw[<-r2]at k4;exact⟨θ',_,_,cs,e'',.of_steps (StepsIn.of_steps (K.trans (.one N))) k4,Z _ _ E,h.trans C Up.of,k3,rfl,eW.refl G.up⟩
    .cases hr
 .cases hr
def Out.normal{D:Nat->Prop}{θ:Th}{b:Frame}{e:Nat}{rd:Option Nat}{k:List Item}{st:St}{cs:List Frame}{w:World}{m:Machine}{c:St}(h:Out P base D θ b e rd k st cs w m .normal c) :
 ∃θ' d w' cs',Steps P m (lone (b.atR d k) cs' w')/\SR P base (Up D st.H.au c.H.au) θ' b e rd c d cs' w'/\bB D st.H θ w c.H θ' w'/\c.up.isSome=st.up.isSome/\eW st.up cs cs':=by
 obtain⟨θ',d,w',cs',e',f,g,j,l,n,p⟩:=h;cases e'<;>first|exact⟨θ',d,w',cs',StepsIn.steps f,g,j,n,p⟩|exact l.elim
def Out.head{D:Nat->Prop}{θ:Th}{b:Frame}{f:Nat}{rd:Option Nat}{k:List Item}{st:St}{cs:List Frame}{w:World}{m d:Machine}{e:aU}{c:St}(hs:step P m=.next d)
 (h:Out P base D θ b f rd k st cs w d e c):Out P base D θ b f rd k st cs w m e c:=by
 obtain⟨θ',g,w',cs',e',j,l,n,p,q,r⟩:=h;exact⟨θ',g,w',cs',e',.of_steps (StepsIn.one trivial hs) j,l,n,p,q,r⟩
def qro(id c:Nat)(k:List Item):exitTo c (.inBlock id::k)=if id=c then some k else exitTo c k:=by
 simp[exitTo]
def MU{α:Type}(a b:List α)(i:Nat):nth (a++b) i=if i<a.length then nth a i else nth b (i-a.length):=by
 simp only[lR,List.getElem?_append]
set_option maxHeartbeats 1000000 in
def zB(R:dL P){rt:RT}(m:wx P base rt.call)(f:uz P base rt.round)(I:rt.AP=aV P)(z:pE rt.call)(C:xR rt.round)(t:Mc P base rt)
 {fn:Func} {af:cj} (K:P.funcs[rt.ctx.fn]? = some fn) (J:th P fn=some af):∀(c:Code){kk:Nat}{ac:ai}{L:List dZ},b9 P fn.ntmps kk c=some (ac,L)->(∀i l,nth L i=some l->nth af.loops (kk+i)=some l) ->
 ∀{D:Nat->Prop}{θ:Th}{b:Frame}{k:List Item}{st:St}{a:Act}{cs:List Frame}{w:World}{r:aU×St},SR P base D θ b fn.ntmps rt.ctx.round st a cs w->b.fn=rt.ctx.fn->(bG ac).run rt st=some r ->
  dV D st.H.au r.2.H.au->Out P base D θ b fn.ntmps rt.ctx.round k st cs w (lone (b.atR a (.code c::k)) cs w) r.1 r.2
 | .skip,kk,ac,L,h,hL,D,θ,b,k,st,a,cs,w,r,s,hb,hr,B=>by
  injection h with h;injection h with u E;subst u
  injection hr with hr;subst hr
  exact .here s (e':=.normal) (StepsIn.one trivial stepR_skip) trivial
 | .label _,kk,ac,L,h,hL,D,θ,b,k,st,a,cs,w,r,s,hb,hr,B=>by
  injection h with h;injection h with u E;subst u
  injection hr with hr;subst hr
  exact .here s (e':=.normal) (StepsIn.one trivial stepR_label) trivial
 | .exit id,kk,ac,L,h,hL,D,θ,b,k,st,a,cs,w,r,s,hb,hr,B=>by
  injection h with h;injection h with u E;subst u
  injection hr with hr;subst hr
  exact .here s (qxe id) rfl
 | .goto l,kk,ac,L,h,hL,D,θ,b,k,st,a,cs,w,r,s,hb,hr,B=>by
  injection h with h;injection h with u E;subst u
  injection hr with hr;subst hr
  exact .here s (qxi l) rfl
 | .ret,kk,ac,L,h,hL,D,θ,b,k,st,a,cs,w,r,s,hb,hr,B=>by
  injection h with h;injection h with u E;subst u
  injection hr with hr;subst hr
  exact .here s tr trivial
 | .refuse _,kk,ac,L,h,hL,D,θ,b,k,st,a,cs,w,r,s,hb,hr,B=>by
  injection h with h;injection h with u E;subst u
  cases hr
 | .region id ops draw,kk,ac,L,h,hL,D,θ,b,k,st,a,cs,w,r,s,hb,hr,B=>by
  simp only[b9,qd,qe,xv]at h;obtain⟨c,hc,rfl,rfl⟩:=h;cases draw with
  |false =>
   obtain⟨l,steps,u,E,N,rfl⟩:=xgw hc;exact .head stepR_region (Yv R m f I z C u E _ N s hr B)
  |true=>exact t _ id ops c hc D θ b k st a cs w r s hr B
 | .seq x y,kk,ac,L,h,hL,D,θ,b,k,st,a,cs,w,r,s,hb,hr,B=>by
  simp only[b9,qd,qe,xv]at h;obtain⟨⟨ax,M⟩,G,⟨ay,ly⟩,hy,rfl,rfl⟩:=h;simp only[bG,qd]at hr;obtain⟨⟨e,cS⟩,V,hr⟩:=hr;have hmy:=(tT R y hy).1;have X:=Mw z C (tT R x G).1 V;have W:∀i l,nth M i=some l->nth af.loops (kk+i)=some l:=λ i l hl=>hL i l (by
   rw[MU,qr]
   .exact hl
   .rw [lR]at hl;exact(qk.1 hl).1)
  have hLy:∀i l,nth ly i=some l->nth af.loops (kk+M.length+i)=some l:=λ i l hl=>by
   rw[vw];exact hL (M.length+i) l (by
    show nth (M++ly) (M.length+i)=_;rw[MU,qo (by omega),yp];exact hl)
  refine .head stepR_seq ?_
  by_cases he:e=.normal
  .subst he;simp only[ta]at hr;have A:=Mw z C hmy hr;obtain⟨θ',Q,w',cs',u,E,N,F,O⟩:=(zB R m f I z C t K J x G W (k:=.code y::k) s hb V (B.left A)).normal;exact Out.after u N F O A (zB R m f I z C t K J y hy hLy E hb hr (B.right X))
  .have hn:yM e=false:=by cases e<;>first|rfl|exact absurd rfl he
   have hr':r=(e,cS):=by
    cases e<;>first|exact absurd rfl he|(injection hr with hr;exact hr.symm)
   subst hr';exact Out.pass (x:=.code y) rfl hn (zB R m f I z C t K J x G W s hb V B)
 | .cond c x y,kk,ac,L,h,hL,D,θ,b,k,st,a,cs,w,r,s,hb,hr,B=>by
  simp only[b9,qd,qe,xv]at h;obtain⟨cc,hcc,⟨ax,M⟩,G,⟨ay,ly⟩,hy,rfl,rfl⟩:=h;simp only[bG,qd]at hr;obtain⟨v,hv,hr⟩:=hr;rw[IW]at hv;have hvr:=CF (a:=a) s.heap s.tl hcc hv;have W:∀i l,nth M i=some l->nth af.loops (kk+i)=some l:=λ i l hl=>hL i l (by
   rw[MU,qr]
   .exact hl
   .rw [lR]at hl;exact(qk.1 hl).1)
  have hLy:∀i l,nth ly i=some l->nth af.loops (kk+M.length+i)=some l:=λ i l hl=>by
   rw[vw];exact hL (M.length+i) l (by
    show nth (M++ly) (M.length+i)=_;rw[MU,qo (by omega),yp];exact hl)
  unfold tG at hr;split at hr
  .rename_i q;refine .head (stepR_cond hvr.now.symm) ?_;cases q with
   |true=>exact zB R m f I z C t K J x G W s hb hr B
   |false=>exact zB R m f I z C t K J y hy hLy s hb hr B
  .cases hr
 | .block id x,kk,ac,L,h,hL,D,θ,b,k,st,a,cs,w,r,s,hb,hr,B=>by
  simp only[b9,qd,qe,xv]at h;obtain⟨⟨ax,M⟩,G,rfl,rfl⟩:=h;simp only[bG,qd]at hr;obtain⟨⟨e,cS⟩,V,hr⟩:=hr;have Z:r.2=cS:=by
   unfold jP at hr;split at hr<;>(injection hr with hr;subst hr;rfl)
  obtain⟨θ',Q,w',cs',e',u,E,N,F,O,S⟩:=zB R m f I z C t K J x G hL (k:=.inBlock id::k) s hb V (Z▸B);refine .head stepR_block ?_;rw[Z];unfold jP at hr;cases e with
  |normal =>
   injection hr with hr;subst hr
   cases e'<;>try exact F.elim
   exact⟨θ',Q,w',cs',.normal,StepsIn.trans u (.one trivial stepR_inBlock),E,N,trivial,O,S⟩
  |exit id' =>
   injection hr with hr;subst hr
   cases e'<;>try exact F.elim
   rename_i j;have F:j=id':=F;subst F;cases hbq:Nat.beq id j with
   |true =>
    simp only[jh]at hbq;subst hbq;exact⟨θ',Q,w',cs',.normal,u.1 k (by rw[qro,qr rfl]),E,N,trivial,O,S⟩
   |false =>
    have hne:¬id=j:=by intro q;subst q;simp at hbq
    have G:exitTo j (.inBlock id::k)=exitTo j k:=by rw[qro,qo hne]
    exact⟨θ',Q,w',cs',.exit j,⟨λ k' hk=>u.1 k' (by rw[G];exact hk),λ hr hk=>u.2 hr (by rw[G];exact hk)⟩,E,N,rfl,O,S⟩
  |goto l =>
   injection hr with hr;subst hr
   cases e'<;>try exact F.elim
   rename_i j;have G:gotoIn j (.inBlock id::k)=gotoIn j k:=rfl;exact⟨θ',Q,w',cs',.goto j,⟨λ k' hk=>u.1 k' (by rw[G];exact hk),λ hr hk=>u.2 hr (by rw[G];exact hk)⟩,E,N,F,O,S⟩
  |ret =>
   injection hr with hr;subst hr
   cases e'<;>try exact F.elim
   exact⟨θ',Q,w',cs',.ret,u,E,N,trivial,O,S⟩
  |panic ch =>
   injection hr with hr;subst hr
   cases e'<;>try exact F.elim
   rename_i ps;exact⟨θ',Q,w',cs',.panic ps,u,E,N,F,O,S⟩
 | .scope x,kk,ac,L,h,hL,D,θ,b,k,st,a,cs,w,r,s,hb,hr,B=>by
  simp only[b9,qd,qe,xv]at h;obtain⟨⟨ax,M⟩,G,rfl,rfl⟩:=h;simp only[bG,qd]at hr;obtain⟨⟨e,cS⟩,V,hr⟩:=hr;have Z:r=(e,cS) /\ ∀l,e=.goto l->D5 ax l=false:=by
   unfold kU at hr;split at hr
   .rename_i l he;simp only at he;rcases ki hr with⟨_,hr⟩|⟨hl,hr⟩
    .cases hr
    .injection hr with hr;subst he;exact⟨hr.symm,λ l' h'=>by injection h' with h';subst h';exact hl⟩
   .rename_i hne;injection hr with hr;exact⟨hr.symm,λ l' h'=>(hne l' h').elim⟩
  obtain⟨rfl,hlab⟩:=Z;obtain⟨θ',Q,w',cs',e',u,E,N,F,O,S⟩:=zB R m f I z C t K J x G hL (k:=.inScope x::k) s hb V B;refine .head xdl ?_;cases e with
  |normal =>
   cases e'<;>try exact F.elim
   exact⟨θ',Q,w',cs',.normal,StepsIn.trans u (.one trivial q8v),E,N,trivial,O,S⟩
  |exit id' =>
   cases e'<;>try exact F.elim
   rename_i j;have G:exitTo j (.inScope x::k)=exitTo j k:=rfl;exact⟨θ',Q,w',cs',.exit j,⟨λ k' hk=>u.1 k' (by rw[G];exact hk),λ hr hk=>u.2 hr (by rw[G];exact hk)⟩,E,N,F,O,S⟩
  |goto l =>
   cases e'<;>try exact F.elim
   rename_i j;have F:j=l:=F;subst F;have hfl:=q40 G (hlab j rfl);have hg:gotoIn j (.inScope x::k)=gotoIn j k:=by simp[gotoIn,hfl]
   exact⟨θ',Q,w',cs',.goto j,⟨λ k' hk=>u.1 k' (by rw[hg];exact hk),λ hr hk=>u.2 hr (by rw[hg];exact hk)⟩,E,N,rfl,O,S⟩
  |ret =>
   cases e'<;>try exact F.elim
   exact⟨θ',Q,w',cs',.ret,u,E,N,trivial,O,S⟩
  |panic ch =>
   cases e'<;>try exact F.elim
   rename_i ps;exact⟨θ',Q,w',cs',.panic ps,u,E,N,F,O,S⟩
 | .loop x,kk,ac,L,h,hL,D,θ,b,k,st,a,cs,w,r,s,hb,hr,B=>by
  simp only[b9,qd,qe,xv]at h;obtain⟨⟨ax,M⟩,G,rfl,rfl⟩:=h;simp only[bG]at hr;refine .head stepR_loop ?_;have X:=(tT R x G).1;have key:∀(n:Nat)(D:Nat->Prop)(θ:Th)(st:St)(a:Act)(cs:List Frame)(w:World)(r:aU×St),SR P base D θ b fn.ntmps rt.ctx.round st a cs w->gE none ((bG ax).run rt) n st=some r->dV D st.H.au r.2.H.au ->
   Out P base D θ b fn.ntmps rt.ctx.round k st cs w (lone (b.atR a (.code x::.inLoop x::k)) cs w) r.1 r.2:=by
   intro n
   induction n with
   |zero=>intro D θ st a cs w r _ hr _;cases hr
   |succ n ih =>
    intro D θ st a cs w r s hr B;simp only[gE,qd]at hr;obtain⟨⟨e,cS⟩,V,hr⟩:=hr;have hm1:=Mw z C X V
    by_cases he:e=.normal
    .subst he;simp only at hr;have A:=xgg (λ st r h=>yX z C X h) none n _ _ hr;obtain⟨θ',Q,w',cs',u,E,N,F,O⟩:=(zB R m f I z C t K J x G hL (k:=.inLoop x::k) s hb V (B.left A)).normal;exact Out.after (u.trans (.one stepR_inLoop)) N F O A (ih _ θ' cS Q cs' w' r E hr (B.right hm1))
    .have hn:yM e=false:=by cases e<;>first|rfl|exact absurd rfl he
     have hr':r=(e,cS):=by
      cases e<;>first|exact absurd rfl he|(injection hr with hr;exact hr.symm)
     subst hr';exact Out.pass (x:=.inLoop x) rfl hn (zB R m f I z C t K J x G hL s hb V B)
  exact key _ D θ st a cs w r s hr B
 | .rangeFunc g ps x y,kk,ac,L,h,hL,D,θ,b,k,st,a,cs,w,r,s,hb,hr,B=>by
  simp only[b9,qd]at h;obtain⟨cg,hcg,⟨ax,M⟩,G,⟨ay,ly⟩,hy,h⟩:=h;split at h
  .rename_i Y;have Y:∀p∈ps.toList,p<fn.ntmps:=λ p hp=>by
    rw[wq]at Y
    simpa[sX]using Y p hp
   injection h with h;injection h with u E;subst u;subst E
   simp only[bG,qd]at hr;obtain⟨v,hv,hr⟩:=hr;rw[IW]at hv;have hvr:=CF (a:=a) s.heap s.tl hcg hv;have U:uy P rt.ctx.fn kk a.tmps.size ps x y:=by
    refine⟨fn,af,_,kk+1,kk+1+M.length,M,ly,K,J,hL 0 _ rfl,rfl,Y,s.size,G,λ i l hl=>?_,hy,λ i l hl=>?_⟩
    .rw [vw];refine hL (1+i) l ?_;rw[Nat.add_comm 1 i,lR,zq,<-lR,MU,qr]
     .exact hl
     .rw [lR]at hl;exact(qk.1 hl).1
    .rw [vw,vw];refine hL (1+(M.length+i)) l ?_;rw[Nat.add_comm 1 _,lR,zq,<-lR];show nth (M++ly) (M.length+i)=_;rw[MU,qo (by omega),yp];exact hl
   unfold qP at hr;split at hr
   .rename_i hnone;have hro:b.roundOf=none:=by have:=s.round;rw[hnone]at this;exact this
    have A:st.H.au+1<=r.2.H.au:=by
     have:(st.H.alloc (.deferred (some []))).au<=r.2.H.au:=xc3 (st:={st with H:=st.H.alloc (.deferred (some []))}) z (Ext.refl _) hr
     exact this
    have hn:¬D st.H.au:=B _ (qg _) A
    have hag:=Th.gM θ st.H.au w.heap.size 0 0 hn
    obtain⟨e1,e2,e3⟩:=Th.eH θ st.H.au w.heap.size 0 0
    have hDn:Up D st.H.au (st.H.au+1) st.H.au:=.inr ⟨qg _,zp _⟩
    have h0:=s.heap.alloc hn (w':=w.alloc (.deferred (some []))) (co:=.deferred (some [])) (o:=.deferred (some [])) (k:=w.heap.size) (off:=0) (ext:=0) (by rw[CE];simp)
     (λ j hj=>by rw[CE,qo (Jo hj)]) (qg _) (by simp) ⟨some [],rfl,rfl,rfl⟩
    have g0:=bB.alloc (base:=base) s.heap hn (.deferred (some [])) (.deferred (some [])) 0 0;refine q32 m R (H0:=st.H.alloc (.deferred (some []))) (aX:=.iU st.H.au::st.aX) (d:=st.H.au) (mark:=[{target:=.collected w.heap.size,args:=#[]}]) h0 g0 (ku _) s hvr hDn ⟨⟨hDn,by rw[e1]⟩,gR.up hag Up.of s.aX⟩ U hb ?_ hr B z;rw[hro,run_enterLoop_outer,e1];simp
   .rename_i l hl;simp only[qd]at hr;obtain⟨d,hd,hr⟩:=hr;unfold Dl at hd;split at hd
    .rename_i f2 k2 tm2 d2 hget;injection hd with hd;subst hd
     obtain⟨hDl,co,hco,rl,rfl,r1,r2,r3,r4,r5,r6,r7⟩:=s.heap.obj _ _ hget;have hro:b.roundOf=some (θ.bV l):=by have:=s.round;rw[hl]at this;exact this.2
     refine q32 m R (mark:=[]) (d:=d2) (by rw[Up.none];exact s.heap) (bB.refl _ _ _ _) (qg _) s hvr (by rw[Up.none];exact r6) (by rw[Up.none];exact s.aX) U hb ?_ hr B z;rw[hro,qsk _ _ _ _ _ hco,r7]
    .cases hd
  .cases h
end
end Go.Am
