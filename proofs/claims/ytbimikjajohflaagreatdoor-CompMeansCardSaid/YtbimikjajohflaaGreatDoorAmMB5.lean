/- B5: Args Args2 Args3 Args4 Args5 Args6 ToldM. -/
import Derived.Test.YtbimikjajohflaaGreatDoorAmMB3
import Derived.Test.YtbimikjajohflaaGreatDoorAmMB4
import Derived.Carry
set_option linter.unusedVariables false
set_option linter.unusedSimpArgs false
namespace Go.Am
open Go.RowKit
abbrev GL:=List (Nat × List AV)
def Good (W:World) (θ:Th) (n:Nat) (gl:GL):Prop :=
 ∀ b l,(b,l) ∈ gl->b<n /\ ∃ pre cs post e fz,W.heap[θ.aN b]? = some (.cells (pre++cs++post).toArray e fz)/\pre.length = θ.off b/\bG (Lt n) θ l cs
structure Step (W:World) (θ:Th) (n:Nat) (gl:GL) (θ':Th) (n':Nat) (gl':GL):Prop where
 le:n<=n'
 ag:Ag (Lt n) θ θ'
 bC:Good W θ' n' gl'
 aj:∀ b,b<n->(yA gl' .nil).get b=(yA gl .nil).get b
theorem Step.refl {W:World} {θ:Th} {n:Nat} {gl:GL} (h:Good W θ n gl):Step W θ n gl θ n gl:=⟨qf n,Ag.refl _ _,h,λ _ _=>rfl⟩
theorem Step.trans {W:World} {θ θ' θ'':Th} {n n' n'':Nat} {gl gl' gl'':GL} (a:Step W θ n gl θ' n' gl') (b:Step W θ' n' gl' θ'' n'' gl''):Step W θ n gl θ'' n'' gl'' :=
 ⟨xz a.le b.le,a.ag.trans b.ag λ x hx=>qe hx a.le,b.bC,λ x hx=>by rw [b.aj x (qe hx a.le),a.aj x hx]⟩
theorem Step.fr {W:World} {θ θ':Th} {n n':Nat} {gl gl':GL} (a:Step W θ n gl θ' n' gl'):Fr Em (yp gl n) (yp gl' n'):=⟨a.le,λ b hb _=>a.aj b hb⟩
theorem Step.row {W:World} {θ:Th} {n:Nat} {gl:GL} (h:Good W θ n gl) {k off:Nat} {l:List AV} {pre cs post:List Value} {e:TypeId} {fz:Nat × Nat} (hk:W.heap[k]? = some (.cells (pre++cs++post).toArray e fz)) (hp:pre.length=off) (hv:bG (Lt n) θ l cs) :
 Step W θ n gl (θ.add n k off 0) (n+1) ((n,l)::gl):=by
 have hag:Ag (Lt n) θ (θ.add n k off 0):=θ.eR n k off 0 (Cx n);have hd:∀ b,Lt n b->Lt (n+1) b:=λ b hb=>FC hb;refine ⟨AR n,hag,λ b l' hm=>?_,λ b hb=>?_⟩
 ·rcases x8.1 hm with hm|hm
  ·injection hm with h1 h2;subst h1;subst h2
   obtain ⟨q1,q2,_⟩:=θ.dy b k off 0;exact ⟨x9 b,pre,cs,post,e,fz,by rw [q1];exact hk,by rw [q2];exact hp,hv.up hag hd⟩
  ·obtain ⟨h1,pre,cs,post,e,fz,h2,h3,h4⟩:=h b l' hm;obtain ⟨q1,q2,_⟩:=hag b h1;exact ⟨FC h1,pre,cs,post,e,fz,by rw [q1];exact h2,by rw [q2];exact h3,h4.up hag hd⟩
 ·rw [yA,T.aI,qc (by omega)]
section
variable {P:Program}
def iz (P:Program) (t:TypeId) (R:List AV->Prop):Prop :=
 ∀ {H:Type} (enc:TypeId × Value->H) (W:World) (base:Nat) (sp:Nat->Bool) (held:Bool) (fuel:Nat) (cs:List Value) (d:DataW H) (ps:List MemPlace),
  DataW.trod enc P W base sp held fuel t cs=some (d,ps) -> ∃ l,R l /\ ∀ θ,bM θ l=cs
def kY (k:IntKind) (l:List AV):Prop:=∃ n,l=[.int k n]/\(Lit.int k n).wf=true
def fN:List (List AV->Prop)->List AV->Prop
 | [],l=>l=[]
 | R::Rs,l=>∃ a b,l=a++b/\R a/\fN Rs b
theorem Jb {t:TypeId} {k:IntKind} (h:P.underlying t=some (.int k)):iz P t (kY k):=by
 intro H enc W base sp held fuel cs d ps ht;cases fuel with
 | zero=>cases ht
 | succ f =>
  simp only [DataW.trod,h] at ht;split at ht<;>first|(cases ht;done) | skip
  all_goals first|(simp_all;done) | skip
  ·rename_i k2 n2 e1 e2;injection e2 with e2;injection e2 with e2;subst e2
   split at ht
   ·rename_i hw;obtain ⟨rfl,hw⟩:=hw;exact ⟨_,⟨_,rfl,hw⟩,λ θ=>rfl⟩
   ·cases ht
theorem q07 {H:Type} (enc:TypeId × Value->H) (W:World) (base:Nat) (sp:Nat->Bool) (held:Bool) (fuel:Nat) {cs:List Value}:∀ {fs:List (TypeId × Nat × (List AV->Prop))} {k:Nat} {xs:List (DataW H × List MemPlace)},
 (∀ f ∈ fs,iz P f.1 f.2.2)->(∀ (j:Nat) f,fs[j]? = some f->f.2.1=k+((fs.take j).map λ f=>P.cellsOf f.1).sum) ->
 fs.mapM (λ f=>DataW.trod enc P W base sp held fuel f.1 ((cs.drop f.2.1).take (P.cellsOf f.1)))=some xs ->
 k+(fs.map λ f=>P.cellsOf f.1).sum<=cs.length ->
 ∃ l,fN (fs.map (·.2.2)) l /\ ∀ θ,bM θ l=(cs.drop k).take ((fs.map λ f=>P.cellsOf f.1).sum)
 | [],k,xs,_,_,_,_=>⟨[],rfl,λ θ=>by simp [bM]⟩
 | f::fs,k,xs,hf,ho,hm,hl=>by
  simp only [DL,Option.bind_eq_bind,qa,Option.pure_def,qb] at hm;obtain ⟨y,hy,ys,hys,rfl⟩:=hm;have h0:f.2.1=k:=by have:=ho 0 f rfl;simpa using this
  obtain ⟨a,ha,hca⟩:=hf f (by simp) enc W base sp held fuel _ y.1 y.2 hy;simp only [xx,DN] at hl;obtain ⟨b,hb,hcb⟩:=q07 enc W base sp held fuel (cs:=cs) (fs:=fs) (k:=k+P.cellsOf f.1) (λ g hg=>hf g (by simp [hg])) (λ j g hg=>by
   have:=ho (j+1) g (by simpa using hg);simp only [z9,xx,DN] at this;omega) hys (by omega)
  refine ⟨a++b,⟨a,b,rfl,ha,hb⟩,λ θ=>?_⟩;rw [kT,Ce,<-kT,<-kT,hca,hcb,h0,xx,DN,List.take_add,Co]
theorem xd8 {H:Type} {g:TypeId->List Value->Option (DataW H × List MemPlace)} {cs:List Value}:∀ {fs:List Field} {Rs:List (List AV->Prop)},fs.length=Rs.length ->
 fs.mapM (λ f=>g f.type ((cs.drop f.offset).take (P.cellsOf f.type)))=((fs.zip Rs).map λ x=>(x.1.type,x.1.offset,x.2)).mapM (λ f=>g f.1 ((cs.drop f.2.1).take (P.cellsOf f.1)))
 | [],[],_=>rfl
 | f::fs,R::Rs,h=>by simp only [Fz,xx,DL,xd8 (fs:=fs) (Rs:=Rs) (by simpa using h)]
def Gp (P:Program):Nat->List Field->Bool
 | _,[]=>true
 | k,f::fs=>Nat.beq f.offset k && Gp P (k+P.cellsOf f.type) fs
theorem q81 {fs:List Field}:∀ {k:Nat},Gp P k fs=true -> ∀ (j:Nat) f,fs[j]? = some f->f.offset=k+((fs.take j).map λ f=>P.cellsOf f.type).sum:=by
 induction fs with
 | nil=>intro k _ j f h;simp at h
 | cons g fs ih =>
  intro k h j f hj;simp only [Gp,qx,zz] at h;cases j with
  | zero=>simp at hj;subst hj;simpa using h.1
  | succ j =>
   have:=ih h.2 j f (by simpa using hj);simp only [z9,xx,DN];omega
theorem q61 {t:TypeId} {fs:Array Field} {Rs:List (List AV->Prop)} (h:P.underlying t=some (.struct fs)) (hn:fs.toList.length=Rs.length) (hR:∀ x ∈ fs.toList.zip Rs,iz P x.1.type x.2)
 (ho:Gp P 0 fs.toList=true) (hc:(fs.toList.map λ f=>P.cellsOf f.type).sum=P.cellsOf t):iz P t (fN Rs):=by
 intro H enc W base sp held fuel cs d ps ht;cases fuel with
 | zero=>cases ht
 | succ f =>
  have hlen:cs.length=P.cellsOf t /\ ∃ xs,fs.toList.mapM (λ g=>DataW.trod enc P W base sp held f g.type ((cs.drop g.offset).take (P.cellsOf g.type)))=some xs:=by
   simp only [DataW.trod,h] at ht;split at ht
   ·rename_i hl;obtain ⟨xs,hm,_⟩:=xr.1 ht;exact ⟨hl,xs,hm⟩
   ·cases ht
  obtain ⟨hl,xs,hm⟩:=hlen;rw [xd8 (Rs:=Rs) hn] at hm;have e1:((fs.toList.zip Rs).map λ x=>(x.1.type,x.1.offset,x.2)).map (λ f=>P.cellsOf f.1)=fs.toList.map λ f=>P.cellsOf f.type:=by
   rw [vu];have:((fs.toList.zip Rs).map λ x=>P.cellsOf x.1.type)=(fs.toList.zip Rs |>.map Prod.fst).map λ f=>P.cellsOf f.type:=by rw [vu];rfl
   rw [List.map_fst_zip (by omega)] at this;exact this
  have e2:((fs.toList.zip Rs).map λ x=>(x.1.type,x.1.offset,x.2)).map (·.2.2)=Rs:=by
   rw [vu];have:((fs.toList.zip Rs).map λ x=>x.2)=Rs:=by rw [List.map_snd_zip (by omega)]
   exact this
  obtain ⟨l,h1,h2⟩:=q07 enc W base sp held f (cs:=cs) (k:=0) (fs:=(fs.toList.zip Rs).map λ x=>(x.1.type,x.1.offset,x.2)) (λ g hg=>by
   obtain ⟨x,hx,rfl⟩:=DH.1 hg;exact hR x hx) (λ j g hg=>by
   simp only [xj,xr,List.getElem?_zip_eq_some] at hg;obtain ⟨x,⟨hx1,hx2⟩,rfl⟩:=hg;have:=q81 ho j x.1 hx1;rw [List.map_take,e1,<-List.map_take];exact this) hm (by rw [e1,hc,hl];omega)
  rw [e2] at h1;rw [e1,hc] at h2;exact ⟨l,h1,λ θ=>by rw [h2 θ,xq,xo (by omega)]⟩
end
end Go.Am
namespace Go.Am
open Go.RowKit
theorem Mo {W:World} {k o n:Nat} {cs:List Value} (hn:0<n) (h:W.cells? 0 ⟨k,o,none⟩ n=some cs):∃ arr e fz,W.heap[k]? = some (.cells arr e fz)/\cs=(arr.toList.drop o).take n/\o+n<=arr.size:=by
 unfold World.cells? at h;rw [qk (ja _)] at h;have hlen:=mapM_some_length h;have hget:=λ i (hi:i<n)=>mapM_some_get h i i (by simp [hi]);obtain ⟨c0,h0⟩:∃ c,W.cell? ⟨k,o,none⟩=some c:=by
  have:=hget 0 hn;have hl:0<cs.length:=by rw [hlen];simpa using hn
  exact ⟨cs[0],by simpa [Addr.add,hl] using this⟩
 obtain ⟨arr,e,fz,hh⟩:∃ arr e fz,W.heap[k]? = some (.cells arr e fz):=by
  unfold World.cell? at h0;split at h0
  ·rename_i arr e fz hh;exact ⟨arr,e,fz,hh⟩
  ·cases h0
 refine ⟨arr,e,fz,hh,?_,?_⟩
 ·refine Df λ i=>?_
  by_cases hi:i<n
  ·have:=hget i hi;rw [o7,FG hh] at this;rw [vx,qk hi,vw];rw [<-z5] at this;exact this.symm
  ·rw [je (by rw [hlen];simp;omega),je (by simp;omega)]
 ·have:=hget (n-1) (by omega);rw [o7,FG hh] at this;have hl:n-1<cs.length:=by rw [hlen];simp;omega
  rw [za hl] at this;have:=(js.1 this).1;omega
theorem qws {α:Type} {L:List α} {size:Nat}:∀ {cs:List (List α)} {o:Nat},(∀ (i:Nat) c,cs[i]? = some c->c=(L.drop (o+i*size)).take size/\c.length=size)->cs.flatten=(L.drop o).take (cs.length*size)
 | [],o,_=>by simp
 | c::cs,o,h=>by
  obtain ⟨h1,h2⟩:=h 0 c rfl;rw [oJ,jv] at h1;have ih:=qws (cs:=cs) (o:=o+size) λ i d hd=>by
   have:=h (i+1) d (by simpa using hd);rw [show o+size+i*size=o+(i+1)*size from by rw [qI];omega];exact this
  rw [Kl,ih,qn,qI,Dc (cs.length*size),List.take_add,Co,<-h1]
section
variable {P:Program}
def PU (R:List AV->Prop) (size:Nat) (H:AHeap) (u:AV):Prop:=∃ ls:List (List AV),(∀ l ∈ ls,R l/\l.length=size)/\Sl H size u ls.length ls.flatten
theorem PU.em {R:List AV->Prop} {size:Nat} {H H':AHeap} {u:AV} (h:PU R size H u) (f:Fr Em H H'):PU R size H' u:=by
 obtain ⟨ls,h1,h2⟩:=h;exact ⟨ls,h1,h2.em f⟩
theorem Step.bare {W:World} {θ:Th} {n:Nat} {gl:GL} (h:Good W θ n gl) (k off:Nat):Step W θ n gl (θ.add n k off 0) (n+1) gl:=by
 have hag:Ag (Lt n) θ (θ.add n k off 0):=θ.eR n k off 0 (Cx n);have hd:∀ b,Lt n b->Lt (n+1) b:=λ b hb=>FC hb;refine ⟨AR n,hag,λ b l' hm=>?_,λ b hb=>rfl⟩;obtain ⟨h1,pre,cs,post,e,fz,h2,h3,h4⟩:=h b l' hm;obtain ⟨q1,q2,_⟩:=hag b h1;exact ⟨FC h1,pre,cs,post,e,fz,by rw [q1];exact h2,by rw [q2];exact h3,h4.up hag hd⟩
end
end Go.Am
namespace Go.Am
open Go.RowKit Go.ChangeShapes Go.WideShapes Go.ChangeAt
section
variable {P:Program}
theorem AK {W:World} {r:Reach} {base:Nat} {t:TypeId} {v:Value} {k:IntKind} (ht:P.underlying t=some (.int k)) (h:Value.okWide P W r base t v):∃ n,v=.int k n/\k.has n:=by
 unfold Value.okWide at h;rw [ht] at h;simp only [Cell.okWide,ht] at h;unfold Cell.ok at h;rw [ht] at h;split at h<;>first|exact h.elim|skip
 all_goals first|(simp_all;done) | skip
 all_goals
  rename_i h1;simp_all
theorem A7 {W:World} {r:Reach} {base:Nat} {t:TypeId} {v:Value} (ht:(∃ fs,P.underlying t=some (.struct fs)) \/ ∃ n e,P.underlying t=some (.array n e)) (h:Value.okWide P W r base t v):∃ cs:Array Value,v=.agg cs:=by
 unfold Value.okWide at h;rcases ht with ⟨fs,ht⟩|⟨n,e,ht⟩
 ·rw [ht] at h;obtain ⟨cs,h,_⟩:=h;exact ⟨cs,h⟩
 ·rw [ht] at h;obtain ⟨cs,h,_⟩:=h;exact ⟨cs,h⟩
theorem qp4 {W:World} {r:Reach} {base:Nat} {t e:TypeId} {v:Value} (ht:P.underlying t=some (.slice e)) (h:Value.okWide P W r base t v):v.cells.toList=[v]:=by
 unfold Value.okWide at h;rw [ht] at h;cases v with
 | agg cs =>
  simp only [Cell.okWide,ht] at h;unfold Cell.ok at h;rw [ht] at h;exact h.elim
 | _=>rfl
theorem Jc {H:Type} {enc:TypeId × Value->H} {W:World} {b:Nat} {sp:Nat->Bool} {held:Bool} {t:TypeId} {ts:List TypeId} {vs:List Value} {ds:List (DataW H)} {ps:List MemPlace} (h:DataW.TrodAll enc P W b sp held (t::ts) vs ds ps) :
 ∃ v vs' d ds' p q fuel,vs=v::vs'/\ds=d::ds'/\DataW.trod enc P W b sp held fuel t v.cells.toList=some (d,p)/\DataW.TrodAll enc P W b sp held ts vs' ds' q:=by
 cases vs with
 | nil=>exact h.elim
 | cons v vs =>
  cases ds with
  | nil=>exact h.elim
  | cons d ds=>obtain ⟨p,q,⟨fuel,h1⟩,h2,_⟩:=h;exact ⟨v,vs,d,ds,p,q,fuel,rfl,rfl,h1,h2⟩
theorem uh {H:Type} {enc:TypeId × Value->H} {W:World} {b:Nat} {sp:Nat->Bool} {held:Bool} {vs:List Value} {ds:List (DataW H)} {ps:List MemPlace} (h:DataW.TrodAll enc P W b sp held [] vs ds ps):vs=[]/\ds=[]:=by
 cases vs with
 | cons v vs=>exact h.elim
 | nil =>
  cases ds with
  | cons d ds=>exact h.elim
  | nil=>exact ⟨rfl,rfl⟩
noncomputable def aO.plain (P:Program):aO:=⟨ak P,λ _ _ _ _=>none,λ _=>false,λ _ _ _ _ _=>rfl⟩
theorem xba (hP:db P) {M:aO} (hM:M.prog=ak P) (ht:lY P 0 M.told) (htm:jY M.told) {W:World} {θ:Th} {n:Nat} {gl:GL} (h:HR P 0 (Lt n) θ (yp gl n) W) {f:Nat} {vs:List AV} {args:Array Value} (hv:bG (Lt n) θ vs args.toList) {H':AHeap}
 (hc:CALL M f vs (yp gl n) (.ret (.bool true)) H'):Calls P f args W λ e w'=>e=.returned (.bool true)/\Below W.heap.size W w':=by
 obtain ⟨m,hr⟩:=hc.wN;simp only [aO.call,hM] at hr;intro cs;obtain ⟨_,θ',w',cs',fr,e',g1,g2,g3,g4,g5,g6,g7,g8,g9,g10⟩ :=
  Ps hP (λ rt hAP hc hr' hcm hrm=>q04 hP hAP hc hr' hcm hrm) ht htm m (Lt n) θ (yp gl n) W f vs args none H' (.ret (.bool true)) none .normal cs h hv rfl hr
   (λ b h1 h2 hb=>by have h1:n<=b:=h1;have hb:b<n:=hb;omega)
 have hcs:cs'=cs:=g9;subst hcs;cases e' with
 | returned c =>
  have g5:VR _ θ' (.bool true) c:=g5;exact ⟨.returned c,w',fr,⟨by rw [<-g5.now];rfl,g7.below (K0 _ _)⟩,g1,g3,Lo g4 g2⟩
 | panicked _=>exact g5.elim
 | outgrown=>exact g5.elim
theorem qu3 {H:Type} {enc:TypeId × Value->H} (hl:laidOutB P=true) {W W':World} {sp:Nat->Bool}:∀ {ts:List TypeId} {vs:List Value} {ds:List (DataW H)} {ps:List MemPlace},
 (∀ t ∈ ts,P.readableRec t=true/\t<P.types.size)->DataW.TrodAll enc P W 0 (λ _=>true) true ts vs ds ps->Below W.heap.size W W'->(∀ x ∈ ps,x.block<W.heap.size)->(∀ x ∈ ps,sp x.block=true) ->
 DataW.TrodAll enc P W' 0 sp true ts vs ds ps
 | [],[],[],ps,_,h,_,_,_=>h
 | t::ts,v::vs,d::ds,ps,ht,⟨p,q,h1,h2,e⟩,hb,aT,hs=>by
  subst e;exact ⟨p,q,WideElems.Trod_stays hl (ht t (by simp)).1 (ht t (by simp)).2 h1 (λ x hx=>hb.same (aT x (by simp [hx]))) (λ x hx=>hs x (by simp [hx])),
   qu3 hl (λ t h=>ht t (by simp [h])) h2 hb (λ x hx=>aT x (by simp [hx])) (λ x hx=>hs x (by simp [hx])),rfl⟩
 | [],_::_,_,_,_,h,_,_,_=>h.elim
 | [],[],_::_,_,_,h,_,_,_=>h.elim
 | _::_,[],_,_,_,h,_,_,_=>h.elim
 | _::_,_::_,[],_,_,h,_,_,_=>h.elim
theorem q3j {H:Type} {enc:TypeId × Value->H} {f:Nat} {fn:Func} {s:ChangeSpec} {tb:TypeId} (hl:laidOutB P=true) (hread:∀ t ∈ fn.params.toList,P.readableRec t=true/\t<P.types.size) (hsv:s.vars=[])
 (hfn:∀ ds:List (DataW H),ds.length=fn.params.size->s.fn H ds = { results:=[.lit (.bool true)],args:=ds }) (hrt:fn.resultTypes = #[tb]) (htb:P.underlying tb=some .bool)
 {W:World} {args:Array Value} {ds gs:List (DataW H)} {before:List MemPlace} {apart fresh handsOn again:Bool}
 (hW:DataW.Whole enc P fn.params.toList s.vars apart W args.toList ds gs before) (hrun:Calls P f args W λ e w'=>e=.returned (.bool true)/\Below W.heap.size W w') :
 Calls P f args W λ e W'=>∃ v,e=.returned v/\s.post enc P fn apart fresh handsOn again W args v W':=by
 have aT:∀ p ∈ before,p.block<W.heap.size:=hW.lt;have hW':=hW;obtain ⟨p,q,hA,hV,rfl,hfz,hnd⟩:=hW;rw [hsv] at hV;obtain ⟨rfl,rfl⟩:=trodVars_none hV;have hlen:ds.length=fn.params.size:=by
  have:∀ {ts:List TypeId} {vs:List Value} {ds:List (DataW H)} {ps:List MemPlace},DataW.TrodAll enc P W 0 (λ _=>true) true ts vs ds ps->ds.length=ts.length:=by
   intro ts
   induction ts with
   | nil=>intro vs ds ps h;cases vs<;>cases ds<;>first|rfl|exact h.elim
   | cons t ts ih =>
    intro vs ds ps h;cases vs with
    | nil=>exact h.elim
    | cons v vs =>
     cases ds with
     | nil=>exact h.elim
     | cons d ds=>obtain ⟨p,q,_,h2,_⟩:=h;simp [ih h2]
  rw [this hA];simp
 refine hrun.mono λ e W' ⟨he,hg⟩=>?_;subst he;refine ⟨_,rfl,q3k (pa:=p) (pv:=[]) hW' (λ _ _ _=>?_) (λ sp hs=>?_) (λ _ _=>?_) rfl hg ?_⟩
 ·rw [hrt,kh,hfn ds hlen];exact trodAll_cons_mk (shut_bool htb _) trodAll_mk0
 ·rw [kh,hfn ds hlen];exact qu3 hl hread hA hg (λ x hx=>aT x (by simp [hx])) (λ x hx=>hs x (by simp [hx]))
 ·rw [hsv,kh,hfn ds hlen];rfl
 ·exact ok_one hrt rfl (okWide_bool_mk htb _)
end
end Go.Am
namespace Go.Am
open Go.RowKit
section
variable {P:Program}
def OI (P:Program) (t:TypeId) (R:AHeap->List AV->Prop):Prop :=
 (∀ H H' l,R H l->Fr Em H H'->R H' l) /\ ∀ {Hh:Type} (enc:TypeId × Value->Hh) (W:World) (held:Bool) (fuel:Nat) (cs:List Value) (d:DataW Hh) (ps:List MemPlace),
  DataW.trod enc P W 0 (λ _=>true) held fuel t cs=some (d,ps) -> ∀ (θ:Th) (n:Nat) (gl:GL),Good W θ n gl -> ∃ θ' n' gl' l,Step W θ n gl θ' n' gl'/\bG (Lt n') θ' l cs/\R (yp gl' n') l
theorem OD {t:TypeId} {R:List AV->Prop} (h:iz P t R):OI P t λ _ l=>R l :=
 ⟨λ _ _ _ h _=>h,λ enc W held fuel cs d ps ht θ n gl hg=>by
  obtain ⟨l,h1,h2⟩:=h enc W 0 _ held fuel cs d ps ht;exact ⟨θ,n,gl,l,Step.refl hg,λ θ' _=>h2 θ',h1⟩⟩
def Kg (R:AHeap->List AV->Prop) (size:Nat) (H:AHeap) (u:AV):Prop:=∃ ls:List (List AV),(∀ l ∈ ls,R H l/\l.length=size)/\Sl H size u ls.length ls.flatten/\(u=.nils\/dK u<H.next)
theorem Kg.em {R:AHeap->List AV->Prop} (hm:∀ H H' l,R H l->Fr Em H H'->R H' l) {size:Nat} {H H':AHeap} {u:AV} (h:Kg R size H u) (f:Fr Em H H'):Kg R size H' u:=by
 obtain ⟨ls,h1,h2,h3⟩:=h;exact ⟨ls,λ l hl=>⟨hm _ _ _ (h1 l hl).1 f,(h1 l hl).2⟩,h2.em f,h3.imp id λ q=>qe q f.next⟩
def ny:Option Nat->Nat
 | none=>0
 | some z=>z+1
theorem xC (s:Option Nat):wI (ny s)=s:=by cases s<;>rfl
theorem Step.Ke {W:World} {θ:Th} {n:Nat} {gl:GL} (h:Good W θ n gl) (k off ext:Nat):Step W θ n gl (θ.add n k off ext) (n+1) gl:=by
 have hag:Ag (Lt n) θ (θ.add n k off ext):=θ.eR n k off ext (Cx n);have hd:∀ b,Lt n b->Lt (n+1) b:=λ b hb=>FC hb;refine ⟨AR n,hag,λ b l' hm=>?_,λ b hb=>rfl⟩;obtain ⟨h1,pre,cs,post,e,fz,h2,h3,h4⟩:=h b l' hm;obtain ⟨q1,q2,_⟩:=hag b h1;exact ⟨FC h1,pre,cs,post,e,fz,by rw [q1];exact h2,by rw [q2];exact h3,h4.up hag hd⟩
theorem quz {W:World} {a:Addr} {n:Nat} {cs:List Value} (hn:0<n) (h:W.cells? 0 a n=some cs):a.spot=none:=by
 unfold World.cells? at h;rw [qk (ja _)] at h;have:=mapM_some_get h 0 0 (by simp [hn]);have hl:0<cs.length:=by rw [mapM_some_length h];simpa using hn
 rw [za hl] at this;exact World.cell?_spot (by simpa [Addr.add] using this)
end
end Go.Am
namespace Go.Am
open Go.RowKit
section
variable {P:Program}
theorem xas {t e:TypeId} {n:Nat} {R:List AV->Prop} (h:P.underlying t=some (.array n e)) (hR:iz P e R) (hc:n*P.cellsOf e=P.cellsOf t):iz P t (fN (List.replicate n R)):=by
 intro H enc W base sp held fuel cs d ps ht;cases fuel with
 | zero=>cases ht
 | succ f =>
  have hlen:cs.length=P.cellsOf t /\ ∃ xs,(List.range n).mapM (λ i=>DataW.trod enc P W base sp held f e ((cs.drop (i*P.cellsOf e)).take (P.cellsOf e)))=some xs:=by
   simp only [DataW.trod,h] at ht;split at ht
   ·rename_i hl;obtain ⟨xs,hm,_⟩:=xr.1 ht;exact ⟨hl,xs,hm⟩
   ·cases ht
  obtain ⟨hl,xs,hm⟩:=hlen;have hel:∀ i,i<n -> ∃ x,DataW.trod enc P W base sp held f e ((cs.drop (i*P.cellsOf e)).take (P.cellsOf e))=some x:=λ i hi=>by
   have hl:=mapM_some_length hm;have:=mapM_some_get hm i i (by rw [List.getElem?_range hi]);have hi':i<xs.length:=by rw [hl];simpa using hi
   rw [za hi'] at this;exact ⟨_,this⟩
  have key:∀ (m k:Nat),k+m=n -> ∃ l,fN (List.replicate m R) l /\ ∀ θ,bM θ l=cs.drop (k*P.cellsOf e):=by
   intro m
   induction m with
   | zero =>
    intro k hk;refine ⟨[],rfl,λ θ=>?_⟩;rw [kc (by rw [hl,<-hc,show k=n by omega];exact qf _)];simp [bM]
   | succ m ih =>
    intro k hk;obtain ⟨x,hx⟩:=hel k (by omega);obtain ⟨a,ha,hca⟩:=hR enc W base sp held f _ x.1 x.2 hx;obtain ⟨b,hb,hcb⟩:=ih (k+1) (by omega);refine ⟨a++b,⟨a,b,rfl,ha,hb⟩,λ θ=>?_⟩;rw [kT,Ce,<-kT,<-kT,hca,hcb,qI,<-Co,BC]
  obtain ⟨l,h1,h2⟩:=key n 0 (by omega);exact ⟨l,h1,λ θ=>by rw [h2 θ,oJ,xq]⟩
theorem vW {α:Type} {enc:α->List AV} {R:AHeap->List AV->Prop} {Q:α->Prop} {size:Nat} {H:AHeap} {u:AV} (hR:∀ l,R H l -> ∃ x,l=enc x/\Q x) (h:Kg R size H u):∃ xs:List α,cU enc size H u xs /\ ∀ x ∈ xs,Q x:=by
 obtain ⟨ls,h1,h2,_⟩:=h;have:∀ ls:List (List AV),(∀ l ∈ ls,R H l) -> ∃ xs:List α,ls=xs.map enc /\ ∀ x ∈ xs,Q x:=by
  intro ls
  induction ls with
  | nil=>exact λ _=>⟨[],rfl,by simp⟩
  | cons l ls ih =>
   intro h;obtain ⟨xs,q1,q2⟩:=ih λ l hl=>h l (by simp [hl]);obtain ⟨x,q3,q4⟩:=hR l (h l (by simp));refine ⟨x::xs,by rw [q3,q1];rfl,λ c hc=>?_⟩;rcases x8.1 hc with rfl|hc
   ·exact q4
   ·exact q2 c hc
 obtain ⟨xs,q1,q2⟩:=this ls λ l hl=>(h1 l hl).1;refine ⟨xs,?_,q2⟩;subst q1;rw [vo] at h2;unfold cU;have e:(xs.map enc).flatten=xs.flatMap enc:=by rw [List.flatMap_def]
 rw [<-e];exact h2
theorem q8s {t:TypeId} {R:List AV->Prop} (hR:iz P t R) (ha:(∃ fs,P.underlying t=some (.struct fs)) \/ ∃ n e,P.underlying t=some (.array n e)) {H:Type} {enc:TypeId × Value->H} {W:World} {r:Reach} {base b2:Nat} {sp:Nat->Bool} {held:Bool} {fuel:Nat} {v:Value} {d:DataW H} {ps:List MemPlace}
 (hv:Value.okWide P W r b2 t v) (h:DataW.trod enc P W base sp held fuel t v.cells.toList=some (d,ps)):∃ l,R l /\ ∀ D θ,VR D θ (.agg l) v:=by
 obtain ⟨cs,rfl⟩:=A7 ha hv;obtain ⟨l,h1,h2⟩:=hR enc W base sp held fuel _ d ps h;refine ⟨l,h1,λ D θ=>?_⟩;have hc:∀ θ,bM θ l=cs.toList:=h2;have:=VR.agg (D:=D) (θ:=θ) (l:=l) (cs:=cs.toList) (λ θ' _=>hc θ')
 simpa using this
end
end Go.Am
namespace Go.Am
variable {P:Program}
end Go.Am
namespace Go.Am
open Go.RowKit
variable {P:Program}
theorem Km {tp:TypeId} {w:World} {laid:List (String × DataW Unit)} (hn:vG laid=true) (h:laidMet P laid w) :
 ∃ θ:Th,(∀ g,g<P.globals.size -> θ.aN g=g /\ θ.off g=0)/\Good w θ (P.globals.size+laid.length) (rowsOf P tp P.globals.size laid):=mJ h (λ x hx=>⟨default,λ g t s h1 h2 h3=>by
  have:=yP.1 hn x hx;rw [h3] at this;cases this⟩)
theorem I3 {tp:TypeId} (hT:AA P tp) {w:World} {laid:List (String × DataW Unit)} (h:laidMet P laid w) :
 ∃ θ:Th,(∀ g,g<P.globals.size -> θ.aN g=g /\ θ.off g=0)/\Good w θ (P.globals.size+laid.length) (rowsOf P tp P.globals.size laid):=mJ h (λ x hx=>xew hT h hx)
theorem xau {W:World} {θL θ:Th} {n0 n:Nat} {lG gl:GL} (hn:P.globals.size<=n0) (hg:∀ g,g<P.globals.size -> θL.aN g=g /\ θL.off g=0) (h:Step W θL n0 lG θ n gl):HR P 0 (Lt n) θ (yp gl n) W :=
 HR.pq (ja _) (xz hn h.le) (λ g aT=>by obtain ⟨q1,q2,_⟩:=h.ag g (qe aT hn);obtain ⟨r1,r2⟩:=hg g aT;exact ⟨q1.trans r1,q2.trans r2⟩) h.bC
def td (L:List dP):List Nat:=L.map λ e=>e.f
theorem q06 {gl:List (Nat × List AV)} {H:AHeap} {f:Nat} {vs:List AV}:∀ {L:List dP},cA f (td L)=false->jO gl H f vs L=none
 | [],_=>rfl
 | e::L,h=>by
  have h:cond (Nat.beq e.f f) true (cA f (td L))=false:=h;cases hb:Nat.beq e.f f with
  | true=>rw [hb] at h;cases h
  | false =>
   rw [hb] at h;have:Nat.beq f e.f=false:=by
    cases hc:Nat.beq f e.f with
    | false=>rfl
    | true=>rw [HX hc] at hb;simp at hb
   simp only [jO,this,Bool.false_and,xa];exact q06 h
noncomputable def aO.tell (P:Program) (gl:List (Nat × List AV)) (L:List dP):aO:=⟨ak P,iL gl L,λ f=>cA f (td L),λ f vs up H h=>by
 cases up with
 | none=>exact q06 h
 | some _=>rfl⟩
theorem aO.rG {gl:List (Nat × List AV)} {L:List dP} {n:Nat} (h:cA n (td L)=false):(aO.tell P gl L).func n=(ak P).func n:=by
 show cond (cA n (td L)) none _=_;rw [h];rfl
theorem xcz {gl:List (Nat × List AV)} {f:Nat} {v:AV} {H:AHeap} (hr:dz H gl=true):ye (aO.tell P gl [⟨f,[],v⟩]) f [] H λ w H'=>w=v/\H'=H:=by
 have h:iL gl [⟨f,[],v⟩] f [] none H=some (.ret v,none,H):=by
  show jO gl H f [] [⟨f,[],v⟩]=_;have e:Nat.beq f f=true:=by simp
  simp only [jO,e,hr,ie,kp,ql]
 refine ye.intro (v:=v) (H':=H) ⟨0,λ n _=>?_⟩ ⟨rfl,rfl⟩;cases n with
 | zero=>exact h
 | succ n =>
  show (match iL gl [⟨f,[],v⟩] f [] none H with|some r=>some r|none=>_)=_;rw [h]
theorem q08 {n:Nat} {H H':AHeap}:∀ {gl:List (Nat × List AV)},fW n gl=true->(∀ b,b<n->H'.get b=H.get b)->dz H gl=true->dz H' gl=true
 | [],_,_,_=>rfl
 | (b,l)::r,hok,hk,h=>by
  simp only [fW,qx,mW] at hok;simp only [dz,qx] at h ⊢;rw [hk b hok.1.1];exact ⟨h.1,q08 hok.2 hk h.2⟩
theorem vV (hP:db P) {lG:List (Nat × List AV)} {n0:Nat} {L:List dP} (hn:P.globals.size<=n0) (hok:fW n0 lG=true) (hL:∀ e ∈ L,vS 0 e.args=true/\mH P lG n0 e)
 {W:World} {θ:Th} {n:Nat} {gl:GL} (h:HR P 0 (Lt n) θ (yp gl n) W) {f:Nat} {vs:List AV} {args:Array Value} (hv:bG (Lt n) θ vs args.toList)
 (hc:ye (aO.tell P lG L) f vs (yp gl n) λ v _=>v=.bool true):Calls P f args W λ e w'=>e=.returned (.bool true)/\Below W.heap.size W w':=by
 obtain ⟨v,H',hc,rfl⟩:=hc.elim;exact xba hP (M:=aO.tell P lG L) rfl (qw8 hn hok hL) q0a h hv hc
end Go.Am
