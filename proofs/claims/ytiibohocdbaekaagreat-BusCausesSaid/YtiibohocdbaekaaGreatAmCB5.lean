/- B5: Args Args2 Args3 Args4 Args5 Args6 ToldM. -/
import Derived.Test.YtiibohocdbaekaaGreatAmCB3
import Derived.Test.YtiibohocdbaekaaGreatAmCB4
import Derived.Carry
set_option linter.unusedVariables false
set_option linter.unusedSimpArgs false
namespace Go.Am
open Go.RowKit
abbrev GL:=List (Nat × List AV)
def Good (W:World) (θ:Th) (n:Nat) (gl:GL):Prop :=
 ∀ b l,(b,l) ∈ gl->b<n /\ ∃ pre cs post e fz,W.heap[θ.bz b]? = some (.cells (pre++cs++post).toArray e fz)/\pre.length = θ.off b/\bt (Lt n) θ l cs
structure Step (W:World) (θ:Th) (n:Nat) (gl:GL) (θ':Th) (n':Nat) (gl':GL):Prop where
 le:n<=n'
 ag:Ag (Lt n) θ θ'
 bZ:Good W θ' n' gl'
 ah:∀ b,b<n->(An gl' .nil).get b=(An gl .nil).get b
theorem Step.refl {W:World} {θ:Th} {n:Nat} {gl:GL} (h:Good W θ n gl):Step W θ n gl θ n gl:=⟨qf n,Ag.refl _ _,h,λ _ _=>rfl⟩
theorem Step.trans {W:World} {θ θ' θ'':Th} {n n' n'':Nat} {gl gl' gl'':GL} (a:Step W θ n gl θ' n' gl') (b:Step W θ' n' gl' θ'' n'' gl''):Step W θ n gl θ'' n'' gl'' :=
 ⟨xj a.le b.le,a.ag.trans b.ag λ x hx=>qk hx a.le,b.bZ,λ x hx=>by rw [b.ah x (qk hx a.le),a.ah x hx]⟩
theorem Step.fr {W:World} {θ θ':Th} {n n':Nat} {gl gl':GL} (a:Step W θ n gl θ' n' gl'):Fr Em (vd gl n) (vd gl' n'):=⟨a.le,λ b hb _=>a.ah b hb⟩
theorem Step.row {W:World} {θ:Th} {n:Nat} {gl:GL} (h:Good W θ n gl) {k off:Nat} {l:List AV} {pre cs post:List Value} {e:TypeId} {fz:Nat × Nat} (hk:W.heap[k]? = some (.cells (pre++cs++post).toArray e fz)) (hp:pre.length=off) (hv:bt (Lt n) θ l cs) :
 Step W θ n gl (θ.add n k off 0) (n+1) ((n,l)::gl):=by
 have hag:Ag (Lt n) θ (θ.add n k off 0):=θ.eD n k off 0 (Ai n);have hd:∀ b,Lt n b->Lt (n+1) b:=λ b hb=>F9 hb;refine ⟨j5 n,hag,λ b l' hm=>?_,λ b hb=>?_⟩
 ·rcases zr.1 hm with hm|hm
  ·injection hm with h1 h2;subst h1;subst h2
   obtain ⟨q1,q2,_⟩:=θ.c9 b k off 0;exact ⟨ze b,pre,cs,post,e,fz,by rw [q1];exact hk,by rw [q2];exact hp,hv.up hag hd⟩
  ·obtain ⟨h1,pre,cs,post,e,fz,h2,h3,h4⟩:=h b l' hm;obtain ⟨q1,q2,_⟩:=hag b h1;exact ⟨F9 h1,pre,cs,post,e,fz,by rw [q1];exact h2,by rw [q2];exact h3,h4.up hag hd⟩
 ·rw [An,T.aE,qg (by omega)]
section
variable {P:Program}
def iM (P:Program) (t:TypeId) (R:List AV->Prop):Prop :=
 ∀ {H:Type} (enc:TypeId × Value->H) (W:World) (base:Nat) (sp:Nat->Bool) (held:Bool) (fuel:Nat) (cs:List Value) (d:DataW H) (ps:List MemPlace),
  DataW.trod enc P W base sp held fuel t cs=some (d,ps) -> ∃ l,R l /\ ∀ θ,br θ l=cs
def fQ (k:IntKind) (l:List AV):Prop:=∃ n,l=[.int k n]/\(Lit.int k n).wf=true
def gR:List (List AV->Prop)->List AV->Prop
 | [],l=>l=[]
 | R::Rs,l=>∃ a b,l=a++b/\R a/\gR Rs b
theorem Gu {t:TypeId} {k:IntKind} (h:P.underlying t=some (.int k)):iM P t (fQ k):=by
 intro H enc W base sp held fuel cs d ps ht;cases fuel with
 | zero=>cases ht
 | succ f =>
  simp only [DataW.trod,h] at ht;split at ht<;>first|(cases ht;done) | skip
  all_goals first|(simp_all;done) | skip
  ·rename_i k2 n2 e1 e2;injection e2 with e2;injection e2 with e2;subst e2
   split at ht
   ·rename_i hw;obtain ⟨rfl,hw⟩:=hw;exact ⟨_,⟨_,rfl,hw⟩,λ θ=>rfl⟩
   ·cases ht
theorem qu0 {H:Type} (enc:TypeId × Value->H) (W:World) (base:Nat) (sp:Nat->Bool) (held:Bool) (fuel:Nat) {cs:List Value}:∀ {fs:List (TypeId × Nat × (List AV->Prop))} {k:Nat} {xs:List (DataW H × List MemPlace)},
 (∀ f ∈ fs,iM P f.1 f.2.2)->(∀ (j:Nat) f,fs[j]? = some f->f.2.1=k+((fs.take j).map λ f=>P.cellsOf f.1).sum) ->
 fs.mapM (λ f=>DataW.trod enc P W base sp held fuel f.1 ((cs.drop f.2.1).take (P.cellsOf f.1)))=some xs ->
 k+(fs.map λ f=>P.cellsOf f.1).sum<=cs.length ->
 ∃ l,gR (fs.map (·.2.2)) l /\ ∀ θ,br θ l=(cs.drop k).take ((fs.map λ f=>P.cellsOf f.1).sum)
 | [],k,xs,_,_,_,_=>⟨[],rfl,λ θ=>by simp [br]⟩
 | f::fs,k,xs,hf,ho,hm,hl=>by
  simp only [List.mapM_cons,Option.bind_eq_bind,qb,Option.pure_def,qc] at hm;obtain ⟨y,hy,ys,hys,rfl⟩:=hm;have h0:f.2.1=k:=by have:=ho 0 f rfl;simpa using this
  obtain ⟨a,ha,hca⟩:=hf f (by simp) enc W base sp held fuel _ y.1 y.2 hy;simp only [kh,List.sum_cons] at hl;obtain ⟨b,hb,hcb⟩:=qu0 enc W base sp held fuel (cs:=cs) (fs:=fs) (k:=k+P.cellsOf f.1) (λ g hg=>hf g (by simp [hg])) (λ j g hg=>by
   have:=ho (j+1) g (by simpa using hg);simp only [List.take_succ_cons,kh,List.sum_cons] at this;omega) hys (by omega)
  refine ⟨a++b,⟨a,b,rfl,ha,hb⟩,λ θ=>?_⟩;rw [oP,Ef,<-oP,<-oP,hca,hcb,h0,kh,List.sum_cons,List.take_add,CZ]
theorem q6h {H:Type} {g:TypeId->List Value->Option (DataW H × List MemPlace)} {cs:List Value}:∀ {fs:List Field} {Rs:List (List AV->Prop)},fs.length=Rs.length ->
 fs.mapM (λ f=>g f.type ((cs.drop f.offset).take (P.cellsOf f.type)))=((fs.zip Rs).map λ x=>(x.1.type,x.1.offset,x.2)).mapM (λ f=>g f.1 ((cs.drop f.2.1).take (P.cellsOf f.1)))
 | [],[],_=>rfl
 | f::fs,R::Rs,h=>by simp only [List.zip_cons_cons,kh,List.mapM_cons,q6h (fs:=fs) (Rs:=Rs) (by simpa using h)]
def K7 (P:Program):Nat->List Field->Bool
 | _,[]=>true
 | k,f::fs=>Nat.beq f.offset k && K7 P (k+P.cellsOf f.type) fs
theorem vS {fs:List Field}:∀ {k:Nat},K7 P k fs=true -> ∀ (j:Nat) f,fs[j]? = some f->f.offset=k+((fs.take j).map λ f=>P.cellsOf f.type).sum:=by
 induction fs with
 | nil=>intro k _ j f h;simp at h
 | cons g fs ih =>
  intro k h j f hj;simp only [K7,xh,zp] at h;cases j with
  | zero=>simp at hj;subst hj;simpa using h.1
  | succ j =>
   have:=ih h.2 j f (by simpa using hj);simp only [List.take_succ_cons,kh,List.sum_cons];omega
theorem qsi {t:TypeId} {fs:Array Field} {Rs:List (List AV->Prop)} (h:P.underlying t=some (.struct fs)) (hn:fs.toList.length=Rs.length) (hR:∀ x ∈ fs.toList.zip Rs,iM P x.1.type x.2)
 (ho:K7 P 0 fs.toList=true) (hc:(fs.toList.map λ f=>P.cellsOf f.type).sum=P.cellsOf t):iM P t (gR Rs):=by
 intro H enc W base sp held fuel cs d ps ht;cases fuel with
 | zero=>cases ht
 | succ f =>
  have hlen:cs.length=P.cellsOf t /\ ∃ xs,fs.toList.mapM (λ g=>DataW.trod enc P W base sp held f g.type ((cs.drop g.offset).take (P.cellsOf g.type)))=some xs:=by
   simp only [DataW.trod,h] at ht;split at ht
   ·rename_i hl;obtain ⟨xs,hm,_⟩:=xe.1 ht;exact ⟨hl,xs,hm⟩
   ·cases ht
  obtain ⟨hl,xs,hm⟩:=hlen;rw [q6h (Rs:=Rs) hn] at hm;have e1:((fs.toList.zip Rs).map λ x=>(x.1.type,x.1.offset,x.2)).map (λ f=>P.cellsOf f.1)=fs.toList.map λ f=>P.cellsOf f.type:=by
   rw [td];have:((fs.toList.zip Rs).map λ x=>P.cellsOf x.1.type)=(fs.toList.zip Rs |>.map Prod.fst).map λ f=>P.cellsOf f.type:=by rw [td];rfl
   rw [List.map_fst_zip (by omega)] at this;exact this
  have e2:((fs.toList.zip Rs).map λ x=>(x.1.type,x.1.offset,x.2)).map (·.2.2)=Rs:=by
   rw [td];have:((fs.toList.zip Rs).map λ x=>x.2)=Rs:=by rw [List.map_snd_zip (by omega)]
   exact this
  obtain ⟨l,h1,h2⟩:=qu0 enc W base sp held f (cs:=cs) (k:=0) (fs:=(fs.toList.zip Rs).map λ x=>(x.1.type,x.1.offset,x.2)) (λ g hg=>by
   obtain ⟨x,hx,rfl⟩:=DD.1 hg;exact hR x hx) (λ j g hg=>by
   simp only [xg,xe,List.getElem?_zip_eq_some] at hg;obtain ⟨x,⟨hx1,hx2⟩,rfl⟩:=hg;have:=vS ho j x.1 hx1;rw [List.map_take,e1,<-List.map_take];exact this) hm (by rw [e1,hc,hl];omega)
  rw [e2] at h1;rw [e1,hc] at h2;exact ⟨l,h1,λ θ=>by rw [h2 θ,GP,zj (by omega)]⟩
end
end Go.Am
namespace Go.Am
open Go.RowKit
theorem MH {W:World} {k o n:Nat} {cs:List Value} (hn:0<n) (h:W.cells? 0 ⟨k,o,none⟩ n=some cs):∃ arr e fz,W.heap[k]? = some (.cells arr e fz)/\cs=(arr.toList.drop o).take n/\o+n<=arr.size:=by
 unfold World.cells? at h;rw [ql (xx _)] at h;have hlen:=mapM_some_length h;have hget:=λ i (hi:i<n)=>mapM_some_get h i i (by simp [hi]);obtain ⟨c0,h0⟩:∃ c,W.cell? ⟨k,o,none⟩=some c:=by
  have:=hget 0 hn;have hl:0<cs.length:=by rw [hlen];simpa using hn
  exact ⟨cs[0],by simpa [Addr.add,hl] using this⟩
 obtain ⟨arr,e,fz,hh⟩:∃ arr e fz,W.heap[k]? = some (.cells arr e fz):=by
  unfold World.cell? at h0;split at h0
  ·rename_i arr e fz hh;exact ⟨arr,e,fz,hh⟩
  ·cases h0
 refine ⟨arr,e,fz,hh,?_,?_⟩
 ·refine jp λ i=>?_
  by_cases hi:i<n
  ·have:=hget i hi;rw [rA,Iv hh] at this;rw [kc,ql hi,kq];rw [<-j6] at this;exact this.symm
  ·rw [xz (by rw [hlen];simp;omega),xz (by simp;omega)]
 ·have:=hget (n-1) (by omega);rw [rA,Iv hh] at this;have hl:n-1<cs.length:=by rw [hlen];simp;omega
  rw [qy hl] at this;have:=(jw.1 this).1;omega
theorem qpe {α:Type} {L:List α} {size:Nat}:∀ {cs:List (List α)} {o:Nat},(∀ (i:Nat) c,cs[i]? = some c->c=(L.drop (o+i*size)).take size/\c.length=size)->cs.flatten=(L.drop o).take (cs.length*size)
 | [],o,_=>by simp
 | c::cs,o,h=>by
  obtain ⟨h1,h2⟩:=h 0 c rfl;rw [yl,qh] at h1;have ih:=qpe (cs:=cs) (o:=o+size) λ i d hd=>by
   have:=h (i+1) d (by simpa using hd);rw [show o+size+i*size=o+(i+1)*size from by rw [yz];omega];exact this
  rw [Jo,ih,ky,yz,Nat.add_comm (cs.length*size),List.take_add,CZ,<-h1]
section
variable {P:Program}
def MM (R:List AV->Prop) (size:Nat) (H:AHeap) (u:AV):Prop:=∃ ls:List (List AV),(∀ l ∈ ls,R l/\l.length=size)/\Sl H size u ls.length ls.flatten
theorem MM.em {R:List AV->Prop} {size:Nat} {H H':AHeap} {u:AV} (h:MM R size H u) (f:Fr Em H H'):MM R size H' u:=by
 obtain ⟨ls,h1,h2⟩:=h;exact ⟨ls,h1,h2.em f⟩
theorem Step.bare {W:World} {θ:Th} {n:Nat} {gl:GL} (h:Good W θ n gl) (k off:Nat):Step W θ n gl (θ.add n k off 0) (n+1) gl:=by
 have hag:Ag (Lt n) θ (θ.add n k off 0):=θ.eD n k off 0 (Ai n);have hd:∀ b,Lt n b->Lt (n+1) b:=λ b hb=>F9 hb;refine ⟨j5 n,hag,λ b l' hm=>?_,λ b hb=>rfl⟩;obtain ⟨h1,pre,cs,post,e,fz,h2,h3,h4⟩:=h b l' hm;obtain ⟨q1,q2,_⟩:=hag b h1;exact ⟨F9 h1,pre,cs,post,e,fz,by rw [q1];exact h2,by rw [q2];exact h3,h4.up hag hd⟩
end
end Go.Am
namespace Go.Am
open Go.RowKit Go.ChangeShapes Go.WideShapes Go.ChangeAt
section
variable {P:Program}
theorem Ay {W:World} {r:Reach} {base:Nat} {t:TypeId} {v:Value} (ht:(∃ fs,P.underlying t=some (.struct fs)) \/ ∃ n e,P.underlying t=some (.array n e)) (h:Value.okWide P W r base t v):∃ cs:Array Value,v=.agg cs:=by
 unfold Value.okWide at h;rcases ht with ⟨fs,ht⟩|⟨n,e,ht⟩
 ·rw [ht] at h;obtain ⟨cs,h,_⟩:=h;exact ⟨cs,h⟩
 ·rw [ht] at h;obtain ⟨cs,h,_⟩:=h;exact ⟨cs,h⟩
theorem qru {W:World} {r:Reach} {base:Nat} {t e:TypeId} {v:Value} (ht:P.underlying t=some (.slice e)) (h:Value.okWide P W r base t v):v.cells.toList=[v]:=by
 unfold Value.okWide at h;rw [ht] at h;cases v with
 | agg cs =>
  simp only [Cell.okWide,ht] at h;unfold Cell.ok at h;rw [ht] at h;exact h.elim
 | _=>rfl
theorem qzk {H:Type} {enc:TypeId × Value->H} {W:World} {b:Nat} {sp:Nat->Bool} {held:Bool} {t:TypeId} {ts:List TypeId} {vs:List Value} {ds:List (DataW H)} {ps:List MemPlace} (h:DataW.TrodAll enc P W b sp held (t::ts) vs ds ps) :
 ∃ v vs' d ds' p q fuel,vs=v::vs'/\ds=d::ds'/\DataW.trod enc P W b sp held fuel t v.cells.toList=some (d,p)/\DataW.TrodAll enc P W b sp held ts vs' ds' q:=by
 cases vs with
 | nil=>exact h.elim
 | cons v vs =>
  cases ds with
  | nil=>exact h.elim
  | cons d ds=>obtain ⟨p,q,⟨fuel,h1⟩,h2,_⟩:=h;exact ⟨v,vs,d,ds,p,q,fuel,rfl,rfl,h1,h2⟩
theorem vF {H:Type} {enc:TypeId × Value->H} {W:World} {b:Nat} {sp:Nat->Bool} {held:Bool} {vs:List Value} {ds:List (DataW H)} {ps:List MemPlace} (h:DataW.TrodAll enc P W b sp held [] vs ds ps):vs=[]/\ds=[]:=by
 cases vs with
 | cons v vs=>exact h.elim
 | nil =>
  cases ds with
  | cons d ds=>exact h.elim
  | nil=>exact ⟨rfl,rfl⟩
noncomputable def aA.plain (P:Program):aA:=⟨aP P,λ _ _ _ _=>none,λ _=>false,λ _ _ _ _ _=>rfl⟩
theorem q3t (hP:cF P) {M:aA} (hM:M.prog=aP P) (ht:yw P 0 M.told) (htm:ve M.told) {W:World} {θ:Th} {n:Nat} {gl:GL} (h:HR P 0 (Lt n) θ (vd gl n) W) {f:Nat} {vs:List AV} {args:Array Value} (hv:bt (Lt n) θ vs args.toList) {H':AHeap}
 (hc:kB M f vs (vd gl n) (.ret (.bool true)) H'):Calls P f args W λ e w'=>e=.returned (.bool true)/\Below W.heap.size W w':=by
 obtain ⟨m,hr⟩:=hc.ub;simp only [aA.call,hM] at hr;intro cs;obtain ⟨_,θ',w',cs',fr,e',g1,g2,g3,g4,g5,g6,g7,g8,g9,g10⟩ :=
  MT hP (λ rt hAP hc hr' hcm hrm=>quv hP hAP hc hr' hcm hrm) ht htm m (Lt n) θ (vd gl n) W f vs args none H' (.ret (.bool true)) none .normal cs h hv rfl hr
   (λ b h1 h2 hb=>by have h1:n<=b:=h1;have hb:b<n:=hb;omega)
 have hcs:cs'=cs:=g9;subst hcs;cases e' with
 | returned c =>
  have g5:VR _ θ' (.bool true) c:=g5;exact ⟨.returned c,w',fr,⟨by rw [<-g5.now];rfl,g7.below (Kh _ _)⟩,g1,g3,K6 g4 g2⟩
 | panicked _=>exact g5.elim
 | outgrown=>exact g5.elim
theorem qnw {H:Type} {enc:TypeId × Value->H} (hl:laidOutB P=true) {W W':World} {sp:Nat->Bool}:∀ {ts:List TypeId} {vs:List Value} {ds:List (DataW H)} {ps:List MemPlace},
 (∀ t ∈ ts,P.readableRec t=true/\t<P.types.size)->DataW.TrodAll enc P W 0 (λ _=>true) true ts vs ds ps->Below W.heap.size W W'->(∀ x ∈ ps,x.block<W.heap.size)->(∀ x ∈ ps,sp x.block=true) ->
 DataW.TrodAll enc P W' 0 sp true ts vs ds ps
 | [],[],[],ps,_,h,_,_,_=>h
 | t::ts,v::vs,d::ds,ps,ht,⟨p,q,h1,h2,e⟩,hb,hlt,hs=>by
  subst e;exact ⟨p,q,WideElems.Trod_stays hl (ht t (by simp)).1 (ht t (by simp)).2 h1 (λ x hx=>hb.same (hlt x (by simp [hx]))) (λ x hx=>hs x (by simp [hx])),
   qnw hl (λ t h=>ht t (by simp [h])) h2 hb (λ x hx=>hlt x (by simp [hx])) (λ x hx=>hs x (by simp [hx])),rfl⟩
 | [],_::_,_,_,_,h,_,_,_=>h.elim
 | [],[],_::_,_,_,h,_,_,_=>h.elim
 | _::_,[],_,_,_,h,_,_,_=>h.elim
 | _::_,_::_,[],_,_,h,_,_,_=>h.elim
theorem qw1 {H:Type} {enc:TypeId × Value->H} {f:Nat} {fn:Func} {s:ChangeSpec} {tb:TypeId} (hl:laidOutB P=true) (hread:∀ t ∈ fn.params.toList,P.readableRec t=true/\t<P.types.size) (hsv:s.vars=[])
 (hfn:∀ ds:List (DataW H),ds.length=fn.params.size->s.fn H ds = { results:=[.lit (.bool true)],args:=ds }) (hrt:fn.resultTypes = #[tb]) (htb:P.underlying tb=some .bool)
 {W:World} {args:Array Value} {ds gs:List (DataW H)} {before:List MemPlace} {apart fresh handsOn again:Bool}
 (hW:DataW.Whole enc P fn.params.toList s.vars apart W args.toList ds gs before) (hrun:Calls P f args W λ e w'=>e=.returned (.bool true)/\Below W.heap.size W w') :
 Calls P f args W λ e W'=>∃ v,e=.returned v/\s.post enc P fn apart fresh handsOn again W args v W':=by
 have hlt:∀ p ∈ before,p.block<W.heap.size:=hW.lt;have hW':=hW;obtain ⟨p,q,hA,hV,rfl,hfz,hnd⟩:=hW;rw [hsv] at hV;obtain ⟨rfl,rfl⟩:=trodVars_none hV;have hlen:ds.length=fn.params.size:=by
  have:∀ {ts:List TypeId} {vs:List Value} {ds:List (DataW H)} {ps:List MemPlace},DataW.TrodAll enc P W 0 (λ _=>true) true ts vs ds ps->ds.length=ts.length:=by
   intro ts
   induction ts with
   | nil=>intro vs ds ps h;cases vs<;>cases ds<;>first|rfl|exact h.elim
   | cons t ts ih =>
    intro vs ds ps h;cases vs with
    | nil=>exact h.elim
    | cons v vs =>
     cases ds with
     | nil=>exact h.elim
     | cons d ds=>obtain ⟨p,q,_,h2,_⟩:=h;simp [ih h2]
  rw [this hA];simp
 refine hrun.mono λ e W' ⟨he,hg⟩=>?_;subst he;refine ⟨_,rfl,qw3 (pa:=p) (pv:=[]) hW' (λ _ _ _=>?_) (λ sp hs=>?_) (λ _ _=>?_) rfl hg ?_⟩
 ·rw [hrt,xt,hfn ds hlen];exact trodAll_cons_mk (shut_bool htb _) trodAll_mk0
 ·rw [xt,hfn ds hlen];exact qnw hl hread hA hg (λ x hx=>hlt x (by simp [hx])) (λ x hx=>hs x (by simp [hx]))
 ·rw [hsv,xt,hfn ds hlen];rfl
 ·exact ok_one hrt rfl (okWide_bool_mk htb _)
end
end Go.Am
namespace Go.Am
open Go.RowKit
section
variable {P:Program}
def J3 (P:Program) (t:TypeId) (R:AHeap->List AV->Prop):Prop :=
 (∀ H H' l,R H l->Fr Em H H'->R H' l) /\ ∀ {Hh:Type} (enc:TypeId × Value->Hh) (W:World) (held:Bool) (fuel:Nat) (cs:List Value) (d:DataW Hh) (ps:List MemPlace),
  DataW.trod enc P W 0 (λ _=>true) held fuel t cs=some (d,ps) -> ∀ (θ:Th) (n:Nat) (gl:GL),Good W θ n gl -> ∃ θ' n' gl' l,Step W θ n gl θ' n' gl'/\bt (Lt n') θ' l cs/\R (vd gl' n') l
theorem Av {t:TypeId} {R:List AV->Prop} (h:iM P t R):J3 P t λ _ l=>R l :=
 ⟨λ _ _ _ h _=>h,λ enc W held fuel cs d ps ht θ n gl hg=>by
  obtain ⟨l,h1,h2⟩:=h enc W 0 _ held fuel cs d ps ht;exact ⟨θ,n,gl,l,Step.refl hg,λ θ' _=>h2 θ',h1⟩⟩
theorem q64 {e:TypeId} {R:AHeap->List AV->Prop} (hR:J3 P e R) {Hh:Type} (enc:TypeId × Value->Hh) (W:World) (held:Bool) (fuel:Nat):∀ (css:List (List Value)),(∀ cs ∈ css,∃ x,DataW.trod enc P W 0 (λ _=>true) held fuel e cs=some x) ->
 ∀ (θ:Th) (n:Nat) (gl:GL),Good W θ n gl -> ∃ (θ':Th) (n':Nat) (gl':GL) (ls:List (List AV)),Step W θ n gl θ' n' gl'/\bt (Lt n') θ' ls.flatten css.flatten/\ls.length=css.length /\ ∀ (i:Nat) l cs,ls[i]? = some l->css[i]? = some cs->R (vd gl' n') l/\l.length=cs.length
 | [],_,θ,n,gl,hg=>⟨θ,n,gl,[],Step.refl hg,.nil,rfl,λ i l cs h=>by simp at h⟩
 | cs::css,h,θ,n,gl,hg=>by
  obtain ⟨x,hx⟩:=h cs (by simp);obtain ⟨θ1,n1,gl1,l,s1,v1,r1⟩:=hR.2 enc W held fuel cs x.1 x.2 hx θ n gl hg;obtain ⟨θ2,n2,gl2,ls,s2,v2,q2,q3⟩:=q64 hR enc W held fuel css (λ c hc=>h c (by simp [hc])) θ1 n1 gl1 s1.bZ;refine ⟨θ2,n2,gl2,l::ls,s1.trans s2,?_,by simp [q2],λ i l' cs' h1 h2=>?_⟩
  ·rw [Jo,Jo];exact (v1.up s2.ag λ b hb=>qk hb s2.le).app v2
  ·cases i with
   | zero =>
    simp at h1 h2;subst h1;subst h2;exact ⟨hR.1 _ _ _ r1 s2.fr,v1.length.symm⟩
   | succ i=>exact q3 i l' cs' (by simpa using h1) (by simpa using h2)
def I0 (R:AHeap->List AV->Prop) (size:Nat) (H:AHeap) (u:AV):Prop:=∃ ls:List (List AV),(∀ l ∈ ls,R H l/\l.length=size)/\Sl H size u ls.length ls.flatten/\(u=.nils\/aF u<H.next)
theorem I0.em {R:AHeap->List AV->Prop} (hm:∀ H H' l,R H l->Fr Em H H'->R H' l) {size:Nat} {H H':AHeap} {u:AV} (h:I0 R size H u) (f:Fr Em H H'):I0 R size H' u:=by
 obtain ⟨ls,h1,h2,h3⟩:=h;exact ⟨ls,λ l hl=>⟨hm _ _ _ (h1 l hl).1 f,(h1 l hl).2⟩,h2.em f,h3.imp id λ q=>qk q f.next⟩
def nZ:Option Nat->Nat
 | none=>0
 | some z=>z+1
theorem xF (s:Option Nat):zO (nZ s)=s:=by cases s<;>rfl
theorem Step.IP {W:World} {θ:Th} {n:Nat} {gl:GL} (h:Good W θ n gl) (k off ext:Nat):Step W θ n gl (θ.add n k off ext) (n+1) gl:=by
 have hag:Ag (Lt n) θ (θ.add n k off ext):=θ.eD n k off ext (Ai n);have hd:∀ b,Lt n b->Lt (n+1) b:=λ b hb=>F9 hb;refine ⟨j5 n,hag,λ b l' hm=>?_,λ b hb=>rfl⟩;obtain ⟨h1,pre,cs,post,e,fz,h2,h3,h4⟩:=h b l' hm;obtain ⟨q1,q2,_⟩:=hag b h1;exact ⟨F9 h1,pre,cs,post,e,fz,by rw [q1];exact h2,by rw [q2];exact h3,h4.up hag hd⟩
theorem qnr {W:World} {a:Addr} {n:Nat} {cs:List Value} (hn:0<n) (h:W.cells? 0 a n=some cs):a.spot=none:=by
 unfold World.cells? at h;rw [ql (xx _)] at h;have:=mapM_some_get h 0 0 (by simp [hn]);have hl:0<cs.length:=by rw [mapM_some_length h];simpa using hn
 rw [qy hl] at this;exact World.cell?_spot (by simpa [Addr.add] using this)
theorem xP {t e:TypeId} {R:AHeap->List AV->Prop} (ht:P.underlying t=some (.slice e)) (hR:J3 P e R) (hs:0<P.cellsOf e):J3 P t λ H l=>∃ u,l=[u]/\I0 R (P.cellsOf e) H u:=by
 refine ⟨λ H H' l ⟨u,h1,h2⟩ f=>⟨u,h1,h2.em hR.1 f⟩,?_⟩;intro Hh enc W held fuel cs0 d ps h θ n gl hg;cases fuel with
 | zero=>cases h
 | succ f =>
  have key:cs0=[.slice none 0 0] \/ ∃ a len cap,cs0=[.slice (some a) len cap]/\len<=cap/\(∀ i,i<len -> ∃ cs x,W.cells? 0 (a.add (i*P.cellsOf e)) (P.cellsOf e)=some cs/\DataW.trod enc P W 0 (λ _=>true) held f e cs=some x)/\(len<cap -> ∃ cs,W.cells? 0 (a.add (len*P.cellsOf e)) (P.cellsOf e)=some cs):=by
   simp only [DataW.trod,ht] at h;split at h<;>first|(cases h;done) | skip
   all_goals first|(rename_i h1;cases h1;done) | skip
   ·left;rfl
   ·right;rename_i e' a len cap h1;injection h1 with h1;injection h1 with h1;subst h1
    split at h
    ·rename_i hb;simp only [qb,xa,xe] at h;obtain ⟨elems,he,rest,hre,_⟩:=h;refine ⟨a,len,cap,rfl,hb.2.1,λ i hi=>?_,λ hlt=>?_⟩
     ·have hl:=mapM_some_length he;have:=mapM_some_get he i i (by simp [hi]);have hi':i<elems.length:=by rw [hl];simpa using hi
      rw [qy hi'] at this;obtain ⟨cs,q1,q2⟩:=qb.1 this;exact ⟨cs,_,q1,q2⟩
     ·have hl:=mapM_some_length hre;have:=mapM_some_get hre 0 0 (by rw [ku (by omega)]);have hi':0<rest.length:=by rw [hl];simp;omega
      rw [qy hi',qh] at this;obtain ⟨cs,q1,q2⟩:=qb.1 this;exact ⟨cs,q1⟩
    ·cases h
  rcases key with rfl|⟨a,len,cap,rfl,hlc,hel,hre⟩
  ·exact ⟨θ,n,gl,[.nils],Step.refl hg,λ _ _=>rfl,.nils,rfl,[],by simp,⟨by simp,rfl⟩,.inl rfl⟩
  ·obtain ⟨k,o,s⟩:=a
   by_cases h0:cap=0
   ·subst h0;have:len=0:=by omega
    subst this;have hst:=Step.IP hg k o (nZ s);refine ⟨_,_,_,[.eslice n],hst,.one ?_,.eslice n,rfl,[],by simp,⟨by simp,rfl,ze n⟩,.inr (ze n)⟩;intro θ' hθ;obtain ⟨q1,q2,q3⟩:=θ.c9 n k o (nZ s);obtain ⟨r1,r2,r3⟩:=hθ n (ze n);simp only [aB,r1,r2,r3,q1,q2,q3,xF]
   ·have hsp:s=none:=by
     by_cases hl0:len=0
     ·subst hl0;obtain ⟨cs,hc⟩:=hre (by omega);rw [yl] at hc;exact qnr hs (by simpa [Addr.add] using hc)
     ·obtain ⟨cs,x,hc,_⟩:=hel 0 (by omega);rw [yl] at hc;exact qnr hs (by simpa [Addr.add] using hc)
    subst hsp
    by_cases hl0:len=0
    ·subst hl0;refine ⟨_,_,_,[.slice n 0 0 cap],Step.bare hg k o,.one ?_,.slice n 0 0 cap,rfl,[],by simp,⟨by simp,rfl,xx _,.inl rfl⟩,.inr (ze n)⟩;have:=VR.slice (D:=Lt (n+1)) (θ:=θ.add n k o 0) (b:=n) (o:=0) (n:=0) (c:=cap) (ze n:Lt (n+1) n);obtain ⟨q1,q2,_⟩:=θ.c9 n k o 0
     simpa [aB,q1,q2] using this
    ·have hex:∀ i:Nat,∃ cs,i<len->W.cells? 0 ⟨k,o+i*P.cellsOf e,none⟩ (P.cellsOf e)=some cs /\ ∃ x,DataW.trod enc P W 0 (λ _=>true) held f e cs=some x:=λ i=>by
      by_cases hi:i<len
      ·obtain ⟨cs,x,h1,h2⟩:=hel i hi;rw [rA] at h1;exact ⟨cs,λ _=>⟨h1,x,h2⟩⟩
      ·exact ⟨[],λ h=>(hi h).elim⟩
     obtain ⟨F,hF⟩:=Classical.axiomOfChoice hex
     let css:=(List.range len).map F
     have hcl:css.length=len:=by simp [css]
     have hcg:∀ (i:Nat) c,css[i]? = some c->i<len/\c=F i:=λ i c hc=>by
      simp only [css,xg,xe] at hc;obtain ⟨j,hj,rfl⟩:=hc;have hi:i<len:=by have:=Bz hj;simpa using this
      rw [ku hi] at hj;injection hj with hj;subst hj
      exact ⟨hi,rfl⟩
     obtain ⟨arr,e',fz,hh,_,_⟩:=MH hs (hF 0 (by omega)).1;obtain ⟨arr',e2,fz2,hh',_,hle⟩:=MH hs (hF (len-1) (by omega)).1;rw [hh] at hh';injection hh' with hh';injection hh' with q1 q2 q3;subst q1
     have hmul:(len-1)*P.cellsOf e+P.cellsOf e=len*P.cellsOf e:=by rw [<-yz];congr 1;omega
     have hone:∀ (i:Nat) c,css[i]? = some c->c=(arr.toList.drop (o+i*P.cellsOf e)).take (P.cellsOf e)/\c.length=P.cellsOf e:=λ i c hc=>by
      obtain ⟨hi,rfl⟩:=hcg i c hc;obtain ⟨arr',e2,fz2,hh',h6,h7⟩:=MH hs (hF i hi).1;rw [hh] at hh';injection hh' with hh';injection hh' with q1 q2 q3;subst q1
      exact ⟨h6,by rw [h6];simp;omega⟩
     have hcat:css.flatten=(arr.toList.drop o).take (len*P.cellsOf e):=by rw [qpe hone,hcl]
     obtain ⟨θ1,n1,gl1,ls,s1,v1,l1,r1⟩:=q64 hR enc W held f css (λ c hc=>by
      obtain ⟨i,hi⟩:=List.mem_iff_getElem?.1 hc;obtain ⟨hi',rfl⟩:=hcg i c hi;exact (hF i hi').2) θ n gl hg
     rw [hcat] at v1;have hsz:o+len*P.cellsOf e<=arr.size:=by omega
     have hls:ls.length=len:=by rw [l1,hcl]
     have hflen:ls.flatten.length=len*P.cellsOf e:=by rw [<-v1.length,ja,ju,yc];omega
     have hrow:=Step.row (l:=ls.flatten) (k:=k) (off:=o) (pre:=arr.toList.take o) (cs:=(arr.toList.drop o).take (len*P.cellsOf e)) (post:=arr.toList.drop (o+len*P.cellsOf e)) (e:=e') (fz:=fz) s1.bZ (by
      rw [hh];congr 2;have hq:arr.toList.take o++(arr.toList.drop o).take (len*P.cellsOf e)++arr.toList.drop (o+len*P.cellsOf e)=arr.toList:=by
       rw [zf,<-CZ,kr,kr]
      rw [hq]) (by simp;omega) v1
     refine ⟨_,_,_,[.slice n1 0 len cap],s1.trans hrow,.one ?_,.slice n1 0 len cap,rfl,ls,λ l hl=>?_,⟨by rw [hflen,hls],hls.symm,by rw [hls];exact hlc,.inr ⟨ze n1,ls.flatten,qz (fz:=(0,0)) (e:=0) (ow:=false) ?_,?_⟩⟩,.inr (ze n1)⟩
     ·have:=VR.slice (D:=Lt (n1+1)) (θ:=θ1.add n1 k o 0) (b:=n1) (o:=0) (n:=len) (c:=cap) (ze n1:Lt (n1+1) n1);obtain ⟨q1,q2,_⟩:=θ1.c9 n1 k o 0
      simpa [aB,q1,q2] using this
     ·obtain ⟨i,hi⟩:=List.mem_iff_getElem?.1 hl;have hil:i<css.length:=by rw [<-l1];exact Bz hi
      obtain ⟨q1,q2⟩:=r1 i l css[i] hi (by simp [hil]);exact ⟨hR.1 _ _ _ q1 hrow.fr,by rw [q2];exact (hone i _ (by simp [hil])).2⟩
     ·show (An ((n1,ls.flatten)::gl1) .nil).get n1=_;rw [An,T.aE,ql rfl]
     ·rw [hls,qP,ql (by omega),GP,zj (by omega)]
end
end Go.Am
namespace Go.Am
open Go.RowKit
section
variable {P:Program}
theorem Ec {α:Type} {enc:α->List AV} {R:AHeap->List AV->Prop} {Q:α->Prop} {size:Nat} {H:AHeap} {u:AV} (hR:∀ l,R H l -> ∃ x,l=enc x/\Q x) (h:I0 R size H u):∃ xs:List α,du enc size H u xs /\ ∀ x ∈ xs,Q x:=by
 obtain ⟨ls,h1,h2,_⟩:=h;have:∀ ls:List (List AV),(∀ l ∈ ls,R H l) -> ∃ xs:List α,ls=xs.map enc /\ ∀ x ∈ xs,Q x:=by
  intro ls
  induction ls with
  | nil=>exact λ _=>⟨[],rfl,by simp⟩
  | cons l ls ih =>
   intro h;obtain ⟨xs,q1,q2⟩:=ih λ l hl=>h l (by simp [hl]);obtain ⟨x,q3,q4⟩:=hR l (h l (by simp));refine ⟨x::xs,by rw [q3,q1];rfl,λ c hc=>?_⟩;rcases zr.1 hc with rfl|hc
   ·exact q4
   ·exact q2 c hc
 obtain ⟨xs,q1,q2⟩:=this ls λ l hl=>(h1 l hl).1;refine ⟨xs,?_,q2⟩;subst q1;rw [xu] at h2;unfold du;have e:(xs.map enc).flatten=xs.flatMap enc:=by rw [List.flatMap_def]
 rw [<-e];exact h2
theorem ux {t:TypeId} {R:List AV->Prop} (hR:iM P t R) (ha:(∃ fs,P.underlying t=some (.struct fs)) \/ ∃ n e,P.underlying t=some (.array n e)) {H:Type} {enc:TypeId × Value->H} {W:World} {r:Reach} {base b2:Nat} {sp:Nat->Bool} {held:Bool} {fuel:Nat} {v:Value} {d:DataW H} {ps:List MemPlace}
 (hv:Value.okWide P W r b2 t v) (h:DataW.trod enc P W base sp held fuel t v.cells.toList=some (d,ps)):∃ l,R l /\ ∀ D θ,VR D θ (.agg l) v:=by
 obtain ⟨cs,rfl⟩:=Ay ha hv;obtain ⟨l,h1,h2⟩:=hR enc W base sp held fuel _ d ps h;refine ⟨l,h1,λ D θ=>?_⟩;have hc:∀ θ,br θ l=cs.toList:=h2;have:=VR.agg (D:=D) (θ:=θ) (l:=l) (cs:=cs.toList) (λ θ' _=>hc θ')
 simpa using this
end
end Go.Am
namespace Go.Am
variable {P:Program}
end Go.Am
namespace Go.Am
open Go.RowKit
variable {P:Program}
theorem CJ {tp:TypeId} {w:World} {laid:List (String × DataW Unit)} (hn:p7 laid=true) (h:laidMet P laid w) :
 ∃ θ:Th,(∀ g,g<P.globals.size -> θ.bz g=g /\ θ.off g=0)/\Good w θ (P.globals.size+laid.length) (rowsOf P tp P.globals.size laid):=pA h (λ x hx=>⟨default,λ g t s h1 h2 h3=>by
  have:=wg.1 hn x hx;rw [h3] at this;cases this⟩)
theorem q3n {W:World} {θL θ:Th} {n0 n:Nat} {oL gl:GL} (hn:P.globals.size<=n0) (hg:∀ g,g<P.globals.size -> θL.bz g=g /\ θL.off g=0) (h:Step W θL n0 oL θ n gl):HR P 0 (Lt n) θ (vd gl n) W :=
 HR.qY (xx _) (xj hn h.le) (λ g hlt=>by obtain ⟨q1,q2,_⟩:=h.ag g (qk hlt hn);obtain ⟨r1,r2⟩:=hg g hlt;exact ⟨q1.trans r1,q2.trans r2⟩) h.bZ
def uY (L:List dL):List Nat:=L.map λ e=>e.f
theorem quz {gl:List (Nat × List AV)} {H:AHeap} {f:Nat} {vs:List AV}:∀ {L:List dL},aV f (uY L)=false->lC gl H f vs L=none
 | [],_=>rfl
 | e::L,h=>by
  have h:cond (Nat.beq e.f f) true (aV f (uY L))=false:=h;cases hb:Nat.beq e.f f with
  | true=>rw [hb] at h;cases h
  | false =>
   rw [hb] at h;have:Nat.beq f e.f=false:=by
    cases hc:Nat.beq f e.f with
    | false=>rfl
    | true=>rw [yk hc] at hb;simp at hb
   simp only [lC,this,Bool.false_and,za];exact quz h
noncomputable def aA.tell (P:Program) (gl:List (Nat × List AV)) (L:List dL):aA:=⟨aP P,iZ gl L,λ f=>aV f (uY L),λ f vs up H h=>by
 cases up with
 | none=>exact quz h
 | some _=>rfl⟩
theorem aA.sQ {gl:List (Nat × List AV)} {L:List dL} {n:Nat} (h:aV n (uY L)=false):(aA.tell P gl L).func n=(aP P).func n:=by
 show cond (aV n (uY L)) none _=_;rw [h];rfl
theorem q5a {gl:List (Nat × List AV)} {f:Nat} {v:AV} {H:AHeap} (hr:c8 H gl=true):zq (aA.tell P gl [⟨f,[],v⟩]) f [] H λ w H'=>w=v/\H'=H:=by
 have h:iZ gl [⟨f,[],v⟩] f [] none H=some (.ret v,none,H):=by
  show lC gl H f [] [⟨f,[],v⟩]=_;have e:Nat.beq f f=true:=by simp
  simp only [lC,e,hr,iC,zu,xf]
 refine zq.intro (v:=v) (H':=H) ⟨0,λ n _=>?_⟩ ⟨rfl,rfl⟩;cases n with
 | zero=>exact h
 | succ n =>
  show (match iZ gl [⟨f,[],v⟩] f [] none H with|some r=>some r|none=>_)=_;rw [h]
theorem qu2 {n:Nat} {H H':AHeap}:∀ {gl:List (Nat × List AV)},fO n gl=true->(∀ b,b<n->H'.get b=H.get b)->c8 H gl=true->c8 H' gl=true
 | [],_,_,_=>rfl
 | (b,l)::r,hok,hk,h=>by
  simp only [fO,xh,we] at hok;simp only [c8,xh] at h ⊢;rw [hk b hok.1.1];exact ⟨h.1,qu2 hok.2 hk h.2⟩
theorem xI (hP:cF P) {oL:List (Nat × List AV)} {n0:Nat} {L:List dL} (hn:P.globals.size<=n0) (hok:fO n0 oL=true) (hL:∀ e ∈ L,tG 0 e.args=true/\nQ P oL n0 e)
 {W:World} {θ:Th} {n:Nat} {gl:GL} (h:HR P 0 (Lt n) θ (vd gl n) W) {f:Nat} {vs:List AV} {args:Array Value} (hv:bt (Lt n) θ vs args.toList)
 (hc:zq (aA.tell P oL L) f vs (vd gl n) λ v _=>v=.bool true):Calls P f args W λ e w'=>e=.returned (.bool true)/\Below W.heap.size W w':=by
 obtain ⟨v,H',hc,rfl⟩:=hc.elim;exact q3t hP (M:=aA.tell P oL L) rfl (qpk hn hok hL) qty h hv hc
end Go.Am
