/- B5: Args Args2 Args3 Args4 Args5 Args6 ToldM. -/
import Derived.Test.YtbimikjajohflaaGreatDoorAmRB3
import Derived.Test.YtbimikjajohflaaGreatDoorAmRB4
import Derived.Carry
set_option linter.unusedVariables false
set_option linter.unusedSimpArgs false
namespace Go.Am
open Go.RowKit
abbrev GL:=List (Nat × List AV)
def Good (W:World) (θ:Th) (n:Nat) (gl:GL):Prop :=
 ∀ b l,(b,l) ∈ gl->b<n /\ ∃ pre cs post e fz,W.heap[θ.blk b]? = some (.cells (pre++cs++post).toArray e fz)/\pre.length = θ.off b/\VRL (Lt n) θ l cs
structure Step (W:World) (θ:Th) (n:Nat) (gl:GL) (θ':Th) (n':Nat) (gl':GL):Prop where
 le:n<=n'
 ag:Ag (Lt n) θ θ'
 good:Good W θ' n' gl'
 keep:∀ b,b<n->(qa1 gl' .nil).get b=(qa1 gl .nil).get b
theorem Step.refl {W:World} {θ:Th} {n:Nat} {gl:GL} (h:Good W θ n gl):Step W θ n gl θ n gl:=⟨qc n,Ag.refl _ _,h,fun _ _=>rfl⟩
theorem Step.trans {W:World} {θ θ' θ'':Th} {n n' n'':Nat} {gl gl' gl'':GL} (a:Step W θ n gl θ' n' gl') (b:Step W θ' n' gl' θ'' n'' gl''):Step W θ n gl θ'' n'' gl'' :=
 ⟨qx a.le b.le,a.ag.trans b.ag fun x hx=>qf hx a.le,b.good,fun x hx=>by rw [b.keep x (qf hx a.le),a.keep x hx]⟩
theorem Step.fr {W:World} {θ θ':Th} {n n':Nat} {gl gl':GL} (a:Step W θ n gl θ' n' gl'):Fr Em (zr gl n) (zr gl' n'):=⟨a.le,fun b hb _=>a.keep b hb⟩
theorem Step.row {W:World} {θ:Th} {n:Nat} {gl:GL} (h:Good W θ n gl) {k off:Nat} {l:List AV} {pre cs post:List Value} {e:TypeId} {fz:Nat × Nat} (hk:W.heap[k]? = some (.cells (pre++cs++post).toArray e fz)) (hp:pre.length=off) (hv:VRL (Lt n) θ l cs) :
 Step W θ n gl (θ.add n k off 0) (n+1) ((n,l)::gl):=by
 have hag:Ag (Lt n) θ (θ.add n k off 0):=θ.add_ag n k off 0 (vu n)
 have hd:∀ b,Lt n b->Lt (n+1) b:=fun b hb=>vd hb
 refine ⟨wz n,hag,fun b l' hm=>?_,fun b hb=>?_⟩
 ·rcases xe.1 hm with hm|hm
  ·injection hm with h1 h2;subst h1;subst h2
   obtain ⟨q1,q2,_⟩:=θ.add_new b k off 0
   exact ⟨qy b,pre,cs,post,e,fz,by rw [q1];exact hk,by rw [q2];exact hp,hv.up hag hd⟩
  ·obtain ⟨h1,pre,cs,post,e,fz,h2,h3,h4⟩:=h b l' hm
   obtain ⟨q1,q2,_⟩:=hag b h1
   exact ⟨vd h1,pre,cs,post,e,fz,by rw [q1];exact h2,by rw [q2];exact h3,h4.up hag hd⟩
 ·rw [qa1,T.get_set,qe (by omega)]
section
variable {P:Program}
def FlatP (P:Program) (t:TypeId) (R:List AV->Prop):Prop :=
 ∀ {H:Type} (enc:TypeId × Value->H) (W:World) (base:Nat) (sp:Nat->Bool) (held:Bool) (fuel:Nat) (cs:List Value) (d:DataW H) (ps:List MemPlace),
  DataW.trod enc P W base sp held fuel t cs=some (d,ps) -> ∃ l,R l /\ ∀ θ,concL θ l=cs
def isIntL (k:IntKind) (l:List AV):Prop:=∃ n,l=[.int k n]/\(Lit.int k n).wf=true
def isParts:List (List AV->Prop)->List AV->Prop
 | [],l=>l=[]
 | R::Rs,l=>∃ a b,l=a++b/\R a/\isParts Rs b
theorem qgy {t:TypeId} {k:IntKind} (h:P.underlying t=some (.int k)):FlatP P t (isIntL k):=by
 intro H enc W base sp held fuel cs d ps ht
 cases fuel with
 | zero=>cases ht
 | succ f =>
  simp only [DataW.trod,h] at ht
  split at ht<;>first|(cases ht;done) | skip
  all_goals first|(simp_all;done) | skip
  ·rename_i k2 n2 e1 e2
   injection e2 with e2;injection e2 with e2;subst e2
   split at ht
   ·rename_i hw
    obtain ⟨rfl,hw⟩:=hw
    exact ⟨_,⟨_,rfl,hw⟩,fun θ=>rfl⟩
   ·cases ht
def qds (P:Program):Nat->List Field->Bool
 | _,[]=>true
 | k,f::fs=>Nat.beq f.offset k && qds P (k+P.cellsOf f.type) fs
theorem fieldsOk {fs:List Field}:∀ {k:Nat},qds P k fs=true -> ∀ (j:Nat) f,fs[j]? = some f->f.offset=k+((fs.take j).map fun f=>P.cellsOf f.type).sum:=by
 induction fs with
 | nil=>intro k _ j f h;simp at h
 | cons g fs ih =>
  intro k h j f hj
  simp only [qds,qj,xk] at h
  cases j with
  | zero=>simp at hj;subst hj;simpa using h.1
  | succ j =>
   have:=ih h.2 j f (by simpa using hj)
   simp only [List.take_succ_cons,qw,List.sum_cons];omega
end
end Go.Am
namespace Go.Am
open Go.RowKit
theorem qhj {W:World} {k o n:Nat} {cs:List Value} (hn:0<n) (h:W.cells? 0 ⟨k,o,none⟩ n=some cs):∃ arr e fz,W.heap[k]? = some (.cells arr e fz)/\cs=(arr.toList.drop o).take n/\o+n<=arr.size:=by
 unfold World.cells? at h
 rw [qh (xu _)] at h
 have hlen:=mapM_some_length h
 have hget:=fun i (hi:i<n)=>mapM_some_get h i i (by simp [hi])
 obtain ⟨c0,h0⟩:∃ c,W.cell? ⟨k,o,none⟩=some c:=by
  have:=hget 0 hn
  have hl:0<cs.length:=by rw [hlen];simpa using hn
  exact ⟨cs[0],by simpa [Addr.add,hl] using this⟩
 obtain ⟨arr,e,fz,hh⟩:∃ arr e fz,W.heap[k]? = some (.cells arr e fz):=by
  unfold World.cell? at h0
  split at h0
  ·rename_i arr e fz hh;exact ⟨arr,e,fz,hh⟩
  ·cases h0
 refine ⟨arr,e,fz,hh,?_,?_⟩
 ·refine List.ext_getElem? fun i=>?_
  by_cases hi:i<n
  ·have:=hget i hi
   rw [vw,qhi hh] at this
   rw [jx,qh hi,jw]
   rw [<-x6] at this
   exact this.symm
  ·rw [jb (by rw [hlen];simp;omega),jb (by simp;omega)]
 ·have:=hget (n-1) (by omega)
  rw [vw,qhi hh] at this
  have hl:n-1<cs.length:=by rw [hlen];simp;omega
  rw [xg hl] at this
  have:=(xv.1 this).1
  omega
theorem qh2 {α:Type} {L:List α} {size:Nat}:∀ {cs:List (List α)} {o:Nat},(∀ (i:Nat) c,cs[i]? = some c->c=(L.drop (o+i*size)).take size/\c.length=size)->cs.flatten=(L.drop o).take (cs.length*size)
 | [],o,_=>by simp
 | c::cs,o,h=>by
  obtain ⟨h1,h2⟩:=h 0 c rfl
  rw [je,jy] at h1
  have ih:=qh2 (cs:=cs) (o:=o+size) fun i d hd=>by
   have:=h (i+1) d (by simpa using hd)
   rw [show o+size+i*size=o+(i+1)*size from by rw [kc];omega];exact this
  rw [qam,ih,xh,kc,Nat.add_comm (cs.length*size),List.take_add,we,<-h1]
section
variable {P:Program}
def SlP (R:List AV->Prop) (size:Nat) (H:AHeap) (u:AV):Prop:=∃ ls:List (List AV),(∀ l ∈ ls,R l/\l.length=size)/\Sl H size u ls.length ls.flatten
theorem SlP.em {R:List AV->Prop} {size:Nat} {H H':AHeap} {u:AV} (h:SlP R size H u) (f:Fr Em H H'):SlP R size H' u:=by
 obtain ⟨ls,h1,h2⟩:=h;exact ⟨ls,h1,h2.em f⟩
theorem Step.bare {W:World} {θ:Th} {n:Nat} {gl:GL} (h:Good W θ n gl) (k off:Nat):Step W θ n gl (θ.add n k off 0) (n+1) gl:=by
 have hag:Ag (Lt n) θ (θ.add n k off 0):=θ.add_ag n k off 0 (vu n)
 have hd:∀ b,Lt n b->Lt (n+1) b:=fun b hb=>vd hb
 refine ⟨wz n,hag,fun b l' hm=>?_,fun b hb=>rfl⟩
 obtain ⟨h1,pre,cs,post,e,fz,h2,h3,h4⟩:=h b l' hm
 obtain ⟨q1,q2,_⟩:=hag b h1
 exact ⟨vd h1,pre,cs,post,e,fz,by rw [q1];exact h2,by rw [q2];exact h3,h4.up hag hd⟩
end
end Go.Am
namespace Go.Am
open Go.RowKit Go.ChangeShapes Go.WideShapes Go.ChangeAt
section
variable {P:Program}
theorem arg_int {W:World} {r:Reach} {base:Nat} {t:TypeId} {v:Value} {k:IntKind} (ht:P.underlying t=some (.int k)) (h:Value.okWide P W r base t v):∃ n,v=.int k n/\k.has n:=by
 unfold Value.okWide at h
 rw [ht] at h
 simp only [Cell.okWide,ht] at h
 unfold Cell.ok at h
 rw [ht] at h
 split at h<;>first|exact h.elim|skip
 all_goals first|(simp_all;done) | skip
 all_goals
  rename_i h1
  simp_all
theorem arg_agg {W:World} {r:Reach} {base:Nat} {t:TypeId} {v:Value} (ht:(∃ fs,P.underlying t=some (.struct fs)) \/ ∃ n e,P.underlying t=some (.array n e)) (h:Value.okWide P W r base t v):∃ cs:Array Value,v=.agg cs:=by
 unfold Value.okWide at h
 rcases ht with ⟨fs,ht⟩|⟨n,e,ht⟩
 ·rw [ht] at h;obtain ⟨cs,h,_⟩:=h;exact ⟨cs,h⟩
 ·rw [ht] at h;obtain ⟨cs,h,_⟩:=h;exact ⟨cs,h⟩
theorem qo2 {H:Type} {enc:TypeId × Value->H} {W:World} {b:Nat} {sp:Nat->Bool} {held:Bool} {t:TypeId} {ts:List TypeId} {vs:List Value} {ds:List (DataW H)} {ps:List MemPlace} (h:DataW.TrodAll enc P W b sp held (t::ts) vs ds ps) :
 ∃ v vs' d ds' p q fuel,vs=v::vs'/\ds=d::ds'/\DataW.trod enc P W b sp held fuel t v.cells.toList=some (d,p)/\DataW.TrodAll enc P W b sp held ts vs' ds' q:=by
 cases vs with
 | nil=>exact h.elim
 | cons v vs =>
  cases ds with
  | nil=>exact h.elim
  | cons d ds=>obtain ⟨p,q,⟨fuel,h1⟩,h2,_⟩:=h;exact ⟨v,vs,d,ds,p,q,fuel,rfl,rfl,h1,h2⟩
theorem trod_nil {H:Type} {enc:TypeId × Value->H} {W:World} {b:Nat} {sp:Nat->Bool} {held:Bool} {vs:List Value} {ds:List (DataW H)} {ps:List MemPlace} (h:DataW.TrodAll enc P W b sp held [] vs ds ps):vs=[]/\ds=[]:=by
 cases vs with
 | cons v vs=>exact h.elim
 | nil =>
  cases ds with
  | cons d ds=>exact h.elim
  | nil=>exact ⟨rfl,rfl⟩
noncomputable def Mac.plain (P:Program):Mac:=⟨cProg P,fun _ _ _ _=>none,fun _=>false,fun _ _ _ _ _=>rfl⟩
theorem qsc (hP:PGood P) {M:Mac} (hM:M.prog=cProg P) (ht:jr P 0 M.told) (htm:j4 M.told) {W:World} {θ:Th} {n:Nat} {gl:GL} (h:HR P 0 (Lt n) θ (zr gl n) W) {f:Nat} {vs:List AV} {args:Array Value} (hv:VRL (Lt n) θ vs args.toList) {H':AHeap}
 (hc:CALL M f vs (zr gl n) (.ret (.bool true)) H'):Calls P f args W fun e w'=>e=.returned (.bool true)/\Below W.heap.size W w':=by
 obtain ⟨m,hr⟩:=hc.acall
 simp only [Mac.call,hM] at hr
 intro cs
 obtain ⟨_,θ',w',cs',fr,e',g1,g2,g3,g4,g5,g6,g7,g8,g9,g10⟩ :=
  qem hP (fun rt hAP hc hr' hcm hrm=>qkx hP hAP hc hr' hcm hrm) ht htm m (Lt n) θ (zr gl n) W f vs args none H' (.ret (.bool true)) none .normal cs h hv rfl hr
   (fun b h1 h2 hb=>by have h1:n<=b:=h1;have hb:b<n:=hb;omega)
 have hcs:cs'=cs:=g9
 subst hcs
 cases e' with
 | returned c =>
  have g5:VR _ θ' (.bool true) c:=g5
  exact ⟨.returned c,w',fr,⟨by rw [<-g5.now];rfl,g7.below (qe9 _ _)⟩,g1,g3,qcs g4 g2⟩
 | panicked _=>exact g5.elim
 | outgrown=>exact g5.elim
theorem qhf {H:Type} {enc:TypeId × Value->H} (hl:laidOutB P=true) {W W':World} {sp:Nat->Bool}:∀ {ts:List TypeId} {vs:List Value} {ds:List (DataW H)} {ps:List MemPlace},
 (∀ t ∈ ts,P.readableRec t=true/\t<P.types.size)->DataW.TrodAll enc P W 0 (fun _=>true) true ts vs ds ps->Below W.heap.size W W'->(∀ x ∈ ps,x.block<W.heap.size)->(∀ x ∈ ps,sp x.block=true) ->
 DataW.TrodAll enc P W' 0 sp true ts vs ds ps
 | [],[],[],ps,_,h,_,_,_=>h
 | t::ts,v::vs,d::ds,ps,ht,⟨p,q,h1,h2,e⟩,hb,hlt,hs=>by
  subst e
  exact ⟨p,q,WideElems.Trod_stays hl (ht t (by simp)).1 (ht t (by simp)).2 h1 (fun x hx=>hb.same (hlt x (by simp [hx]))) (fun x hx=>hs x (by simp [hx])),
   qhf hl (fun t h=>ht t (by simp [h])) h2 hb (fun x hx=>hlt x (by simp [hx])) (fun x hx=>hs x (by simp [hx])),rfl⟩
 | [],_::_,_,_,_,h,_,_,_=>h.elim
 | [],[],_::_,_,_,h,_,_,_=>h.elim
 | _::_,[],_,_,_,h,_,_,_=>h.elim
 | _::_,_::_,[],_,_,h,_,_,_=>h.elim
theorem qmm {H:Type} {enc:TypeId × Value->H} {f:Nat} {fn:Func} {s:ChangeSpec} {tb:TypeId} (hl:laidOutB P=true) (hread:∀ t ∈ fn.params.toList,P.readableRec t=true/\t<P.types.size) (hsv:s.vars=[])
 (hfn:∀ ds:List (DataW H),ds.length=fn.params.size->s.fn H ds = { results:=[.lit (.bool true)],args:=ds }) (hrt:fn.resultTypes = #[tb]) (htb:P.underlying tb=some .bool)
 {W:World} {args:Array Value} {ds gs:List (DataW H)} {before:List MemPlace} {apart fresh handsOn again:Bool}
 (hW:DataW.Whole enc P fn.params.toList s.vars apart W args.toList ds gs before) (hrun:Calls P f args W fun e w'=>e=.returned (.bool true)/\Below W.heap.size W w') :
 Calls P f args W fun e W'=>∃ v,e=.returned v/\s.post enc P fn apart fresh handsOn again W args v W':=by
 have hlt:∀ p ∈ before,p.block<W.heap.size:=hW.lt
 have hW':=hW
 obtain ⟨p,q,hA,hV,rfl,hfz,hnd⟩:=hW
 rw [hsv] at hV
 obtain ⟨rfl,rfl⟩:=trodVars_none hV
 have hlen:ds.length=fn.params.size:=by
  have:∀ {ts:List TypeId} {vs:List Value} {ds:List (DataW H)} {ps:List MemPlace},DataW.TrodAll enc P W 0 (fun _=>true) true ts vs ds ps->ds.length=ts.length:=by
   intro ts
   induction ts with
   | nil=>intro vs ds ps h;cases vs<;>cases ds<;>first|rfl|exact h.elim
   | cons t ts ih =>
    intro vs ds ps h
    cases vs with
    | nil=>exact h.elim
    | cons v vs =>
     cases ds with
     | nil=>exact h.elim
     | cons d ds=>obtain ⟨p,q,_,h2,_⟩:=h;simp [ih h2]
  rw [this hA];simp
 refine hrun.mono fun e W' ⟨he,hg⟩=>?_
 subst he
 refine ⟨_,rfl,qmn (pa:=p) (pv:=[]) hW' (fun _ _ _=>?_) (fun sp hs=>?_) (fun _ _=>?_) rfl hg ?_⟩
 ·rw [hrt,zy,hfn ds hlen];exact trodAll_cons_mk (shut_bool htb _) trodAll_mk0
 ·rw [zy,hfn ds hlen]
  exact qhf hl hread hA hg (fun x hx=>hlt x (by simp [hx])) (fun x hx=>hs x (by simp [hx]))
 ·rw [hsv,zy,hfn ds hlen];rfl
 ·exact ok_one hrt rfl (okWide_bool_mk htb _)
end
end Go.Am
namespace Go.Am
open Go.RowKit
section
variable {P:Program}
def RdP (P:Program) (t:TypeId) (R:AHeap->List AV->Prop):Prop :=
 (∀ H H' l,R H l->Fr Em H H'->R H' l) /\ ∀ {Hh:Type} (enc:TypeId × Value->Hh) (W:World) (held:Bool) (fuel:Nat) (cs:List Value) (d:DataW Hh) (ps:List MemPlace),
  DataW.trod enc P W 0 (fun _=>true) held fuel t cs=some (d,ps) -> ∀ (θ:Th) (n:Nat) (gl:GL),Good W θ n gl -> ∃ θ' n' gl' l,Step W θ n gl θ' n' gl'/\VRL (Lt n') θ' l cs/\R (zr gl' n') l
theorem qj1 {t:TypeId} {R:List AV->Prop} (h:FlatP P t R):RdP P t fun _ l=>R l :=
 ⟨fun _ _ _ h _=>h,fun enc W held fuel cs d ps ht θ n gl hg=>by
  obtain ⟨l,h1,h2⟩:=h enc W 0 _ held fuel cs d ps ht
  exact ⟨θ,n,gl,l,Step.refl hg,fun θ' _=>h2 θ',h1⟩⟩
def SlR (R:AHeap->List AV->Prop) (size:Nat) (H:AHeap) (u:AV):Prop:=∃ ls:List (List AV),(∀ l ∈ ls,R H l/\l.length=size)/\Sl H size u ls.length ls.flatten/\(u=.nils\/slB u<H.next)
theorem SlR.em {R:AHeap->List AV->Prop} (hm:∀ H H' l,R H l->Fr Em H H'->R H' l) {size:Nat} {H H':AHeap} {u:AV} (h:SlR R size H u) (f:Fr Em H H'):SlR R size H' u:=by
 obtain ⟨ls,h1,h2,h3⟩:=h
 exact ⟨ls,fun l hl=>⟨hm _ _ _ (h1 l hl).1 f,(h1 l hl).2⟩,h2.em f,h3.imp id fun q=>qf q f.next⟩
def encSpot:Option Nat->Nat
 | none=>0
 | some z=>z+1
theorem spot_enc (s:Option Nat):spotOf (encSpot s)=s:=by cases s<;>rfl
theorem Step.bare' {W:World} {θ:Th} {n:Nat} {gl:GL} (h:Good W θ n gl) (k off ext:Nat):Step W θ n gl (θ.add n k off ext) (n+1) gl:=by
 have hag:Ag (Lt n) θ (θ.add n k off ext):=θ.add_ag n k off ext (vu n)
 have hd:∀ b,Lt n b->Lt (n+1) b:=fun b hb=>vd hb
 refine ⟨wz n,hag,fun b l' hm=>?_,fun b hb=>rfl⟩
 obtain ⟨h1,pre,cs,post,e,fz,h2,h3,h4⟩:=h b l' hm
 obtain ⟨q1,q2,_⟩:=hag b h1
 exact ⟨vd h1,pre,cs,post,e,fz,by rw [q1];exact h2,by rw [q2];exact h3,h4.up hag hd⟩
theorem qhc {W:World} {a:Addr} {n:Nat} {cs:List Value} (hn:0<n) (h:W.cells? 0 a n=some cs):a.spot=none:=by
 unfold World.cells? at h
 rw [qh (xu _)] at h
 have:=mapM_some_get h 0 0 (by simp [hn])
 have hl:0<cs.length:=by rw [mapM_some_length h];simpa using hn
 rw [xg hl] at this
 exact World.cell?_spot (by simpa [Addr.add] using this)
end
end Go.Am
namespace Go.Am
open Go.RowKit
section
variable {P:Program}
theorem qrw {t e:TypeId} {n:Nat} {R:List AV->Prop} (h:P.underlying t=some (.array n e)) (hR:FlatP P e R) (hc:n*P.cellsOf e=P.cellsOf t):FlatP P t (isParts (List.replicate n R)):=by
 intro H enc W base sp held fuel cs d ps ht
 cases fuel with
 | zero=>cases ht
 | succ f =>
  have hlen:cs.length=P.cellsOf t /\ ∃ xs,(List.range n).mapM (fun i=>DataW.trod enc P W base sp held f e ((cs.drop (i*P.cellsOf e)).take (P.cellsOf e)))=some xs:=by
   simp only [DataW.trod,h] at ht
   split at ht
   ·rename_i hl
    obtain ⟨xs,hm,_⟩:=qt.1 ht
    exact ⟨hl,xs,hm⟩
   ·cases ht
  obtain ⟨hl,xs,hm⟩:=hlen
  have hel:∀ i,i<n -> ∃ x,DataW.trod enc P W base sp held f e ((cs.drop (i*P.cellsOf e)).take (P.cellsOf e))=some x:=fun i hi=>by
   have hl:=mapM_some_length hm
   have:=mapM_some_get hm i i (by rw [List.getElem?_range hi])
   have hi':i<xs.length:=by rw [hl];simpa using hi
   rw [xg hi'] at this
   exact ⟨_,this⟩
  have key:∀ (m k:Nat),k+m=n -> ∃ l,isParts (List.replicate m R) l /\ ∀ θ,concL θ l=cs.drop (k*P.cellsOf e):=by
   intro m
   induction m with
   | zero =>
    intro k hk
    refine ⟨[],rfl,fun θ=>?_⟩
    rw [jz (by rw [hl,<-hc,show k=n by omega];exact qc _)]
    simp [concL]
   | succ m ih =>
    intro k hk
    obtain ⟨x,hx⟩:=hel k (by omega)
    obtain ⟨a,ha,hca⟩:=hR enc W base sp held f _ x.1 x.2 hx
    obtain ⟨b,hb,hcb⟩:=ih (k+1) (by omega)
    refine ⟨a++b,⟨a,b,rfl,ha,hb⟩,fun θ=>?_⟩
    rw [kz,wy,<-kz,<-kz,hca,hcb,kc,<-we,yu]
  obtain ⟨l,h1,h2⟩:=key n 0 (by omega)
  exact ⟨l,h1,fun θ=>by rw [h2 θ,je,kx]⟩
theorem slt_of {α:Type} {enc:α->List AV} {R:AHeap->List AV->Prop} {Q:α->Prop} {size:Nat} {H:AHeap} {u:AV} (hR:∀ l,R H l -> ∃ x,l=enc x/\Q x) (h:SlR R size H u):∃ xs:List α,SlT enc size H u xs /\ ∀ x ∈ xs,Q x:=by
 obtain ⟨ls,h1,h2,_⟩:=h
 have:∀ ls:List (List AV),(∀ l ∈ ls,R H l) -> ∃ xs:List α,ls=xs.map enc /\ ∀ x ∈ xs,Q x:=by
  intro ls
  induction ls with
  | nil=>exact fun _=>⟨[],rfl,by simp⟩
  | cons l ls ih =>
   intro h
   obtain ⟨xs,q1,q2⟩:=ih fun l hl=>h l (by simp [hl])
   obtain ⟨x,q3,q4⟩:=hR l (h l (by simp))
   refine ⟨x::xs,by rw [q3,q1];rfl,fun c hc=>?_⟩
   rcases xe.1 hc with rfl|hc
   ·exact q4
   ·exact q2 c hc
 obtain ⟨xs,q1,q2⟩:=this ls fun l hl=>(h1 l hl).1
 refine ⟨xs,?_,q2⟩
 subst q1
 rw [vc] at h2
 unfold SlT
 have e:(xs.map enc).flatten=xs.flatMap enc:=by rw [List.flatMap_def]
 rw [<-e];exact h2
end
end Go.Am
namespace Go.Am
variable {P:Program}
end Go.Am
namespace Go.Am
open Go.RowKit
variable {P:Program}
theorem laidN {tp:TypeId} {w:World} {laid:List (String × DataW Unit)} (hn:noSent laid=true) (h:laidMet P laid w) :
 ∃ θ:Th,(∀ g,g<P.globals.size -> θ.blk g=g /\ θ.off g=0)/\Good w θ (P.globals.size+laid.length) (rowsOf P tp P.globals.size laid):=laidS h (fun x hx=>⟨default,fun g t s h1 h2 h3=>by
  have:=yn.1 hn x hx
  rw [h3] at this;cases this⟩)
theorem laidE {tp:TypeId} (hT:ErrT P tp) {w:World} {laid:List (String × DataW Unit)} (h:laidMet P laid w) :
 ∃ θ:Th,(∀ g,g<P.globals.size -> θ.blk g=g /\ θ.off g=0)/\Good w θ (P.globals.size+laid.length) (rowsOf P tp P.globals.size laid):=laidS h (fun x hx=>qub hT h hx)
theorem qry {W:World} {θL θ:Th} {n0 n:Nat} {gl0 gl:GL} (hn:P.globals.size<=n0) (hg:∀ g,g<P.globals.size -> θL.blk g=g /\ θL.off g=0) (h:Step W θL n0 gl0 θ n gl):HR P 0 (Lt n) θ (zr gl n) W :=
 HR.givenD (xu _) (qx hn h.le) (fun g hlt=>by obtain ⟨q1,q2,_⟩:=h.ag g (qf hlt hn);obtain ⟨r1,r2⟩:=hg g hlt;exact ⟨q1.trans r1,q2.trans r2⟩) h.good
def fsOf (L:List TEntry):List Nat:=L.map fun e=>e.f
theorem qkz {gl:List (Nat × List AV)} {H:AHeap} {f:Nat} {vs:List AV}:∀ {L:List TEntry},memN f (fsOf L)=false->findT gl H f vs L=none
 | [],_=>rfl
 | e::L,h=>by
  have h:cond (Nat.beq e.f f) true (memN f (fsOf L))=false:=h
  cases hb:Nat.beq e.f f with
  | true=>rw [hb] at h;cases h
  | false =>
   rw [hb] at h
   have:Nat.beq f e.f=false:=by
    cases hc:Nat.beq f e.f with
    | false=>rfl
    | true=>rw [Nat.eq_of_beq_eq_true hc] at hb;simp at hb
   simp only [findT,this,Bool.false_and,qv]
   exact qkz h
noncomputable def Mac.tell (P:Program) (gl:List (Nat × List AV)) (L:List TEntry):Mac:=⟨cProg P,toldOf gl L,fun f=>memN f (fsOf L),fun f vs up H h=>by
 cases up with
 | none=>exact qkz h
 | some _=>rfl⟩
theorem Mac.tell_func {gl:List (Nat × List AV)} {L:List TEntry} {n:Nat} (h:memN n (fsOf L)=false):(Mac.tell P gl L).func n=(cProg P).func n:=by
 show cond (memN n (fsOf L)) none _=_
 rw [h];rfl
theorem qs9 {gl:List (Nat × List AV)} {f:Nat} {v:AV} {H:AHeap} (hr:hasRows H gl=true):vg (Mac.tell P gl [⟨f,[],v⟩]) f [] H fun w H'=>w=v/\H'=H:=by
 have h:toldOf gl [⟨f,[],v⟩] f [] none H=some (.ret v,none,H):=by
  show findT gl H f [] [⟨f,[],v⟩]=_
  have e:Nat.beq f f=true:=by simp
  simp only [findT,e,hr,eqAVL,jk,qi]
 refine vg.intro (v:=v) (H':=H) ⟨0,fun n _=>?_⟩ ⟨rfl,rfl⟩
 cases n with
 | zero=>exact h
 | succ n =>
  show (match toldOf gl [⟨f,[],v⟩] f [] none H with|some r=>some r|none=>_)=_
  rw [h]
theorem qk0 {n:Nat} {H H':AHeap}:∀ {gl:List (Nat × List AV)},rowsOk n gl=true->(∀ b,b<n->H'.get b=H.get b)->hasRows H gl=true->hasRows H' gl=true
 | [],_,_,_=>rfl
 | (b,l)::r,hok,hk,h=>by
  simp only [rowsOk,qj,jp] at hok
  simp only [hasRows,qj] at h ⊢
  rw [hk b hok.1.1]
  exact ⟨h.1,qk0 hok.2 hk h.2⟩
theorem law_tell (hP:PGood P) {gl0:List (Nat × List AV)} {n0:Nat} {L:List TEntry} (hn:P.globals.size<=n0) (hok:rowsOk n0 gl0=true) (hL:∀ e ∈ L,vl 0 e.args=true/\ToldP P gl0 n0 e)
 {W:World} {θ:Th} {n:Nat} {gl:GL} (h:HR P 0 (Lt n) θ (zr gl n) W) {f:Nat} {vs:List AV} {args:Array Value} (hv:VRL (Lt n) θ vs args.toList)
 (hc:vg (Mac.tell P gl0 L) f vs (zr gl n) fun v _=>v=.bool true):Calls P f args W fun e w'=>e=.returned (.bool true)/\Below W.heap.size W w':=by
 obtain ⟨v,H',hc,rfl⟩:=hc.elim
 exact qsc hP (M:=Mac.tell P gl0 L) rfl (qib hn hok hL) qke h hv hc
end Go.Am
