/- B5: Args Args2 Args3 Args4 Args5 Args6 ToldM. -/
import Derived.Test.YtiibohocdbaekaaAmQB3
import Derived.Test.YtiibohocdbaekaaAmQB4
import Derived.Carry
set_option linter.unusedVariables false
set_option linter.unusedSimpArgs false
namespace Go.Am
open Go.RowKit
abbrev GL:=List (Nat × List AV)
def Good (W:World) (θ:Th) (n:Nat) (gl:GL):Prop :=
 ∀ b l,(b,l) ∈ gl->b<n /\ ∃ pre cs post e fz,W.heap[θ.blk b]? = some (.cells (pre++cs++post).toArray e fz)/\pre.length = θ.off b/\VRL (Lt n) θ l cs
structure Step (W:World) (θ:Th) (n:Nat) (gl:GL) (θ':Th) (n':Nat) (gl':GL):Prop where
 le:n<=n'
 ag:Ag (Lt n) θ θ'
 good:Good W θ' n' gl'
 keep:∀ b,b<n->(qet gl' .nil).get b=(qet gl .nil).get b
theorem Step.refl {W:World} {θ:Th} {n:Nat} {gl:GL} (h:Good W θ n gl):Step W θ n gl θ n gl:=⟨qe n,Ag.refl _ _,h,fun _ _=>rfl⟩
theorem Step.trans {W:World} {θ θ' θ'':Th} {n n' n'':Nat} {gl gl' gl'':GL} (a:Step W θ n gl θ' n' gl') (b:Step W θ' n' gl' θ'' n'' gl''):Step W θ n gl θ'' n'' gl'' :=
 ⟨zn a.le b.le,a.ag.trans b.ag fun x hx=>ql hx a.le,b.good,fun x hx=>by rw [b.keep x (ql hx a.le),a.keep x hx]⟩
theorem Step.fr {W:World} {θ θ':Th} {n n':Nat} {gl gl':GL} (a:Step W θ n gl θ' n' gl'):Fr Em (vd gl n) (vd gl' n'):=⟨a.le,fun b hb _=>a.keep b hb⟩
theorem Step.row {W:World} {θ:Th} {n:Nat} {gl:GL} (h:Good W θ n gl) {k off:Nat} {l:List AV} {pre cs post:List Value} {e:TypeId} {fz:Nat × Nat} (hk:W.heap[k]? = some (.cells (pre++cs++post).toArray e fz)) (hp:pre.length=off) (hv:VRL (Lt n) θ l cs) :
 Step W θ n gl (θ.add n k off 0) (n+1) ((n,l)::gl):=by
 have hag:Ag (Lt n) θ (θ.add n k off 0):=θ.add_ag n k off 0 (qei n)
 have hd:∀ b,Lt n b->Lt (n+1) b:=fun b hb=>qd7 hb
 refine ⟨yx n,hag,fun b l' hm=>?_,fun b hb=>?_⟩
 ·rcases zp.1 hm with hm|hm
  ·injection hm with h1 h2;subst h1;subst h2
   obtain ⟨q1,q2,_⟩:=θ.add_new b k off 0
   exact ⟨xp b,pre,cs,post,e,fz,by rw [q1];exact hk,by rw [q2];exact hp,hv.up hag hd⟩
  ·obtain ⟨h1,pre,cs,post,e,fz,h2,h3,h4⟩:=h b l' hm
   obtain ⟨q1,q2,_⟩:=hag b h1
   exact ⟨qd7 h1,pre,cs,post,e,fz,by rw [q1];exact h2,by rw [q2];exact h3,h4.up hag hd⟩
 ·rw [qet,T.get_set,qo (by omega)]
section
variable {P:Program}
def FlatP (P:Program) (t:TypeId) (R:List AV->Prop):Prop :=
 ∀ {H:Type} (enc:TypeId × Value->H) (W:World) (base:Nat) (sp:Nat->Bool) (held:Bool) (fuel:Nat) (cs:List Value) (d:DataW H) (ps:List MemPlace),
  DataW.trod enc P W base sp held fuel t cs=some (d,ps) -> ∃ l,R l /\ ∀ θ,concL θ l=cs
def isIntL (k:IntKind) (l:List AV):Prop:=∃ n,l=[.int k n]/\(Lit.int k n).wf=true
def isBoolL (l:List AV):Prop:=∃ b,l=[.bool b]
def isParts:List (List AV->Prop)->List AV->Prop
 | [],l=>l=[]
 | R::Rs,l=>∃ a b,l=a++b/\R a/\isParts Rs b
theorem qf9 {t:TypeId} {k:IntKind} (h:P.underlying t=some (.int k)):FlatP P t (isIntL k):=by
 intro H enc W base sp held fuel cs d ps ht
 cases fuel with
 | zero=>cases ht
 | succ f =>
  simp only [DataW.trod,h] at ht
  split at ht<;>first|(cases ht;done) | skip
  all_goals first|(simp_all;done) | skip
  ·rename_i k2 n2 e1 e2
   injection e2 with e2;injection e2 with e2;subst e2
   split at ht
   ·rename_i hw
    obtain ⟨rfl,hw⟩:=hw
    exact ⟨_,⟨_,rfl,hw⟩,fun θ=>rfl⟩
   ·cases ht
theorem q5p {t:TypeId} (h:P.underlying t=some .bool):FlatP P t isBoolL:=by
 intro H enc W base sp held fuel cs d ps ht
 cases fuel with
 | zero=>cases ht
 | succ f =>
  simp only [DataW.trod,h] at ht
  split at ht<;>first|(cases ht;done) | skip
  all_goals first|(simp_all;done) | skip
  exact ⟨_,⟨_,rfl⟩,fun θ=>rfl⟩
theorem qwh {H:Type} (enc:TypeId × Value->H) (W:World) (base:Nat) (sp:Nat->Bool) (held:Bool) (fuel:Nat) {cs:List Value}:∀ {fs:List (TypeId × Nat × (List AV->Prop))} {k:Nat} {xs:List (DataW H × List MemPlace)},
 (∀ f ∈ fs,FlatP P f.1 f.2.2)->(∀ (j:Nat) f,fs[j]? = some f->f.2.1=k+((fs.take j).map fun f=>P.cellsOf f.1).sum) ->
 fs.mapM (fun f=>DataW.trod enc P W base sp held fuel f.1 ((cs.drop f.2.1).take (P.cellsOf f.1)))=some xs ->
 k+(fs.map fun f=>P.cellsOf f.1).sum<=cs.length ->
 ∃ l,isParts (fs.map (·.2.2)) l /\ ∀ θ,concL θ l=(cs.drop k).take ((fs.map fun f=>P.cellsOf f.1).sum)
 | [],k,xs,_,_,_,_=>⟨[],rfl,fun θ=>by simp [concL]⟩
 | f::fs,k,xs,hf,ho,hm,hl=>by
  simp only [qeu,Option.bind_eq_bind,qa,Option.pure_def,qb] at hm
  obtain ⟨y,hy,ys,hys,rfl⟩:=hm
  have h0:f.2.1=k:=by have:=ho 0 f rfl;simpa using this
  obtain ⟨a,ha,hca⟩:=hf f (by simp) enc W base sp held fuel _ y.1 y.2 hy
  simp only [xw,qfs] at hl
  obtain ⟨b,hb,hcb⟩:=qwh enc W base sp held fuel (cs:=cs) (fs:=fs) (k:=k+P.cellsOf f.1) (fun g hg=>hf g (by simp [hg])) (fun j g hg=>by
   have:=ho (j+1) g (by simpa using hg)
   simp only [List.take_succ_cons,xw,qfs] at this
   omega) hys (by omega)
  refine ⟨a++b,⟨a,b,rfl,ha,hb⟩,fun θ=>?_⟩
  rw [qbf,qc0,<-qbf,<-qbf,hca,hcb,h0,xw,qfs,List.take_add,qa5]
theorem q5y {H:Type} {g:TypeId->List Value->Option (DataW H × List MemPlace)} {cs:List Value}:∀ {fs:List Field} {Rs:List (List AV->Prop)},fs.length=Rs.length ->
 fs.mapM (fun f=>g f.type ((cs.drop f.offset).take (P.cellsOf f.type)))=((fs.zip Rs).map fun x=>(x.1.type,x.1.offset,x.2)).mapM (fun f=>g f.1 ((cs.drop f.2.1).take (P.cellsOf f.1)))
 | [],[],_=>rfl
 | f::fs,R::Rs,h=>by simp only [wz,xw,qeu,q5y (fs:=fs) (Rs:=Rs) (by simpa using h)]
def qmq (P:Program):Nat->List Field->Bool
 | _,[]=>true
 | k,f::fs=>Nat.beq f.offset k && qmq P (k+P.cellsOf f.type) fs
theorem q2k {fs:List Field}:∀ {k:Nat},qmq P k fs=true -> ∀ (j:Nat) f,fs[j]? = some f->f.offset=k+((fs.take j).map fun f=>P.cellsOf f.type).sum:=by
 induction fs with
 | nil=>intro k _ j f h;simp at h
 | cons g fs ih =>
  intro k h j f hj
  simp only [qmq,xb,zz] at h
  cases j with
  | zero=>simp at hj;subst hj;simpa using h.1
  | succ j =>
   have:=ih h.2 j f (by simpa using hj)
   simp only [List.take_succ_cons,xw,qfs];omega
theorem qk8 {t:TypeId} {fs:Array Field} {Rs:List (List AV->Prop)} (h:P.underlying t=some (.struct fs)) (hn:fs.toList.length=Rs.length) (hR:∀ x ∈ fs.toList.zip Rs,FlatP P x.1.type x.2)
 (ho:qmq P 0 fs.toList=true) (hc:(fs.toList.map fun f=>P.cellsOf f.type).sum=P.cellsOf t):FlatP P t (isParts Rs):=by
 intro H enc W base sp held fuel cs d ps ht
 cases fuel with
 | zero=>cases ht
 | succ f =>
  have hlen:cs.length=P.cellsOf t /\ ∃ xs,fs.toList.mapM (fun g=>DataW.trod enc P W base sp held f g.type ((cs.drop g.offset).take (P.cellsOf g.type)))=some xs:=by
   simp only [DataW.trod,h] at ht
   split at ht
   ·rename_i hl
    obtain ⟨xs,hm,_⟩:=qv.1 ht
    exact ⟨hl,xs,hm⟩
   ·cases ht
  obtain ⟨hl,xs,hm⟩:=hlen
  rw [q5y (Rs:=Rs) hn] at hm
  have e1:((fs.toList.zip Rs).map fun x=>(x.1.type,x.1.offset,x.2)).map (fun f=>P.cellsOf f.1)=fs.toList.map fun f=>P.cellsOf f.type:=by
   rw [yg]
   have:((fs.toList.zip Rs).map fun x=>P.cellsOf x.1.type)=(fs.toList.zip Rs |>.map Prod.fst).map fun f=>P.cellsOf f.type:=by rw [yg];rfl
   rw [List.map_fst_zip (by omega)] at this
   exact this
  have e2:((fs.toList.zip Rs).map fun x=>(x.1.type,x.1.offset,x.2)).map (·.2.2)=Rs:=by
   rw [yg]
   have:((fs.toList.zip Rs).map fun x=>x.2)=Rs:=by rw [List.map_snd_zip (by omega)]
   exact this
  obtain ⟨l,h1,h2⟩:=qwh enc W base sp held f (cs:=cs) (k:=0) (fs:=(fs.toList.zip Rs).map fun x=>(x.1.type,x.1.offset,x.2)) (fun g hg=>by
   obtain ⟨x,hx,rfl⟩:=List.mem_map.1 hg
   exact hR x hx) (fun j g hg=>by
   simp only [xf,qv,List.getElem?_zip_eq_some] at hg
   obtain ⟨x,⟨hx1,hx2⟩,rfl⟩:=hg
   have:=q2k ho j x.1 hx1
   rw [qgn,e1,<-qgn];exact this) hm (by rw [e1,hc,hl];omega)
  rw [e2] at h1
  rw [e1,hc] at h2
  exact ⟨l,h1,fun θ=>by rw [h2 θ,qct,zb (by omega)]⟩
end
end Go.Am
namespace Go.Am
open Go.RowKit
theorem qiq {W:World} {k o n:Nat} {cs:List Value} (hn:0<n) (h:W.cells? 0 ⟨k,o,none⟩ n=some cs):∃ arr e fz,W.heap[k]? = some (.cells arr e fz)/\cs=(arr.toList.drop o).take n/\o+n<=arr.size:=by
 unfold World.cells? at h
 rw [xc (zl _)] at h
 have hlen:=mapM_some_length h
 have hget:=fun i (hi:i<n)=>mapM_some_get h i i (by simp [hi])
 obtain ⟨c0,h0⟩:∃ c,W.cell? ⟨k,o,none⟩=some c:=by
  have:=hget 0 hn
  have hl:0<cs.length:=by rw [hlen];simpa using hn
  exact ⟨cs[0],by simpa [Addr.add,hl] using this⟩
 obtain ⟨arr,e,fz,hh⟩:∃ arr e fz,W.heap[k]? = some (.cells arr e fz):=by
  unfold World.cell? at h0
  split at h0
  ·rename_i arr e fz hh;exact ⟨arr,e,fz,hh⟩
  ·cases h0
 refine ⟨arr,e,fz,hh,?_,?_⟩
 ·refine vz fun i=>?_
  by_cases hi:i<n
  ·have:=hget i hi
   rw [qd5,qp1 hh] at this
   rw [j6,xc hi,j5]
   rw [<-jy] at this
   exact this.symm
  ·rw [zr (by rw [hlen];simp;omega),zr (by simp;omega)]
 ·have:=hget (n-1) (by omega)
  rw [qd5,qp1 hh] at this
  have hl:n-1<cs.length:=by rw [hlen];simp;omega
  rw [xu hl] at this
  have:=(jr.1 this).1
  omega
theorem qms {α:Type} {L:List α} {size:Nat}:∀ {cs:List (List α)} {o:Nat},(∀ (i:Nat) c,cs[i]? = some c->c=(L.drop (o+i*size)).take size/\c.length=size)->cs.flatten=(L.drop o).take (cs.length*size)
 | [],o,_=>by simp
 | c::cs,o,h=>by
  obtain ⟨h1,h2⟩:=h 0 c rfl
  rw [yh,kz] at h1
  have ih:=qms (cs:=cs) (o:=o+size) fun i d hd=>by
   have:=h (i+1) d (by simpa using hd)
   rw [show o+size+i*size=o+(i+1)*size from by rw [k9];omega];exact this
  rw [qcw,ih,jn,k9,Nat.add_comm (cs.length*size),List.take_add,qa5,<-h1]
section
variable {P:Program}
def SlP (R:List AV->Prop) (size:Nat) (H:AHeap) (u:AV):Prop:=∃ ls:List (List AV),(∀ l ∈ ls,R l/\l.length=size)/\Sl H size u ls.length ls.flatten
theorem SlP.em {R:List AV->Prop} {size:Nat} {H H':AHeap} {u:AV} (h:SlP R size H u) (f:Fr Em H H'):SlP R size H' u:=by
 obtain ⟨ls,h1,h2⟩:=h;exact ⟨ls,h1,h2.em f⟩
theorem Step.bare {W:World} {θ:Th} {n:Nat} {gl:GL} (h:Good W θ n gl) (k off:Nat):Step W θ n gl (θ.add n k off 0) (n+1) gl:=by
 have hag:Ag (Lt n) θ (θ.add n k off 0):=θ.add_ag n k off 0 (qei n)
 have hd:∀ b,Lt n b->Lt (n+1) b:=fun b hb=>qd7 hb
 refine ⟨yx n,hag,fun b l' hm=>?_,fun b hb=>rfl⟩
 obtain ⟨h1,pre,cs,post,e,fz,h2,h3,h4⟩:=h b l' hm
 obtain ⟨q1,q2,_⟩:=hag b h1
 exact ⟨qd7 h1,pre,cs,post,e,fz,by rw [q1];exact h2,by rw [q2];exact h3,h4.up hag hd⟩
end
end Go.Am
namespace Go.Am
open Go.RowKit Go.ChangeShapes Go.WideShapes Go.ChangeAt
section
variable {P:Program}
theorem q47 {W:World} {r:Reach} {base:Nat} {t:TypeId} {v:Value} (ht:(∃ fs,P.underlying t=some (.struct fs)) \/ ∃ n e,P.underlying t=some (.array n e)) (h:Value.okWide P W r base t v):∃ cs:Array Value,v=.agg cs:=by
 unfold Value.okWide at h
 rcases ht with ⟨fs,ht⟩|⟨n,e,ht⟩
 ·rw [ht] at h;obtain ⟨cs,h,_⟩:=h;exact ⟨cs,h⟩
 ·rw [ht] at h;obtain ⟨cs,h,_⟩:=h;exact ⟨cs,h⟩
theorem qs0 {W:World} {r:Reach} {base:Nat} {t e:TypeId} {v:Value} (ht:P.underlying t=some (.slice e)) (h:Value.okWide P W r base t v):v.cells.toList=[v]:=by
 unfold Value.okWide at h
 rw [ht] at h
 cases v with
 | agg cs =>
  simp only [Cell.okWide,ht] at h
  unfold Cell.ok at h
  rw [ht] at h
  exact h.elim
 | _=>rfl
theorem qvj {H:Type} {enc:TypeId × Value->H} {W:World} {b:Nat} {sp:Nat->Bool} {held:Bool} {t:TypeId} {ts:List TypeId} {vs:List Value} {ds:List (DataW H)} {ps:List MemPlace} (h:DataW.TrodAll enc P W b sp held (t::ts) vs ds ps) :
 ∃ v vs' d ds' p q fuel,vs=v::vs'/\ds=d::ds'/\DataW.trod enc P W b sp held fuel t v.cells.toList=some (d,p)/\DataW.TrodAll enc P W b sp held ts vs' ds' q:=by
 cases vs with
 | nil=>exact h.elim
 | cons v vs =>
  cases ds with
  | nil=>exact h.elim
  | cons d ds=>obtain ⟨p,q,⟨fuel,h1⟩,h2,_⟩:=h;exact ⟨v,vs,d,ds,p,q,fuel,rfl,rfl,h1,h2⟩
theorem trod_nil {H:Type} {enc:TypeId × Value->H} {W:World} {b:Nat} {sp:Nat->Bool} {held:Bool} {vs:List Value} {ds:List (DataW H)} {ps:List MemPlace} (h:DataW.TrodAll enc P W b sp held [] vs ds ps):vs=[]/\ds=[]:=by
 cases vs with
 | cons v vs=>exact h.elim
 | nil =>
  cases ds with
  | cons d ds=>exact h.elim
  | nil=>exact ⟨rfl,rfl⟩
noncomputable def Mac.plain (P:Program):Mac:=⟨cProg P,fun _ _ _ _=>none,fun _=>false,fun _ _ _ _ _=>rfl⟩
theorem q33 (hP:PGood P) {M:Mac} (hM:M.prog=cProg P) (ht:wt P 0 M.told) (htm:qak M.told) {W:World} {θ:Th} {n:Nat} {gl:GL} (h:HR P 0 (Lt n) θ (vd gl n) W) {f:Nat} {vs:List AV} {args:Array Value} (hv:VRL (Lt n) θ vs args.toList) {H':AHeap}
 (hc:CALL M f vs (vd gl n) (.ret (.bool true)) H'):Calls P f args W fun e w'=>e=.returned (.bool true)/\Below W.heap.size W w':=by
 obtain ⟨m,hr⟩:=hc.acall
 simp only [Mac.call,hM] at hr
 intro cs
 obtain ⟨_,θ',w',cs',fr,e',g1,g2,g3,g4,g5,g6,g7,g8,g9,g10⟩ :=
  qmk hP (fun rt hAP hc hr' hcm hrm=>qwe hP hAP hc hr' hcm hrm) ht htm m (Lt n) θ (vd gl n) W f vs args none H' (.ret (.bool true)) none .normal cs h hv rfl hr
   (fun b h1 h2 hb=>by have h1:n<=b:=h1;have hb:b<n:=hb;omega)
 have hcs:cs'=cs:=g9
 subst hcs
 cases e' with
 | returned c =>
  have g5:VR _ θ' (.bool true) c:=g5
  exact ⟨.returned c,w',fr,⟨by rw [<-g5.now];rfl,g7.below (qnu _ _)⟩,g1,g3,qii g4 g2⟩
 | panicked _=>exact g5.elim
 | outgrown=>exact g5.elim
theorem qpw {H:Type} {enc:TypeId × Value->H} (hl:laidOutB P=true) {W W':World} {sp:Nat->Bool}:∀ {ts:List TypeId} {vs:List Value} {ds:List (DataW H)} {ps:List MemPlace},
 (∀ t ∈ ts,P.readableRec t=true/\t<P.types.size)->DataW.TrodAll enc P W 0 (fun _=>true) true ts vs ds ps->Below W.heap.size W W'->(∀ x ∈ ps,x.block<W.heap.size)->(∀ x ∈ ps,sp x.block=true) ->
 DataW.TrodAll enc P W' 0 sp true ts vs ds ps
 | [],[],[],ps,_,h,_,_,_=>h
 | t::ts,v::vs,d::ds,ps,ht,⟨p,q,h1,h2,e⟩,hb,hlt,hs=>by
  subst e
  exact ⟨p,q,WideElems.Trod_stays hl (ht t (by simp)).1 (ht t (by simp)).2 h1 (fun x hx=>hb.same (hlt x (by simp [hx]))) (fun x hx=>hs x (by simp [hx])),
   qpw hl (fun t h=>ht t (by simp [h])) h2 hb (fun x hx=>hlt x (by simp [hx])) (fun x hx=>hs x (by simp [hx])),rfl⟩
 | [],_::_,_,_,_,h,_,_,_=>h.elim
 | [],[],_::_,_,_,h,_,_,_=>h.elim
 | _::_,[],_,_,_,h,_,_,_=>h.elim
 | _::_,_::_,[],_,_,h,_,_,_=>h.elim
theorem qx8 {H:Type} {enc:TypeId × Value->H} {f:Nat} {fn:Func} {s:ChangeSpec} {tb:TypeId} (hl:laidOutB P=true) (hread:∀ t ∈ fn.params.toList,P.readableRec t=true/\t<P.types.size) (hsv:s.vars=[])
 (hfn:∀ ds:List (DataW H),ds.length=fn.params.size->s.fn H ds = { results:=[.lit (.bool true)],args:=ds }) (hrt:fn.resultTypes = #[tb]) (htb:P.underlying tb=some .bool)
 {W:World} {args:Array Value} {ds gs:List (DataW H)} {before:List MemPlace} {apart fresh handsOn again:Bool}
 (hW:DataW.Whole enc P fn.params.toList s.vars apart W args.toList ds gs before) (hrun:Calls P f args W fun e w'=>e=.returned (.bool true)/\Below W.heap.size W w') :
 Calls P f args W fun e W'=>∃ v,e=.returned v/\s.post enc P fn apart fresh handsOn again W args v W':=by
 have hlt:∀ p ∈ before,p.block<W.heap.size:=hW.lt
 have hW':=hW
 obtain ⟨p,q,hA,hV,rfl,hfz,hnd⟩:=hW
 rw [hsv] at hV
 obtain ⟨rfl,rfl⟩:=trodVars_none hV
 have hlen:ds.length=fn.params.size:=by
  have:∀ {ts:List TypeId} {vs:List Value} {ds:List (DataW H)} {ps:List MemPlace},DataW.TrodAll enc P W 0 (fun _=>true) true ts vs ds ps->ds.length=ts.length:=by
   intro ts
   induction ts with
   | nil=>intro vs ds ps h;cases vs<;>cases ds<;>first|rfl|exact h.elim
   | cons t ts ih =>
    intro vs ds ps h
    cases vs with
    | nil=>exact h.elim
    | cons v vs =>
     cases ds with
     | nil=>exact h.elim
     | cons d ds=>obtain ⟨p,q,_,h2,_⟩:=h;simp [ih h2]
  rw [this hA];simp
 refine hrun.mono fun e W' ⟨he,hg⟩=>?_
 subst he
 refine ⟨_,rfl,qx9 (pa:=p) (pv:=[]) hW' (fun _ _ _=>?_) (fun sp hs=>?_) (fun _ _=>?_) rfl hg ?_⟩
 ·rw [hrt,jb,hfn ds hlen];exact trodAll_cons_mk (shut_bool htb _) trodAll_mk0
 ·rw [jb,hfn ds hlen]
  exact qpw hl hread hA hg (fun x hx=>hlt x (by simp [hx])) (fun x hx=>hs x (by simp [hx]))
 ·rw [hsv,jb,hfn ds hlen];rfl
 ·exact ok_one hrt rfl (okWide_bool_mk htb _)
end
end Go.Am
namespace Go.Am
open Go.RowKit
section
variable {P:Program}
def RdP (P:Program) (t:TypeId) (R:AHeap->List AV->Prop):Prop :=
 (∀ H H' l,R H l->Fr Em H H'->R H' l) /\ ∀ {Hh:Type} (enc:TypeId × Value->Hh) (W:World) (held:Bool) (fuel:Nat) (cs:List Value) (d:DataW Hh) (ps:List MemPlace),
  DataW.trod enc P W 0 (fun _=>true) held fuel t cs=some (d,ps) -> ∀ (θ:Th) (n:Nat) (gl:GL),Good W θ n gl -> ∃ θ' n' gl' l,Step W θ n gl θ' n' gl'/\VRL (Lt n') θ' l cs/\R (vd gl' n') l
theorem qyj {t:TypeId} {R:List AV->Prop} (h:FlatP P t R):RdP P t fun _ l=>R l :=
 ⟨fun _ _ _ h _=>h,fun enc W held fuel cs d ps ht θ n gl hg=>by
  obtain ⟨l,h1,h2⟩:=h enc W 0 _ held fuel cs d ps ht
  exact ⟨θ,n,gl,l,Step.refl hg,fun θ' _=>h2 θ',h1⟩⟩
theorem q6g {e:TypeId} {R:AHeap->List AV->Prop} (hR:RdP P e R) {Hh:Type} (enc:TypeId × Value->Hh) (W:World) (held:Bool) (fuel:Nat):∀ (css:List (List Value)),(∀ cs ∈ css,∃ x,DataW.trod enc P W 0 (fun _=>true) held fuel e cs=some x) ->
 ∀ (θ:Th) (n:Nat) (gl:GL),Good W θ n gl -> ∃ (θ':Th) (n':Nat) (gl':GL) (ls:List (List AV)),Step W θ n gl θ' n' gl'/\VRL (Lt n') θ' ls.flatten css.flatten/\ls.length=css.length /\ ∀ (i:Nat) l cs,ls[i]? = some l->css[i]? = some cs->R (vd gl' n') l/\l.length=cs.length
 | [],_,θ,n,gl,hg=>⟨θ,n,gl,[],Step.refl hg,.nil,rfl,fun i l cs h=>by simp at h⟩
 | cs::css,h,θ,n,gl,hg=>by
  obtain ⟨x,hx⟩:=h cs (by simp)
  obtain ⟨θ1,n1,gl1,l,s1,v1,r1⟩:=hR.2 enc W held fuel cs x.1 x.2 hx θ n gl hg
  obtain ⟨θ2,n2,gl2,ls,s2,v2,q2,q3⟩:=q6g hR enc W held fuel css (fun c hc=>h c (by simp [hc])) θ1 n1 gl1 s1.good
  refine ⟨θ2,n2,gl2,l::ls,s1.trans s2,?_,by simp [q2],fun i l' cs' h1 h2=>?_⟩
  ·rw [qcw,qcw]
   exact (v1.up s2.ag fun b hb=>ql hb s2.le).app v2
  ·cases i with
   | zero =>
    simp at h1 h2;subst h1;subst h2
    exact ⟨hR.1 _ _ _ r1 s2.fr,v1.length.symm⟩
   | succ i=>exact q3 i l' cs' (by simpa using h1) (by simpa using h2)
def SlR (R:AHeap->List AV->Prop) (size:Nat) (H:AHeap) (u:AV):Prop:=∃ ls:List (List AV),(∀ l ∈ ls,R H l/\l.length=size)/\Sl H size u ls.length ls.flatten/\(u=.nils\/slB u<H.next)
theorem SlR.em {R:AHeap->List AV->Prop} (hm:∀ H H' l,R H l->Fr Em H H'->R H' l) {size:Nat} {H H':AHeap} {u:AV} (h:SlR R size H u) (f:Fr Em H H'):SlR R size H' u:=by
 obtain ⟨ls,h1,h2,h3⟩:=h
 exact ⟨ls,fun l hl=>⟨hm _ _ _ (h1 l hl).1 f,(h1 l hl).2⟩,h2.em f,h3.imp id fun q=>ql q f.next⟩
def encSpot:Option Nat->Nat
 | none=>0
 | some z=>z+1
theorem q27 (s:Option Nat):spotOf (encSpot s)=s:=by cases s<;>rfl
theorem Step.bare' {W:World} {θ:Th} {n:Nat} {gl:GL} (h:Good W θ n gl) (k off ext:Nat):Step W θ n gl (θ.add n k off ext) (n+1) gl:=by
 have hag:Ag (Lt n) θ (θ.add n k off ext):=θ.add_ag n k off ext (qei n)
 have hd:∀ b,Lt n b->Lt (n+1) b:=fun b hb=>qd7 hb
 refine ⟨yx n,hag,fun b l' hm=>?_,fun b hb=>rfl⟩
 obtain ⟨h1,pre,cs,post,e,fz,h2,h3,h4⟩:=h b l' hm
 obtain ⟨q1,q2,_⟩:=hag b h1
 exact ⟨qd7 h1,pre,cs,post,e,fz,by rw [q1];exact h2,by rw [q2];exact h3,h4.up hag hd⟩
theorem qil {W:World} {a:Addr} {n:Nat} {cs:List Value} (hn:0<n) (h:W.cells? 0 a n=some cs):a.spot=none:=by
 unfold World.cells? at h
 rw [xc (zl _)] at h
 have:=mapM_some_get h 0 0 (by simp [hn])
 have hl:0<cs.length:=by rw [mapM_some_length h];simpa using hn
 rw [xu hl] at this
 exact World.cell?_spot (by simpa [Addr.add] using this)
theorem rd_slice {t e:TypeId} {R:AHeap->List AV->Prop} (ht:P.underlying t=some (.slice e)) (hR:RdP P e R) (hs:0<P.cellsOf e):RdP P t fun H l=>∃ u,l=[u]/\SlR R (P.cellsOf e) H u:=by
 refine ⟨fun H H' l ⟨u,h1,h2⟩ f=>⟨u,h1,h2.em hR.1 f⟩,?_⟩
 intro Hh enc W held fuel cs0 d ps h θ n gl hg
 cases fuel with
 | zero=>cases h
 | succ f =>
  have key:cs0=[.slice none 0 0] \/ ∃ a len cap,cs0=[.slice (some a) len cap]/\len<=cap/\(∀ i,i<len -> ∃ cs x,W.cells? 0 (a.add (i*P.cellsOf e)) (P.cellsOf e)=some cs/\DataW.trod enc P W 0 (fun _=>true) held f e cs=some x)/\(len<cap -> ∃ cs,W.cells? 0 (a.add (len*P.cellsOf e)) (P.cellsOf e)=some cs):=by
   simp only [DataW.trod,ht] at h
   split at h<;>first|(cases h;done) | skip
   all_goals first|(rename_i h1;cases h1;done) | skip
   ·left;rfl
   ·right
    rename_i e' a len cap h1
    injection h1 with h1;injection h1 with h1;subst h1
    split at h
    ·rename_i hb
     simp only [qa,qbr,qv] at h
     obtain ⟨elems,he,rest,hre,_⟩:=h
     refine ⟨a,len,cap,rfl,hb.2.1,fun i hi=>?_,fun hlt=>?_⟩
     ·have hl:=mapM_some_length he
      have:=mapM_some_get he i i (by simp [hi])
      have hi':i<elems.length:=by rw [hl];simpa using hi
      rw [xu hi'] at this
      obtain ⟨cs,q1,q2⟩:=qa.1 this
      exact ⟨cs,_,q1,q2⟩
     ·have hl:=mapM_some_length hre
      have:=mapM_some_get hre 0 0 (by rw [vo (by omega)])
      have hi':0<rest.length:=by rw [hl];simp;omega
      rw [xu hi',kz] at this
      obtain ⟨cs,q1,q2⟩:=qa.1 this
      exact ⟨cs,q1⟩
    ·cases h
  rcases key with rfl|⟨a,len,cap,rfl,hlc,hel,hre⟩
  ·exact ⟨θ,n,gl,[.nils],Step.refl hg,fun _ _=>rfl,.nils,rfl,[],by simp,⟨by simp,rfl⟩,.inl rfl⟩
  ·obtain ⟨k,o,s⟩:=a
   by_cases h0:cap=0
   ·subst h0
    have:len=0:=by omega
    subst this
    have hst:=Step.bare' hg k o (encSpot s)
    refine ⟨_,_,_,[.eslice n],hst,.one ?_,.eslice n,rfl,[],by simp,⟨by simp,rfl,xp n⟩,.inr (xp n)⟩
    intro θ' hθ
    obtain ⟨q1,q2,q3⟩:=θ.add_new n k o (encSpot s)
    obtain ⟨r1,r2,r3⟩:=hθ n (xp n)
    simp only [conc,r1,r2,r3,q1,q2,q3,q27]
   ·have hsp:s=none:=by
     by_cases hl0:len=0
     ·subst hl0
      obtain ⟨cs,hc⟩:=hre (by omega)
      rw [yh] at hc
      exact qil hs (by simpa [Addr.add] using hc)
     ·obtain ⟨cs,x,hc,_⟩:=hel 0 (by omega)
      rw [yh] at hc
      exact qil hs (by simpa [Addr.add] using hc)
    subst hsp
    by_cases hl0:len=0
    ·subst hl0
     refine ⟨_,_,_,[.slice n 0 0 cap],Step.bare hg k o,.one ?_,.slice n 0 0 cap,rfl,[],by simp,⟨by simp,rfl,zl _,.inl rfl⟩,.inr (xp n)⟩
     have:=VR.slice (D:=Lt (n+1)) (θ:=θ.add n k o 0) (b:=n) (o:=0) (n:=0) (c:=cap) (xp n:Lt (n+1) n)
     obtain ⟨q1,q2,_⟩:=θ.add_new n k o 0
     simpa [conc,q1,q2] using this
    ·have hex:∀ i:Nat,∃ cs,i<len->W.cells? 0 ⟨k,o+i*P.cellsOf e,none⟩ (P.cellsOf e)=some cs /\ ∃ x,DataW.trod enc P W 0 (fun _=>true) held f e cs=some x:=fun i=>by
      by_cases hi:i<len
      ·obtain ⟨cs,x,h1,h2⟩:=hel i hi
       rw [qd5] at h1
       exact ⟨cs,fun _=>⟨h1,x,h2⟩⟩
      ·exact ⟨[],fun h=>(hi h).elim⟩
     obtain ⟨F,hF⟩:=Classical.axiomOfChoice hex
     let css:=(List.range len).map F
     have hcl:css.length=len:=by simp [css]
     have hcg:∀ (i:Nat) c,css[i]? = some c->i<len/\c=F i:=fun i c hc=>by
      simp only [css,xf,qv] at hc
      obtain ⟨j,hj,rfl⟩:=hc
      have hi:i<len:=by have:=qdq hj;simpa using this
      rw [vo hi] at hj
      injection hj with hj;subst hj
      exact ⟨hi,rfl⟩
     obtain ⟨arr,e',fz,hh,_,_⟩:=qiq hs (hF 0 (by omega)).1
     obtain ⟨arr',e2,fz2,hh',_,hle⟩:=qiq hs (hF (len-1) (by omega)).1
     rw [hh] at hh';injection hh' with hh';injection hh' with q1 q2 q3;subst q1
     have hmul:(len-1)*P.cellsOf e+P.cellsOf e=len*P.cellsOf e:=by rw [<-k9];congr 1;omega
     have hone:∀ (i:Nat) c,css[i]? = some c->c=(arr.toList.drop (o+i*P.cellsOf e)).take (P.cellsOf e)/\c.length=P.cellsOf e:=fun i c hc=>by
      obtain ⟨hi,rfl⟩:=hcg i c hc
      obtain ⟨arr',e2,fz2,hh',h6,h7⟩:=qiq hs (hF i hi).1
      rw [hh] at hh';injection hh' with hh';injection hh' with q1 q2 q3;subst q1
      exact ⟨h6,by rw [h6];simp;omega⟩
     have hcat:css.flatten=(arr.toList.drop o).take (len*P.cellsOf e):=by rw [qms hone,hcl]
     obtain ⟨θ1,n1,gl1,ls,s1,v1,l1,r1⟩:=q6g hR enc W held f css (fun c hc=>by
      obtain ⟨i,hi⟩:=qay.1 hc
      obtain ⟨hi',rfl⟩:=hcg i c hi
      exact (hF i hi').2) θ n gl hg
     rw [hcat] at v1
     have hsz:o+len*P.cellsOf e<=arr.size:=by omega
     have hls:ls.length=len:=by rw [l1,hcl]
     have hflen:ls.flatten.length=len*P.cellsOf e:=by rw [<-v1.length,zm,vx,kv];omega
     have hrow:=Step.row (l:=ls.flatten) (k:=k) (off:=o) (pre:=arr.toList.take o) (cs:=(arr.toList.drop o).take (len*P.cellsOf e)) (post:=arr.toList.drop (o+len*P.cellsOf e)) (e:=e') (fz:=fz) s1.good (by
      rw [hh];congr 2
      have hq:arr.toList.take o++(arr.toList.drop o).take (len*P.cellsOf e)++arr.toList.drop (o+len*P.cellsOf e)=arr.toList:=by
       rw [zj,<-qa5,kq,kq]
      rw [hq]) (by simp;omega) v1
     refine ⟨_,_,_,[.slice n1 0 len cap],s1.trans hrow,.one ?_,.slice n1 0 len cap,rfl,ls,fun l hl=>?_,⟨by rw [hflen,hls],hls.symm,by rw [hls];exact hlc,.inr ⟨xp n1,ls.flatten,xd (fz:=(0,0)) (e:=0) (ow:=false) ?_,?_⟩⟩,.inr (xp n1)⟩
     ·have:=VR.slice (D:=Lt (n1+1)) (θ:=θ1.add n1 k o 0) (b:=n1) (o:=0) (n:=len) (c:=cap) (xp n1:Lt (n1+1) n1)
      obtain ⟨q1,q2,_⟩:=θ1.add_new n1 k o 0
      simpa [conc,q1,q2] using this
     ·obtain ⟨i,hi⟩:=qay.1 hl
      have hil:i<css.length:=by rw [<-l1];exact qdq hi
      obtain ⟨q1,q2⟩:=r1 i l css[i] hi (by simp [hil])
      exact ⟨hR.1 _ _ _ q1 hrow.fr,by rw [q2];exact (hone i _ (by simp [hil])).2⟩
     ·show (qet ((n1,ls.flatten)::gl1) .nil).get n1=_
      rw [qet,T.get_set,xc rfl]
     ·rw [hls,qce,xc (by omega),qct,zb (by omega)]
end
end Go.Am
namespace Go.Am
open Go.RowKit
section
variable {P:Program}
theorem q3x {t e:TypeId} {n:Nat} {R:List AV->Prop} (h:P.underlying t=some (.array n e)) (hR:FlatP P e R) (hc:n*P.cellsOf e=P.cellsOf t):FlatP P t (isParts (List.replicate n R)):=by
 intro H enc W base sp held fuel cs d ps ht
 cases fuel with
 | zero=>cases ht
 | succ f =>
  have hlen:cs.length=P.cellsOf t /\ ∃ xs,(List.range n).mapM (fun i=>DataW.trod enc P W base sp held f e ((cs.drop (i*P.cellsOf e)).take (P.cellsOf e)))=some xs:=by
   simp only [DataW.trod,h] at ht
   split at ht
   ·rename_i hl
    obtain ⟨xs,hm,_⟩:=qv.1 ht
    exact ⟨hl,xs,hm⟩
   ·cases ht
  obtain ⟨hl,xs,hm⟩:=hlen
  have hel:∀ i,i<n -> ∃ x,DataW.trod enc P W base sp held f e ((cs.drop (i*P.cellsOf e)).take (P.cellsOf e))=some x:=fun i hi=>by
   have hl:=mapM_some_length hm
   have:=mapM_some_get hm i i (by rw [vo hi])
   have hi':i<xs.length:=by rw [hl];simpa using hi
   rw [xu hi'] at this
   exact ⟨_,this⟩
  have key:∀ (m k:Nat),k+m=n -> ∃ l,isParts (List.replicate m R) l /\ ∀ θ,concL θ l=cs.drop (k*P.cellsOf e):=by
   intro m
   induction m with
   | zero =>
    intro k hk
    refine ⟨[],rfl,fun θ=>?_⟩
    rw [j7 (by rw [hl,<-hc,show k=n by omega];exact qe _)]
    simp [concL]
   | succ m ih =>
    intro k hk
    obtain ⟨x,hx⟩:=hel k (by omega)
    obtain ⟨a,ha,hca⟩:=hR enc W base sp held f _ x.1 x.2 hx
    obtain ⟨b,hb,hcb⟩:=ih (k+1) (by omega)
    refine ⟨a++b,⟨a,b,rfl,ha,hb⟩,fun θ=>?_⟩
    rw [qbf,qc0,<-qbf,<-qbf,hca,hcb,k9,<-qa5,kq]
  obtain ⟨l,h1,h2⟩:=key n 0 (by omega)
  exact ⟨l,h1,fun θ=>by rw [h2 θ,yh,qct]⟩
theorem slt_of {α:Type} {enc:α->List AV} {R:AHeap->List AV->Prop} {Q:α->Prop} {size:Nat} {H:AHeap} {u:AV} (hR:∀ l,R H l -> ∃ x,l=enc x/\Q x) (h:SlR R size H u):∃ xs:List α,SlT enc size H u xs /\ ∀ x ∈ xs,Q x:=by
 obtain ⟨ls,h1,h2,_⟩:=h
 have:∀ ls:List (List AV),(∀ l ∈ ls,R H l) -> ∃ xs:List α,ls=xs.map enc /\ ∀ x ∈ xs,Q x:=by
  intro ls
  induction ls with
  | nil=>exact fun _=>⟨[],rfl,by simp⟩
  | cons l ls ih =>
   intro h
   obtain ⟨xs,q1,q2⟩:=ih fun l hl=>h l (by simp [hl])
   obtain ⟨x,q3,q4⟩:=hR l (h l (by simp))
   refine ⟨x::xs,by rw [q3,q1];rfl,fun c hc=>?_⟩
   rcases zp.1 hc with rfl|hc
   ·exact q4
   ·exact q2 c hc
 obtain ⟨xs,q1,q2⟩:=this ls fun l hl=>(h1 l hl).1
 refine ⟨xs,?_,q2⟩
 subst q1
 rw [zd] at h2
 unfold SlT
 have e:(xs.map enc).flatten=xs.flatMap enc:=by rw [List.flatMap_def]
 rw [<-e];exact h2
theorem arg_flat {t:TypeId} {R:List AV->Prop} (hR:FlatP P t R) (ha:(∃ fs,P.underlying t=some (.struct fs)) \/ ∃ n e,P.underlying t=some (.array n e)) {H:Type} {enc:TypeId × Value->H} {W:World} {r:Reach} {base b2:Nat} {sp:Nat->Bool} {held:Bool} {fuel:Nat} {v:Value} {d:DataW H} {ps:List MemPlace}
 (hv:Value.okWide P W r b2 t v) (h:DataW.trod enc P W base sp held fuel t v.cells.toList=some (d,ps)):∃ l,R l /\ ∀ D θ,VR D θ (.agg l) v:=by
 obtain ⟨cs,rfl⟩:=q47 ha hv
 obtain ⟨l,h1,h2⟩:=hR enc W base sp held fuel _ d ps h
 refine ⟨l,h1,fun D θ=>?_⟩
 have hc:∀ θ,concL θ l=cs.toList:=h2
 have:=VR.agg (D:=D) (θ:=θ) (l:=l) (cs:=cs.toList) (fun θ' _=>hc θ')
 simpa using this
end
end Go.Am
namespace Go.Am
variable {P:Program}
end Go.Am
namespace Go.Am
open Go.RowKit
variable {P:Program}
theorem laidN {tp:TypeId} {w:World} {laid:List (String × DataW Unit)} (hn:noSent laid=true) (h:laidMet P laid w) :
 ∃ θ:Th,(∀ g,g<P.globals.size -> θ.blk g=g /\ θ.off g=0)/\Good w θ (P.globals.size+laid.length) (rowsOf P tp P.globals.size laid):=laidS h (fun x hx=>⟨default,fun g t s h1 h2 h3=>by
  have:=qdl.1 hn x hx
  rw [h3] at this;cases this⟩)
theorem q3z {W:World} {θL θ:Th} {n0 n:Nat} {gl0 gl:GL} (hn:P.globals.size<=n0) (hg:∀ g,g<P.globals.size -> θL.blk g=g /\ θL.off g=0) (h:Step W θL n0 gl0 θ n gl):HR P 0 (Lt n) θ (vd gl n) W :=
 HR.givenD (zl _) (zn hn h.le) (fun g hlt=>by obtain ⟨q1,q2,_⟩:=h.ag g (ql hlt hn);obtain ⟨r1,r2⟩:=hg g hlt;exact ⟨q1.trans r1,q2.trans r2⟩) h.good
def fsOf (L:List TEntry):List Nat:=L.map fun e=>e.f
theorem qwg {gl:List (Nat × List AV)} {H:AHeap} {f:Nat} {vs:List AV}:∀ {L:List TEntry},memN f (fsOf L)=false->findT gl H f vs L=none
 | [],_=>rfl
 | e::L,h=>by
  have h:cond (Nat.beq e.f f) true (memN f (fsOf L))=false:=h
  cases hb:Nat.beq e.f f with
  | true=>rw [hb] at h;cases h
  | false =>
   rw [hb] at h
   have:Nat.beq f e.f=false:=by
    cases hc:Nat.beq f e.f with
    | false=>rfl
    | true=>rw [Nat.eq_of_beq_eq_true hc] at hb;simp at hb
   simp only [findT,this,Bool.false_and,xy]
   exact qwg h
noncomputable def Mac.tell (P:Program) (gl:List (Nat × List AV)) (L:List TEntry):Mac:=⟨cProg P,toldOf gl L,fun f=>memN f (fsOf L),fun f vs up H h=>by
 cases up with
 | none=>exact qwg h
 | some _=>rfl⟩
theorem Mac.tell_func {gl:List (Nat × List AV)} {L:List TEntry} {n:Nat} (h:memN n (fsOf L)=false):(Mac.tell P gl L).func n=(cProg P).func n:=by
 show cond (memN n (fsOf L)) none _=_
 rw [h];rfl
theorem q49 {gl:List (Nat × List AV)} {f:Nat} {v:AV} {H:AHeap} (hr:hasRows H gl=true):yf (Mac.tell P gl [⟨f,[],v⟩]) f [] H fun w H'=>w=v/\H'=H:=by
 have h:toldOf gl [⟨f,[],v⟩] f [] none H=some (.ret v,none,H):=by
  show findT gl H f [] [⟨f,[],v⟩]=_
  have e:Nat.beq f f=true:=by simp
  simp only [findT,e,hr,eqAVL,ko,qz]
 refine yf.intro (v:=v) (H':=H) ⟨0,fun n _=>?_⟩ ⟨rfl,rfl⟩
 cases n with
 | zero=>exact h
 | succ n =>
  show (match toldOf gl [⟨f,[],v⟩] f [] none H with|some r=>some r|none=>_)=_
  rw [h]
theorem qwi {n:Nat} {H H':AHeap}:∀ {gl:List (Nat × List AV)},rowsOk n gl=true->(∀ b,b<n->H'.get b=H.get b)->hasRows H gl=true->hasRows H' gl=true
 | [],_,_,_=>rfl
 | (b,l)::r,hok,hk,h=>by
  simp only [rowsOk,xb,we] at hok
  simp only [hasRows,xb] at h ⊢
  rw [hk b hok.1.1]
  exact ⟨h.1,qwi hok.2 hk h.2⟩
theorem law_tell (hP:PGood P) {gl0:List (Nat × List AV)} {n0:Nat} {L:List TEntry} (hn:P.globals.size<=n0) (hok:rowsOk n0 gl0=true) (hL:∀ e ∈ L,qec 0 e.args=true/\ToldP P gl0 n0 e)
 {W:World} {θ:Th} {n:Nat} {gl:GL} (h:HR P 0 (Lt n) θ (vd gl n) W) {f:Nat} {vs:List AV} {args:Array Value} (hv:VRL (Lt n) θ vs args.toList)
 (hc:yf (Mac.tell P gl0 L) f vs (vd gl n) fun v _=>v=.bool true):Calls P f args W fun e w'=>e=.returned (.bool true)/\Below W.heap.size W w':=by
 obtain ⟨v,H',hc,rfl⟩:=hc.elim
 exact q33 hP (M:=Mac.tell P gl0 L) rfl (qrg hn hok hL) qvi h hv hc
end Go.Am
