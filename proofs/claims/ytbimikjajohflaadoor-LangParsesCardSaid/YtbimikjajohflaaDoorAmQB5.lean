/- B5: Args Args2 Args3 Args4 Args5 Args6 ToldM. -/
import Derived.Test.YtbimikjajohflaaDoorAmQB3
import Derived.Test.YtbimikjajohflaaDoorAmQB4
import Derived.Carry
set_option linter.unusedVariables false
set_option linter.unusedSimpArgs false
namespace Go.Am
open Go.RowKit
abbrev GL:=List (Nat × List AV)
def Good (W:World) (θ:Th) (n:Nat) (gl:GL):Prop :=
 ∀ b l,(b,l) ∈ gl->b<n /\ ∃ pre cs post e fz,W.heap[θ.blk b]? = some (.cells (pre++cs++post).toArray e fz)/\pre.length = θ.off b/\VRL (Lt n) θ l cs
structure Step (W:World) (θ:Th) (n:Nat) (gl:GL) (θ':Th) (n':Nat) (gl':GL):Prop where
 le:n<=n'
 ag:Ag (Lt n) θ θ'
 good:Good W θ' n' gl'
 keep:∀ b,b<n->(qe0 gl' .nil).get b=(qe0 gl .nil).get b
theorem Step.refl {W:World} {θ:Th} {n:Nat} {gl:GL} (h:Good W θ n gl):Step W θ n gl θ n gl:=⟨qf n,Ag.refl _ _,h,fun _ _=>rfl⟩
theorem Step.trans {W:World} {θ θ' θ'':Th} {n n' n'':Nat} {gl gl' gl'':GL} (a:Step W θ n gl θ' n' gl') (b:Step W θ' n' gl' θ'' n'' gl''):Step W θ n gl θ'' n'' gl'' :=
 ⟨xw a.le b.le,a.ag.trans b.ag fun x hx=>qj hx a.le,b.good,fun x hx=>by rw [b.keep x (qj hx a.le),a.keep x hx]⟩
theorem Step.fr {W:World} {θ θ':Th} {n n':Nat} {gl gl':GL} (a:Step W θ n gl θ' n' gl'):Fr Em (wn gl n) (wn gl' n'):=⟨a.le,fun b hb _=>a.keep b hb⟩
theorem Step.row {W:World} {θ:Th} {n:Nat} {gl:GL} (h:Good W θ n gl) {k off:Nat} {l:List AV} {pre cs post:List Value} {e:TypeId} {fz:Nat × Nat} (hk:W.heap[k]? = some (.cells (pre++cs++post).toArray e fz)) (hp:pre.length=off) (hv:VRL (Lt n) θ l cs) :
 Step W θ n gl (θ.add n k off 0) (n+1) ((n,l)::gl):=by
 have hag:Ag (Lt n) θ (θ.add n k off 0):=θ.add_ag n k off 0 (qdt n)
 have hd:∀ b,Lt n b->Lt (n+1) b:=fun b hb=>Nat.lt_succ_of_lt hb
 refine ⟨qei n,hag,fun b l' hm=>?_,fun b hb=>?_⟩
 ·rcases z6.1 hm with hm|hm
  ·injection hm with h1 h2;subst h1;subst h2
   obtain ⟨q1,q2,_⟩:=θ.add_new b k off 0
   exact ⟨zq b,pre,cs,post,e,fz,by rw [q1];exact hk,by rw [q2];exact hp,hv.up hag hd⟩
  ·obtain ⟨h1,pre,cs,post,e,fz,h2,h3,h4⟩:=h b l' hm
   obtain ⟨q1,q2,_⟩:=hag b h1
   exact ⟨Nat.lt_succ_of_lt h1,pre,cs,post,e,fz,by rw [q1];exact h2,by rw [q2];exact h3,h4.up hag hd⟩
 ·rw [qe0,T.get_set,qx (by omega)]
section
variable {P:Program}
end
end Go.Am
namespace Go.Am
open Go.RowKit
section
variable {P:Program}
def SlP (R:List AV->Prop) (size:Nat) (H:AHeap) (u:AV):Prop:=∃ ls:List (List AV),(∀ l ∈ ls,R l/\l.length=size)/\Sl H size u ls.length ls.flatten
theorem SlP.em {R:List AV->Prop} {size:Nat} {H H':AHeap} {u:AV} (h:SlP R size H u) (f:Fr Em H H'):SlP R size H' u:=by
 obtain ⟨ls,h1,h2⟩:=h;exact ⟨ls,h1,h2.em f⟩
end
end Go.Am
namespace Go.Am
open Go.RowKit Go.ChangeShapes Go.WideShapes Go.ChangeAt
section
variable {P:Program}
theorem arg_str {W:World} {r:Reach} {base:Nat} {t:TypeId} {v:Value} (ht:P.underlying t=some .string) (h:Value.okWide P W r base t v):∃ s,v=.string s:=by
 unfold Value.okWide at h
 rw [ht] at h
 simp only [Cell.okWide,ht] at h
 unfold Cell.ok at h
 rw [ht] at h
 split at h<;>first|exact h.elim|skip
 all_goals first|(simp_all;done) | skip
theorem q0i {H:Type} {enc:TypeId × Value->H} {W:World} {b:Nat} {sp:Nat->Bool} {held:Bool} {t:TypeId} {ts:List TypeId} {vs:List Value} {ds:List (DataW H)} {ps:List MemPlace} (h:DataW.TrodAll enc P W b sp held (t::ts) vs ds ps) :
 ∃ v vs' d ds' p q fuel,vs=v::vs'/\ds=d::ds'/\DataW.trod enc P W b sp held fuel t v.cells.toList=some (d,p)/\DataW.TrodAll enc P W b sp held ts vs' ds' q:=by
 cases vs with
 | nil=>exact h.elim
 | cons v vs =>
  cases ds with
  | nil=>exact h.elim
  | cons d ds=>obtain ⟨p,q,⟨fuel,h1⟩,h2,_⟩:=h;exact ⟨v,vs,d,ds,p,q,fuel,rfl,rfl,h1,h2⟩
theorem trod_nil {H:Type} {enc:TypeId × Value->H} {W:World} {b:Nat} {sp:Nat->Bool} {held:Bool} {vs:List Value} {ds:List (DataW H)} {ps:List MemPlace} (h:DataW.TrodAll enc P W b sp held [] vs ds ps):vs=[]/\ds=[]:=by
 cases vs with
 | cons v vs=>exact h.elim
 | nil =>
  cases ds with
  | cons d ds=>exact h.elim
  | nil=>exact ⟨rfl,rfl⟩
noncomputable def Mac.plain (P:Program):Mac:=⟨cProg P,fun _ _ _ _=>none,fun _=>false,fun _ _ _ _ _=>rfl⟩
theorem qxf (hP:PGood P) {M:Mac} (hM:M.prog=cProg P) (ht:yn P 0 M.told) (htm:yw M.told) {W:World} {θ:Th} {n:Nat} {gl:GL} (h:HR P 0 (Lt n) θ (wn gl n) W) {f:Nat} {vs:List AV} {args:Array Value} (hv:VRL (Lt n) θ vs args.toList) {H':AHeap}
 (hc:CALL M f vs (wn gl n) (.ret (.bool true)) H'):Calls P f args W fun e w'=>e=.returned (.bool true)/\Below W.heap.size W w':=by
 obtain ⟨m,hr⟩:=hc.acall
 simp only [Mac.call,hM] at hr
 intro cs
 obtain ⟨_,θ',w',cs',fr,e',g1,g2,g3,g4,g5,g6,g7,g8,g9,g10⟩ :=
  qmt hP (fun rt hAP hc hr' hcm hrm=>qw8 hP hAP hc hr' hcm hrm) ht htm m (Lt n) θ (wn gl n) W f vs args none H' (.ret (.bool true)) none .normal cs h hv rfl hr
   (fun b h1 h2 hb=>by have h1:n<=b:=h1;have hb:b<n:=hb;omega)
 have hcs:cs'=cs:=g9
 subst hcs
 cases e' with
 | returned c =>
  have g5:VR _ θ' (.bool true) c:=g5
  exact ⟨.returned c,w',fr,⟨by rw [<-g5.now];rfl,g7.below (ql6 _ _)⟩,g1,g3,qhw g4 g2⟩
 | panicked _=>exact g5.elim
 | outgrown=>exact g5.elim
theorem qy4 (hP:PGood P) {W:World} {θ:Th} {n:Nat} {gl:GL} (h:HR P 0 (Lt n) θ (wn gl n) W) {f:Nat} {vs:List AV} {args:Array Value} (hv:VRL (Lt n) θ vs args.toList) {H':AHeap}
 (hc:CALL (Mac.plain P) f vs (wn gl n) (.ret (.bool true)) H'):Calls P f args W fun e w'=>e=.returned (.bool true)/\Below W.heap.size W w' :=
 qxf hP rfl (fun D θ H w f vs args up H' e up' kind cs _ _ _ h _=>by cases h) (fun f vs up H e up' H' h=>by cases h) h hv hc
theorem qlz {H:Type} {enc:TypeId × Value->H} (hl:laidOutB P=true) {W W':World} {sp:Nat->Bool}:∀ {ts:List TypeId} {vs:List Value} {ds:List (DataW H)} {ps:List MemPlace},
 (∀ t ∈ ts,P.readableRec t=true/\t<P.types.size)->DataW.TrodAll enc P W 0 (fun _=>true) true ts vs ds ps->Below W.heap.size W W'->(∀ x ∈ ps,x.block<W.heap.size)->(∀ x ∈ ps,sp x.block=true) ->
 DataW.TrodAll enc P W' 0 sp true ts vs ds ps
 | [],[],[],ps,_,h,_,_,_=>h
 | t::ts,v::vs,d::ds,ps,ht,⟨p,q,h1,h2,e⟩,hb,hlt,hs=>by
  subst e
  exact ⟨p,q,WideElems.Trod_stays hl (ht t (by simp)).1 (ht t (by simp)).2 h1 (fun x hx=>hb.same (hlt x (by simp [hx]))) (fun x hx=>hs x (by simp [hx])),
   qlz hl (fun t h=>ht t (by simp [h])) h2 hb (fun x hx=>hlt x (by simp [hx])) (fun x hx=>hs x (by simp [hx])),rfl⟩
 | [],_::_,_,_,_,h,_,_,_=>h.elim
 | [],[],_::_,_,_,h,_,_,_=>h.elim
 | _::_,[],_,_,_,h,_,_,_=>h.elim
 | _::_,_::_,[],_,_,h,_,_,_=>h.elim
theorem qry {H:Type} {enc:TypeId × Value->H} {f:Nat} {fn:Func} {s:ChangeSpec} {tb:TypeId} (hl:laidOutB P=true) (hread:∀ t ∈ fn.params.toList,P.readableRec t=true/\t<P.types.size) (hsv:s.vars=[])
 (hfn:∀ ds:List (DataW H),ds.length=fn.params.size->s.fn H ds = { results:=[.lit (.bool true)],args:=ds }) (hrt:fn.resultTypes = #[tb]) (htb:P.underlying tb=some .bool)
 {W:World} {args:Array Value} {ds gs:List (DataW H)} {before:List MemPlace} {apart fresh handsOn again:Bool}
 (hW:DataW.Whole enc P fn.params.toList s.vars apart W args.toList ds gs before) (hrun:Calls P f args W fun e w'=>e=.returned (.bool true)/\Below W.heap.size W w') :
 Calls P f args W fun e W'=>∃ v,e=.returned v/\s.post enc P fn apart fresh handsOn again W args v W':=by
 have hlt:∀ p ∈ before,p.block<W.heap.size:=hW.lt
 have hW':=hW
 obtain ⟨p,q,hA,hV,rfl,hfz,hnd⟩:=hW
 rw [hsv] at hV
 obtain ⟨rfl,rfl⟩:=trodVars_none hV
 have hlen:ds.length=fn.params.size:=by
  have:∀ {ts:List TypeId} {vs:List Value} {ds:List (DataW H)} {ps:List MemPlace},DataW.TrodAll enc P W 0 (fun _=>true) true ts vs ds ps->ds.length=ts.length:=by
   intro ts
   induction ts with
   | nil=>intro vs ds ps h;cases vs<;>cases ds<;>first|rfl|exact h.elim
   | cons t ts ih =>
    intro vs ds ps h
    cases vs with
    | nil=>exact h.elim
    | cons v vs =>
     cases ds with
     | nil=>exact h.elim
     | cons d ds=>obtain ⟨p,q,_,h2,_⟩:=h;simp [ih h2]
  rw [this hA];simp
 refine hrun.mono fun e W' ⟨he,hg⟩=>?_
 subst he
 refine ⟨_,rfl,qrz (pa:=p) (pv:=[]) hW' (fun _ _ _=>?_) (fun sp hs=>?_) (fun _ _=>?_) rfl hg ?_⟩
 ·rw [hrt,j7,hfn ds hlen];exact trodAll_cons_mk (shut_bool htb _) trodAll_mk0
 ·rw [j7,hfn ds hlen]
  exact qlz hl hread hA hg (fun x hx=>hlt x (by simp [hx])) (fun x hx=>hs x (by simp [hx]))
 ·rw [hsv,j7,hfn ds hlen];rfl
 ·exact ok_one hrt rfl (okWide_bool_mk htb _)
end
end Go.Am
namespace Go.Am
open Go.RowKit
section
variable {P:Program}
def SlR (R:AHeap->List AV->Prop) (size:Nat) (H:AHeap) (u:AV):Prop:=∃ ls:List (List AV),(∀ l ∈ ls,R H l/\l.length=size)/\Sl H size u ls.length ls.flatten/\(u=.nils\/slB u<H.next)
theorem SlR.em {R:AHeap->List AV->Prop} (hm:∀ H H' l,R H l->Fr Em H H'->R H' l) {size:Nat} {H H':AHeap} {u:AV} (h:SlR R size H u) (f:Fr Em H H'):SlR R size H' u:=by
 obtain ⟨ls,h1,h2,h3⟩:=h
 exact ⟨ls,fun l hl=>⟨hm _ _ _ (h1 l hl).1 f,(h1 l hl).2⟩,h2.em f,h3.imp id fun q=>qj q f.next⟩
end
end Go.Am
namespace Go.Am
open Go.RowKit
section
variable {P:Program}
end
end Go.Am
namespace Go.Am
variable {P:Program}
end Go.Am
namespace Go.Am
open Go.RowKit
variable {P:Program}
theorem laidN {tp:TypeId} {w:World} {laid:List (String × DataW Unit)} (hn:noSent laid=true) (h:laidMet P laid w) :
 ∃ θ:Th,(∀ g,g<P.globals.size -> θ.blk g=g /\ θ.off g=0)/\Good w θ (P.globals.size+laid.length) (rowsOf P tp P.globals.size laid):=laidS h (fun x hx=>⟨default,fun g t s h1 h2 h3=>by
  have:=qb0.1 hn x hx
  rw [h3] at this;cases this⟩)
theorem laidE {tp:TypeId} (hT:ErrT P tp) {w:World} {laid:List (String × DataW Unit)} (h:laidMet P laid w) :
 ∃ θ:Th,(∀ g,g<P.globals.size -> θ.blk g=g /\ θ.off g=0)/\Good w θ (P.globals.size+laid.length) (rowsOf P tp P.globals.size laid):=laidS h (fun x hx=>qzw hT h hx)
theorem qxd {W:World} {θL θ:Th} {n0 n:Nat} {gl0 gl:GL} (hn:P.globals.size<=n0) (hg:∀ g,g<P.globals.size -> θL.blk g=g /\ θL.off g=0) (h:Step W θL n0 gl0 θ n gl):HR P 0 (Lt n) θ (wn gl n) W :=
 HR.givenD (jo _) (xw hn h.le) (fun g hlt=>by obtain ⟨q1,q2,_⟩:=h.ag g (qj hlt hn);obtain ⟨r1,r2⟩:=hg g hlt;exact ⟨q1.trans r1,q2.trans r2⟩) h.good
theorem qy5 (hP:PGood P) {W:World} {θ:Th} {n:Nat} {gl:GL} (h:HR P 0 (Lt n) θ (wn gl n) W) {f:Nat} {vs:List AV} {args:Array Value} (hv:VRL (Lt n) θ vs args.toList)
 (hc:y9 (Mac.plain P) f vs (wn gl n) fun v _=>v=.bool true):Calls P f args W fun e w'=>e=.returned (.bool true)/\Below W.heap.size W w':=by
 obtain ⟨v,H',hc,rfl⟩:=hc.elim
 exact qy4 hP h hv hc
end Go.Am
