/- CompTells: for every world that holds the listed variables as listed,and whatever the arguments read as,the law returns true and changes nothing that was there. No condition beyond the row's own. -/
import Derived.Test.YtbimikjajohflaaDoorCards
import Derived.Test.YtbimikjajohflaaDoorTie
import Derived.Test.YtbimikjajohflaaDoorAmKB4
import Derived.Test.YtbimikjajohflaaDoorAmKB5
import Derived.Test.YtbimikjajohflaaDoorAmKLqK7
import Derived.LaidMore
import Derived.Deep.DeepHandedRow
import Derived.Deep.DeepWitnessRowRef
namespace Go.Proofs.YtbimikjajohflaaDoor.compTells
open Go.ChangeShapes Go.WideShapes Go.ChangeAt Go.RowKit Go.Am
set_option maxRecDepth 100000
theorem good:PGood Tryd.prog:=pgood (by kernel_rfl) (by kernel_rfl)
theorem own:ownKnob Tryd.prog.godebug=none:=by kernel_rfl
theorem laidOut:laidOutB Tryd.prog=true:=by kernel_rfl
theorem read:∀ t ∈ Tryd.f12.params.toList,Tryd.prog.readableRec t=true/\t<Tryd.prog.types.size:=by
 rw [Tryd.params12]
 intro t ht
 simp only [xr,List.mem_nil_iff,or_false] at ht
 rcases ht with rfl|rfl|rfl<;>exact ⟨by kernel_rfl,by decide +kernel⟩
noncomputable abbrev gl0:=rowsOf Tryd.prog 0 Tryd.prog.globals.size Rows.compTellsRow.laid
noncomputable abbrev n0:=Tryd.prog.globals.size+Rows.compTellsRow.laid.length
theorem noErr:noSent Rows.compTellsRow.laid=true:=by kernel_rfl
noncomputable abbrev mac:Mac:=Mac.plain Tryd.prog
instance:MK mac:=⟨fun _ _=>rfl⟩
theorem uS:Tryd.prog.underlying 22=some (.slice 58):=by kernel_rfl
noncomputable def q0d:Array Field:=match Tryd.prog.underlying 58 with|some (.struct fs)=>fs|_=>#[]
theorem uN:Tryd.prog.underlying 58=some (.struct q0d):=by kernel_rfl
theorem ndTypes:q0d.toList.map (·.type)=[3,38,56]:=by kernel_rfl
theorem uI:Tryd.prog.underlying 3=some (.int .i64):=by kernel_rfl
theorem uU:Tryd.prog.underlying 38=some (.int .u64):=by kernel_rfl
theorem uK:Tryd.prog.underlying 56=some (.slice 3):=by kernel_rfl
theorem nodesW:RdW Tryd.prog 22 fun H l=>∃ u ts,l=[u]/\NdsArg H u ts :=
 q40 uS uN ndTypes uI uU uK (by kernel_rfl) (by kernel_rfl) (by kernel_rfl) (by kernel_rfl) (by kernel_rfl) (by kernel_rfl)
noncomputable def qz4:Array Field:=match Tryd.prog.underlying 67 with|some (.struct fs)=>fs|_=>#[]
theorem uF:Tryd.prog.underlying 67=some (.struct qz4):=by kernel_rfl
theorem frTypes:qz4.toList.map (·.type)=[3,3,3]:=by kernel_rfl
abbrev i3:List (List AV->Prop):=List.replicate 3 (isIntL .i64)
theorem q5o {α β γ:Type} {f:α -> γ} {Q:γ -> β->Prop}:∀ (l:List α) (R:List β),(∀ x ∈ (l.map f).zip R,Q x.1 x.2) -> ∀ x ∈ l.zip R,Q (f x.1) x.2
 | [],_,_,x,h=>by cases h
 | _::_,[],_,x,h=>by cases h
 | a::l,b::R,hq,x,h=>by
  rcases xr.1 h with rfl|h
  ·exact hq (f a,b) (by simp)
  ·exact q5o l R (fun y hy=>hq y (by simp [hy])) x h
theorem flatFr:FlatP Tryd.prog 67 (isParts i3):=by
 refine qyf uF (by kernel_rfl) (q5o (f:=Field.type) (Q:=FlatP Tryd.prog) _ _ ?_) (by kernel_rfl) (by kernel_rfl)
 rw [frTypes]
 intro x hx
 simp only [i3,List.replicate,qcc,List.zip_nil_right,xr,List.mem_nil_iff,or_false] at hx
 rcases hx with rfl|rfl|rfl<;>exact qp0 uI
theorem fr_of {l:List AV} (h:isParts i3 l):∃ f:Lang.Frm,AV.agg l=frV f:=by
 obtain ⟨_,_,rfl,⟨a1,rfl,_⟩,_,_,rfl,⟨a2,rfl,_⟩,_,_,rfl,⟨a3,rfl,_⟩,rfl⟩:=h
 exact ⟨⟨a1,a2,a3⟩,rfl⟩
theorem reach_le:reachBytes<=140737488355328:=by decide
theorem pow0:PowT (wu gl0 n0):=by unfold PowT;kernel_rfl
theorem pl0:zz<(wu gl0 n0).next:=by decide +kernel
theorem contract {H:Type} {enc:TypeId × Value->H} {W:World} {base:Nat} {args:Array Value} {ds gs:List (DataW H)} {before:List MemPlace} {apart:Bool}
 (hval:∀ (j:Nat) t v,Tryd.f12.params[j]? = some t->args[j]? = some v->Value.okWide Tryd.prog W .any base t v) (hW:DataW.Whole enc Tryd.prog Tryd.f12.params.toList Rows.compTellsSpec.vars apart W args.toList ds gs before)
 (hm:laidMet Tryd.prog Rows.compTellsRow.laid W) {ts:List TypeId} (hZ:(DataW.weightsEach Tryd.prog (Tryd.f12.params.toList++ts) (ds++gs)).all (·<=reachBytes)=true):Calls Tryd.prog 12 args W fun e w'=>e=.returned (.bool true)/\Below W.heap.size W w':=by
 obtain ⟨p,q,hA,_,_,_,_⟩:=hW
 rw [Tryd.params12] at hA hval hZ
 obtain ⟨v,vs1,d,ds1,p1,q1,fuel,hl,rfl,ht,hA⟩:=qr2 hA
 obtain ⟨v2,vs2,d2,ds2,p2,q2,fuel2,rfl,rfl,ht2,hA⟩:=qr2 hA
 obtain ⟨v3,vs3,d3,ds3,p3,q3,fuel3,rfl,rfl,ht3,hA⟩:=qr2 hA
 obtain ⟨rfl,rfl⟩:=trod_nil hA
 have hv:Value.okWide Tryd.prog W .any base 22 v:=hval 0 22 v rfl (by rw [<-zx,hl];rfl)
 have hv2:Value.okWide Tryd.prog W .any base 67 v2:=hval 1 67 v2 rfl (by rw [<-zx,hl];rfl)
 obtain ⟨n3,rfl,hn3⟩:=arg_int uI (hval 2 3 v3 rfl (by rw [<-zx,hl];rfl))
 obtain ⟨l2,hl2,hv2'⟩:=arg_flat flatFr (.inl ⟨_,uF⟩) hv2 ht2
 obtain ⟨f,hf⟩:=fr_of hl2
 rw [qqj uS hv] at ht
 have hwt:Wt Tryd.prog 22 d:=fun x hx=>by
  have h1:=qa7.1 hZ x (by simp only [vz,DataW.weightsEach,za];exact .inl hx)
  simpa using h1
 obtain ⟨θL,hg,hgood⟩:=laidN (tp:=0) noErr hm
 obtain ⟨θ,n,gl,l,hst,hvl,u,tl,rfl,hu⟩:=nodesW.2 enc W true fuel _ d p1 ht hwt θL n0 gl0 hgood
 have hre:=reach_le
 have hnd:NdI (wu gl n) u tl:=⟨hu.nds,fun x hx=>je (hu.kids x hx) hre,hu.lo,hu.hi,(hst.fr.cells pl0 id).trans pow0,qk pl0 hst.fr.next⟩
 have htl:tl.length<=140737488355328:=by have:=hu.len;omega
 refine q30 good (q1m (Nat.le_add_right ..) hg hst) ?_ (qth (M:=mac) hnd htl f (n:=n3))
 rw [hl]
 obtain ⟨c,cs',hcc,hcv,_⟩:=hvl.uncons
 injection hcc with hcc _
 subst hcc
 exact .cons hcv (.cons (by rw [<-hf];exact hv2' _ _) (.one fun _ _=>rfl))
/-- a world for the witness -/
noncomputable def laidW (os:Os):World:=pinW Tryd.prog (World.doorLaid Tryd.prog 62 os) Rows.compTellsRow.laid
theorem laid_met (os:Os):laidMetH Tryd.prog Rows.compTellsRow.laid ((laidW os).forCall (fun _ _=>0) ⟨#[],#[.slice none 0 0,.agg #[.int .i64 0,.int .i64 0,.int .i64 0],.int .i64 0],[]⟩).memory :=
 laidMet_of_run' 8 (by kernel_rfl) (by kernel_rfl)
theorem reads (os:Os) {H:Type} (enc:TypeId × Value->H):∃ places,DataW.whole enc Tryd.prog ((laidW os).forCall (fun _ _=>0) ⟨#[],#[.slice none 0 0,.agg #[.int .i64 0,.int .i64 0,.int .i64 0],.int .i64 0],[]⟩).memory Tryd.f12.params.toList Rows.compTellsSpec.vars false (#[.slice none 0 0,.agg #[.int .i64 0,.int .i64 0,.int .i64 0],.int .i64 0]:Array Value).toList 8=some ([.nil,.agg (List.replicate 3 (.lit (.int .i64 0))),.lit (.int .i64 0)],[],places) :=
 ⟨[],by kernel_rfl⟩
theorem lifted (os:Os) (started:os.Started) (H:Type) (enc:TypeId × Value->H) (F:Stop.Interp) :
 ReturnsInHanded {} Tryd.checked os 12 .any ((OpenSpec.ofChange Rows.compTellsSpec).preRow enc Tryd.prog Tryd.f12 Rows.compTellsRow.domain false Rows.compTellsRow.laid) (((OpenSpec.ofChange Rows.compTellsSpec).at F).post enc Tryd.prog Tryd.f12 false true false false):=by
 obtain ⟨places,hx⟩:=reads os enc
 refine returnsInHanded_of_row (C:=Tryd.checked) (s:=OpenSpec.ofChange Rows.compTellsSpec) own started (by kernel_rfl) Tryd.func12
  (witness_row_atRef (enc:=enc) (C:=Tryd.checked) false (laidW os) #[.slice none 0 0,.agg #[.int .i64 0,.int .i64 0,.int .i64 0],.int .i64 0] rfl (by kernel_rfl) (by kernel_rfl) (by kernel_rfl)
   (OpenSpec.preRow_of_cond 8 hx (by kernel_rfl) (fun k hk=>by cases hk) (by kernel_rfl) (laid_met os))) ?_
 intro W base args ds gs before hval hW _ _ hZ hL _ _
 have hm:laidMet Tryd.prog Rows.compTellsRow.laid W:=by
  unfold laidMetH at hL
  rw [show ((Rows.compTellsRow.laid.filter fun x=>x.2.handleName?.isSome)=[]) from by kernel_rfl] at hL
  exact hL
 refine que (s:=Rows.compTellsSpec) laidOut read rfl (fun ds h=>?_) rfl Tryd.underlying4 hW (contract hval hW hm hZ)
 rw [Tryd.params12] at h
 match ds,h with
 | [d0,d1,d2],_=>rfl
theorem said:Rows.CompTellsSaid :=
 OpenClaim.holds_of_cond 12 Tryd.f12 rfl rfl rfl rfl rfl rfl rfl ⟨rfl,rfl,rfl,rfl,rfl⟩ rfl rfl rfl rfl rfl (by kernel_rfl) Tryd.func12 (by kernel_rfl)
  (of_decide_eq_true (by kernel_rfl)) (by unfold Func.isWrapper;first|(rw [qu (by decide +kernel)];kernel_rfl) | (rw [qj (by decide +kernel)];exact ⟨rfl,rfl⟩))
  (fun os started H enc _ F=>by rw [OpenClaim.pre_eq_preRow];exact lifted os started H enc F)
theorem plain (f:FuncId) (fn:Func) (hf:Tryd.pinned.checked.prog.funcNamed Rows.compTellsRow.func=some f) (hfn:Tryd.pinned.checked.prog.funcs[f]? = some fn) :
 true=Tryd.pinned.checked.prog.looks [] /\ ∀ (j:Nat) t,fn.params[j]? = some t->Tryd.pinned.checked.prog.wantsStandIn t=false:=by
 obtain rfl:f=12:=jf ((show Tryd.prog.funcNamed Rows.compTellsRow.func=some 12 by kernel_rfl).symm.trans hf) |>.symm
 obtain rfl:fn=Tryd.f12:=(jf (Tryd.func12.symm.trans hfn)).symm
 refine ⟨by kernel_rfl,fun j t ht=>?_⟩
 have hm:t ∈ Tryd.f12.params.toList:=by rw [<-zx] at ht;exact xo ht
 rw [Tryd.params12] at hm
 simp only [xr,List.mem_nil_iff,or_false] at hm
 rcases hm with rfl|rfl|rfl<;>(show Tryd.pinned.checked.prog.wantsStandIn _=false;kernel_rfl)
/-- THE CARD -/
theorem card:Rows.CompTellsCardSaid :=
 Claim7.holds_tied_plain_at .later [] _ _ _ _ said (fun _ h=>by cases h) (by kernel_rfl) (fun _ h=>by cases h) compTells_row_tie rfl ⟨rfl,rfl⟩ (by kernel_rfl) rfl plain (by kernel_rfl)
end Go.Proofs.YtbimikjajohflaaDoor.compTells
