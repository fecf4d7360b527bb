/- CompCodes: for every world that holds the listed variables as listed,and whatever the arguments read as,the law returns true and changes nothing that was there. No condition beyond the row's own. -/
import Derived.Test.YtbimikjajohflaaGreatDoorCards
import Derived.Test.YtbimikjajohflaaGreatDoorTie
import Derived.Test.YtbimikjajohflaaGreatDoorAmLB4
import Derived.Test.YtbimikjajohflaaGreatDoorAmLB5
import Derived.Test.YtbimikjajohflaaGreatDoorAmLLqL6
import Derived.Test.YtbimikjajohflaaGreatDoorCompCodesRun
import Derived.LaidMore
import Derived.Deep.DeepHandedRow
import Derived.Deep.DeepWitnessRowRef
namespace Go.Proofs.YtbimikjajohflaaGreatDoor.compCodes
open Go.ChangeShapes Go.WideShapes Go.ChangeAt Go.RowKit Go.Am
set_option maxRecDepth 100000
theorem good:PGood Tryz.prog:=pgood (by kernel_rfl) (by kernel_rfl)
theorem own:ownKnob Tryz.prog.godebug=none:=by kernel_rfl
theorem laidOut:laidOutB Tryz.prog=true:=by kernel_rfl
theorem read:∀ t ∈ Tryz.f3.params.toList,Tryz.prog.readableRec t=true/\t<Tryz.prog.types.size:=by
 rw [Tryz.params3]
 intro t ht
 simp only [xk,List.mem_nil_iff,or_false] at ht
 rcases ht with rfl|rfl<;>exact ⟨by kernel_rfl,by decide +kernel⟩
theorem star : "*" ++ "errors.errorString" = "*errors.errorString" := by decide
theorem errT:ErrT Tryz.prog 254 :=
 ⟨fun u h=>typeName_ptr_named (nm := "errors.errorString") (by rw [star];kernel_rfl) (by kernel_rfl) (by decide) u (by rw [star];exact h),by kernel_rfl⟩
theorem okRows:rowsOk n0 gl0=true:=by decide +kernel
theorem hasRows0:hasRows (ke gl0 n0) gl0=true:=by decide +kernel
theorem aliveT:ToldP Tryz.prog gl0 n0 ⟨7,[],.bool true⟩:=qwa good (qdk ..) okRows (L:=[]) (fun e h=>by cases h) rfl run
theorem allT:∀ e ∈ [(⟨7,[],.bool true⟩:TEntry)],qbw 0 e.args=true/\ToldP Tryz.prog gl0 n0 e:=fun e h=>by
 rcases je.1 h with rfl
 exact ⟨rfl,aliveT⟩
noncomputable abbrev mac:Mac:=Mac.tell Tryz.prog gl0 [⟨7,[],.bool true⟩]
instance:MK mac:=⟨fun n hn=>Mac.tell_func (by
 have h:(bif Nat.beq 7 n then true else memN n [16])=false:=hn
 cases q:Nat.beq 7 n with
 | true=>rw [q] at h;cases h
 | false=>show (bif Nat.beq 7 n then true else false)=false;rw [q];rfl)⟩
theorem uS:Tryz.prog.underlying 22=some (.slice 34):=by kernel_rfl
noncomputable def qw2:Array Field:=match Tryz.prog.underlying 34 with|some (.struct fs)=>fs|_=>#[]
theorem uN:Tryz.prog.underlying 34=some (.struct qw2):=by kernel_rfl
theorem ndTypes:qw2.toList.map (·.type)=[3,31,32]:=by kernel_rfl
theorem uI:Tryz.prog.underlying 3=some (.int .i64):=by kernel_rfl
theorem uU:Tryz.prog.underlying 31=some (.int .u64):=by kernel_rfl
theorem uK:Tryz.prog.underlying 32=some (.slice 3):=by kernel_rfl
theorem nodesW:RdW Tryz.prog 22 fun H l=>∃ u ts,l=[u]/\NdsArg H u ts :=
 q04 uS uN ndTypes uI uU uK (by kernel_rfl) (by kernel_rfl) (by kernel_rfl) (by kernel_rfl) (by kernel_rfl) (by kernel_rfl)
noncomputable def qwu:Array Field:=match Tryz.prog.underlying 24 with|some (.struct fs)=>fs|_=>#[]
theorem uF:Tryz.prog.underlying 24=some (.struct qwu):=by kernel_rfl
theorem frTypes:qwu.toList.map (·.type)=[3,3,3]:=by kernel_rfl
abbrev i3:List (List AV->Prop):=List.replicate 3 (isIntL .i64)
theorem q1s {α β γ:Type} {f:α -> γ} {Q:γ -> β->Prop}:∀ (l:List α) (R:List β),(∀ x ∈ (l.map f).zip R,Q x.1 x.2) -> ∀ x ∈ l.zip R,Q (f x.1) x.2
 | [],_,_,x,h=>by cases h
 | _::_,[],_,x,h=>by cases h
 | a::l,b::R,hq,x,h=>by
  rcases xk.1 h with rfl|h
  ·exact hq (f a,b) (by simp)
  ·exact q1s l R (fun y hy=>hq y (by simp [hy])) x h
theorem flatFr:FlatP Tryz.prog 24 (isParts i3):=by
 refine qu7 uF (by kernel_rfl) (q1s (f:=Field.type) (Q:=FlatP Tryz.prog) _ _ ?_) (by kernel_rfl) (by kernel_rfl)
 rw [frTypes]
 intro x hx
 simp only [i3,List.replicate,qbf,List.zip_nil_right,xk,List.mem_nil_iff,or_false] at hx
 rcases hx with rfl|rfl|rfl<;>exact qno uI
theorem fr_of {l:List AV} (h:isParts i3 l):∃ f:Lang.Frm,AV.agg l=frV f:=by
 obtain ⟨_,_,rfl,⟨a1,rfl,_⟩,_,_,rfl,⟨a2,rfl,_⟩,_,_,rfl,⟨a3,rfl,_⟩,rfl⟩:=h
 exact ⟨⟨a1,a2,a3⟩,rfl⟩
theorem reach_le:reachBytes<=140737488355328:=by decide
theorem pow0:PowT (ke gl0 n0):=by unfold PowT;kernel_rfl
theorem pl0:zo<(ke gl0 n0).next:=by decide +kernel
theorem contract {H:Type} {enc:TypeId × Value->H} {W:World} {base:Nat} {args:Array Value} {ds gs:List (DataW H)} {before:List MemPlace} {apart:Bool}
 (hval:∀ (j:Nat) t v,Tryz.f3.params[j]? = some t->args[j]? = some v->Value.okWide Tryz.prog W .any base t v) (hW:DataW.Whole enc Tryz.prog Tryz.f3.params.toList Rows.compCodesSpec.vars apart W args.toList ds gs before)
 (hm:laidMet Tryz.prog Rows.compCodesRow.laid W) {ts:List TypeId} (hZ:(DataW.weightsEach Tryz.prog (Tryz.f3.params.toList++ts) (ds++gs)).all (·<=reachBytes)=true):Calls Tryz.prog 3 args W fun e w'=>e=.returned (.bool true)/\Below W.heap.size W w':=by
 obtain ⟨p,q,hA,_,_,_,_⟩:=hW
 rw [Tryz.params3] at hA hval hZ
 obtain ⟨v,vs1,d,ds1,p1,q1,fuel,hl,rfl,ht,hA⟩:=quj hA
 obtain ⟨v2,vs2,d2,ds2,p2,q2,fuel2,rfl,rfl,ht2,hA⟩:=quj hA
 obtain ⟨rfl,rfl⟩:=trod_nil hA
 have hv:Value.okWide Tryz.prog W .any base 22 v:=hval 0 22 v rfl (by rw [<-z5,hl];rfl)
 have hv2:Value.okWide Tryz.prog W .any base 24 v2:=hval 1 24 v2 rfl (by rw [<-z5,hl];rfl)
 obtain ⟨l2,hl2,hv2'⟩:=arg_flat flatFr (.inl ⟨_,uF⟩) hv2 ht2
 obtain ⟨f,hf⟩:=fr_of hl2
 rw [qn6 uS hv] at ht
 have hwt:Wt Tryz.prog 22 d:=fun x hx=>by
  have h1:=qaf.1 hZ x (by simp only [y8,DataW.weightsEach,x3];exact .inl hx)
  simpa using h1
 obtain ⟨θL,hg,hgood⟩:=laidE errT hm
 obtain ⟨θ,n,gl,l,hst,hvl,u,tl,rfl,hu⟩:=nodesW.2 enc W true fuel _ d p1 ht hwt θL n0 gl0 hgood
 have hre:=reach_le
 have hrows:∀ H1,Fr Em (ke gl n) H1->hasRows H1 gl0=true:=fun H1 f =>
  qqc (n:=n0) (H:=ke gl0 n0) okRows (fun b hb=>by rw [f.keep b (qg hb hst.le) id];exact hst.keep b hb) hasRows0
 have hnd:NdI (ke gl n) u tl:=⟨hu.nds,fun x hx=>zn (hu.kids x hx) hre,hu.lo,hu.hi,(hst.fr.cells pl0 id).trans pow0,qg pl0 hst.fr.next⟩
 have htl:tl.length<=140737488355328:=by have:=hu.len;omega
 refine law_tell good (n0:=n0) (qdk ..) okRows allT (qx7 (qdk ..) hg hst) ?_ (qqv (M:=mac) (fun H1 f=>qzm (hrows H1 f)) hnd htl f)
 rw [hl]
 obtain ⟨c,cs',hcc,hcv,_⟩:=hvl.uncons
 injection hcc with hcc _
 subst hcc
 exact .cons hcv (.one (by rw [<-hf];exact hv2' _ _))
/-- a world for the witness -/
noncomputable def laidW (os:Os):World:=pinW Tryz.prog (World.doorLaid Tryz.prog 95 os) Rows.compCodesRow.laid
theorem laid_met (os:Os):laidMetH Tryz.prog Rows.compCodesRow.laid ((laidW os).forCall (fun _ _=>0) ⟨#[],#[.slice none 0 0,.agg #[.int .i64 0,.int .i64 0,.int .i64 0]],[]⟩).memory :=
 laidMet_of_run' 8 (by kernel_rfl) (by kernel_rfl)
theorem reads (os:Os) {H:Type} (enc:TypeId × Value->H):∃ places,DataW.whole enc Tryz.prog ((laidW os).forCall (fun _ _=>0) ⟨#[],#[.slice none 0 0,.agg #[.int .i64 0,.int .i64 0,.int .i64 0]],[]⟩).memory Tryz.f3.params.toList Rows.compCodesSpec.vars false (#[.slice none 0 0,.agg #[.int .i64 0,.int .i64 0,.int .i64 0]]:Array Value).toList 8=some ([.nil,.agg (List.replicate 3 (.lit (.int .i64 0)))],[],places) :=
 ⟨[],by kernel_rfl⟩
theorem lifted (os:Os) (started:os.Started) (H:Type) (enc:TypeId × Value->H) (F:Stop.Interp) :
 ReturnsInHanded {} Tryz.checked os 3 .any ((OpenSpec.ofChange Rows.compCodesSpec).preRow enc Tryz.prog Tryz.f3 Rows.compCodesRow.domain false Rows.compCodesRow.laid) (((OpenSpec.ofChange Rows.compCodesSpec).at F).post enc Tryz.prog Tryz.f3 false true false false):=by
 obtain ⟨places,hx⟩:=reads os enc
 refine returnsInHanded_of_row (C:=Tryz.checked) (s:=OpenSpec.ofChange Rows.compCodesSpec) own started (by kernel_rfl) Tryz.func3
  (witness_row_atRef (enc:=enc) (C:=Tryz.checked) false (laidW os) #[.slice none 0 0,.agg #[.int .i64 0,.int .i64 0,.int .i64 0]] rfl (by kernel_rfl) (by kernel_rfl) (by kernel_rfl)
   (OpenSpec.preRow_of_cond 8 hx (by kernel_rfl) (fun k hk=>by cases hk) (by kernel_rfl) (laid_met os))) ?_
 intro W base args ds gs before hval hW _ _ hZ hL _ _
 have hm:laidMet Tryz.prog Rows.compCodesRow.laid W:=by
  unfold laidMetH at hL
  rw [show ((Rows.compCodesRow.laid.filter fun x=>x.2.handleName?.isSome)=[]) from by kernel_rfl] at hL
  exact hL
 refine qrt (s:=Rows.compCodesSpec) laidOut read rfl (fun ds h=>?_) rfl Tryz.underlying4 hW (contract hval hW hm hZ)
 rw [Tryz.params3] at h
 match ds,h with
 | [d0,d1],_=>rfl
theorem said:Rows.CompCodesSaid :=
 OpenClaim.holds_of_cond 3 Tryz.f3 rfl rfl rfl rfl rfl rfl rfl ⟨rfl,rfl,rfl,rfl,rfl⟩ rfl rfl rfl rfl rfl (by kernel_rfl) Tryz.func3 (by kernel_rfl)
  (of_decide_eq_true (by kernel_rfl)) (by unfold Func.isWrapper;first|(rw [xf (by decide +kernel)];kernel_rfl) | (rw [qq (by decide +kernel)];exact ⟨rfl,rfl⟩))
  (fun os started H enc _ F=>by rw [OpenClaim.pre_eq_preRow];exact lifted os started H enc F)
theorem plain (f:FuncId) (fn:Func) (hf:Tryz.pinned.checked.prog.funcNamed Rows.compCodesRow.func=some f) (hfn:Tryz.pinned.checked.prog.funcs[f]? = some fn) :
 true=Tryz.pinned.checked.prog.looks [] /\ ∀ (j:Nat) t,fn.params[j]? = some t->Tryz.pinned.checked.prog.wantsStandIn t=false:=by
 obtain rfl:f=3:=jo ((show Tryz.prog.funcNamed Rows.compCodesRow.func=some 3 by kernel_rfl).symm.trans hf) |>.symm
 obtain rfl:fn=Tryz.f3:=(jo (Tryz.func3.symm.trans hfn)).symm
 refine ⟨by kernel_rfl,fun j t ht=>?_⟩
 have hm:t ∈ Tryz.f3.params.toList:=by rw [<-z5] at ht;exact xg ht
 rw [Tryz.params3] at hm
 simp only [xk,List.mem_nil_iff,or_false] at hm
 rcases hm with rfl|rfl<;>(show Tryz.pinned.checked.prog.wantsStandIn _=false;kernel_rfl)
/-- THE CARD -/
theorem card:Rows.CompCodesCardSaid :=
 Claim7.holds_tied_plain_at .later [] _ _ _ _ said (fun _ h=>by cases h) (by kernel_rfl) (fun _ h=>by cases h) compCodes_row_tie rfl ⟨rfl,rfl⟩ (by kernel_rfl) rfl plain (by kernel_rfl)
end Go.Proofs.YtbimikjajohflaaGreatDoor.compCodes
