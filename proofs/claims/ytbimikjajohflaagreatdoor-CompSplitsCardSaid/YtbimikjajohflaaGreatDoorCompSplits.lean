/- CompSplits: for every world that holds the listed variables as listed,and whatever the arguments read as,the law returns true and changes nothing that was there. No condition beyond the row's own. -/
import Derived.Test.YtbimikjajohflaaGreatDoorCards
import Derived.Test.YtbimikjajohflaaGreatDoorTie
import Derived.Test.YtbimikjajohflaaGreatDoorAmMB4
import Derived.Test.YtbimikjajohflaaGreatDoorAmMB5
import Derived.Test.YtbimikjajohflaaGreatDoorAmMLqM6
import Derived.Test.YtbimikjajohflaaGreatDoorCompSplitsRun
import Derived.LaidMore
import Derived.Deep.DeepHandedRow
import Derived.Deep.DeepWitnessRowRef
namespace Go.Proofs.YtbimikjajohflaaGreatDoor.compSplits
open Go.ChangeShapes Go.WideShapes Go.ChangeAt Go.RowKit Go.Am
set_option maxRecDepth 100000
theorem good:PGood Tryz.prog:=pgood (by kernel_rfl) (by kernel_rfl)
theorem own:ownKnob Tryz.prog.godebug=none:=by kernel_rfl
theorem laidOut:laidOutB Tryz.prog=true:=by kernel_rfl
theorem read:∀ t ∈ Tryz.f4.params.toList,Tryz.prog.readableRec t=true/\t<Tryz.prog.types.size:=by
 rw [Tryz.params4]
 intro t ht
 simp only [xm,List.mem_nil_iff,or_false] at ht
 rcases ht with rfl<;>exact ⟨by kernel_rfl,by decide +kernel⟩
theorem star : "*" ++ "errors.errorString" = "*errors.errorString" := by decide
theorem errT:ErrT Tryz.prog 254 :=
 ⟨fun u h=>typeName_ptr_named (nm := "errors.errorString") (by rw [star];kernel_rfl) (by kernel_rfl) (by decide) u (by rw [star];exact h),by kernel_rfl⟩
theorem okRows:rowsOk n0 gl0=true:=by decide +kernel
theorem hasRows0:hasRows (j8 gl0 n0) gl0=true:=by decide +kernel
theorem aliveT:ToldP Tryz.prog gl0 n0 ⟨7,[],.bool true⟩:=qt8 good (qcs ..) okRows (L:=[]) (fun e h=>by cases h) rfl run
theorem allT:∀ e ∈ [(⟨7,[],.bool true⟩:TEntry)],qbb 0 e.args=true/\ToldP Tryz.prog gl0 n0 e:=fun e h=>by
 rcases xj.1 h with rfl
 exact ⟨rfl,aliveT⟩
noncomputable abbrev mac:Mac:=Mac.tell Tryz.prog gl0 [⟨7,[],.bool true⟩]
instance:MK mac:=⟨fun n hn=>Mac.tell_func (by
 have h:(bif Nat.beq 7 n then true else memN n [16])=false:=hn
 cases q:Nat.beq 7 n with
 | true=>rw [q] at h;cases h
 | false=>show (bif Nat.beq 7 n then true else false)=false;rw [q];rfl)⟩
theorem uS:Tryz.prog.underlying 22=some (.slice 34):=by kernel_rfl
noncomputable def qu3:Array Field:=match Tryz.prog.underlying 34 with|some (.struct fs)=>fs|_=>#[]
theorem uN:Tryz.prog.underlying 34=some (.struct qu3):=by kernel_rfl
theorem ndTypes:qu3.toList.map (·.type)=[3,31,32]:=by kernel_rfl
theorem uI:Tryz.prog.underlying 3=some (.int .i64):=by kernel_rfl
theorem uU:Tryz.prog.underlying 31=some (.int .u64):=by kernel_rfl
theorem uK:Tryz.prog.underlying 32=some (.slice 3):=by kernel_rfl
theorem nodesW:RdW Tryz.prog 22 fun H l=>∃ u ts,l=[u]/\NdsArg H u ts :=
 qyz uS uN ndTypes uI uU uK (by kernel_rfl) (by kernel_rfl) (by kernel_rfl) (by kernel_rfl) (by kernel_rfl) (by kernel_rfl)
theorem reach_le:reachBytes<=140737488355328:=by decide
theorem pow0:PowT (j8 gl0 n0):=by unfold PowT;kernel_rfl
theorem pl0:zn<(j8 gl0 n0).next:=by decide +kernel
theorem contract {H:Type} {enc:TypeId × Value->H} {W:World} {base:Nat} {args:Array Value} {ds gs:List (DataW H)} {before:List MemPlace} {apart:Bool}
 (hval:∀ (j:Nat) t v,Tryz.f4.params[j]? = some t->args[j]? = some v->Value.okWide Tryz.prog W .any base t v) (hW:DataW.Whole enc Tryz.prog Tryz.f4.params.toList Rows.compSplitsSpec.vars apart W args.toList ds gs before)
 (hm:laidMet Tryz.prog Rows.compSplitsRow.laid W) {ts:List TypeId} (hZ:(DataW.weightsEach Tryz.prog (Tryz.f4.params.toList++ts) (ds++gs)).all (·<=reachBytes)=true):Calls Tryz.prog 4 args W fun e w'=>e=.returned (.bool true)/\Below W.heap.size W w':=by
 obtain ⟨p,q,hA,_,_,_,_⟩:=hW
 rw [Tryz.params4] at hA hval hZ
 obtain ⟨v,vs1,d,ds1,p1,q1,fuel,hl,rfl,ht,hA⟩:=qzj hA
 obtain ⟨rfl,rfl⟩:=trod_nil hA
 have hv:Value.okWide Tryz.prog W .any base 22 v:=hval 0 22 v rfl (by rw [<-z9,hl];rfl)
 rw [ql8 uS hv] at ht
 have hwt:Wt Tryz.prog 22 d:=fun x hx=>by
  have h1:=qat.1 hZ x (by simp only [kh,DataW.weightsEach,xf];exact .inl hx)
  simpa using h1
 obtain ⟨θL,hg,hgood⟩:=laidE errT hm
 obtain ⟨θ,n,gl,l,hst,hvl,u,tl,rfl,hu⟩:=nodesW.2 enc W true fuel _ d p1 ht hwt θL n0 gl0 hgood
 have hre:=reach_le
 have hrows:∀ H1,Fr Em (j8 gl n) H1->hasRows H1 gl0=true:=fun H1 f =>
  qn9 (n:=n0) (H:=j8 gl0 n0) okRows (fun b hb=>by rw [f.keep b (qg hb hst.le) id];exact hst.keep b hb) hasRows0
 have hnd:NdI (j8 gl n) u tl:=⟨hu.nds,fun x hx=>ze (hu.kids x hx) hre,hu.lo,hu.hi,(hst.fr.cells pl0 id).trans pow0,qg pl0 hst.fr.next⟩
 have htl:tl.length<=140737488355328:=by have:=hu.len;omega
 refine law_tell good (n0:=n0) (qcs ..) okRows allT (qv5 (qcs ..) hg hst) ?_ (qnk (M:=mac) (fun H1 f=>qxj (hrows H1 f)) hnd htl)
 rw [hl]
 exact hvl
/-- a world for the witness -/
noncomputable def laidW (os:Os):World:=pinW Tryz.prog (World.doorLaid Tryz.prog 95 os) Rows.compSplitsRow.laid
theorem laid_met (os:Os):laidMetH Tryz.prog Rows.compSplitsRow.laid ((laidW os).forCall (fun _ _=>0) ⟨#[],#[.slice none 0 0],[]⟩).memory :=
 laidMet_of_run' 8 (by kernel_rfl) (by kernel_rfl)
theorem reads (os:Os) {H:Type} (enc:TypeId × Value->H):∃ places,DataW.whole enc Tryz.prog ((laidW os).forCall (fun _ _=>0) ⟨#[],#[.slice none 0 0],[]⟩).memory Tryz.f4.params.toList Rows.compSplitsSpec.vars false (#[.slice none 0 0]:Array Value).toList 8=some ([.nil],[],places) :=
 ⟨[],by kernel_rfl⟩
theorem lifted (os:Os) (started:os.Started) (H:Type) (enc:TypeId × Value->H) (F:Stop.Interp) :
 ReturnsInHanded {} Tryz.checked os 4 .any ((OpenSpec.ofChange Rows.compSplitsSpec).preRow enc Tryz.prog Tryz.f4 Rows.compSplitsRow.domain false Rows.compSplitsRow.laid) (((OpenSpec.ofChange Rows.compSplitsSpec).at F).post enc Tryz.prog Tryz.f4 false true false false):=by
 obtain ⟨places,hx⟩:=reads os enc
 refine returnsInHanded_of_row (C:=Tryz.checked) (s:=OpenSpec.ofChange Rows.compSplitsSpec) own started (by kernel_rfl) Tryz.func4
  (witness_row_atRef (enc:=enc) (C:=Tryz.checked) false (laidW os) #[.slice none 0 0] rfl (by kernel_rfl) (by kernel_rfl) (by kernel_rfl)
   (OpenSpec.preRow_of_cond 8 hx (by kernel_rfl) (fun k hk=>by cases hk) (by kernel_rfl) (laid_met os))) ?_
 intro W base args ds gs before hval hW _ _ hZ hL _ _
 have hm:laidMet Tryz.prog Rows.compSplitsRow.laid W:=by
  unfold laidMetH at hL
  rw [show ((Rows.compSplitsRow.laid.filter fun x=>x.2.handleName?.isSome)=[]) from by kernel_rfl] at hL
  exact hL
 refine qpw (s:=Rows.compSplitsSpec) laidOut read rfl (fun ds h=>?_) rfl Tryz.underlying4 hW (contract hval hW hm hZ)
 rw [Tryz.params4] at h
 match ds,h with
 | [d0],_=>rfl
theorem said:Rows.CompSplitsSaid :=
 OpenClaim.holds_of_cond 4 Tryz.f4 rfl rfl rfl rfl rfl rfl rfl ⟨rfl,rfl,rfl,rfl,rfl⟩ rfl rfl rfl rfl rfl (by kernel_rfl) Tryz.func4 (by kernel_rfl)
  (of_decide_eq_true (by kernel_rfl)) (by unfold Func.isWrapper;first|(rw [xa (by decide +kernel)];kernel_rfl) | (rw [qq (by decide +kernel)];exact ⟨rfl,rfl⟩))
  (fun os started H enc _ F=>by rw [OpenClaim.pre_eq_preRow];exact lifted os started H enc F)
theorem plain (f:FuncId) (fn:Func) (hf:Tryz.pinned.checked.prog.funcNamed Rows.compSplitsRow.func=some f) (hfn:Tryz.pinned.checked.prog.funcs[f]? = some fn) :
 true=Tryz.pinned.checked.prog.looks [] /\ ∀ (j:Nat) t,fn.params[j]? = some t->Tryz.pinned.checked.prog.wantsStandIn t=false:=by
 obtain rfl:f=4:=jp ((show Tryz.prog.funcNamed Rows.compSplitsRow.func=some 4 by kernel_rfl).symm.trans hf) |>.symm
 obtain rfl:fn=Tryz.f4:=(jp (Tryz.func4.symm.trans hfn)).symm
 refine ⟨by kernel_rfl,fun j t ht=>?_⟩
 have hm:t ∈ Tryz.f4.params.toList:=by rw [<-z9] at ht;exact xc ht
 rw [Tryz.params4] at hm
 simp only [xm,List.mem_nil_iff,or_false] at hm
 rcases hm with rfl<;>(show Tryz.pinned.checked.prog.wantsStandIn _=false;kernel_rfl)
/-- THE CARD -/
theorem card:Rows.CompSplitsCardSaid :=
 Claim7.holds_tied_plain_at .later [] _ _ _ _ said (fun _ h=>by cases h) (by kernel_rfl) (fun _ h=>by cases h) compSplits_row_tie rfl ⟨rfl,rfl⟩ (by kernel_rfl) rfl plain (by kernel_rfl)
end Go.Proofs.YtbimikjajohflaaGreatDoor.compSplits
