/- LangBack: for every world that holds the listed variables as listed,and whatever the arguments read as,the law returns true and changes nothing that was there. No condition beyond the row's own. -/
import Derived.Test.YtbimikjajohflaaDoorCards
import Derived.Test.YtbimikjajohflaaDoorTie
import Derived.Test.YtbimikjajohflaaDoorAmNB4
import Derived.Test.YtbimikjajohflaaDoorAmNB5
import Derived.Test.YtbimikjajohflaaDoorAmNLqN7
import Derived.Test.YtbimikjajohflaaDoorLangBackRun
import Derived.LaidMore
import Derived.Deep.DeepHandedRow
import Derived.Deep.DeepWitnessRowRef
namespace Go.Proofs.YtbimikjajohflaaDoor.langBack
open Go.ChangeShapes Go.WideShapes Go.ChangeAt Go.RowKit Go.Am
set_option maxRecDepth 100000
theorem good:PGood Tryd.prog:=pgood (by kernel_rfl) (by kernel_rfl)
theorem own:ownKnob Tryd.prog.godebug=none:=by kernel_rfl
theorem laidOut:laidOutB Tryd.prog=true:=by kernel_rfl
theorem read:∀ t ∈ Tryd.f5.params.toList,Tryd.prog.readableRec t=true/\t<Tryd.prog.types.size:=by
 rw [Tryd.params5]
 intro t ht
 simp only [x7,List.mem_nil_iff,or_false] at ht
 rcases ht with rfl<;>exact ⟨by kernel_rfl,by decide +kernel⟩
theorem star : "*" ++ "errors.errorString" = "*errors.errorString" := by decide
theorem errT:ErrT Tryd.prog 190 :=
 ⟨fun u h=>typeName_ptr_named (nm := "errors.errorString") (by rw [star];kernel_rfl) (by kernel_rfl) (by decide) u (by rw [star];exact h),by kernel_rfl⟩
theorem okRows:rowsOk n0 gl0=true:=by decide +kernel
theorem hasRows0:hasRows (kw gl0 n0) gl0=true:=by decide +kernel
theorem aliveT:ToldP Tryd.prog gl0 n0 ⟨20,[],.bool true⟩:=q1m good (qfo ..) okRows (L:=[]) (fun e h=>by cases h) rfl run
theorem allT:∀ e ∈ [(⟨20,[],.bool true⟩:TEntry)],qdf 0 e.args=true/\ToldP Tryd.prog gl0 n0 e:=fun e h=>by
 rcases xg.1 h with rfl
 exact ⟨rfl,aliveT⟩
noncomputable abbrev mac:Mac:=Mac.tell Tryd.prog gl0 [⟨20,[],.bool true⟩]
instance:MK mac:=⟨fun n hn=>Mac.tell_func (by
 have h:(bif Nat.beq 20 n then true else memN n [30])=false:=hn
 cases q:Nat.beq 20 n with
 | true=>rw [q] at h;cases h
 | false=>show (bif Nat.beq 20 n then true else false)=false;rw [q];rfl)⟩
theorem uS:Tryd.prog.underlying 22=some (.slice 58):=by kernel_rfl
noncomputable def q2j:Array Field:=match Tryd.prog.underlying 58 with|some (.struct fs)=>fs|_=>#[]
theorem uN:Tryd.prog.underlying 58=some (.struct q2j):=by kernel_rfl
theorem ndTypes:q2j.toList.map (·.type)=[3,38,56]:=by kernel_rfl
theorem uI:Tryd.prog.underlying 3=some (.int .i64):=by kernel_rfl
theorem uU:Tryd.prog.underlying 38=some (.int .u64):=by kernel_rfl
theorem uK:Tryd.prog.underlying 56=some (.slice 3):=by kernel_rfl
theorem nodesW:RdW Tryd.prog 22 fun H l=>∃ u ts,l=[u]/\NdsArg H u ts :=
 q64 uS uN ndTypes uI uU uK (by kernel_rfl) (by kernel_rfl) (by kernel_rfl) (by kernel_rfl) (by kernel_rfl) (by kernel_rfl)
theorem reach_le:reachBytes<=140737488355328:=by decide
theorem pow0:PowT (kw gl0 n0):=by unfold PowT;kernel_rfl
theorem pl0:jh<(kw gl0 n0).next:=by decide +kernel
theorem err4:(kw gl0 n0).cellsAt vo=some [.iface 190 (.ptr (Tryd.prog.globals.size+4) 0)]:=by kernel_rfl
theorem err5:(kw gl0 n0).cellsAt wu=some [.iface 190 (.ptr (Tryd.prog.globals.size+3) 0)]:=by kernel_rfl
theorem ers0:Ers (kw gl0 n0):=⟨⟨by decide +kernel,_,err4,rfl,rfl⟩,⟨by decide +kernel,_,err5,rfl,rfl⟩⟩
theorem contract {H:Type} {enc:TypeId × Value->H} {W:World} {base:Nat} {args:Array Value} {ds gs:List (DataW H)} {before:List MemPlace} {apart:Bool}
 (hval:∀ (j:Nat) t v,Tryd.f5.params[j]? = some t->args[j]? = some v->Value.okWide Tryd.prog W .any base t v) (hW:DataW.Whole enc Tryd.prog Tryd.f5.params.toList Rows.langBackSpec.vars apart W args.toList ds gs before)
 (hm:laidMet Tryd.prog Rows.langBackRow.laid W) {ts:List TypeId} (hZ:(DataW.weightsEach Tryd.prog (Tryd.f5.params.toList++ts) (ds++gs)).all (·<=reachBytes)=true):Calls Tryd.prog 5 args W fun e w'=>e=.returned (.bool true)/\Below W.heap.size W w':=by
 obtain ⟨p,q,hA,_,_,_,_⟩:=hW
 rw [Tryd.params5] at hA hval hZ
 obtain ⟨v,vs1,d,ds1,p1,q1,fuel,hl,rfl,ht,hA⟩:=q70 hA
 obtain ⟨rfl,rfl⟩:=trod_nil hA
 have hv:Value.okWide Tryd.prog W .any base 22 v:=hval 0 22 v rfl (by rw [<-j7,hl];rfl)
 rw [qsi uS hv] at ht
 have hwt:Wt Tryd.prog 22 d:=fun x hx=>by
  have h1:=qcs.1 hZ x (by simp only [z0,DataW.weightsEach,xj];exact .inl hx)
  simpa using h1
 obtain ⟨θL,hg,hgood⟩:=laidE errT hm
 obtain ⟨θ,n,gl,l,hst,hvl,u,tl,rfl,hu⟩:=nodesW.2 enc W true fuel _ d p1 ht hwt θL n0 gl0 hgood
 have hre:=reach_le
 have hrows:∀ H1,Fr Em (kw gl n) H1->hasRows H1 gl0=true:=fun H1 f =>
  qu1 (n:=n0) (H:=kw gl0 n0) okRows (fun b hb=>by rw [f.keep b (qi hb hst.le) id];exact hst.keep b hb) hasRows0
 have hnd:NdI (kw gl n) u tl:=⟨hu.nds,fun x hx=>x6 (hu.kids x hx) hre,hu.lo,hu.hi,(hst.fr.cells pl0 id).trans pow0,qi pl0 hst.fr.next⟩
 have htl:tl.length<=140737488355328:=by have:=hu.len;omega
 refine law_tell good (n0:=n0) (qfo ..) okRows allT (q3v (qfo ..) hg hst) ?_ (qxp (M:=mac) (fun H1 f=>q5n (hrows H1 f)) hnd (ers0.em hst.fr) htl)
 rw [hl]
 exact hvl
/-- a world for the witness -/
noncomputable def laidW (os:Os):World:=pinW Tryd.prog (World.doorLaid Tryd.prog 62 os) Rows.langBackRow.laid
theorem laid_met (os:Os):laidMetH Tryd.prog Rows.langBackRow.laid ((laidW os).forCall (fun _ _=>0) ⟨#[],#[.slice none 0 0],[]⟩).memory :=
 laidMet_of_run' 8 (by kernel_rfl) (by kernel_rfl)
theorem reads (os:Os) {H:Type} (enc:TypeId × Value->H):∃ places,DataW.whole enc Tryd.prog ((laidW os).forCall (fun _ _=>0) ⟨#[],#[.slice none 0 0],[]⟩).memory Tryd.f5.params.toList Rows.langBackSpec.vars false (#[.slice none 0 0]:Array Value).toList 8=some ([.nil],[],places) :=
 ⟨[],by kernel_rfl⟩
theorem lifted (os:Os) (started:os.Started) (H:Type) (enc:TypeId × Value->H) (F:Stop.Interp) :
 ReturnsInHanded {} Tryd.checked os 5 .any ((OpenSpec.ofChange Rows.langBackSpec).preRow enc Tryd.prog Tryd.f5 Rows.langBackRow.domain false Rows.langBackRow.laid) (((OpenSpec.ofChange Rows.langBackSpec).at F).post enc Tryd.prog Tryd.f5 false true false false):=by
 obtain ⟨places,hx⟩:=reads os enc
 refine returnsInHanded_of_row (C:=Tryd.checked) (s:=OpenSpec.ofChange Rows.langBackSpec) own started (by kernel_rfl) Tryd.func5
  (witness_row_atRef (enc:=enc) (C:=Tryd.checked) false (laidW os) #[.slice none 0 0] rfl (by kernel_rfl) (by kernel_rfl) (by kernel_rfl)
   (OpenSpec.preRow_of_cond 8 hx (by kernel_rfl) (fun k hk=>by cases hk) (by kernel_rfl) (laid_met os))) ?_
 intro W base args ds gs before hval hW _ _ hZ hL _ _
 have hm:laidMet Tryd.prog Rows.langBackRow.laid W:=by
  unfold laidMetH at hL
  rw [show ((Rows.langBackRow.laid.filter fun x=>x.2.handleName?.isSome)=[]) from by kernel_rfl] at hL
  exact hL
 refine qwt (s:=Rows.langBackSpec) laidOut read rfl (fun ds h=>?_) rfl Tryd.underlying4 hW (contract hval hW hm hZ)
 rw [Tryd.params5] at h
 match ds,h with
 | [d0],_=>rfl
theorem said:Rows.LangBackSaid :=
 OpenClaim.holds_of_cond 5 Tryd.f5 rfl rfl rfl rfl rfl rfl rfl ⟨rfl,rfl,rfl,rfl,rfl⟩ rfl rfl rfl rfl rfl (by kernel_rfl) Tryd.func5 (by kernel_rfl)
  (of_decide_eq_true (by kernel_rfl)) (by unfold Func.isWrapper;first|(rw [xi (by decide +kernel)];kernel_rfl) | (rw [qt (by decide +kernel)];exact ⟨rfl,rfl⟩))
  (fun os started H enc _ F=>by rw [OpenClaim.pre_eq_preRow];exact lifted os started H enc F)
theorem plain (f:FuncId) (fn:Func) (hf:Tryd.pinned.checked.prog.funcNamed Rows.langBackRow.func=some f) (hfn:Tryd.pinned.checked.prog.funcs[f]? = some fn) :
 true=Tryd.pinned.checked.prog.looks [] /\ ∀ (j:Nat) t,fn.params[j]? = some t->Tryd.pinned.checked.prog.wantsStandIn t=false:=by
 obtain rfl:f=5:=kr ((show Tryd.prog.funcNamed Rows.langBackRow.func=some 5 by kernel_rfl).symm.trans hf) |>.symm
 obtain rfl:fn=Tryd.f5:=(kr (Tryd.func5.symm.trans hfn)).symm
 refine ⟨by kernel_rfl,fun j t ht=>?_⟩
 have hm:t ∈ Tryd.f5.params.toList:=by rw [<-j7] at ht;exact zd ht
 rw [Tryd.params5] at hm
 simp only [x7,List.mem_nil_iff,or_false] at hm
 rcases hm with rfl<;>(show Tryd.pinned.checked.prog.wantsStandIn _=false;kernel_rfl)
/-- THE CARD -/
theorem card:Rows.LangBackCardSaid :=
 Claim7.holds_tied_plain_at .later [] _ _ _ _ said (fun _ h=>by cases h) (by kernel_rfl) (fun _ h=>by cases h) langBack_row_tie rfl ⟨rfl,rfl⟩ (by kernel_rfl) rfl plain (by kernel_rfl)
end Go.Proofs.YtbimikjajohflaaDoor.langBack
