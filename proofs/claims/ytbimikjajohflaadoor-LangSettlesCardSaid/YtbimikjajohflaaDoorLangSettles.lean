/- LangSettles: for every world that holds the listed variables as listed,and whatever the arguments read as,the law returns true and changes nothing that was there. No condition beyond the row's own. -/
import Derived.Test.YtbimikjajohflaaDoorCards
import Derived.Test.YtbimikjajohflaaDoorTie
import Derived.Test.YtbimikjajohflaaDoorAmOB4
import Derived.Test.YtbimikjajohflaaDoorAmOB5
import Derived.Test.YtbimikjajohflaaDoorAmOLqO7
import Derived.Test.YtbimikjajohflaaDoorLangSettlesRun
import Derived.LaidMore
import Derived.Deep.DeepHandedRow
import Derived.Deep.DeepWitnessRowRef
namespace Go.Proofs.YtbimikjajohflaaDoor.langSettles
open Go.ChangeShapes Go.WideShapes Go.ChangeAt Go.RowKit Go.Am
set_option maxRecDepth 100000
theorem good:PGood Tryd.prog:=pgood (by kernel_rfl) (by kernel_rfl)
theorem own:ownKnob Tryd.prog.godebug=none:=by kernel_rfl
theorem laidOut:laidOutB Tryd.prog=true:=by kernel_rfl
theorem read:∀ t ∈ Tryd.f6.params.toList,Tryd.prog.readableRec t=true/\t<Tryd.prog.types.size:=by
 rw [Tryd.params6]
 intro t ht
 simp only [zg,List.mem_nil_iff,or_false] at ht
 rcases ht with rfl<;>exact ⟨by kernel_rfl,by decide +kernel⟩
theorem star : "*" ++ "errors.errorString" = "*errors.errorString" := by decide
theorem errT:ErrT Tryd.prog 190 :=
 ⟨fun u h=>typeName_ptr_named (nm := "errors.errorString") (by rw [star];kernel_rfl) (by kernel_rfl) (by decide) u (by rw [star];exact h),by kernel_rfl⟩
theorem okRows:rowsOk n0 gl0=true:=by decide +kernel
theorem hasRows0:hasRows (yn gl0 n0) gl0=true:=by decide +kernel
theorem aliveT:ToldP Tryd.prog gl0 n0 ⟨20,[],.bool true⟩:=q0z good (qfb ..) okRows (L:=[]) (fun e h=>by cases h) rfl run
theorem allT:∀ e ∈ [(⟨20,[],.bool true⟩:TEntry)],qc8 0 e.args=true/\ToldP Tryd.prog gl0 n0 e:=fun e h=>by
 rcases xb.1 h with rfl
 exact ⟨rfl,aliveT⟩
noncomputable abbrev mac:Mac:=Mac.tell Tryd.prog gl0 [⟨20,[],.bool true⟩]
instance:MK mac:=⟨fun n hn=>Mac.tell_func (by
 have h:(bif Nat.beq 20 n then true else memN n [30])=false:=hn
 cases q:Nat.beq 20 n with
 | true=>rw [q] at h;cases h
 | false=>show (bif Nat.beq 20 n then true else false)=false;rw [q];rfl)⟩
theorem u9:Tryd.prog.underlying 9=some .string:=by kernel_rfl
theorem reach_le:reachBytes<=140737488355328:=by decide
theorem pow0:PowT (yn gl0 n0):=by unfold PowT;kernel_rfl
theorem pl0:zt<(yn gl0 n0).next:=by decide +kernel
theorem err4:(yn gl0 n0).cellsAt vg=some [.iface 190 (.ptr (Tryd.prog.globals.size+4) 0)]:=by kernel_rfl
theorem err5:(yn gl0 n0).cellsAt we=some [.iface 190 (.ptr (Tryd.prog.globals.size+3) 0)]:=by kernel_rfl
theorem ers0:Ers (yn gl0 n0):=⟨⟨by decide +kernel,_,err4,rfl,rfl⟩,⟨by decide +kernel,_,err5,rfl,rfl⟩⟩
theorem contract {H:Type} {enc:TypeId × Value->H} {W:World} {base:Nat} {args:Array Value} {ds gs:List (DataW H)} {before:List MemPlace} {apart:Bool}
 (hval:∀ (j:Nat) t v,Tryd.f6.params[j]? = some t->args[j]? = some v->Value.okWide Tryd.prog W .any base t v) (hW:DataW.Whole enc Tryd.prog Tryd.f6.params.toList Rows.langSettlesSpec.vars apart W args.toList ds gs before)
 (hm:laidMet Tryd.prog Rows.langSettlesRow.laid W):Calls Tryd.prog 6 args W fun e w'=>e=.returned (.bool true)/\Below W.heap.size W w':=by
 obtain ⟨p,q,hA,_,_,_,_⟩:=hW
 rw [Tryd.params6] at hA hval
 obtain ⟨v,vs1,d,ds1,p1,q1,fuel,hl,rfl,ht,hA⟩:=q64 hA
 obtain ⟨rfl,rfl⟩:=trod_nil hA
 have hv:Value.okWide Tryd.prog W .any base 9 v:=hval 0 9 v rfl (by rw [<-ko,hl];rfl)
 obtain ⟨s,rfl⟩:=arg_str u9 hv
 obtain ⟨θL,hg,hgood⟩:=laidE errT hm
 have hrows:∀ H1,Fr Em (yn gl0 n0) H1->hasRows H1 gl0=true:=fun H1 f =>
  qui (n:=n0) (H:=yn gl0 n0) okRows (fun b hb=>f.keep b hb id) hasRows0
 refine law_tell good (n0:=n0) (qfb ..) okRows allT (q20 (qfb ..) hg (Go.Am.Step.refl hgood)) ?_ (qrt (M:=mac) (fun H1 f=>q4q (hrows H1 f)) ers0 pow0 pl0 (text:=s.data.toList))
 rw [hl]
 exact .one (by simpa using VR.str s.data.toList)
/-- a world for the witness -/
noncomputable def laidW (os:Os):World:=pinW Tryd.prog (World.doorLaid Tryd.prog 62 os) Rows.langSettlesRow.laid
theorem laid_met (os:Os):laidMetH Tryd.prog Rows.langSettlesRow.laid ((laidW os).forCall (fun _ _=>0) ⟨#[],#[.string ⟨#[]⟩],[]⟩).memory :=
 laidMet_of_run' 8 (by kernel_rfl) (by kernel_rfl)
theorem reads (os:Os) {H:Type} (enc:TypeId × Value->H):∃ places,DataW.whole enc Tryd.prog ((laidW os).forCall (fun _ _=>0) ⟨#[],#[.string ⟨#[]⟩],[]⟩).memory Tryd.f6.params.toList Rows.langSettlesSpec.vars false (#[.string ⟨#[]⟩]:Array Value).toList 8=some ([.lit (.string [])],[],places) :=
 ⟨[],by kernel_rfl⟩
theorem lifted (os:Os) (started:os.Started) (H:Type) (enc:TypeId × Value->H) (F:Stop.Interp) :
 ReturnsInHanded {} Tryd.checked os 6 .any ((OpenSpec.ofChange Rows.langSettlesSpec).preRow enc Tryd.prog Tryd.f6 Rows.langSettlesRow.domain false Rows.langSettlesRow.laid) (((OpenSpec.ofChange Rows.langSettlesSpec).at F).post enc Tryd.prog Tryd.f6 false true false false):=by
 obtain ⟨places,hx⟩:=reads os enc
 refine returnsInHanded_of_row (C:=Tryd.checked) (s:=OpenSpec.ofChange Rows.langSettlesSpec) own started (by kernel_rfl) Tryd.func6
  (witness_row_atRef (enc:=enc) (C:=Tryd.checked) false (laidW os) #[.string ⟨#[]⟩] rfl (by kernel_rfl) (by kernel_rfl) (by kernel_rfl)
   (OpenSpec.preRow_of_cond 8 hx (by kernel_rfl) (fun k hk=>by cases hk) (by kernel_rfl) (laid_met os))) ?_
 intro W base args ds gs before hval hW _ _ _ hL _ _
 have hm:laidMet Tryd.prog Rows.langSettlesRow.laid W:=by
  unfold laidMetH at hL
  rw [show ((Rows.langSettlesRow.laid.filter fun x=>x.2.handleName?.isSome)=[]) from by kernel_rfl] at hL
  exact hL
 refine qv9 (s:=Rows.langSettlesSpec) laidOut read rfl (fun ds h=>?_) rfl Tryd.underlying4 hW (contract hval hW hm)
 rw [Tryd.params6] at h
 match ds,h with
 | [d0],_=>rfl
theorem said:Rows.LangSettlesSaid :=
 OpenClaim.holds_of_cond 6 Tryd.f6 rfl rfl rfl rfl rfl rfl rfl ⟨rfl,rfl,rfl,rfl,rfl⟩ rfl rfl rfl rfl rfl (by kernel_rfl) Tryd.func6 (by kernel_rfl)
  (of_decide_eq_true (by kernel_rfl)) (by unfold Func.isWrapper;first|(rw [xi (by decide +kernel)];kernel_rfl) | (rw [qt (by decide +kernel)];exact ⟨rfl,rfl⟩))
  (fun os started H enc _ F=>by rw [OpenClaim.pre_eq_preRow];exact lifted os started H enc F)
theorem plain (f:FuncId) (fn:Func) (hf:Tryd.pinned.checked.prog.funcNamed Rows.langSettlesRow.func=some f) (hfn:Tryd.pinned.checked.prog.funcs[f]? = some fn) :
 true=Tryd.pinned.checked.prog.looks [] /\ ∀ (j:Nat) t,fn.params[j]? = some t->Tryd.pinned.checked.prog.wantsStandIn t=false:=by
 obtain rfl:f=6:=kp ((show Tryd.prog.funcNamed Rows.langSettlesRow.func=some 6 by kernel_rfl).symm.trans hf) |>.symm
 obtain rfl:fn=Tryd.f6:=(kp (Tryd.func6.symm.trans hfn)).symm
 refine ⟨by kernel_rfl,fun j t ht=>?_⟩
 have hm:t ∈ Tryd.f6.params.toList:=by rw [<-ko] at ht;exact zh ht
 rw [Tryd.params6] at hm
 simp only [zg,List.mem_nil_iff,or_false] at hm
 rcases hm with rfl<;>(show Tryd.pinned.checked.prog.wantsStandIn _=false;kernel_rfl)
/-- THE CARD -/
theorem card:Rows.LangSettlesCardSaid :=
 Claim7.holds_tied_plain_at .later [] _ _ _ _ said (fun _ h=>by cases h) (by kernel_rfl) (fun _ h=>by cases h) langSettles_row_tie rfl ⟨rfl,rfl⟩ (by kernel_rfl) rfl plain (by kernel_rfl)
end Go.Proofs.YtbimikjajohflaaDoor.langSettles
