/- LangParses: for every world that holds the listed variables as listed,and whatever the arguments read as,the law returns true and changes nothing that was there. No condition beyond the row's own. -/
import Derived.Test.YtbimikjajohflaaDoorCards
import Derived.Test.YtbimikjajohflaaDoorTie
import Derived.Test.YtbimikjajohflaaDoorAmQB4
import Derived.Test.YtbimikjajohflaaDoorAmQB5
import Derived.Test.YtbimikjajohflaaDoorAmQLrQ9
import Derived.LaidMore
import Derived.Deep.DeepHandedRow
import Derived.Deep.DeepWitnessRowRef
namespace Go.Proofs.YtbimikjajohflaaDoor.langParses
open Go.ChangeShapes Go.WideShapes Go.ChangeAt Go.RowKit Go.Am
set_option maxRecDepth 100000
theorem good:PGood Tryd.prog:=pgood (by kernel_rfl) (by kernel_rfl)
theorem own:ownKnob Tryd.prog.godebug=none:=by kernel_rfl
theorem laidOut:laidOutB Tryd.prog=true:=by kernel_rfl
theorem read:∀ t ∈ Tryd.f4.params.toList,Tryd.prog.readableRec t=true/\t<Tryd.prog.types.size:=by
 rw [Tryd.params4]
 intro t ht
 simp only [z6,List.mem_nil_iff,or_false] at ht
 rcases ht with rfl<;>exact ⟨by kernel_rfl,by decide +kernel⟩
noncomputable abbrev gl0:=rowsOf Tryd.prog 190 Tryd.prog.globals.size Rows.langParsesRow.laid
noncomputable abbrev n0:=Tryd.prog.globals.size+Rows.langParsesRow.laid.length
theorem star : "*" ++ "errors.errorString" = "*errors.errorString" := by decide
theorem errT:ErrT Tryd.prog 190 :=
 ⟨fun u h=>typeName_ptr_named (nm := "errors.errorString") (by rw [star];kernel_rfl) (by kernel_rfl) (by decide) u (by rw [star];exact h),by kernel_rfl⟩
noncomputable abbrev mac:Mac:=Mac.plain Tryd.prog
instance:MK mac:=⟨fun _ _=>rfl⟩
theorem u9:Tryd.prog.underlying 9=some .string:=by kernel_rfl
theorem err4:(wn gl0 n0).cellsAt ky=some [.iface 190 (.ptr (Tryd.prog.globals.size+4) 0)]:=by kernel_rfl
theorem err5:(wn gl0 n0).cellsAt yj=some [.iface 190 (.ptr (Tryd.prog.globals.size+3) 0)]:=by kernel_rfl
theorem ers0:Ers (wn gl0 n0):=⟨⟨by decide +kernel,_,err4,rfl,rfl⟩,⟨by decide +kernel,_,err5,rfl,rfl⟩⟩
theorem contract {H:Type} {enc:TypeId × Value->H} {W:World} {base:Nat} {args:Array Value} {ds gs:List (DataW H)} {before:List MemPlace} {apart:Bool}
 (hval:∀ (j:Nat) t v,Tryd.f4.params[j]? = some t->args[j]? = some v->Value.okWide Tryd.prog W .any base t v) (hW:DataW.Whole enc Tryd.prog Tryd.f4.params.toList Rows.langParsesSpec.vars apart W args.toList ds gs before)
 (hm:laidMet Tryd.prog Rows.langParsesRow.laid W):Calls Tryd.prog 4 args W fun e w'=>e=.returned (.bool true)/\Below W.heap.size W w':=by
 obtain ⟨p,q,hA,_,_,_,_⟩:=hW
 rw [Tryd.params4] at hA hval
 obtain ⟨v,vs1,d,ds1,p1,q1,fuel,hl,rfl,ht,hA⟩:=q0i hA
 obtain ⟨rfl,rfl⟩:=trod_nil hA
 have hv:Value.okWide Tryd.prog W .any base 9 v:=hval 0 9 v rfl (by rw [<-jy,hl];rfl)
 obtain ⟨s,rfl⟩:=arg_str u9 hv
 obtain ⟨θL,hg,hgood⟩:=laidE errT hm
 refine qy5 good (qxd (Nat.le_add_right ..) hg (Go.Am.Step.refl hgood)) ?_ (qpw (M:=mac) ers0 (text:=s.data.toList))
 rw [hl]
 exact .one (by simpa using VR.str s.data.toList)
/-- a world for the witness -/
noncomputable def laidW (os:Os):World:=pinW Tryd.prog (World.doorLaid Tryd.prog 62 os) Rows.langParsesRow.laid
theorem laid_met (os:Os):laidMetH Tryd.prog Rows.langParsesRow.laid ((laidW os).forCall (fun _ _=>0) ⟨#[],#[.string ⟨#[]⟩],[]⟩).memory :=
 laidMet_of_run' 8 (by kernel_rfl) (by kernel_rfl)
theorem reads (os:Os) {H:Type} (enc:TypeId × Value->H):∃ places,DataW.whole enc Tryd.prog ((laidW os).forCall (fun _ _=>0) ⟨#[],#[.string ⟨#[]⟩],[]⟩).memory Tryd.f4.params.toList Rows.langParsesSpec.vars false (#[.string ⟨#[]⟩]:Array Value).toList 8=some ([.lit (.string [])],[],places) :=
 ⟨[],by kernel_rfl⟩
theorem lifted (os:Os) (started:os.Started) (H:Type) (enc:TypeId × Value->H) (F:Stop.Interp) :
 ReturnsInHanded {} Tryd.checked os 4 .any ((OpenSpec.ofChange Rows.langParsesSpec).preRow enc Tryd.prog Tryd.f4 Rows.langParsesRow.domain false Rows.langParsesRow.laid) (((OpenSpec.ofChange Rows.langParsesSpec).at F).post enc Tryd.prog Tryd.f4 false true false false):=by
 obtain ⟨places,hx⟩:=reads os enc
 refine returnsInHanded_of_row (C:=Tryd.checked) (s:=OpenSpec.ofChange Rows.langParsesSpec) own started (by kernel_rfl) Tryd.func4
  (witness_row_atRef (enc:=enc) (C:=Tryd.checked) false (laidW os) #[.string ⟨#[]⟩] rfl (by kernel_rfl) (by kernel_rfl) (by kernel_rfl)
   (OpenSpec.preRow_of_cond 8 hx (by kernel_rfl) (fun k hk=>by cases hk) (by kernel_rfl) (laid_met os))) ?_
 intro W base args ds gs before hval hW _ _ _ hL _ _
 have hm:laidMet Tryd.prog Rows.langParsesRow.laid W:=by
  unfold laidMetH at hL
  rw [show ((Rows.langParsesRow.laid.filter fun x=>x.2.handleName?.isSome)=[]) from by kernel_rfl] at hL
  exact hL
 refine qry (s:=Rows.langParsesSpec) laidOut read rfl (fun ds h=>?_) rfl Tryd.underlying4 hW (contract hval hW hm)
 rw [Tryd.params4] at h
 match ds,h with
 | [d0],_=>rfl
theorem said:Rows.LangParsesSaid :=
 OpenClaim.holds_of_cond 4 Tryd.f4 rfl rfl rfl rfl rfl rfl rfl ⟨rfl,rfl,rfl,rfl,rfl⟩ rfl rfl rfl rfl rfl (by kernel_rfl) Tryd.func4 (by kernel_rfl)
  (of_decide_eq_true (by kernel_rfl)) (by unfold Func.isWrapper;first|(rw [xv (by decide +kernel)];kernel_rfl) | (rw [qx (by decide +kernel)];exact ⟨rfl,rfl⟩))
  (fun os started H enc _ F=>by rw [OpenClaim.pre_eq_preRow];exact lifted os started H enc F)
theorem plain (f:FuncId) (fn:Func) (hf:Tryd.pinned.checked.prog.funcNamed Rows.langParsesRow.func=some f) (hfn:Tryd.pinned.checked.prog.funcs[f]? = some fn) :
 true=Tryd.pinned.checked.prog.looks [] /\ ∀ (j:Nat) t,fn.params[j]? = some t->Tryd.pinned.checked.prog.wantsStandIn t=false:=by
 obtain rfl:f=4:=kj ((show Tryd.prog.funcNamed Rows.langParsesRow.func=some 4 by kernel_rfl).symm.trans hf) |>.symm
 obtain rfl:fn=Tryd.f4:=(kj (Tryd.func4.symm.trans hfn)).symm
 refine ⟨by kernel_rfl,fun j t ht=>?_⟩
 have hm:t ∈ Tryd.f4.params.toList:=by rw [<-jy] at ht;exact jv ht
 rw [Tryd.params4] at hm
 simp only [z6,List.mem_nil_iff,or_false] at hm
 rcases hm with rfl<;>(show Tryd.pinned.checked.prog.wantsStandIn _=false;kernel_rfl)
/-- THE CARD -/
theorem card:Rows.LangParsesCardSaid :=
 Claim7.holds_tied_plain_at .later [] _ _ _ _ said (fun _ h=>by cases h) (by kernel_rfl) (fun _ h=>by cases h) langParses_row_tie rfl ⟨rfl,rfl⟩ (by kernel_rfl) rfl plain (by kernel_rfl)
end Go.Proofs.YtbimikjajohflaaDoor.langParses
