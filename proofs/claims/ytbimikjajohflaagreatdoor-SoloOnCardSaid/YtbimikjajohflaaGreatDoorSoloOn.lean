/- SoloOn: for every world that holds the listed variables as listed,and whatever the arguments read as,the law returns true and changes nothing that was there. No condition beyond the row's own. -/
import Derived.Test.YtbimikjajohflaaGreatDoorCards
import Derived.Test.YtbimikjajohflaaGreatDoorTie
import Derived.Test.YtbimikjajohflaaGreatDoorAmRB4
import Derived.Test.YtbimikjajohflaaGreatDoorAmRB5
import Derived.Test.YtbimikjajohflaaGreatDoorAmRLqR5
import Derived.Test.YtbimikjajohflaaGreatDoorSoloOnRun
import Derived.LaidMore
import Derived.Deep.DeepHandedRow
import Derived.Deep.DeepWitnessRowRef
namespace Go.Proofs.YtbimikjajohflaaGreatDoor.soloOn
open Go.ChangeShapes Go.WideShapes Go.ChangeAt Go.RowKit Go.Am
set_option maxRecDepth 100000
theorem good:PGood Tryz.prog:=pgood (by kernel_rfl) (by kernel_rfl)
theorem own:ownKnob Tryz.prog.godebug=none:=by kernel_rfl
theorem laidOut:laidOutB Tryz.prog=true:=by kernel_rfl
theorem read:∀ t ∈ Tryz.f6.params.toList,Tryz.prog.readableRec t=true/\t<Tryz.prog.types.size:=by
 rw [Tryz.params6]
 intro t ht
 simp only [xe,List.mem_nil_iff,or_false] at ht
 rcases ht with rfl|rfl<;>exact ⟨by kernel_rfl,by decide +kernel⟩
theorem star : "*" ++ "errors.errorString" = "*errors.errorString" := by decide
theorem errT:ErrT Tryz.prog 254 :=
 ⟨fun u h=>typeName_ptr_named (nm := "errors.errorString") (by rw [star];kernel_rfl) (by kernel_rfl) (by decide) u (by rw [star];exact h),by kernel_rfl⟩
theorem okRows:rowsOk n0 gl0=true:=by decide +kernel
theorem hasRows0:hasRows (zr gl0 n0) gl0=true:=by decide +kernel
theorem aliveT:ToldP Tryz.prog gl0 n0 ⟨16,[],.bool true⟩:=qqe good (qa3 ..) okRows (L:=[]) (fun e h=>by cases h) rfl run
theorem allT:∀ e ∈ [(⟨16,[],.bool true⟩:TEntry)],vl 0 e.args=true/\ToldP Tryz.prog gl0 n0 e:=fun e h=>by
 rcases wt.1 h with rfl
 exact ⟨rfl,aliveT⟩
noncomputable abbrev mac:Mac:=Mac.tell Tryz.prog gl0 [⟨16,[],.bool true⟩]
instance:MK mac:=⟨fun n hn=>Mac.tell_func (by
 have h:(bif Nat.beq 7 n then true else memN n [16])=false:=hn
 cases q:Nat.beq 7 n with
 | true=>rw [q] at h;cases h
 | false=>rw [q] at h;exact h)⟩
noncomputable def qqn:Array Field:=match Tryz.prog.underlying 55 with|some (.struct fs)=>fs|_=>#[]
noncomputable def qqu:Array Field:=match Tryz.prog.underlying 36 with|some (.struct fs)=>fs|_=>#[]
theorem u55:Tryz.prog.underlying 55=some (.struct qqn):=by kernel_rfl
theorem u36:Tryz.prog.underlying 36=some (.struct qqu):=by kernel_rfl
theorem akTypes:qqn.toList.map (·.type)=[26,46,3,45,3]:=by kernel_rfl
theorem inTypes:qqu.toList.map (·.type)=[3,3,3,3,3]:=by kernel_rfl
theorem uI:Tryz.prog.underlying 3=some (.int .i64):=by kernel_rfl
theorem uU:Tryz.prog.underlying 31=some (.int .u64):=by kernel_rfl
theorem uU16:Tryz.prog.underlying 56=some (.int .u16):=by kernel_rfl
theorem uC0:Tryz.prog.underlying 26=some (.slice 36):=by kernel_rfl
theorem uR0:Tryz.prog.underlying 46=some (.array 8 31):=by kernel_rfl
theorem uW0:Tryz.prog.underlying 45=some (.slice 31):=by kernel_rfl
theorem askW:RdW Tryz.prog 55 fun H l=>∃ cv wsv code rs ws pc steps,AskArg H l cv wsv code rs ws pc steps :=
 rdw_ask u55 akTypes uC0 u36 inTypes uI uR0 uU uW0 (by kernel_rfl) (by kernel_rfl) (by kernel_rfl) (by kernel_rfl) (by kernel_rfl) (by kernel_rfl) (by kernel_rfl)
theorem sh0:(zr gl0 n0).cellsAt vp=some shapeC:=by kernel_rfl
theorem sl0:vp<(zr gl0 n0).next:=by decide +kernel
theorem shT0:ShT (zr gl0 n0):=⟨sh0,sl0⟩
theorem contract {H:Type} {enc:TypeId × Value->H} {W:World} {base:Nat} {args:Array Value} {ds gs:List (DataW H)} {before:List MemPlace} {apart:Bool}
 (hval:∀ (j:Nat) t v,Tryz.f6.params[j]? = some t->args[j]? = some v->Value.okWide Tryz.prog W .any base t v) (hW:DataW.Whole enc Tryz.prog Tryz.f6.params.toList Rows.soloOnSpec.vars apart W args.toList ds gs before)
 (hm:laidMet Tryz.prog Rows.soloOnRow.laid W) {ts:List TypeId} (hZ:(DataW.weightsEach Tryz.prog (Tryz.f6.params.toList++ts) (ds++gs)).all (·<=reachBytes)=true):Calls Tryz.prog 6 args W fun e w'=>e=.returned (.bool true)/\Below W.heap.size W w':=by
 obtain ⟨p,q,hA,_,_,_,_⟩:=hW
 rw [Tryz.params6] at hA hval hZ
 obtain ⟨v,vs1,d,ds1,p1,q1,fuel,hl,rfl,ht,hA⟩:=qo2 hA
 obtain ⟨v2,vs2,d2,ds2,p2,q2,fuel2,rfl,rfl,ht2,hA⟩:=qo2 hA
 obtain ⟨rfl,rfl⟩:=trod_nil hA
 have hv:Value.okWide Tryz.prog W .any base 55 v:=hval 0 55 v rfl (by rw [<-x6,hl];rfl)
 obtain ⟨n2,rfl,hn2⟩:=arg_int uU16 (hval 1 56 v2 rfl (by rw [<-x6,hl];rfl))
 obtain ⟨cs,rfl⟩:=arg_agg (.inl ⟨_,u55⟩) hv
 have ht:DataW.trod enc Tryz.prog W 0 (fun _=>true) true fuel 55 cs.toList=some (d,p1):=ht
 have hwt:Wt Tryz.prog 55 d:=fun x hx=>by
  have h1:=yn.1 hZ x (by simp only [k8,DataW.weightsEach,xw];exact .inl hx)
  simpa using h1
 obtain ⟨θL,hg,hgood⟩:=laidE errT hm
 obtain ⟨θ,n,gl,l,hst,hvl,cv,wsv,code,rs,ws,pc,steps,ha⟩:=askW.2 enc W true fuel _ d p1 ht hwt θL n0 gl0 hgood
 have hrows:∀ H1,Fr Em (zr gl n) H1->hasRows H1 gl0=true:=fun H1 f =>
  qk0 (n:=n0) (H:=zr gl0 n0) okRows (fun b hb=>by rw [f.keep b (qf hb hst.le) id];exact hst.keep b hb) hasRows0
 have hmo:0<=n2/\n2<65536:=by
  have h1:IntKind.max .u16=65535:=by decide
  have h2:IntKind.min .u16=0:=by decide
  have h3:IntKind.min .u16<=n2/\n2<=IntKind.max .u16:=hn2
  omega
 refine law_tell good (n0:=n0) (qa3 ..) okRows allT (qry (qa3 ..) hg hst) ?_ (qrk (M:=mac) (fun H1 f=>qs9 (hrows H1 f)) (cv:=cv) (wsv:=wsv) (code:=code) (rs:=rs) (ws:=ws) (pc:=pc) (steps:=steps) (more:=n2) ⟨ha.cd,ha.sl,ha.r8,ha.rr,ha.wr,shT0.em hst.fr⟩ ha.st hmo)
 rw [hl]
 rw [ha.eq] at hvl
 exact .cons (by simpa using VR.agg hvl) (.one fun _ _=>rfl)
/-- a world for the witness -/
noncomputable def laidW (os:Os):World:=pinW Tryz.prog (World.doorLaid Tryz.prog 95 os) Rows.soloOnRow.laid
theorem laid_met (os:Os):laidMetH Tryz.prog Rows.soloOnRow.laid ((laidW os).forCall (fun _ _=>0) ⟨#[],#[.agg #[.slice none 0 0,.int .u64 0,.int .u64 0,.int .u64 0,.int .u64 0,.int .u64 0,.int .u64 0,.int .u64 0,.int .u64 0,.int .i64 0,.slice none 0 0,.int .i64 0],.int .u16 0],[]⟩).memory :=
 laidMet_of_run' 8 (by kernel_rfl) (by kernel_rfl)
theorem reads (os:Os) {H:Type} (enc:TypeId × Value->H):∃ places,DataW.whole enc Tryz.prog ((laidW os).forCall (fun _ _=>0) ⟨#[],#[.agg #[.slice none 0 0,.int .u64 0,.int .u64 0,.int .u64 0,.int .u64 0,.int .u64 0,.int .u64 0,.int .u64 0,.int .u64 0,.int .i64 0,.slice none 0 0,.int .i64 0],.int .u16 0],[]⟩).memory Tryz.f6.params.toList Rows.soloOnSpec.vars false (#[.agg #[.slice none 0 0,.int .u64 0,.int .u64 0,.int .u64 0,.int .u64 0,.int .u64 0,.int .u64 0,.int .u64 0,.int .u64 0,.int .i64 0,.slice none 0 0,.int .i64 0],.int .u16 0]:Array Value).toList 8=some ([.agg [.nil,.agg (List.replicate 8 (.lit (.int .u64 0))),.lit (.int .i64 0),.nil,.lit (.int .i64 0)],.lit (.int .u16 0)],[],places) :=
 ⟨[],by kernel_rfl⟩
theorem lifted (os:Os) (started:os.Started) (H:Type) (enc:TypeId × Value->H) (F:Stop.Interp) :
 ReturnsInHanded {} Tryz.checked os 6 .any ((OpenSpec.ofChange Rows.soloOnSpec).preRow enc Tryz.prog Tryz.f6 Rows.soloOnRow.domain false Rows.soloOnRow.laid) (((OpenSpec.ofChange Rows.soloOnSpec).at F).post enc Tryz.prog Tryz.f6 false true false false):=by
 obtain ⟨places,hx⟩:=reads os enc
 refine returnsInHanded_of_row (C:=Tryz.checked) (s:=OpenSpec.ofChange Rows.soloOnSpec) own started (by kernel_rfl) Tryz.func6
  (witness_row_atRef (enc:=enc) (C:=Tryz.checked) false (laidW os) #[.agg #[.slice none 0 0,.int .u64 0,.int .u64 0,.int .u64 0,.int .u64 0,.int .u64 0,.int .u64 0,.int .u64 0,.int .u64 0,.int .i64 0,.slice none 0 0,.int .i64 0],.int .u16 0] rfl (by kernel_rfl) (by kernel_rfl) (by kernel_rfl)
   (OpenSpec.preRow_of_cond 8 hx (by kernel_rfl) (fun k hk=>by cases hk) (by kernel_rfl) (laid_met os))) ?_
 intro W base args ds gs before hval hW _ _ hZ hL _ _
 have hm:laidMet Tryz.prog Rows.soloOnRow.laid W:=by
  unfold laidMetH at hL
  rw [show ((Rows.soloOnRow.laid.filter fun x=>x.2.handleName?.isSome)=[]) from by kernel_rfl] at hL
  exact hL
 refine qmm (s:=Rows.soloOnSpec) laidOut read rfl (fun ds h=>?_) rfl Tryz.underlying4 hW (contract hval hW hm hZ)
 rw [Tryz.params6] at h
 match ds,h with
 | [d0,d1],_=>rfl
theorem said:Rows.SoloOnSaid :=
 OpenClaim.holds_of_cond 6 Tryz.f6 rfl rfl rfl rfl rfl rfl rfl ⟨rfl,rfl,rfl,rfl,rfl⟩ rfl rfl rfl rfl rfl (by kernel_rfl) Tryz.func6 (by kernel_rfl)
  (of_decide_eq_true (by kernel_rfl)) (by unfold Func.isWrapper;first|(rw [qh (by decide +kernel)];kernel_rfl) | (rw [qe (by decide +kernel)];exact ⟨rfl,rfl⟩))
  (fun os started H enc _ F=>by rw [OpenClaim.pre_eq_preRow];exact lifted os started H enc F)
theorem plain (f:FuncId) (fn:Func) (hf:Tryz.pinned.checked.prog.funcNamed Rows.soloOnRow.func=some f) (hfn:Tryz.pinned.checked.prog.funcs[f]? = some fn) :
 true=Tryz.pinned.checked.prog.looks [] /\ ∀ (j:Nat) t,fn.params[j]? = some t->Tryz.pinned.checked.prog.wantsStandIn t=false:=by
 obtain rfl:f=6:=zz ((show Tryz.prog.funcNamed Rows.soloOnRow.func=some 6 by kernel_rfl).symm.trans hf) |>.symm
 obtain rfl:fn=Tryz.f6:=(zz (Tryz.func6.symm.trans hfn)).symm
 refine ⟨by kernel_rfl,fun j t ht=>?_⟩
 have hm:t ∈ Tryz.f6.params.toList:=by rw [<-x6] at ht;exact z4 ht
 rw [Tryz.params6] at hm
 simp only [xe,List.mem_nil_iff,or_false] at hm
 rcases hm with rfl|rfl<;>(show Tryz.pinned.checked.prog.wantsStandIn _=false;kernel_rfl)
/-- THE CARD -/
theorem card:Rows.SoloOnCardSaid :=
 Claim7.holds_tied_plain_at .later [] _ _ _ _ said (fun _ h=>by cases h) (by kernel_rfl) (fun _ h=>by cases h) soloOn_row_tie rfl ⟨rfl,rfl⟩ (by kernel_rfl) rfl plain (by kernel_rfl)
end Go.Proofs.YtbimikjajohflaaGreatDoor.soloOn
