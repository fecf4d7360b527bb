/- MeanParts: for every world that holds the listed variables as listed,and whatever the arguments read as,the law returns true and changes nothing that was there. No condition beyond the row's own. -/
import Derived.Test.YtbimikjajohflaaDoorCards
import Derived.Test.YtbimikjajohflaaDoorTie
import Derived.Test.YtbimikjajohflaaDoorAmJB4
import Derived.Test.YtbimikjajohflaaDoorAmJB5
import Derived.Test.YtbimikjajohflaaDoorAmJLqJ8
import Derived.LaidMore
import Derived.Deep.DeepHandedRow
import Derived.Deep.DeepWitnessRowRef
namespace Go.Proofs.YtbimikjajohflaaDoor.meanParts
open Go.ChangeShapes Go.WideShapes Go.ChangeAt Go.RowKit Go.Am
set_option maxRecDepth 100000
theorem good:PGood Tryd.prog:=pgood (by kernel_rfl) (by kernel_rfl)
theorem own:ownKnob Tryd.prog.godebug=none:=by kernel_rfl
theorem laidOut:laidOutB Tryd.prog=true:=by kernel_rfl
theorem read:∀ t ∈ Tryd.f8.params.toList,Tryd.prog.readableRec t=true/\t<Tryd.prog.types.size:=by
 rw [Tryd.params8]
 intro t ht
 simp only [x4,List.mem_nil_iff,or_false] at ht
 rcases ht with rfl|rfl|rfl|rfl|rfl<;>exact ⟨by kernel_rfl,by decide +kernel⟩
noncomputable abbrev gl0:=rowsOf Tryd.prog 0 Tryd.prog.globals.size Rows.meanPartsRow.laid
noncomputable abbrev n0:=Tryd.prog.globals.size+Rows.meanPartsRow.laid.length
theorem noErr:noSent Rows.meanPartsRow.laid=true:=by kernel_rfl
noncomputable abbrev mac:Mac:=Mac.plain Tryd.prog
instance:MK mac:=⟨fun _ _=>rfl⟩
theorem uS:Tryd.prog.underlying 22=some (.slice 58):=by kernel_rfl
noncomputable def q5m:Array Field:=match Tryd.prog.underlying 58 with|some (.struct fs)=>fs|_=>#[]
theorem uN:Tryd.prog.underlying 58=some (.struct q5m):=by kernel_rfl
theorem ndTypes:q5m.toList.map (·.type)=[3,38,56]:=by kernel_rfl
theorem uI:Tryd.prog.underlying 3=some (.int .i64):=by kernel_rfl
theorem uU:Tryd.prog.underlying 38=some (.int .u64):=by kernel_rfl
theorem uK:Tryd.prog.underlying 56=some (.slice 3):=by kernel_rfl
theorem nodesW:RdW Tryd.prog 22 fun H l=>∃ u ts,l=[u]/\NdsArg H u ts :=
 q99 uS uN ndTypes uI uU uK (by kernel_rfl) (by kernel_rfl) (by kernel_rfl) (by kernel_rfl) (by kernel_rfl) (by kernel_rfl)
theorem u37:Tryd.prog.underlying 37=some (.slice 38):=by kernel_rfl
theorem u39:Tryd.prog.underlying 39=some (.array 8 38):=by kernel_rfl
theorem u63:Tryd.prog.underlying 63=some (.int .u16):=by kernel_rfl
theorem b38:Tryd.prog.bytesOf 38=8:=by kernel_rfl
theorem wordsW:RdW Tryd.prog 37 fun H l=>∃ u,l=[u] /\ ∃ xs:List Int,SlT (fun x=>[AV.int .u64 x]) 1 H u xs/\xs.length*Tryd.prog.bytesOf 38<=reachBytes /\ ∀ x ∈ xs,(Lit.int .u64 x).wf=true :=
 q5q u37 uU (by kernel_rfl)
theorem reach_le:reachBytes<=140737488355328:=by decide
theorem pow0:PowT (qao gl0 n0):=by unfold PowT;kernel_rfl
theorem pl0:z9<(qao gl0 n0).next:=by decide +kernel
theorem xab:∀ (n:Nat) (l:List AV),isParts (List.replicate n (isIntL .u64)) l -> ∃ v:List Int,l=v.map (fun x=>AV.int .u64 x)/\v.length=n /\ ∀ x ∈ v,0<=x/\x<18446744073709551616
 | 0,l,h=>by cases h;exact ⟨[],rfl,rfl,fun x hx=>by cases hx⟩
 | n+1,l,h=>by
  obtain ⟨a,b,rfl,⟨x,rfl,hx⟩,hb⟩:=h
  obtain ⟨v,rfl,h2,h3⟩:=xab n b hb
  exact ⟨x::v,rfl,by simp [h2],fun y hy=>(x4.1 hy).elim (fun q=>by rw [q];exact wf_u64' hx) (h3 y)⟩
theorem contract {H:Type} {enc:TypeId × Value->H} {W:World} {base:Nat} {args:Array Value} {ds gs:List (DataW H)} {before:List MemPlace} {apart:Bool}
 (hval:∀ (j:Nat) t v,Tryd.f8.params[j]? = some t->args[j]? = some v->Value.okWide Tryd.prog W .any base t v) (hW:DataW.Whole enc Tryd.prog Tryd.f8.params.toList Rows.meanPartsSpec.vars apart W args.toList ds gs before)
 (hm:laidMet Tryd.prog Rows.meanPartsRow.laid W) {ts:List TypeId} (hZ:(DataW.weightsEach Tryd.prog (Tryd.f8.params.toList++ts) (ds++gs)).all (·<=reachBytes)=true):Calls Tryd.prog 8 args W fun e w'=>e=.returned (.bool true)/\Below W.heap.size W w':=by
 obtain ⟨p,q,hA,_,_,_,_⟩:=hW
 rw [Tryd.params8] at hA hval hZ
 obtain ⟨v,vs1,d,ds1,p1,q1,fuel,hl,rfl,ht,hA⟩:=qn5 hA
 obtain ⟨v2,vs2,d2,ds2,p2,q2,fuel2,rfl,rfl,ht2,hA⟩:=qn5 hA
 obtain ⟨v3,vs3,d3,ds3,p3,q3,fuel3,rfl,rfl,ht3,hA⟩:=qn5 hA
 obtain ⟨v4,vs4,d4,ds4,p4,q4,fuel4,rfl,rfl,ht4,hA⟩:=qn5 hA
 obtain ⟨v5,vs5,d5,ds5,p5,q5,fuel5,rfl,rfl,ht5,hA⟩:=qn5 hA
 obtain ⟨rfl,rfl⟩:=trod_nil hA
 have hv:Value.okWide Tryd.prog W .any base 22 v:=hval 0 22 v rfl (by rw [<-zp,hl];rfl)
 obtain ⟨nn,rfl,hnn⟩:=q8q uI (hval 1 3 v2 rfl (by rw [<-zp,hl];rfl))
 have hv2:Value.okWide Tryd.prog W .any base 37 v3:=hval 2 37 v3 rfl (by rw [<-zp,hl];rfl)
 have hv3:Value.okWide Tryd.prog W .any base 39 v4:=hval 3 39 v4 rfl (by rw [<-zp,hl];rfl)
 obtain ⟨n4,rfl,hn4⟩:=q8q uI (hval 4 3 v5 rfl (by rw [<-zp,hl];rfl))
 obtain ⟨l3,hl3,hv3'⟩:=arg_flat (q6y u39 (qui uU) (by kernel_rfl)) (.inr ⟨_,_,u39⟩) hv3 ht4
 obtain ⟨rs,rfl,hrs,hrr⟩:=xab 8 l3 hl3
 rw [qm8 uS hv] at ht
 rw [qm8 u37 hv2] at ht3
 have hwt:Wt Tryd.prog 22 d:=fun x hx=>by
  have h1:=qb1.1 hZ x (by simp only [wc,DataW.weightsEach,zl];exact .inl hx)
  simpa using h1
 have hwt2:Wt Tryd.prog 37 d3:=fun x hx=>by
  have h1:=qb1.1 hZ x (by simp only [wc,DataW.weightsEach,zl];exact .inr (.inr (.inl hx)))
  simpa using h1
 obtain ⟨θL,hg,hgood⟩:=laidN (tp:=0) noErr hm
 obtain ⟨θ,n,gl,l,hst,hvl,u,tl,rfl,hu⟩:=nodesW.2 enc W true fuel _ d p1 ht hwt θL n0 gl0 hgood
 obtain ⟨θ2,n2,gl2,l2,hst2,hvl2,u2,rfl,ws,hus2,_,hwr⟩:=wordsW.2 enc W true fuel3 _ d3 p3 ht3 hwt2 θ n gl hst.good
 have hre:=reach_le
 have hs:=hst.trans hst2
 have hnd:NdI (qao gl2 n2) u tl:=⟨hu.nds.em hst2.fr,fun x hx=>zr (hu.kids x hx) hre,hu.lo,hu.hi,(hs.fr.cells pl0 id).trans pow0,qh pl0 hs.fr.next⟩
 have htl:tl.length<=140737488355328:=by have:=hu.len;omega
 refine q9e good (q60 (Nat.le_add_right ..) hg hs) ?_ (qyi (M:=mac) hnd htl hus2 (fun x hx=>wf_u64' (hwr x hx)) hrs hrr (n:=nn) (fuel:=n4))
 rw [hl]
 obtain ⟨c,cs',hcc,hcv,_⟩:=(hvl.up hst2.ag fun b hb=>qh hb hst2.le).uncons
 injection hcc with hcc _
 subst hcc
 obtain ⟨c2,cs2,hcc2,hcv2,_⟩:=hvl2.uncons
 injection hcc2 with hcc2 _
 subst hcc2
 exact .cons hcv (.cons (fun _ _=>rfl) (.cons hcv2 (.cons (hv3' _ _) (.one fun _ _=>rfl))))
/-- a world for the witness -/
noncomputable def laidW (os:Os):World:=pinW Tryd.prog (World.doorLaid Tryd.prog 62 os) Rows.meanPartsRow.laid
theorem laid_met (os:Os):laidMetH Tryd.prog Rows.meanPartsRow.laid ((laidW os).forCall (fun _ _=>0) ⟨#[],#[.slice none 0 0,.int .i64 0,.slice none 0 0,.agg #[.int .u64 0,.int .u64 0,.int .u64 0,.int .u64 0,.int .u64 0,.int .u64 0,.int .u64 0,.int .u64 0],.int .i64 0],[]⟩).memory :=
 laidMet_of_run' 8 (by kernel_rfl) (by kernel_rfl)
theorem reads (os:Os) {H:Type} (enc:TypeId × Value->H):∃ places,DataW.whole enc Tryd.prog ((laidW os).forCall (fun _ _=>0) ⟨#[],#[.slice none 0 0,.int .i64 0,.slice none 0 0,.agg #[.int .u64 0,.int .u64 0,.int .u64 0,.int .u64 0,.int .u64 0,.int .u64 0,.int .u64 0,.int .u64 0],.int .i64 0],[]⟩).memory Tryd.f8.params.toList Rows.meanPartsSpec.vars false (#[.slice none 0 0,.int .i64 0,.slice none 0 0,.agg #[.int .u64 0,.int .u64 0,.int .u64 0,.int .u64 0,.int .u64 0,.int .u64 0,.int .u64 0,.int .u64 0],.int .i64 0]:Array Value).toList 8=some ([.nil,.lit (.int .i64 0),.nil,.agg (List.replicate 8 (.lit (.int .u64 0))),.lit (.int .i64 0)],[],places) :=
 ⟨[],by kernel_rfl⟩
theorem lifted (os:Os) (started:os.Started) (H:Type) (enc:TypeId × Value->H) (F:Stop.Interp) :
 ReturnsInHanded {} Tryd.checked os 8 .any ((OpenSpec.ofChange Rows.meanPartsSpec).preRow enc Tryd.prog Tryd.f8 Rows.meanPartsRow.domain false Rows.meanPartsRow.laid) (((OpenSpec.ofChange Rows.meanPartsSpec).at F).post enc Tryd.prog Tryd.f8 false true false false):=by
 obtain ⟨places,hx⟩:=reads os enc
 refine returnsInHanded_of_row (C:=Tryd.checked) (s:=OpenSpec.ofChange Rows.meanPartsSpec) own started (by kernel_rfl) Tryd.func8
  (witness_row_atRef (enc:=enc) (C:=Tryd.checked) false (laidW os) #[.slice none 0 0,.int .i64 0,.slice none 0 0,.agg #[.int .u64 0,.int .u64 0,.int .u64 0,.int .u64 0,.int .u64 0,.int .u64 0,.int .u64 0,.int .u64 0],.int .i64 0] rfl (by kernel_rfl) (by kernel_rfl) (by kernel_rfl)
   (OpenSpec.preRow_of_cond 8 hx (by kernel_rfl) (fun k hk=>by cases hk) (by kernel_rfl) (laid_met os))) ?_
 intro W base args ds gs before hval hW _ _ hZ hL _ _
 have hm:laidMet Tryd.prog Rows.meanPartsRow.laid W:=by
  unfold laidMetH at hL
  rw [show ((Rows.meanPartsRow.laid.filter fun x=>x.2.handleName?.isSome)=[]) from by kernel_rfl] at hL
  exact hL
 refine qzk (s:=Rows.meanPartsSpec) laidOut read rfl (fun ds h=>?_) rfl Tryd.underlying4 hW (contract hval hW hm hZ)
 rw [Tryd.params8] at h
 match ds,h with
 | [d0,d1,d2,d3,d4],_=>rfl
theorem said:Rows.MeanPartsSaid :=
 OpenClaim.holds_of_cond 8 Tryd.f8 rfl rfl rfl rfl rfl rfl rfl ⟨rfl,rfl,rfl,rfl,rfl⟩ rfl rfl rfl rfl rfl (by kernel_rfl) Tryd.func8 (by kernel_rfl)
  (of_decide_eq_true (by kernel_rfl)) (by unfold Func.isWrapper;first|(rw [qw (by decide +kernel)];kernel_rfl) | (rw [qk (by decide +kernel)];exact ⟨rfl,rfl⟩))
  (fun os started H enc _ F=>by rw [OpenClaim.pre_eq_preRow];exact lifted os started H enc F)
theorem plain (f:FuncId) (fn:Func) (hf:Tryd.pinned.checked.prog.funcNamed Rows.meanPartsRow.func=some f) (hfn:Tryd.pinned.checked.prog.funcs[f]? = some fn) :
 true=Tryd.pinned.checked.prog.looks [] /\ ∀ (j:Nat) t,fn.params[j]? = some t->Tryd.pinned.checked.prog.wantsStandIn t=false:=by
 obtain rfl:f=8:=jm ((show Tryd.prog.funcNamed Rows.meanPartsRow.func=some 8 by kernel_rfl).symm.trans hf) |>.symm
 obtain rfl:fn=Tryd.f8:=(jm (Tryd.func8.symm.trans hfn)).symm
 refine ⟨by kernel_rfl,fun j t ht=>?_⟩
 have hm:t ∈ Tryd.f8.params.toList:=by rw [<-zp] at ht;exact xo ht
 rw [Tryd.params8] at hm
 simp only [x4,List.mem_nil_iff,or_false] at hm
 rcases hm with rfl|rfl|rfl|rfl|rfl<;>(show Tryd.pinned.checked.prog.wantsStandIn _=false;kernel_rfl)
/-- THE CARD -/
theorem card:Rows.MeanPartsCardSaid :=
 Claim7.holds_tied_plain_at .later [] _ _ _ _ said (fun _ h=>by cases h) (by kernel_rfl) (fun _ h=>by cases h) meanParts_row_tie rfl ⟨rfl,rfl⟩ (by kernel_rfl) rfl plain (by kernel_rfl)
end Go.Proofs.YtbimikjajohflaaDoor.meanParts
