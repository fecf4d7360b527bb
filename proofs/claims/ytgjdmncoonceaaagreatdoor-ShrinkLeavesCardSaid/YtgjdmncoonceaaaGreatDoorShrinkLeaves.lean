/- ShrinkLeaves: for every world that holds the listed variables as listed,and whatever the arguments read as,the law returns true and changes nothing that was there. No condition beyond the row's own. -/
import Derived.Test.YtgjdmncoonceaaaGreatDoorCards
import Derived.Test.YtgjdmncoonceaaaGreatDoorTie
import Derived.Test.YtgjdmncoonceaaaGreatDoorAmEZd
import Derived.Test.YtgjdmncoonceaaaGreatDoorAmEZe
import Derived.Test.YtgjdmncoonceaaaGreatDoorAmEZo
import Derived.LaidMore
import Derived.Deep.DeepHandedRow
import Derived.Deep.DeepWitnessRowRef
open Bool renaming false→B2,true→B4
open Go renaming DataW→Rd,MemPlace→BK,TypeId→Ku,Value→Kl,World→N7
open Go.DataW renaming trod→Nn,weights→Bq,weightsEach→C7
open Go.Value renaming okWide→Bg
open List renaming replicate→I5
open Option renaming none→B5,some→B1
open Option.some renaming inj→CQ
namespace Go.Proofs.YtgjdmncoonceaaaGreatDoor.shrinkLeaves
open Go.ChangeShapes Go.WideShapes Go.ChangeAt Go.RowKit Go.Am
set_option maxRecDepth 100000
theorem du:d8 Tryz.prog:=O6 (by kernel_rfl) (by kernel_rfl)
theorem own:ownKnob Tryz.prog.godebug=none:=by kernel_rfl
theorem laidOut:laidOutB Tryz.prog=true:=by kernel_rfl
theorem read:∀t∈Tryz.f4.params.toList,Tryz.prog.readableRec t=B4/\t<Tryz.prog.types.size:=by
 rw[Tryz.params4];intro t a;simp only[kw,Lx,or_false]at a;rcases a with rfl|rfl|rfl<;>exact⟨by kernel_rfl,by decide +kernel⟩
noncomputable abbrev Of:=rowsOf Tryz.prog 0 Tryz.prog.globals.size Rows.shrinkLeavesRow.laid
noncomputable abbrev n0:=Tryz.prog.globals.size+Rows.shrinkLeavesRow.laid.length
theorem O2:wT Rows.shrinkLeavesRow.laid=true:=by kernel_rfl
noncomputable abbrev mac:ak:=ak.plain Tryz.prog
instance:MK mac:=⟨λ _ _=>rfl,λ _ _=>rfl⟩
noncomputable def u_:Array Field:=match Tryz.prog.underlying 29 with|some (.struct fs)=>fs|_=>#[]
noncomputable def seF:Array Field:=match Tryz.prog.underlying 23 with|some (.struct fs)=>fs|_=>#[]
noncomputable def buF:Array Field:=match Tryz.prog.underlying 26 with|some (.struct fs)=>fs|_=>#[]
noncomputable def acF:Array Field:=match Tryz.prog.underlying 46 with|some (.struct fs)=>fs|_=>#[]
theorem uM:Tryz.prog.underlying 29=B1 (.struct u_):=by kernel_rfl
theorem uS:Tryz.prog.underlying 23=B1 (.struct seF):=by kernel_rfl
theorem uB:Tryz.prog.underlying 26=B1 (.struct buF):=by kernel_rfl
theorem uA:Tryz.prog.underlying 46=B1 (.struct acF):=by kernel_rfl
theorem uC:Tryz.prog.underlying 56=B1 (.slice 5):=by kernel_rfl
theorem uY:Tryz.prog.underlying 5=B1 (.int .u8):=by kernel_rfl
theorem uN:Tryz.prog.underlying 3=B1 (.int .i64):=by kernel_rfl
theorem uQ:Tryz.prog.underlying 30=B1 (.slice 46):=by kernel_rfl
theorem tM:u_.toList.map (·.type)=[23,24,26,27]:=by kernel_rfl
theorem tS:seF.toList.map (·.type)=[3,3,3,3]:=by kernel_rfl
theorem tB:buF.toList.map (·.type)=[3,3,3]:=by kernel_rfl
theorem tA:acF.toList.map (·.type)=[3,3,3]:=by kernel_rfl
theorem bY:0<Tryz.prog.bytesOf 5:=by decide +kernel
theorem bC:0<Tryz.prog.bytesOf 56:=by decide +kernel
theorem stW:qN Tryz.prog 29 kM :=
 xnh (tK:=24) (tC:=56) (tY:=5) (tF:=27) (tL:=61) (tU:=31) uM tM uS tS (by kernel_rfl) uC uY uB tB (by kernel_rfl) (by kernel_rfl) (by kernel_rfl) uN (by kernel_rfl) (by kernel_rfl) bY bC (by kernel_rfl) (by kernel_rfl) (by kernel_rfl) (by kernel_rfl) (by kernel_rfl) (by kernel_rfl) (by kernel_rfl) (by kernel_rfl)
theorem acW:qN Tryz.prog 30 λ H l=>∃u,l=[u] /\ ∃ls:List Am.Act,bN Am.Act.enc 3 H u ls:=DU uQ uA tA uN (by kernel_rfl) (by kernel_rfl) (by kernel_rfl)
theorem sh0:(sr Of n0).bX yv=B1 wD:=by kernel_rfl
theorem sl0:yv<(sr Of n0).au:=by decide +kernel
theorem Vu:pL (sr Of n0):=⟨sh0,sl0⟩
noncomputable def waF:Array Field:=match Tryz.prog.underlying 33 with|some (.struct fs)=>fs|_=>#[]
theorem uW:Tryz.prog.underlying 33=B1 (.struct waF):=by kernel_rfl
theorem tW:waF.toList.map (·.type)=[3,3,3,31,3]:=by kernel_rfl
theorem wnW:qN Tryz.prog 33 Cd:=HZ uW tW uN (by kernel_rfl) (by kernel_rfl) (by kernel_rfl)
theorem contract{H:Type}{enc:Ku×Kl->H}{W:N7}{base:Nat}{args:Array Kl}{ds gs:List (Rd H)}{before:List BK}{apart:Bool}
 (a:∀(j:Nat)t v,Tryz.f4.params[j]? = B1 t->args[j]? = B1 v->Bg Tryz.prog W .any base t v) (X:Rd.Whole enc Tryz.prog Tryz.f4.params.toList Rows.shrinkLeavesSpec.vars apart W args.toList ds gs before)
 (hm:laidMet Tryz.prog Rows.shrinkLeavesRow.laid W) {ts:List Ku} (O:(C7 Tryz.prog (Tryz.f4.params.toList++ts) (ds++gs)).all (·<=reachBytes)=B4):Calls Tryz.prog 4 args W λ e w'=>e=.returned (.bool B4)/\Below W.heap.size W w':=by
 obtain⟨p,q,i,_,_,_,_⟩:=X;rw[Tryz.params4]at i a O;obtain⟨v,vs1,d,S,P,q1,fuel,hl,rfl,J,i⟩:=Ze i;obtain⟨v2,vs2,d2,T,Z,q2,k,rfl,rfl,z,i⟩:=Ze i;obtain⟨R,vs3,d3,U,Q,q3,g,rfl,rfl,r,i⟩:=Ze i;obtain⟨rfl,rfl⟩:=EE i;have Y:Bg Tryz.prog W .any base 29 v:=a 0 29 v rfl (by rw[<-vk,hl];rfl);have K:Bg Tryz.prog W .any base 30 v2:=a 1 30 v2 rfl (by rw[<-vk,hl];rfl);have L:Bg Tryz.prog W .any base 33 R:=a 2 33 R rfl (by rw[<-vk,hl];rfl);obtain⟨cs,rfl⟩:=qq (.inl ⟨_,uM⟩) Y;obtain⟨D,rfl⟩:=qq (.inl ⟨_,uW⟩) L;have r:Nn enc Tryz.prog W 0 (λ _=>B4) B4 g 33 D.toList=B1 (d3,Q):=r;have J:Nn enc Tryz.prog W 0 (λ _=>B4) B4 fuel 29 cs.toList=B1 (d,P):=J;rw[q3y uQ K]at z;have hw:∀x,x∈Bq Tryz.prog 29 d\/x∈Bq Tryz.prog 30 d2\/x∈Bq Tryz.prog 33 d3->x<=reachBytes:=λ x s=>by
  have V:=Ic.1 O x (by simp only[Jk,C7,jq];exact s.elim .inl λ q=>.inr (q.elim .inl λ q=>.inr (.inl q)))
  simpa using V
 obtain⟨θL,hg,o⟩:=Jz (tp:=0) O2 hm;obtain⟨θ1,n1,E,l,dk,N,I⟩:=stW.2 enc W B4 fuel _ d P J (λ x s=>hw x (.inl s)) θL n0 Of o;obtain⟨θ2,n2,F,l2,C,A,u,rfl,ls,hs⟩:=acW.2 enc W B4 k _ d2 Z z (λ x s=>hw x (.inr (.inl s))) θ1 n1 E dk.du;obtain⟨θ,n,gl,l3,h,B,y,rfl⟩:=wnW.2 enc W B4 g _ d3 Q r (λ x s=>hw x (.inr (.inr s))) θ2 n2 F C.du;obtain⟨c,cs',m,G,_⟩:=A.eF;injection m with m _
 subst m;have f:=C.trans h;have w:=dk.trans f;refine xmk du (xi5 (Nat.le_add_right ..) hg w) ?_ (qzz (M:=mac) (y:=y) (Vu.em w.fr) (I.em f.fr) (Sl.em hs h.fr));rw[hl];exact .cons (VR.agg (N.up f.ag λ b hb=>qn hb f.le)) (.cons (G.up h.ag λ b hb=>qn hb h.le) (.one (VR.agg B)))
/-- a world for the witness -/
noncomputable def Dg(os:Os):World:=Vn Tryz.prog (N7.doorLaid Tryz.prog 32 os) Rows.shrinkLeavesRow.laid
theorem DN(os:Os):laidMetH Tryz.prog Rows.shrinkLeavesRow.laid ((Dg os).forCall (λ _ _=>0) ⟨#[],#[.agg #[.int .i64 0,.int .i64 0,.int .i64 0,.int .i64 0,.slice B5 0 0,.int .i64 0,.int .i64 0,.int .i64 0,.slice B5 0 0],.slice B5 0 0,.agg #[.int .i64 0,.int .i64 0,.int .i64 0,.int .u64 0,.int .i64 0]],[]⟩).memory :=
 laidMet_of_run' 8 (by kernel_rfl) (by kernel_rfl)
theorem reads(os:Os){H:Type}(enc:Ku×Kl->H):∃places,Rd.whole enc Tryz.prog ((Dg os).forCall (λ _ _=>0) ⟨#[],#[.agg #[.int .i64 0,.int .i64 0,.int .i64 0,.int .i64 0,.slice B5 0 0,.int .i64 0,.int .i64 0,.int .i64 0,.slice B5 0 0],.slice B5 0 0,.agg #[.int .i64 0,.int .i64 0,.int .i64 0,.int .u64 0,.int .i64 0]],[]⟩).memory Tryz.f4.params.toList Rows.shrinkLeavesSpec.vars B2 (#[.agg #[.int .i64 0,.int .i64 0,.int .i64 0,.int .i64 0,.slice B5 0 0,.int .i64 0,.int .i64 0,.int .i64 0,.slice B5 0 0],.slice B5 0 0,.agg #[.int .i64 0,.int .i64 0,.int .i64 0,.int .u64 0,.int .i64 0]]:Array Kl).toList 8=B1 ([.agg [.agg (I5 4 (.lit (.int .i64 0))),.nil,.agg (I5 3 (.lit (.int .i64 0))),.nil],.nil,.agg [.lit (.int .i64 0),.lit (.int .i64 0),.lit (.int .i64 0),.lit (.int .u64 0),.lit (.int .i64 0)]],[],places) :=
 ⟨[],by kernel_rfl⟩
theorem lifted(os:Os)(started:os.Started)(H:Type)(enc:Ku×Kl->H)(F:Stop.Interp) :
 ReturnsInHanded {} Tryz.checked os 4 .any ((OpenSpec.ofChange Rows.shrinkLeavesSpec).preRow enc Tryz.prog Tryz.f4 Rows.shrinkLeavesRow.domain B2 Rows.shrinkLeavesRow.laid) (((OpenSpec.ofChange Rows.shrinkLeavesSpec).at F).post enc Tryz.prog Tryz.f4 B2 B4 B2 B2):=by
 obtain⟨places,e⟩:=reads os enc;refine returnsInHanded_of_row (C:=Tryz.checked) (s:=OpenSpec.ofChange Rows.shrinkLeavesSpec) own started (by kernel_rfl) Tryz.func4
  (witness_row_atRef (enc:=enc) (C:=Tryz.checked) B2 (Dg os) #[.agg #[.int .i64 0,.int .i64 0,.int .i64 0,.int .i64 0,.slice B5 0 0,.int .i64 0,.int .i64 0,.int .i64 0,.slice B5 0 0],.slice B5 0 0,.agg #[.int .i64 0,.int .i64 0,.int .i64 0,.int .u64 0,.int .i64 0]] rfl (by kernel_rfl) (by kernel_rfl) (by kernel_rfl)
   (OpenSpec.preRow_of_cond 8 e (by kernel_rfl) (λ k hk=>by cases hk) (by kernel_rfl) (DN os))) ?_
 intro W base args ds gs before a c _ _ d b _ _;have hm:laidMet Tryz.prog Rows.shrinkLeavesRow.laid W:=by
  unfold laidMetH at b;rw[show((Rows.shrinkLeavesRow.laid.filter λ x=>x.2.handleName?.isSome)=[])from by kernel_rfl]at b;exact b
 refine xa0 (s:=Rows.shrinkLeavesSpec) laidOut read rfl (λ ds h=>?_) rfl Tryz.underlying4 c (contract a c hm d);rw[Tryz.params4]at h
 match ds,h with
 |[d0,d1,d2],_=>rfl
theorem said:Rows.ShrinkLeavesSaid :=
 OpenClaim.holds_of_cond 4 Tryz.f4 rfl rfl rfl rfl rfl rfl rfl ⟨rfl,rfl,rfl,rfl,rfl⟩ rfl rfl rfl rfl rfl (by kernel_rfl) Tryz.func4 (by kernel_rfl)
  (of_decide_eq_true (by kernel_rfl)) (by unfold Func.isWrapper;first|(rw[xg (by decide +kernel)];kernel_rfl)|(rw[qy (by decide +kernel)];exact⟨rfl,rfl⟩))
  (λ os started H enc _ F=>by rw[OpenClaim.pre_eq_preRow];exact lifted os started H enc F)
theorem plain(f:FuncId)(fn:Func)(c:Tryz.pinned.checked.prog.funcNamed Rows.shrinkLeavesRow.func=B1 f)(a:Tryz.pinned.checked.prog.funcs[f]? = B1 fn) :
 B2=Tryz.pinned.checked.prog.looks [] /\ ∀(j:Nat)t,fn.params[j]? = B1 t->Tryz.pinned.checked.prog.wantsStandIn t=false:=by
 obtain rfl:f=4:=CQ ((show Tryz.prog.funcNamed Rows.shrinkLeavesRow.func=B1 4 by kernel_rfl).symm.trans c) |>.symm;obtain rfl:fn=Tryz.f4:=(CQ (Tryz.func4.symm.trans a)).symm;refine⟨by kernel_rfl,λ j t b=>?_⟩;have hm:t∈Tryz.f4.params.toList:=by rw[<-vk]at b;exact ze b
 rw[Tryz.params4]at hm;simp only[kw,Lx,or_false]at hm;rcases hm with rfl|rfl|rfl<;>(show Tryz.pinned.checked.prog.wantsStandIn _=B2;kernel_rfl)
/-- THE CARD -/
theorem card:Rows.ShrinkLeavesCardSaid :=
 Claim7.holds_tied_plain_at .later [] _ _ _ _ said (λ _ h=>by cases h) (by kernel_rfl) (λ _ h=>by cases h) shrinkLeaves_row_tie rfl ⟨rfl,rfl⟩ (by kernel_rfl) rfl plain (by kernel_rfl)
end Go.Proofs.YtgjdmncoonceaaaGreatDoor.shrinkLeaves
