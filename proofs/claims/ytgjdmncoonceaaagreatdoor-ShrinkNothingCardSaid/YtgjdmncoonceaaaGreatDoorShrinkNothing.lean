/- ShrinkNothing: for every world that holds the listed variables as listed,and whatever the arguments read as,the law returns true and changes nothing that was there. No condition beyond the row's own. -/
import Derived.Test.YtgjdmncoonceaaaGreatDoorCards
import Derived.Test.YtgjdmncoonceaaaGreatDoorTie
import Derived.Test.YtgjdmncoonceaaaGreatDoorAmNZd
import Derived.Test.YtgjdmncoonceaaaGreatDoorAmNZe
import Derived.Test.YtgjdmncoonceaaaGreatDoorAmNZo
import Derived.Test.YtgjdmncoonceaaaGreatDoorShrinkNothingRun
import Derived.LaidMore
import Derived.Deep.DeepHandedRow
import Derived.Deep.DeepWitnessRowRef
open Bool renaming false→B2,true→B4
open Go renaming DataW→Qz,MemPlace→BE,TypeId→ME,Value→M9,World→NU
open Go.DataW renaming trod→Of,weights→C4,weightsEach→C5
open Go.Value renaming okWide→Bi
open List renaming replicate→Jm
open Option renaming none→B5,some→B1
open Option.some renaming inj→CJ
namespace Go.Proofs.YtgjdmncoonceaaaGreatDoor.shrinkNothing
open Go.ChangeShapes Go.WideShapes Go.ChangeAt Go.RowKit Go.Am
set_option maxRecDepth 100000
theorem dq:dX Tryz.prog:=PB (by kernel_rfl) (by kernel_rfl)
theorem own:ownKnob Tryz.prog.godebug=none:=by kernel_rfl
theorem laidOut:laidOutB Tryz.prog=true:=by kernel_rfl
theorem read:∀t∈Tryz.f7.params.toList,Tryz.prog.readableRec t=B4/\t<Tryz.prog.types.size:=by
 rw[Tryz.params7];intro t a;simp only[kj,Ob,or_false]at a;rcases a with rfl|rfl<;>exact⟨by kernel_rfl,by decide +kernel⟩
theorem P8:xU Rows.shrinkNothingRow.laid=true:=by kernel_rfl
theorem xL:jB n0 sy=true:=by decide +kernel
theorem Ep:eN (vh sy n0) sy=true:=by decide +kernel
theorem Mi:sR Tryz.prog sy n0 ⟨18,[],.bool B4⟩:=xgq dq (NX ..) xL (L:=[]) (λ e h=>by cases h) rfl run
theorem ZW:∀e∈[(⟨18,[],.bool B4⟩:fM)],BI 0 e.args=B4/\sR Tryz.prog sy n0 e:=λ e h=>by
 rcases jy.1 h with rfl
 exact⟨rfl,Mi⟩
noncomputable abbrev mac:ak:=ak.tell Tryz.prog sy [⟨18,[],.bool B4⟩]
instance:MK mac:=⟨λ _ hn=>ak.Aj hn,λ _ _=>rfl⟩
noncomputable def xh:Array Field:=match Tryz.prog.underlying 29 with|some (.struct fs)=>fs|_=>#[]
noncomputable def U':Array Field:=match Tryz.prog.underlying 23 with|some (.struct fs)=>fs|_=>#[]
noncomputable def R1:Array Field:=match Tryz.prog.underlying 26 with|some (.struct fs)=>fs|_=>#[]
noncomputable def acF:Array Field:=match Tryz.prog.underlying 46 with|some (.struct fs)=>fs|_=>#[]
theorem uM:Tryz.prog.underlying 29=B1 (.struct xh):=by kernel_rfl
theorem uS:Tryz.prog.underlying 23=B1 (.struct U'):=by kernel_rfl
theorem uB:Tryz.prog.underlying 26=B1 (.struct R1):=by kernel_rfl
theorem uA:Tryz.prog.underlying 46=B1 (.struct acF):=by kernel_rfl
theorem uC:Tryz.prog.underlying 56=B1 (.slice 5):=by kernel_rfl
theorem uY:Tryz.prog.underlying 5=B1 (.int .u8):=by kernel_rfl
theorem uN:Tryz.prog.underlying 3=B1 (.int .i64):=by kernel_rfl
theorem uQ:Tryz.prog.underlying 30=B1 (.slice 46):=by kernel_rfl
theorem tM:xh.toList.map (·.type)=[23,24,26,27]:=by kernel_rfl
theorem tS:U'.toList.map (·.type)=[3,3,3,3]:=by kernel_rfl
theorem tB:R1.toList.map (·.type)=[3,3,3]:=by kernel_rfl
theorem tA:acF.toList.map (·.type)=[3,3,3]:=by kernel_rfl
theorem bY:0<Tryz.prog.bytesOf 5:=by decide +kernel
theorem bC:0<Tryz.prog.bytesOf 56:=by decide +kernel
theorem stW:sL Tryz.prog 29 kG :=
 xnl (tK:=24) (tC:=56) (tY:=5) (tF:=27) (tL:=61) (tU:=31) uM tM uS tS (by kernel_rfl) uC uY uB tB (by kernel_rfl) (by kernel_rfl) (by kernel_rfl) uN (by kernel_rfl) (by kernel_rfl) bY bC (by kernel_rfl) (by kernel_rfl) (by kernel_rfl) (by kernel_rfl) (by kernel_rfl) (by kernel_rfl) (by kernel_rfl) (by kernel_rfl)
theorem acW:sL Tryz.prog 30 λ H l=>∃u,l=[u] /\ ∃ls:List Am.Act,bX Am.Act.enc 3 H u ls:=Fg uQ uA tA uN (by kernel_rfl) (by kernel_rfl) (by kernel_rfl)
theorem sh0:(vh sy n0).bV yt=B1 xJ:=by kernel_rfl
theorem sl0:yt<(vh sy n0).au:=by decide +kernel
theorem W9:pk (vh sy n0):=⟨sh0,sl0⟩
theorem contract{H:Type}{enc:ME×M9->H}{W:NU}{base:Nat}{args:Array M9}{ds gs:List (Qz H)}{before:List BE}{apart:Bool}
 (a:∀(j:Nat)t v,Tryz.f7.params[j]? = B1 t->args[j]? = B1 v->Bi Tryz.prog W .any base t v) (N:Qz.Whole enc Tryz.prog Tryz.f7.params.toList Rows.shrinkNothingSpec.vars apart W args.toList ds gs before)
 (hm:laidMet Tryz.prog Rows.shrinkNothingRow.laid W) {ts:List ME} (F:(C5 Tryz.prog (Tryz.f7.params.toList++ts) (ds++gs)).all (·<=reachBytes)=B4):Calls Tryz.prog 7 args W λ e w'=>e=.returned (.bool B4)/\Below W.heap.size W w':=by
 obtain⟨p,q,r,_,_,_,_⟩:=N;rw[Tryz.params7]at r a F;obtain⟨v,Q,d,I,G,S,fuel,hl,rfl,C,r⟩:=wc r;obtain⟨v2,R,d2,J,P,T,i,rfl,rfl,s,r⟩:=wc r;obtain⟨rfl,rfl⟩:=Fu r;have O:Bi Tryz.prog W .any base 29 v:=a 0 29 v rfl (by rw[<-wg,hl];rfl);have D:Bi Tryz.prog W .any base 30 v2:=a 1 30 v2 rfl (by rw[<-wg,hl];rfl);obtain⟨cs,rfl⟩:=IA (.inl ⟨_,uM⟩) O;have C:Of enc Tryz.prog W 0 (λ _=>B4) B4 fuel 29 cs.toList=B1 (d,G):=C;rw[q3y uQ D]at s;have hw:∀x,x∈C4 Tryz.prog 29 d\/x∈C4 Tryz.prog 30 d2->x<=reachBytes:=λ x y=>by
  have L:=FV.1 F x (by simp only[J1,C5,ji];exact y.elim .inl λ q=>.inr (.inl q))
  simpa using L
 obtain⟨θL,hg,m⟩:=JW (tp:=0) P8 hm;obtain⟨θ1,n1,z,l,dg,E,B⟩:=stW.2 enc W B4 fuel _ d G C (λ x y=>hw x (.inl y)) θL n0 sy m;obtain⟨θ,n,K,l2,h,w,u,rfl,ls,hs⟩:=acW.2 enc W B4 i _ d2 P s (λ x y=>hw x (.inr y)) θ1 n1 z dg.dq;obtain⟨c,cs',k,A,_⟩:=w.eE;injection k with k _
 subst k;have g:=dg.trans h;have o:∀H1,Fr Em (vh K n) H1->eN H1 sy=true:=λ H1 f =>
  M' (n:=n0) (H:=vh sy n0) xL (λ b hb=>by rw[f.ah b (qn hb g.le) id];exact g.ah b hb) Ep
 refine EA dq (n0:=n0) (NX ..) xL ZW (xi8 (NX ..) hg g) ?_ (qxc (M:=mac) (λ H1 f=>xll (o H1 f)) (W9.em g.fr) (B.em h.fr) hs);rw[hl];exact .cons (VR.agg (E.up h.ag λ b hb=>qn hb h.le)) (.one A)
/-- a world for the witness -/
noncomputable def Cw(os:Os):World:=Za Tryz.prog (NU.doorLaid Tryz.prog 32 os) Rows.shrinkNothingRow.laid
theorem Dw(os:Os):laidMetH Tryz.prog Rows.shrinkNothingRow.laid ((Cw os).forCall (λ _ _=>0) ⟨#[],#[.agg #[.int .i64 0,.int .i64 0,.int .i64 0,.int .i64 0,.slice B5 0 0,.int .i64 0,.int .i64 0,.int .i64 0,.slice B5 0 0],.slice B5 0 0],[]⟩).memory :=
 laidMet_of_run' 8 (by kernel_rfl) (by kernel_rfl)
theorem reads(os:Os){H:Type}(enc:ME×M9->H):∃places,Qz.whole enc Tryz.prog ((Cw os).forCall (λ _ _=>0) ⟨#[],#[.agg #[.int .i64 0,.int .i64 0,.int .i64 0,.int .i64 0,.slice B5 0 0,.int .i64 0,.int .i64 0,.int .i64 0,.slice B5 0 0],.slice B5 0 0],[]⟩).memory Tryz.f7.params.toList Rows.shrinkNothingSpec.vars B2 (#[.agg #[.int .i64 0,.int .i64 0,.int .i64 0,.int .i64 0,.slice B5 0 0,.int .i64 0,.int .i64 0,.int .i64 0,.slice B5 0 0],.slice B5 0 0]:Array M9).toList 8=B1 ([.agg [.agg (Jm 4 (.lit (.int .i64 0))),.nil,.agg (Jm 3 (.lit (.int .i64 0))),.nil],.nil],[],places) :=
 ⟨[],by kernel_rfl⟩
theorem lifted(os:Os)(started:os.Started)(H:Type)(enc:ME×M9->H)(F:Stop.Interp) :
 ReturnsInHanded {} Tryz.checked os 7 .any ((OpenSpec.ofChange Rows.shrinkNothingSpec).preRow enc Tryz.prog Tryz.f7 Rows.shrinkNothingRow.domain B2 Rows.shrinkNothingRow.laid) (((OpenSpec.ofChange Rows.shrinkNothingSpec).at F).post enc Tryz.prog Tryz.f7 B2 B4 B2 B2):=by
 obtain⟨places,e⟩:=reads os enc;refine returnsInHanded_of_row (C:=Tryz.checked) (s:=OpenSpec.ofChange Rows.shrinkNothingSpec) own started (by kernel_rfl) Tryz.func7
  (witness_row_atRef (enc:=enc) (C:=Tryz.checked) B2 (Cw os) #[.agg #[.int .i64 0,.int .i64 0,.int .i64 0,.int .i64 0,.slice B5 0 0,.int .i64 0,.int .i64 0,.int .i64 0,.slice B5 0 0],.slice B5 0 0] rfl (by kernel_rfl) (by kernel_rfl) (by kernel_rfl)
   (OpenSpec.preRow_of_cond 8 e (by kernel_rfl) (λ k hk=>by cases hk) (by kernel_rfl) (Dw os))) ?_
 intro W base args ds gs before a c _ _ d b _ _;have hm:laidMet Tryz.prog Rows.shrinkNothingRow.laid W:=by
  unfold laidMetH at b;rw[show((Rows.shrinkNothingRow.laid.filter λ x=>x.2.handleName?.isSome)=[])from by kernel_rfl]at b;exact b
 refine xa7 (s:=Rows.shrinkNothingSpec) laidOut read rfl (λ ds h=>?_) rfl Tryz.underlying4 c (contract a c hm d);rw[Tryz.params7]at h
 match ds,h with
 |[d0,d1],_=>rfl
theorem said:Rows.ShrinkNothingSaid :=
 OpenClaim.holds_of_cond 7 Tryz.f7 rfl rfl rfl rfl rfl rfl rfl ⟨rfl,rfl,rfl,rfl,rfl⟩ rfl rfl rfl rfl rfl (by kernel_rfl) Tryz.func7 (by kernel_rfl)
  (of_decide_eq_true (by kernel_rfl)) (by unfold Func.isWrapper;first|(rw[xg (by decide +kernel)];kernel_rfl)|(rw[qy (by decide +kernel)];exact⟨rfl,rfl⟩))
  (λ os started H enc _ F=>by rw[OpenClaim.pre_eq_preRow];exact lifted os started H enc F)
theorem plain(f:FuncId)(fn:Func)(c:Tryz.pinned.checked.prog.funcNamed Rows.shrinkNothingRow.func=B1 f)(a:Tryz.pinned.checked.prog.funcs[f]? = B1 fn) :
 B2=Tryz.pinned.checked.prog.looks [] /\ ∀(j:Nat)t,fn.params[j]? = B1 t->Tryz.pinned.checked.prog.wantsStandIn t=false:=by
 obtain rfl:f=7:=CJ ((show Tryz.prog.funcNamed Rows.shrinkNothingRow.func=B1 7 by kernel_rfl).symm.trans c) |>.symm;obtain rfl:fn=Tryz.f7:=(CJ (Tryz.func7.symm.trans a)).symm;refine⟨by kernel_rfl,λ j t b=>?_⟩;have hm:t∈Tryz.f7.params.toList:=by rw[<-wg]at b;exact zg b
 rw[Tryz.params7]at hm;simp only[kj,Ob,or_false]at hm;rcases hm with rfl|rfl<;>(show Tryz.pinned.checked.prog.wantsStandIn _=B2;kernel_rfl)
/-- THE CARD -/
theorem card:Rows.ShrinkNothingCardSaid :=
 Claim7.holds_tied_plain_at .later [] _ _ _ _ said (λ _ h=>by cases h) (by kernel_rfl) (λ _ h=>by cases h) shrinkNothing_row_tie rfl ⟨rfl,rfl⟩ (by kernel_rfl) rfl plain (by kernel_rfl)
end Go.Proofs.YtgjdmncoonceaaaGreatDoor.shrinkNothing
