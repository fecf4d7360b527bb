/- WorldFault: for every world that holds the listed variables as listed,and whatever the arguments read as,the law returns true and changes nothing that was there. No condition beyond the row's own. -/
import Derived.Test.YtlepagkkolnmoaaGreatDoorCards
import Derived.Test.YtlepagkkolnmoaaGreatDoorTie
import Derived.Test.YtlepagkkolnmoaaGreatDoorAmWZd
import Derived.Test.YtlepagkkolnmoaaGreatDoorAmWZe
import Derived.Test.YtlepagkkolnmoaaGreatDoorAmWZo
import Derived.Test.YtlepagkkolnmoaaGreatDoorWorldFaultRun
import Derived.LaidMore
import Derived.Deep.DeepHandedRow
import Derived.Deep.DeepWitnessRowRef
open Bool renaming false→B2,true→B4
open Go renaming DataW→Rc,MemPlace→B0,TypeId→Ma,Value→Km,World→Nl
open Go.DataW renaming trod→Oy,weights→Bv,weightsEach→C5
open Go.Value renaming okWide→BO
open List renaming replicate→JV
open Option renaming none→B5,some→B1
namespace Go.Proofs.YtlepagkkolnmoaaGreatDoor.worldFault
open Go.ChangeShapes Go.WideShapes Go.ChangeAt Go.RowKit Go.Am
set_option maxRecDepth 100000
theorem df:dW Tryz.prog:=Rf (by kernel_rfl) (by kernel_rfl)
theorem own:ownKnob Tryz.prog.godebug=none:=by kernel_rfl
theorem laidOut:laidOutB Tryz.prog=true:=by kernel_rfl
theorem read:∀t∈Tryz.f4.params.toList,Tryz.prog.readableRec t=B4/\t<Tryz.prog.types.size:=by
 rw[Tryz.params4];intro t a;simp only[ji,Li,or_false]at a;rcases a with rfl|rfl|rfl<;>exact⟨by kernel_rfl,by decide +kernel⟩
theorem Qk:vY Rows.worldFaultRow.laid=true:=by kernel_rfl
theorem xL:jD n0 sn=true:=by decide +kernel
theorem Dt:eO (vr sn n0) sn=true:=by decide +kernel
theorem Mt:tc Tryz.prog sn n0 ⟨5,[],.bool B4⟩:=xf2 df (Nu ..) xL (L:=[]) (λ e h=>by cases h) rfl run
theorem ab5:∀e∈[(⟨5,[],.bool B4⟩:fL)],Ds 0 e.args=B4/\tc Tryz.prog sn n0 e:=λ e h=>by
 rcases j0.1 h with rfl
 exact⟨rfl,Mt⟩
noncomputable abbrev k8:ak:=ak.tell Tryz.prog sn [⟨5,[],.bool B4⟩]
instance:MK k8:=⟨λ _ hn=>ak.zO hn,λ _ _=>rfl⟩
noncomputable def maF:Array Field:=match Tryz.prog.underlying 29 with|some (.struct fs)=>fs|_=>#[]
noncomputable def qw:Array Field:=match Tryz.prog.underlying 23 with|some (.struct fs)=>fs|_=>#[]
noncomputable def V_:Array Field:=match Tryz.prog.underlying 26 with|some (.struct fs)=>fs|_=>#[]
theorem uM:Tryz.prog.underlying 29=B1 (.struct maF):=by kernel_rfl
theorem uS:Tryz.prog.underlying 23=B1 (.struct qw):=by kernel_rfl
theorem uB:Tryz.prog.underlying 26=B1 (.struct V_):=by kernel_rfl
theorem uC:Tryz.prog.underlying 30=B1 (.slice 5):=by kernel_rfl
theorem uY:Tryz.prog.underlying 5=B1 (.int .u8):=by kernel_rfl
theorem uN:Tryz.prog.underlying 3=B1 (.int .i64):=by kernel_rfl
theorem tM:maF.toList.map (·.type)=[23,24,26,27]:=by kernel_rfl
theorem tS:qw.toList.map (·.type)=[3,3,3,3]:=by kernel_rfl
theorem tB:V_.toList.map (·.type)=[3,3,3]:=by kernel_rfl
theorem stW:tO Tryz.prog 29 zC :=
 xmu (tK:=24) (tC:=30) (tY:=5) (tF:=27) (tL:=43) (tU:=41) uM tM uS tS (by kernel_rfl) uC uY uB tB (by kernel_rfl) (by kernel_rfl) (by kernel_rfl) uN (by kernel_rfl) (by kernel_rfl) (by kernel_rfl) (by kernel_rfl) (by kernel_rfl) (by kernel_rfl) (by kernel_rfl) (by kernel_rfl) (by kernel_rfl) (by kernel_rfl)
theorem byW:tO Tryz.prog 30 λ H l=>∃u,l=[u] /\ ∃bs:List Int,bX cI 1 H u bs/\Bytes bs/\ug H u:=xde uC uY (by kernel_rfl)
theorem sh0:(vr sn n0).bP kj=B1 wF:=by kernel_rfl
theorem sl0:kj<(vr sn n0).au:=by decide +kernel
theorem Zk:qK (vr sn n0):=⟨sh0,sl0⟩
theorem contract{H:Type}{enc:Ma×Km->H}{W:Nl}{base:Nat}{args:Array Km}{ds gs:List (Rc H)}{before:List B0}{apart:Bool}
 (g:∀(j:Nat)t v,Tryz.f4.params[j]? = B1 t->args[j]? = B1 v->BO Tryz.prog W .any base t v) (X:Rc.Whole enc Tryz.prog Tryz.f4.params.toList Rows.worldFaultSpec.vars apart W args.toList ds gs before)
 (hm:laidMet Tryz.prog Rows.worldFaultRow.laid W) {ts:List Ma} (N:(C5 Tryz.prog (Tryz.f4.params.toList++ts) (ds++gs)).all (·<=reachBytes)=B4):Calls Tryz.prog 4 args W λ e w'=>e=.returned (.bool B4)/\Below W.heap.size W w':=by
 obtain⟨p,q,i,_,_,_,_⟩:=X;rw[Tryz.params4]at i g N;obtain⟨v,vs1,d,P,O,q1,fuel,hl,rfl,J,i⟩:=Vc i;obtain⟨v2,vs2,d2,Q,p2,q2,k,rfl,rfl,y,i⟩:=Vc i;obtain⟨v3,vs3,d3,R,p3,q3,B,rfl,rfl,Z,i⟩:=Vc i;obtain⟨rfl,rfl⟩:=af8 i;have hv:BO Tryz.prog W .any base 29 v:=g 0 29 v rfl (by rw[<-kh,hl];rfl);have K:BO Tryz.prog W .any base 30 v2:=g 1 30 v2 rfl (by rw[<-kh,hl];rfl);obtain⟨cs,rfl⟩:=Ir (.inl ⟨_,uM⟩) hv;have J:Oy enc Tryz.prog W 0 (λ _=>B4) B4 fuel 29 cs.toList=B1 (d,O):=J;rw[q3m uC K]at y;obtain⟨n3,rfl,Y⟩:=GA uN (g 2 3 v3 rfl (by rw[<-kh,hl];rfl));have hw:∀x,x∈Bv Tryz.prog 29 d\/x∈Bv Tryz.prog 30 d2->x<=reachBytes:=λ x A=>by
  have T:=Ce.1 N x (by simp only[Ik,C5,z6];exact A.elim .inl λ q=>.inr (.inl q))
  simpa using T
 obtain⟨θL,hg,o⟩:=J2 (tp:=0) Qk hm;obtain⟨θ1,n1,C,l,cW,L,ln,co,se,wa,f,so,sf,pv,fv,ps,fs,rfl,V,r,U,G,F⟩:=stW.2 enc W B4 fuel _ d O J (λ x A=>hw x (.inl A)) θL n0 sn o;obtain⟨θ,n,S,l2,a,z,u,rfl,bs,hs,D,I⟩:=byW.2 enc W B4 k _ d2 p2 y (λ x A=>hw x (.inr A)) θ1 n1 C cW.df;obtain⟨c,cs',m,E,_⟩:=z.eC;injection m with m _
 subst m;have h:=cW.trans a;have w:∀H1,Fr Em (vr S n) H1->eO H1 sn=true:=λ H1 f =>
  q74 (n:=n0) (H:=vr sn n0) xL (λ b hb=>by rw[f.ah b (qn hb h.le) id];exact h.ah b hb) Dt
 refine E9 df (n0:=n0) (Nu ..) xL ab5 (xik (Nu ..) hg h) ?_ (q6l (M:=k8) (l:=ln) (c:=co) (s:=se) (wy:=wa) (f:=f) (so:=so) (sf:=sf) (core:=n3) (λ H1 f=>xkw (w H1 f)) (Zk.em h.fr) (V.em a.fr) (λ p q=>⟨(r p q).1.em a.fr,(r p q).2.1,(r p q).2.2.em a.fr.au⟩) (U.em a.fr) G (F.em a.fr.au) hs D I);rw[hl];exact .cons (VR.agg (L.up a.ag λ b hb=>qn hb a.le)) (.cons E (.one λ _ _=>rfl))
/-- a world for the witness -/
noncomputable def D2(os:Os):World:=XL Tryz.prog (Nl.doorLaid Tryz.prog 32 os) Rows.worldFaultRow.laid
theorem ae1(os:Os):laidMetH Tryz.prog Rows.worldFaultRow.laid ((D2 os).forCall (λ _ _=>0) ⟨#[],#[.agg #[.int .i64 0,.int .i64 0,.int .i64 0,.int .i64 0,.slice B5 0 0,.int .i64 0,.int .i64 0,.int .i64 0,.slice B5 0 0],.slice B5 0 0,.int .i64 0],[]⟩).memory :=
 laidMet_of_run' 8 (by kernel_rfl) (by kernel_rfl)
theorem reads(os:Os){H:Type}(enc:Ma×Km->H):∃places,Rc.whole enc Tryz.prog ((D2 os).forCall (λ _ _=>0) ⟨#[],#[.agg #[.int .i64 0,.int .i64 0,.int .i64 0,.int .i64 0,.slice B5 0 0,.int .i64 0,.int .i64 0,.int .i64 0,.slice B5 0 0],.slice B5 0 0,.int .i64 0],[]⟩).memory Tryz.f4.params.toList Rows.worldFaultSpec.vars B2 (#[.agg #[.int .i64 0,.int .i64 0,.int .i64 0,.int .i64 0,.slice B5 0 0,.int .i64 0,.int .i64 0,.int .i64 0,.slice B5 0 0],.slice B5 0 0,.int .i64 0]:Array Km).toList 8=B1 ([.agg [.agg (JV 4 (.lit (.int .i64 0))),.nil,.agg (JV 3 (.lit (.int .i64 0))),.nil],.nil,.lit (.int .i64 0)],[],places) :=
 ⟨[],by kernel_rfl⟩
theorem lifted(os:Os)(started:os.Started)(H:Type)(enc:Ma×Km->H)(F:Stop.Interp) :
 ReturnsInHanded {} Tryz.checked os 4 .any ((OpenSpec.ofChange Rows.worldFaultSpec).preRow enc Tryz.prog Tryz.f4 Rows.worldFaultRow.domain B2 Rows.worldFaultRow.laid) (((OpenSpec.ofChange Rows.worldFaultSpec).at F).post enc Tryz.prog Tryz.f4 B2 B4 B2 B2):=by
 obtain⟨places,e⟩:=reads os enc;refine returnsInHanded_of_row (C:=Tryz.checked) (s:=OpenSpec.ofChange Rows.worldFaultSpec) own started (by kernel_rfl) Tryz.func4
  (witness_row_atRef (enc:=enc) (C:=Tryz.checked) B2 (D2 os) #[.agg #[.int .i64 0,.int .i64 0,.int .i64 0,.int .i64 0,.slice B5 0 0,.int .i64 0,.int .i64 0,.int .i64 0,.slice B5 0 0],.slice B5 0 0,.int .i64 0] rfl (by kernel_rfl) (by kernel_rfl) (by kernel_rfl)
   (OpenSpec.preRow_of_cond 8 e (by kernel_rfl) (λ k hk=>by cases hk) (by kernel_rfl) (ae1 os))) ?_
 intro W base args ds gs before a c _ _ d b _ _;have hm:laidMet Tryz.prog Rows.worldFaultRow.laid W:=by
  unfold laidMetH at b;rw[show((Rows.worldFaultRow.laid.filter λ x=>x.2.handleName?.isSome)=[])from by kernel_rfl]at b;exact b
 refine xal (s:=Rows.worldFaultSpec) laidOut read rfl (λ ds h=>?_) rfl Tryz.underlying4 c (contract a c hm d);rw[Tryz.params4]at h
 match ds,h with
 |[d0,d1,d2],_=>rfl
theorem said:Rows.WorldFaultSaid :=
 OpenClaim.holds_of_cond 4 Tryz.f4 rfl rfl rfl rfl rfl rfl rfl ⟨rfl,rfl,rfl,rfl,rfl⟩ rfl rfl rfl rfl rfl (by kernel_rfl) Tryz.func4 (by kernel_rfl)
  (of_decide_eq_true (by kernel_rfl)) (by unfold Func.isWrapper;first|(rw[xb (by decide +kernel)];kernel_rfl)|(rw[qt (by decide +kernel)];exact⟨rfl,rfl⟩))
  (λ os started H enc _ F=>by rw[OpenClaim.pre_eq_preRow];exact lifted os started H enc F)
theorem plain(f:FuncId)(fn:Func)(c:Tryz.pinned.checked.prog.funcNamed Rows.worldFaultRow.func=B1 f)(a:Tryz.pinned.checked.prog.funcs[f]? = B1 fn) :
 B2=Tryz.pinned.checked.prog.looks [] /\ ∀(j:Nat)t,fn.params[j]? = B1 t->Tryz.pinned.checked.prog.wantsStandIn t=false:=by
 obtain rfl:f=4:=K6 ((show Tryz.prog.funcNamed Rows.worldFaultRow.func=B1 4 by kernel_rfl).symm.trans c) |>.symm;obtain rfl:fn=Tryz.f4:=(K6 (Tryz.func4.symm.trans a)).symm;refine⟨by kernel_rfl,λ j t b=>?_⟩;have hm:t∈Tryz.f4.params.toList:=by rw[<-kh]at b;exact zj b
 rw[Tryz.params4]at hm;simp only[ji,Li,or_false]at hm;rcases hm with rfl|rfl|rfl<;>(show Tryz.pinned.checked.prog.wantsStandIn _=B2;kernel_rfl)
/-- THE CARD -/
theorem card:Rows.WorldFaultCardSaid :=
 Claim7.holds_tied_plain_at .later [] _ _ _ _ said (λ _ h=>by cases h) (by kernel_rfl) (λ _ h=>by cases h) worldFault_row_tie rfl ⟨rfl,rfl⟩ (by kernel_rfl) rfl plain (by kernel_rfl)
end Go.Proofs.YtlepagkkolnmoaaGreatDoor.worldFault
