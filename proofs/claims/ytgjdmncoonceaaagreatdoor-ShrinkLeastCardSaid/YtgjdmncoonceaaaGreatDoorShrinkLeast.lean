/- ShrinkLeast: for every world that holds the listed variables as listed,and whatever the arguments read as,the law returns true and changes nothing that was there. No condition beyond the row's own. -/
import Derived.Test.YtgjdmncoonceaaaGreatDoorCards
import Derived.Test.YtgjdmncoonceaaaGreatDoorTie
import Derived.Test.YtgjdmncoonceaaaGreatDoorAmLZd
import Derived.Test.YtgjdmncoonceaaaGreatDoorAmLZe
import Derived.Test.YtgjdmncoonceaaaGreatDoorAmLZo
import Derived.Test.YtgjdmncoonceaaaGreatDoorShrinkLeastRun
import Derived.LaidMore
import Derived.Deep.DeepHandedRow
import Derived.Deep.DeepWitnessRowRef
open Bool renaming false→B2,true→B4
open Go renaming DataW→Ry,MemPlace→BI,TypeId→Mj,Value→KP,World→NG
open Go.DataW renaming trod→Oc,weights→Bm,weightsEach→CC
open Go.Value renaming okWide→BQ
open List renaming replicate→Jr
open Option renaming none→B5,some→B1
open Option.some renaming inj→CQ
namespace Go.Proofs.YtgjdmncoonceaaaGreatDoor.shrinkLeast
open Go.ChangeShapes Go.WideShapes Go.ChangeAt Go.RowKit Go.Am
set_option maxRecDepth 100000
theorem dm:dY Tryz.prog:=PA (by kernel_rfl) (by kernel_rfl)
theorem own:ownKnob Tryz.prog.godebug=none:=by kernel_rfl
theorem laidOut:laidOutB Tryz.prog=true:=by kernel_rfl
theorem read:∀t∈Tryz.f6.params.toList,Tryz.prog.readableRec t=B4/\t<Tryz.prog.types.size:=by
 rw[Tryz.params6];intro t a;simp only[kj,Lw,or_false]at a;rcases a with rfl|rfl|rfl<;>exact⟨by kernel_rfl,by decide +kernel⟩
theorem RA:yA Rows.shrinkLeastRow.laid=true:=by kernel_rfl
theorem xY:jC n0 si=true:=by decide +kernel
theorem DE:eQ (vi si n0) si=true:=by decide +kernel
theorem MT:tj Tryz.prog si n0 ⟨18,[],.bool B4⟩:=xgt dm (OC ..) xY (L:=[]) (λ e h=>by cases h) rfl run
theorem YY:∀e∈[(⟨18,[],.bool B4⟩:fO)],Bi 0 e.args=B4/\tj Tryz.prog si n0 e:=λ e h=>by
 rcases jz.1 h with rfl
 exact⟨rfl,MT⟩
noncomputable abbrev _r:ak:=ak.tell Tryz.prog si [⟨18,[],.bool B4⟩]
instance:MK _r:=⟨λ _ hn=>ak.AD hn,λ _ _=>rfl⟩
noncomputable def maF:Array Field:=match Tryz.prog.underlying 29 with|some (.struct fs)=>fs|_=>#[]
noncomputable def seF:Array Field:=match Tryz.prog.underlying 23 with|some (.struct fs)=>fs|_=>#[]
noncomputable def G_:Array Field:=match Tryz.prog.underlying 26 with|some (.struct fs)=>fs|_=>#[]
noncomputable def C':Array Field:=match Tryz.prog.underlying 46 with|some (.struct fs)=>fs|_=>#[]
theorem uM:Tryz.prog.underlying 29=B1 (.struct maF):=by kernel_rfl
theorem uS:Tryz.prog.underlying 23=B1 (.struct seF):=by kernel_rfl
theorem uB:Tryz.prog.underlying 26=B1 (.struct G_):=by kernel_rfl
theorem uA:Tryz.prog.underlying 46=B1 (.struct C'):=by kernel_rfl
theorem uC:Tryz.prog.underlying 56=B1 (.slice 5):=by kernel_rfl
theorem uY:Tryz.prog.underlying 5=B1 (.int .u8):=by kernel_rfl
theorem uN:Tryz.prog.underlying 3=B1 (.int .i64):=by kernel_rfl
theorem uQ:Tryz.prog.underlying 30=B1 (.slice 46):=by kernel_rfl
theorem tM:maF.toList.map (·.type)=[23,24,26,27]:=by kernel_rfl
theorem tS:seF.toList.map (·.type)=[3,3,3,3]:=by kernel_rfl
theorem tB:G_.toList.map (·.type)=[3,3,3]:=by kernel_rfl
theorem tA:C'.toList.map (·.type)=[3,3,3]:=by kernel_rfl
theorem bY:0<Tryz.prog.bytesOf 5:=by decide +kernel
theorem bC:0<Tryz.prog.bytesOf 56:=by decide +kernel
theorem stW:rN Tryz.prog 29 kM :=
 xno (tK:=24) (tC:=56) (tY:=5) (tF:=27) (tL:=61) (tU:=31) uM tM uS tS (by kernel_rfl) uC uY uB tB (by kernel_rfl) (by kernel_rfl) (by kernel_rfl) uN (by kernel_rfl) (by kernel_rfl) bY bC (by kernel_rfl) (by kernel_rfl) (by kernel_rfl) (by kernel_rfl) (by kernel_rfl) (by kernel_rfl) (by kernel_rfl) (by kernel_rfl)
theorem acW:rN Tryz.prog 30 λ H l=>∃u,l=[u] /\ ∃ls:List Am.Act,bR Am.Act.enc 3 H u ls:=ag8 uQ uA tA uN (by kernel_rfl) (by kernel_rfl) (by kernel_rfl)
theorem sh0:(vi si n0).bW yv=B1 yB:=by kernel_rfl
theorem sl0:yv<(vi si n0).au:=by decide +kernel
theorem Wi:pS (vi si n0):=⟨sh0,sl0⟩
noncomputable def j5:Array Field:=match Tryz.prog.underlying 33 with|some (.struct fs)=>fs|_=>#[]
theorem uW:Tryz.prog.underlying 33=B1 (.struct j5):=by kernel_rfl
theorem tW:j5.toList.map (·.type)=[3,3,3,31,3]:=by kernel_rfl
theorem wnW:rN Tryz.prog 33 BS:=Iz uW tW uN (by kernel_rfl) (by kernel_rfl) (by kernel_rfl)
theorem contract{H:Type}{enc:Mj×KP->H}{W:NG}{base:Nat}{args:Array KP}{ds gs:List (Ry H)}{before:List BI}{apart:Bool}
 (a:∀(j:Nat)t v,Tryz.f6.params[j]? = B1 t->args[j]? = B1 v->BQ Tryz.prog W .any base t v) (hW:Ry.Whole enc Tryz.prog Tryz.f6.params.toList Rows.shrinkLeastSpec.vars apart W args.toList ds gs before)
 (hm:laidMet Tryz.prog Rows.shrinkLeastRow.laid W) {ts:List Mj} (Q:(CC Tryz.prog (Tryz.f6.params.toList++ts) (ds++gs)).all (·<=reachBytes)=B4):Calls Tryz.prog 6 args W λ e w'=>e=.returned (.bool B4)/\Below W.heap.size W w':=by
 obtain⟨p,q,m,_,_,_,_⟩:=hW;rw[Tryz.params6]at m a Q;obtain⟨v,vs1,d,U,R,q1,fuel,hl,rfl,L,m⟩:=hH m;obtain⟨v2,vs2,d2,V,p2,q2,o,rfl,rfl,B,m⟩:=hH m;obtain⟨T,vs3,d3,X,S,q3,h,rfl,rfl,z,m⟩:=hH m;obtain⟨rfl,rfl⟩:=Ez m;have hv:BQ Tryz.prog W .any base 29 v:=a 0 29 v rfl (by rw[<-vk,hl];rfl);have N:BQ Tryz.prog W .any base 30 v2:=a 1 30 v2 rfl (by rw[<-vk,hl];rfl);have O:BQ Tryz.prog W .any base 33 T:=a 2 33 T rfl (by rw[<-vk,hl];rfl);obtain⟨cs,rfl⟩:=Y_ (.inl ⟨_,uM⟩) hv;obtain⟨F,rfl⟩:=Y_ (.inl ⟨_,uW⟩) O;have z:Oc enc Tryz.prog W 0 (λ _=>B4) B4 h 33 F.toList=B1 (d3,S):=z;have L:Oc enc Tryz.prog W 0 (λ _=>B4) B4 fuel 29 cs.toList=B1 (d,R):=L;rw[q33 uQ N]at B;have hw:∀x,x∈Bm Tryz.prog 29 d\/x∈Bm Tryz.prog 30 d2\/x∈Bm Tryz.prog 33 d3->x<=reachBytes:=λ x A=>by
  have Z:=Gm.1 Q x (by simp only[JL,CC,jo];exact A.elim .inl λ q=>.inr (q.elim .inl λ q=>.inr (.inl q)))
  simpa using Z
 obtain⟨θL,hg,s⟩:=Jb (tp:=0) RA hm;obtain⟨θ1,n1,G,l,dh,P,K⟩:=stW.2 enc W B4 fuel _ d R L (λ x A=>hw x (.inl A)) θL n0 si s;obtain⟨θ2,n2,I,l2,E,C,u,rfl,ls,hs⟩:=acW.2 enc W B4 o _ d2 p2 B (λ x A=>hw x (.inr (.inl A))) θ1 n1 G dh.dm;obtain⟨θ,n,Y,l3,k,D,y,rfl⟩:=wnW.2 enc W B4 h _ d3 S z (λ x A=>hw x (.inr (.inr A))) θ2 n2 I E.dm;obtain⟨c,cs',r,J,_⟩:=C.eF;injection r with r _
 subst r;have g:=E.trans k;have i:=dh.trans g;have w:∀H1,Fr Em (vi Y n) H1->eQ H1 si=true:=λ H1 f =>
  q8v (n:=n0) (H:=vi si n0) xY (λ b hb=>by rw[f.ah b (qn hb i.le) id];exact i.ah b hb) DE
 refine ag3 dm (n0:=n0) (OC ..) xY YY (xja (OC ..) hg i) ?_ (q3k (M:=_r) (y:=y) (λ H1 f=>xlo (w H1 f)) (Wi.em i.fr) (K.em g.fr) (Sl.em hs k.fr));rw[hl];exact .cons (VR.agg (P.up g.ag λ b hb=>qn hb g.le)) (.cons (J.up k.ag λ b hb=>qn hb k.le) (.one (VR.agg D)))
/-- a world for the witness -/
noncomputable def Df(os:Os):World:=Zu Tryz.prog (NG.doorLaid Tryz.prog 32 os) Rows.shrinkLeastRow.laid
theorem ac8(os:Os):laidMetH Tryz.prog Rows.shrinkLeastRow.laid ((Df os).forCall (λ _ _=>0) ⟨#[],#[.agg #[.int .i64 0,.int .i64 0,.int .i64 0,.int .i64 0,.slice B5 0 0,.int .i64 0,.int .i64 0,.int .i64 0,.slice B5 0 0],.slice B5 0 0,.agg #[.int .i64 0,.int .i64 0,.int .i64 0,.int .u64 0,.int .i64 0]],[]⟩).memory :=
 laidMet_of_run' 8 (by kernel_rfl) (by kernel_rfl)
theorem reads(os:Os){H:Type}(enc:Mj×KP->H):∃places,Ry.whole enc Tryz.prog ((Df os).forCall (λ _ _=>0) ⟨#[],#[.agg #[.int .i64 0,.int .i64 0,.int .i64 0,.int .i64 0,.slice B5 0 0,.int .i64 0,.int .i64 0,.int .i64 0,.slice B5 0 0],.slice B5 0 0,.agg #[.int .i64 0,.int .i64 0,.int .i64 0,.int .u64 0,.int .i64 0]],[]⟩).memory Tryz.f6.params.toList Rows.shrinkLeastSpec.vars B2 (#[.agg #[.int .i64 0,.int .i64 0,.int .i64 0,.int .i64 0,.slice B5 0 0,.int .i64 0,.int .i64 0,.int .i64 0,.slice B5 0 0],.slice B5 0 0,.agg #[.int .i64 0,.int .i64 0,.int .i64 0,.int .u64 0,.int .i64 0]]:Array KP).toList 8=B1 ([.agg [.agg (Jr 4 (.lit (.int .i64 0))),.nil,.agg (Jr 3 (.lit (.int .i64 0))),.nil],.nil,.agg [.lit (.int .i64 0),.lit (.int .i64 0),.lit (.int .i64 0),.lit (.int .u64 0),.lit (.int .i64 0)]],[],places) :=
 ⟨[],by kernel_rfl⟩
theorem lifted(os:Os)(started:os.Started)(H:Type)(enc:Mj×KP->H)(F:Stop.Interp) :
 ReturnsInHanded {} Tryz.checked os 6 .any ((OpenSpec.ofChange Rows.shrinkLeastSpec).preRow enc Tryz.prog Tryz.f6 Rows.shrinkLeastRow.domain B2 Rows.shrinkLeastRow.laid) (((OpenSpec.ofChange Rows.shrinkLeastSpec).at F).post enc Tryz.prog Tryz.f6 B2 B4 B2 B2):=by
 obtain⟨places,e⟩:=reads os enc;refine returnsInHanded_of_row (C:=Tryz.checked) (s:=OpenSpec.ofChange Rows.shrinkLeastSpec) own started (by kernel_rfl) Tryz.func6
  (witness_row_atRef (enc:=enc) (C:=Tryz.checked) B2 (Df os) #[.agg #[.int .i64 0,.int .i64 0,.int .i64 0,.int .i64 0,.slice B5 0 0,.int .i64 0,.int .i64 0,.int .i64 0,.slice B5 0 0],.slice B5 0 0,.agg #[.int .i64 0,.int .i64 0,.int .i64 0,.int .u64 0,.int .i64 0]] rfl (by kernel_rfl) (by kernel_rfl) (by kernel_rfl)
   (OpenSpec.preRow_of_cond 8 e (by kernel_rfl) (λ k hk=>by cases hk) (by kernel_rfl) (ac8 os))) ?_
 intro W base args ds gs before a c _ _ d b _ _;have hm:laidMet Tryz.prog Rows.shrinkLeastRow.laid W:=by
  unfold laidMetH at b;rw[show((Rows.shrinkLeastRow.laid.filter λ x=>x.2.handleName?.isSome)=[])from by kernel_rfl]at b;exact b
 refine xbb (s:=Rows.shrinkLeastSpec) laidOut read rfl (λ ds h=>?_) rfl Tryz.underlying4 c (contract a c hm d);rw[Tryz.params6]at h
 match ds,h with
 |[d0,d1,d2],_=>rfl
theorem said:Rows.ShrinkLeastSaid :=
 OpenClaim.holds_of_cond 6 Tryz.f6 rfl rfl rfl rfl rfl rfl rfl ⟨rfl,rfl,rfl,rfl,rfl⟩ rfl rfl rfl rfl rfl (by kernel_rfl) Tryz.func6 (by kernel_rfl)
  (of_decide_eq_true (by kernel_rfl)) (by unfold Func.isWrapper;first|(rw[xg (by decide +kernel)];kernel_rfl)|(rw[qy (by decide +kernel)];exact⟨rfl,rfl⟩))
  (λ os started H enc _ F=>by rw[OpenClaim.pre_eq_preRow];exact lifted os started H enc F)
theorem plain(f:FuncId)(fn:Func)(c:Tryz.pinned.checked.prog.funcNamed Rows.shrinkLeastRow.func=B1 f)(a:Tryz.pinned.checked.prog.funcs[f]? = B1 fn) :
 B2=Tryz.pinned.checked.prog.looks [] /\ ∀(j:Nat)t,fn.params[j]? = B1 t->Tryz.pinned.checked.prog.wantsStandIn t=false:=by
 obtain rfl:f=6:=CQ ((show Tryz.prog.funcNamed Rows.shrinkLeastRow.func=B1 6 by kernel_rfl).symm.trans c) |>.symm;obtain rfl:fn=Tryz.f6:=(CQ (Tryz.func6.symm.trans a)).symm;refine⟨by kernel_rfl,λ j t b=>?_⟩;have hm:t∈Tryz.f6.params.toList:=by rw[<-vk]at b;exact zh b
 rw[Tryz.params6]at hm;simp only[kj,Lw,or_false]at hm;rcases hm with rfl|rfl|rfl<;>(show Tryz.pinned.checked.prog.wantsStandIn _=B2;kernel_rfl)
/-- THE CARD -/
theorem card:Rows.ShrinkLeastCardSaid :=
 Claim7.holds_tied_plain_at .later [] _ _ _ _ said (λ _ h=>by cases h) (by kernel_rfl) (λ _ h=>by cases h) shrinkLeast_row_tie rfl ⟨rfl,rfl⟩ (by kernel_rfl) rfl plain (by kernel_rfl)
end Go.Proofs.YtgjdmncoonceaaaGreatDoor.shrinkLeast
