/- CoreBudget: for every world that holds the listed variables as listed,and whatever the arguments read as,the law returns true and changes nothing that was there. No condition beyond the row's own. -/
import Derived.Test.YtpnpgihabgglcaaGreatDoorCards
import Derived.Test.YtpnpgihabgglcaaGreatDoorTie
import Derived.Test.YtpnpgihabgglcaaGreatDoorAmUZd
import Derived.Test.YtpnpgihabgglcaaGreatDoorAmUZe
import Derived.Test.YtpnpgihabgglcaaGreatDoorAmUZn
import Derived.Test.YtpnpgihabgglcaaGreatDoorCoreBudgetRun
import Derived.LaidMore
import Derived.Deep.DeepHandedRow
import Derived.Deep.DeepWitnessRowRef
namespace Go.Proofs.YtpnpgihabgglcaaGreatDoor.coreBudget
open Go.ChangeShapes Go.WideShapes Go.ChangeAt Go.RowKit Go.Am
set_option maxRecDepth 100000
theorem cY:dL Tryz.prog:=Oo (by kernel_rfl) (by kernel_rfl)
theorem own:ownKnob Tryz.prog.godebug=none:=by kernel_rfl
theorem laidOut:laidOutB Tryz.prog=true:=by kernel_rfl
theorem read:∀t∈Tryz.f3.params.toList,Tryz.prog.readableRec t=true/\t<Tryz.prog.types.size:=by
 rw[Tryz.params3];intro t a;simp only[jf,P1,or_false]at a;rcases a with rfl|rfl<;>exact⟨by kernel_rfl,by decide +kernel⟩
theorem Pf:uE Rows.coreBudgetRow.laid=true:=by kernel_rfl
theorem vG:iN n0 ry=true:=by decide +kernel
theorem Cm:eG (yx ry n0) ry=true:=by decide +kernel
theorem Kd:rJ Tryz.prog ry n0 ⟨5,[],.bool true⟩:=xdn cY (Ms ..) vG (L:=[]) (λ e h=>by cases h) rfl run
theorem T8:∀e∈[(⟨5,[],.bool true⟩:fA)],DC 0 e.args=true/\rJ Tryz.prog ry n0 e:=λ e h=>by
 rcases ja.1 h with rfl
 exact⟨rfl,Kd⟩
noncomputable abbrev mac:ak:=ak.tell Tryz.prog ry [⟨5,[],.bool true⟩]
instance:MK mac:=⟨λ _ hn=>ak.xG hn,λ _ _=>rfl⟩
noncomputable def j1:Array Field:=match Tryz.prog.underlying 28 with|some (.struct fs)=>fs|_=>#[]
noncomputable def YD:Array Field:=match Tryz.prog.underlying 23 with|some (.struct fs)=>fs|_=>#[]
noncomputable def inF:Array Field:=match Tryz.prog.underlying 60 with|some (.struct fs)=>fs|_=>#[]
noncomputable def buF:Array Field:=match Tryz.prog.underlying 26 with|some (.struct fs)=>fs|_=>#[]
noncomputable def acF:Array Field:=match Tryz.prog.underlying 42 with|some (.struct fs)=>fs|_=>#[]
theorem uM:Tryz.prog.underlying 28=some (.struct j1):=by kernel_rfl
theorem uS:Tryz.prog.underlying 23=some (.struct YD):=by kernel_rfl
theorem uI:Tryz.prog.underlying 60=some (.struct inF):=by kernel_rfl
theorem uB:Tryz.prog.underlying 26=some (.struct buF):=by kernel_rfl
theorem uA:Tryz.prog.underlying 42=some (.struct acF):=by kernel_rfl
theorem uL:Tryz.prog.underlying 29=some (.slice 42):=by kernel_rfl
theorem uN:Tryz.prog.underlying 3=some (.int .i64):=by kernel_rfl
theorem cA:Tryz.prog.cellsOf 42=3:=by kernel_rfl
theorem tM:j1.toList.map (·.type)=[23,24,26]:=by kernel_rfl
theorem tS:YD.toList.map (·.type)=[3,3,3,3]:=by kernel_rfl
theorem tI:inF.toList.map (·.type)=[3,3,3,3,3]:=by kernel_rfl
theorem tB:buF.toList.map (·.type)=[3,3,3]:=by kernel_rfl
theorem tA:acF.toList.map (·.type)=[3,3,3]:=by kernel_rfl
theorem maW:sR Tryz.prog 28 vK :=
 Bh (tC:=61) uM tM uS tS (by kernel_rfl) (by kernel_rfl) uI tI uB tB uN (by kernel_rfl) (by kernel_rfl) (by kernel_rfl) (by kernel_rfl) (by kernel_rfl) (by kernel_rfl) (by kernel_rfl) (by kernel_rfl) (by kernel_rfl) (by kernel_rfl)
theorem acW:sR Tryz.prog 29 λ H l=>∃u,l=[u]/\v8 Tryz.prog 42 (zC (List.replicate 3 λ _ l=>p8 .i64 l)) (Tryz.prog.cellsOf 42) H u :=
 XD uL (RX (n:=3) uA tA uN (by kernel_rfl) (by kernel_rfl)) (by rw[cA];decide)
theorem sh0:(yx ry n0).bT wZ=some uX:=by kernel_rfl
theorem sl0:wZ<(yx ry n0).au:=by decide +kernel
theorem WT:u6 (yx ry n0):=⟨sh0,sl0⟩
theorem contract{H:Type}{enc:TypeId×Value->H}{W:World}{base:Nat}{args:Array Value}{ds gs:List (DataW H)}{before:List MemPlace}{apart:Bool}
 (g:∀(j:Nat)t v,Tryz.f3.params[j]? = some t->args[j]? = some v->Value.okWide Tryz.prog W .any base t v) (U:DataW.Whole enc Tryz.prog Tryz.f3.params.toList Rows.coreBudgetSpec.vars apart W args.toList ds gs before)
 (hm:laidMet Tryz.prog Rows.coreBudgetRow.laid W) {ts:List TypeId} (L:(DataW.weightsEach Tryz.prog (Tryz.f3.params.toList++ts) (ds++gs)).all (·<=reachBytes)=true):Calls Tryz.prog 3 args W λ e w'=>e=.returned (.bool true)/\Below W.heap.size W w':=by
 obtain⟨p,q,z,_,_,_,_⟩:=U;rw[Tryz.params3]at z g L;obtain⟨v,Z,d,O,N,q1,fuel,hl,rfl,G,z⟩:=xbg z;obtain⟨v2,vs2,d2,P,X,q2,m,rfl,rfl,A,z⟩:=xbg z;obtain⟨rfl,rfl⟩:=AO z;have V:Value.okWide Tryz.prog W .any base 28 v:=g 0 28 v rfl (by rw[<-j8,hl];rfl);have J:Value.okWide Tryz.prog W .any base 29 v2:=g 1 29 v2 rfl (by rw[<-j8,hl];rfl);obtain⟨cs,rfl⟩:=GG (.inl ⟨_,uM⟩) V;have G:DataW.trod enc Tryz.prog W 0 (λ _=>true) true fuel 28 cs.toList=some (d,N):=G;rw[q1q uL J]at A;have hw:∀x,x∈DataW.weights Tryz.prog 28 d\/x∈DataW.weights Tryz.prog 29 d2->x<=reachBytes:=λ x C=>by
  have S:=wq.1 L x (by simp only[Ht,DataW.weightsEach,zt];exact C.elim .inl λ q=>.inr (.inl q))
  simpa using S
 obtain⟨θL,hg,r⟩:=HU (tp:=0) Pf hm;obtain⟨θ1,n1,D,l,cS,K,ln,co,Y,wa,f,so,sf,cv,ps,rfl,T,F⟩:=maW.2 enc W true fuel _ d N G (λ x C=>hw x (.inl C)) θL n0 ry r;obtain⟨θ,n,R,l2,i,B,u,rfl,hs,_⟩:=acW.2 enc W true m _ d2 X A (λ x C=>hw x (.inr C)) θ1 n1 D cS.cY;rw[cA]at hs;obtain⟨zs,I,_⟩:=T5 (enc:=qO) (Q:=λ _=>True) (λ l h=>by
  obtain⟨_,_,rfl,⟨a,rfl,_⟩,_,_,rfl,⟨b,rfl,_⟩,_,_,rfl,⟨c,rfl,_⟩,rfl⟩:=h;exact⟨⟨a,b,c⟩,rfl,trivial⟩) hs
 obtain⟨c,cs',o,E,_⟩:=B.eJ;injection o with o _
 subst o;have k:=cS.trans i;have y:∀H1,Fr Em (yx R n) H1->eG H1 ry=true:=λ H1 f =>
  YW (n:=n0) (H:=yx ry n0) vG (λ b hb=>by rw[f.ah b (qj hb k.le) id];exact k.ah b hb) Cm
 refine Dd cY (n0:=n0) (Ms ..) vG T8 (xf0 (Ms ..) hg k) ?_ (q4o (M:=mac) (l:=ln) (c:=co) (s:=Y) (w:=wa) (f:=f) (so:=so) (sf:=sf) (λ H1 f=>xia (y H1 f)) (WT.em k.fr) (T.em i.fr) (λ p q=>(F p q).em i.fr) I);rw[hl];exact .cons (VR.agg (K.up i.ag λ b hb=>qj hb i.le)) (.one E)
/-- a world for the witness -/
noncomputable def Dr(os:Os):World:=XH Tryz.prog (World.doorLaid Tryz.prog 32 os) Rows.coreBudgetRow.laid
theorem B9(os:Os):laidMetH Tryz.prog Rows.coreBudgetRow.laid ((Dr os).forCall (λ _ _=>0) ⟨#[],#[.agg #[.int .i64 0,.int .i64 0,.int .i64 0,.int .i64 0,.slice none 0 0,.int .i64 0,.int .i64 0,.int .i64 0],.slice none 0 0],[]⟩).memory :=
 laidMet_of_run' 8 (by kernel_rfl) (by kernel_rfl)
theorem reads(os:Os){H:Type}(enc:TypeId×Value->H):∃places,DataW.whole enc Tryz.prog ((Dr os).forCall (λ _ _=>0) ⟨#[],#[.agg #[.int .i64 0,.int .i64 0,.int .i64 0,.int .i64 0,.slice none 0 0,.int .i64 0,.int .i64 0,.int .i64 0],.slice none 0 0],[]⟩).memory Tryz.f3.params.toList Rows.coreBudgetSpec.vars false (#[.agg #[.int .i64 0,.int .i64 0,.int .i64 0,.int .i64 0,.slice none 0 0,.int .i64 0,.int .i64 0,.int .i64 0],.slice none 0 0]:Array Value).toList 8=some ([.agg [.agg (List.replicate 4 (.lit (.int .i64 0))),.nil,.agg (List.replicate 3 (.lit (.int .i64 0)))],.nil],[],places) :=
 ⟨[],by kernel_rfl⟩
theorem lifted(os:Os)(started:os.Started)(H:Type)(enc:TypeId×Value->H)(F:Stop.Interp) :
 ReturnsInHanded {} Tryz.checked os 3 .any ((OpenSpec.ofChange Rows.coreBudgetSpec).preRow enc Tryz.prog Tryz.f3 Rows.coreBudgetRow.domain false Rows.coreBudgetRow.laid) (((OpenSpec.ofChange Rows.coreBudgetSpec).at F).post enc Tryz.prog Tryz.f3 false true false false):=by
 obtain⟨places,e⟩:=reads os enc;refine returnsInHanded_of_row (C:=Tryz.checked) (s:=OpenSpec.ofChange Rows.coreBudgetSpec) own started (by kernel_rfl) Tryz.func3
  (witness_row_atRef (enc:=enc) (C:=Tryz.checked) false (Dr os) #[.agg #[.int .i64 0,.int .i64 0,.int .i64 0,.int .i64 0,.slice none 0 0,.int .i64 0,.int .i64 0,.int .i64 0],.slice none 0 0] rfl (by kernel_rfl) (by kernel_rfl) (by kernel_rfl)
   (OpenSpec.preRow_of_cond 8 e (by kernel_rfl) (λ k hk=>by cases hk) (by kernel_rfl) (B9 os))) ?_
 intro W base args ds gs before a c _ _ d b _ _;have hm:laidMet Tryz.prog Rows.coreBudgetRow.laid W:=by
  unfold laidMetH at b;rw[show((Rows.coreBudgetRow.laid.filter λ x=>x.2.handleName?.isSome)=[])from by kernel_rfl]at b;exact b
 refine q8f (s:=Rows.coreBudgetSpec) laidOut read rfl (λ ds h=>?_) rfl Tryz.underlying4 c (contract a c hm d);rw[Tryz.params3]at h
 match ds,h with
 |[d0,d1],_=>rfl
theorem said:Rows.CoreBudgetSaid :=
 OpenClaim.holds_of_cond 3 Tryz.f3 rfl rfl rfl rfl rfl rfl rfl ⟨rfl,rfl,rfl,rfl,rfl⟩ rfl rfl rfl rfl rfl (by kernel_rfl) Tryz.func3 (by kernel_rfl)
  (of_decide_eq_true (by kernel_rfl)) (by unfold Func.isWrapper;first|(rw[qr (by decide +kernel)];kernel_rfl)|(rw[qo (by decide +kernel)];exact⟨rfl,rfl⟩))
  (λ os started H enc _ F=>by rw[OpenClaim.pre_eq_preRow];exact lifted os started H enc F)
theorem plain(f:FuncId)(fn:Func)(c:Tryz.pinned.checked.prog.funcNamed Rows.coreBudgetRow.func=some f)(a:Tryz.pinned.checked.prog.funcs[f]? = some fn) :
 false=Tryz.pinned.checked.prog.looks [] /\ ∀(j:Nat)t,fn.params[j]? = some t->Tryz.pinned.checked.prog.wantsStandIn t=false:=by
 obtain rfl:f=3:=KL ((show Tryz.prog.funcNamed Rows.coreBudgetRow.func=some 3 by kernel_rfl).symm.trans c) |>.symm;obtain rfl:fn=Tryz.f3:=(KL (Tryz.func3.symm.trans a)).symm;refine⟨by kernel_rfl,λ j t b=>?_⟩;have hm:t∈Tryz.f3.params.toList:=by rw[<-j8]at b;exact x9 b
 rw[Tryz.params3]at hm;simp only[jf,P1,or_false]at hm;rcases hm with rfl|rfl<;>(show Tryz.pinned.checked.prog.wantsStandIn _=false;kernel_rfl)
/-- THE CARD -/
theorem card:Rows.CoreBudgetCardSaid :=
 Claim7.holds_tied_plain_at .later [] _ _ _ _ said (λ _ h=>by cases h) (by kernel_rfl) (λ _ h=>by cases h) coreBudget_row_tie rfl ⟨rfl,rfl⟩ (by kernel_rfl) rfl plain (by kernel_rfl)
end Go.Proofs.YtpnpgihabgglcaaGreatDoor.coreBudget
