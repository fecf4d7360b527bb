/- CoreBack: for every world that holds the listed variables as listed,and whatever the arguments read as,the law returns true and changes nothing that was there. No condition beyond the row's own. -/
import Derived.Test.YtpnpgihabgglcaaGreatDoorCards
import Derived.Test.YtpnpgihabgglcaaGreatDoorTie
import Derived.Test.YtpnpgihabgglcaaGreatDoorAmBZd
import Derived.Test.YtpnpgihabgglcaaGreatDoorAmBZe
import Derived.Test.YtpnpgihabgglcaaGreatDoorAmBZn
import Derived.Test.YtpnpgihabgglcaaGreatDoorCoreBackRun
import Derived.LaidMore
import Derived.Deep.DeepHandedRow
import Derived.Deep.DeepWitnessRowRef
namespace Go.Proofs.YtpnpgihabgglcaaGreatDoor.coreBack
open Go.ChangeShapes Go.WideShapes Go.ChangeAt Go.RowKit Go.Am
set_option maxRecDepth 100000
theorem cZ:dL Tryz.prog:=QO (by kernel_rfl) (by kernel_rfl)
theorem own:ownKnob Tryz.prog.godebug=none:=by kernel_rfl
theorem laidOut:laidOutB Tryz.prog=true:=by kernel_rfl
theorem read:∀t∈Tryz.f4.params.toList,Tryz.prog.readableRec t=true/\t<Tryz.prog.types.size:=by
 rw[Tryz.params4];intro t a;simp only[jg,NX,or_false]at a;rcases a with rfl|rfl<;>exact⟨by kernel_rfl,by decide +kernel⟩
theorem PN:uX Rows.coreBackRow.laid=true:=by kernel_rfl
theorem vI:iN n0 rB=true:=by decide +kernel
theorem DP:eI (vc rB n0) rB=true:=by decide +kernel
theorem LM:rY Tryz.prog rB n0 ⟨5,[],.bool true⟩:=xd9 cZ (Mf ..) vI (L:=[]) (λ e h=>by cases h) rfl run
theorem Xi:∀e∈[(⟨5,[],.bool true⟩:fC)],Bo 0 e.args=true/\rY Tryz.prog rB n0 e:=λ e h=>by
 rcases jr.1 h with rfl
 exact⟨rfl,LM⟩
noncomputable abbrev mac:ak:=ak.tell Tryz.prog rB [⟨5,[],.bool true⟩]
instance:MK mac:=⟨λ _ hn=>ak.yH hn,λ _ _=>rfl⟩
noncomputable def Zj:Array Field:=match Tryz.prog.underlying 28 with|some (.struct fs)=>fs|_=>#[]
noncomputable def seF:Array Field:=match Tryz.prog.underlying 23 with|some (.struct fs)=>fs|_=>#[]
noncomputable def YR:Array Field:=match Tryz.prog.underlying 60 with|some (.struct fs)=>fs|_=>#[]
noncomputable def Zp:Array Field:=match Tryz.prog.underlying 26 with|some (.struct fs)=>fs|_=>#[]
noncomputable def acF:Array Field:=match Tryz.prog.underlying 42 with|some (.struct fs)=>fs|_=>#[]
theorem uM:Tryz.prog.underlying 28=some (.struct Zj):=by kernel_rfl
theorem uS:Tryz.prog.underlying 23=some (.struct seF):=by kernel_rfl
theorem uI:Tryz.prog.underlying 60=some (.struct YR):=by kernel_rfl
theorem uB:Tryz.prog.underlying 26=some (.struct Zp):=by kernel_rfl
theorem uA:Tryz.prog.underlying 42=some (.struct acF):=by kernel_rfl
theorem uL:Tryz.prog.underlying 29=some (.slice 42):=by kernel_rfl
theorem uN:Tryz.prog.underlying 3=some (.int .i64):=by kernel_rfl
theorem cA:Tryz.prog.cellsOf 42=3:=by kernel_rfl
theorem tM:Zj.toList.map (·.type)=[23,24,26]:=by kernel_rfl
theorem tS:seF.toList.map (·.type)=[3,3,3,3]:=by kernel_rfl
theorem tI:YR.toList.map (·.type)=[3,3,3,3,3]:=by kernel_rfl
theorem tB:Zp.toList.map (·.type)=[3,3,3]:=by kernel_rfl
theorem tA:acF.toList.map (·.type)=[3,3,3]:=by kernel_rfl
theorem maW:tc Tryz.prog 28 wB :=
 Dx (tC:=61) uM tM uS tS (by kernel_rfl) (by kernel_rfl) uI tI uB tB uN (by kernel_rfl) (by kernel_rfl) (by kernel_rfl) (by kernel_rfl) (by kernel_rfl) (by kernel_rfl) (by kernel_rfl) (by kernel_rfl) (by kernel_rfl) (by kernel_rfl)
theorem acW:tc Tryz.prog 29 λ H l=>∃u,l=[u]/\KF Tryz.prog 42 (zA (List.replicate 3 λ _ l=>pW .i64 l)) (Tryz.prog.cellsOf 42) H u :=
 Tv uL (Tl (n:=3) uA tA uN (by kernel_rfl) (by kernel_rfl)) (by rw[cA];decide)
theorem sh0:(vc rB n0).bT xL=some uR:=by kernel_rfl
theorem sl0:xL<(vc rB n0).au:=by decide +kernel
theorem WV:uQ (vc rB n0):=⟨sh0,sl0⟩
theorem contract{H:Type}{enc:TypeId×Value->H}{W:World}{base:Nat}{args:Array Value}{ds gs:List (DataW H)}{before:List MemPlace}{apart:Bool}
 (g:∀(j:Nat)t v,Tryz.f4.params[j]? = some t->args[j]? = some v->Value.okWide Tryz.prog W .any base t v) (U:DataW.Whole enc Tryz.prog Tryz.f4.params.toList Rows.coreBackSpec.vars apart W args.toList ds gs before)
 (hm:laidMet Tryz.prog Rows.coreBackRow.laid W) {ts:List TypeId} (L:(DataW.weightsEach Tryz.prog (Tryz.f4.params.toList++ts) (ds++gs)).all (·<=reachBytes)=true):Calls Tryz.prog 4 args W λ e w'=>e=.returned (.bool true)/\Below W.heap.size W w':=by
 obtain⟨p,q,z,_,_,_,_⟩:=U;rw[Tryz.params4]at z g L;obtain⟨v,Z,d,O,N,q1,fuel,hl,rfl,G,z⟩:=xb1 z;obtain⟨v2,vs2,d2,P,X,q2,m,rfl,rfl,A,z⟩:=xb1 z;obtain⟨rfl,rfl⟩:=Cf z;have V:Value.okWide Tryz.prog W .any base 28 v:=g 0 28 v rfl (by rw[<-ki,hl];rfl);have J:Value.okWide Tryz.prog W .any base 29 v2:=g 1 29 v2 rfl (by rw[<-ki,hl];rfl);obtain⟨cs,rfl⟩:=Ht (.inl ⟨_,uM⟩) V;have G:DataW.trod enc Tryz.prog W 0 (λ _=>true) true fuel 28 cs.toList=some (d,N):=G;rw[q19 uL J]at A;have hw:∀x,x∈DataW.weights Tryz.prog 28 d\/x∈DataW.weights Tryz.prog 29 d2->x<=reachBytes:=λ x C=>by
  have S:=wz.1 L x (by simp only[Ir,DataW.weightsEach,zu];exact C.elim .inl λ q=>.inr (.inl q))
  simpa using S
 obtain⟨θL,hg,r⟩:=Iz (tp:=0) PN hm;obtain⟨θ1,n1,D,l,cJ,K,ln,co,Y,wa,f,so,sf,cv,ps,rfl,T,F⟩:=maW.2 enc W true fuel _ d N G (λ x C=>hw x (.inl C)) θL n0 rB r;obtain⟨θ,n,R,l2,i,B,u,rfl,hs,_⟩:=acW.2 enc W true m _ d2 X A (λ x C=>hw x (.inr C)) θ1 n1 D cJ.cZ;rw[cA]at hs;obtain⟨zs,I,_⟩:=XL (enc:=pR) (Q:=λ _=>True) (λ l h=>by
  obtain⟨_,_,rfl,⟨a,rfl,_⟩,_,_,rfl,⟨b,rfl,_⟩,_,_,rfl,⟨c,rfl,_⟩,rfl⟩:=h;exact⟨⟨a,b,c⟩,rfl,trivial⟩) hs
 obtain⟨c,cs',o,E,_⟩:=B.eN;injection o with o _
 subst o;have k:=cJ.trans i;have y:∀H1,Fr Em (vc R n) H1->eI H1 rB=true:=λ H1 f =>
  q6n (n:=n0) (H:=vc rB n0) vI (λ b hb=>by rw[f.ah b (qj hb k.le) id];exact k.ah b hb) DP
 refine Dw cZ (n0:=n0) (Mf ..) vI Xi (xgk (Mf ..) hg k) ?_ (q9p (M:=mac) (l:=ln) (c:=co) (s:=Y) (w:=wa) (f:=f) (so:=so) (sf:=sf) (λ H1 f=>xiu (y H1 f)) (WV.em k.fr) (T.em i.fr) (λ p q=>(F p q).em i.fr) I);rw[hl];exact .cons (VR.agg (K.up i.ag λ b hb=>qj hb i.le)) (.one E)
/-- a world for the witness -/
noncomputable def D6(os:Os):World:=Xu Tryz.prog (World.doorLaid Tryz.prog 32 os) Rows.coreBackRow.laid
theorem A6(os:Os):laidMetH Tryz.prog Rows.coreBackRow.laid ((D6 os).forCall (λ _ _=>0) ⟨#[],#[.agg #[.int .i64 0,.int .i64 0,.int .i64 0,.int .i64 0,.slice none 0 0,.int .i64 0,.int .i64 0,.int .i64 0],.slice none 0 0],[]⟩).memory :=
 laidMet_of_run' 8 (by kernel_rfl) (by kernel_rfl)
theorem reads(os:Os){H:Type}(enc:TypeId×Value->H):∃places,DataW.whole enc Tryz.prog ((D6 os).forCall (λ _ _=>0) ⟨#[],#[.agg #[.int .i64 0,.int .i64 0,.int .i64 0,.int .i64 0,.slice none 0 0,.int .i64 0,.int .i64 0,.int .i64 0],.slice none 0 0],[]⟩).memory Tryz.f4.params.toList Rows.coreBackSpec.vars false (#[.agg #[.int .i64 0,.int .i64 0,.int .i64 0,.int .i64 0,.slice none 0 0,.int .i64 0,.int .i64 0,.int .i64 0],.slice none 0 0]:Array Value).toList 8=some ([.agg [.agg (List.replicate 4 (.lit (.int .i64 0))),.nil,.agg (List.replicate 3 (.lit (.int .i64 0)))],.nil],[],places) :=
 ⟨[],by kernel_rfl⟩
theorem lifted(os:Os)(started:os.Started)(H:Type)(enc:TypeId×Value->H)(F:Stop.Interp) :
 ReturnsInHanded {} Tryz.checked os 4 .any ((OpenSpec.ofChange Rows.coreBackSpec).preRow enc Tryz.prog Tryz.f4 Rows.coreBackRow.domain false Rows.coreBackRow.laid) (((OpenSpec.ofChange Rows.coreBackSpec).at F).post enc Tryz.prog Tryz.f4 false true false false):=by
 obtain⟨places,e⟩:=reads os enc;refine returnsInHanded_of_row (C:=Tryz.checked) (s:=OpenSpec.ofChange Rows.coreBackSpec) own started (by kernel_rfl) Tryz.func4
  (witness_row_atRef (enc:=enc) (C:=Tryz.checked) false (D6 os) #[.agg #[.int .i64 0,.int .i64 0,.int .i64 0,.int .i64 0,.slice none 0 0,.int .i64 0,.int .i64 0,.int .i64 0],.slice none 0 0] rfl (by kernel_rfl) (by kernel_rfl) (by kernel_rfl)
   (OpenSpec.preRow_of_cond 8 e (by kernel_rfl) (λ k hk=>by cases hk) (by kernel_rfl) (A6 os))) ?_
 intro W base args ds gs before a c _ _ d b _ _;have hm:laidMet Tryz.prog Rows.coreBackRow.laid W:=by
  unfold laidMetH at b;rw[show((Rows.coreBackRow.laid.filter λ x=>x.2.handleName?.isSome)=[])from by kernel_rfl]at b;exact b
 refine q8z (s:=Rows.coreBackSpec) laidOut read rfl (λ ds h=>?_) rfl Tryz.underlying4 c (contract a c hm d);rw[Tryz.params4]at h
 match ds,h with
 |[d0,d1],_=>rfl
theorem said:Rows.CoreBackSaid :=
 OpenClaim.holds_of_cond 4 Tryz.f4 rfl rfl rfl rfl rfl rfl rfl ⟨rfl,rfl,rfl,rfl,rfl⟩ rfl rfl rfl rfl rfl (by kernel_rfl) Tryz.func4 (by kernel_rfl)
  (of_decide_eq_true (by kernel_rfl)) (by unfold Func.isWrapper;first|(rw[qr (by decide +kernel)];kernel_rfl)|(rw[qo (by decide +kernel)];exact⟨rfl,rfl⟩))
  (λ os started H enc _ F=>by rw[OpenClaim.pre_eq_preRow];exact lifted os started H enc F)
theorem plain(f:FuncId)(fn:Func)(c:Tryz.pinned.checked.prog.funcNamed Rows.coreBackRow.func=some f)(a:Tryz.pinned.checked.prog.funcs[f]? = some fn) :
 false=Tryz.pinned.checked.prog.looks [] /\ ∀(j:Nat)t,fn.params[j]? = some t->Tryz.pinned.checked.prog.wantsStandIn t=false:=by
 obtain rfl:f=4:=Kv ((show Tryz.prog.funcNamed Rows.coreBackRow.func=some 4 by kernel_rfl).symm.trans c) |>.symm;obtain rfl:fn=Tryz.f4:=(Kv (Tryz.func4.symm.trans a)).symm;refine⟨by kernel_rfl,λ j t b=>?_⟩;have hm:t∈Tryz.f4.params.toList:=by rw[<-ki]at b;exact za b
 rw[Tryz.params4]at hm;simp only[jg,NX,or_false]at hm;rcases hm with rfl|rfl<;>(show Tryz.pinned.checked.prog.wantsStandIn _=false;kernel_rfl)
/-- THE CARD -/
theorem card:Rows.CoreBackCardSaid :=
 Claim7.holds_tied_plain_at .later [] _ _ _ _ said (λ _ h=>by cases h) (by kernel_rfl) (λ _ h=>by cases h) coreBack_row_tie rfl ⟨rfl,rfl⟩ (by kernel_rfl) rfl plain (by kernel_rfl)
end Go.Proofs.YtpnpgihabgglcaaGreatDoor.coreBack
