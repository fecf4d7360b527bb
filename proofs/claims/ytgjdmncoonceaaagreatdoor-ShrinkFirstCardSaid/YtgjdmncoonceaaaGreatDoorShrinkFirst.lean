/- ShrinkFirst: for every world that holds the listed variables as listed,and whatever the arguments read as,the law returns true and changes nothing that was there. No condition beyond the row's own. -/
import Derived.Test.YtgjdmncoonceaaaGreatDoorCards
import Derived.Test.YtgjdmncoonceaaaGreatDoorTie
import Derived.Test.YtgjdmncoonceaaaGreatDoorAmFZd
import Derived.Test.YtgjdmncoonceaaaGreatDoorAmFZe
import Derived.Test.YtgjdmncoonceaaaGreatDoorAmFZn
import Derived.Test.YtgjdmncoonceaaaGreatDoorShrinkFirstRun
import Derived.LaidMore
import Derived.Deep.DeepHandedRow
import Derived.Deep.DeepWitnessRowRef
open Bool renaming false→B2,true→B4
open Go renaming DataW→Rg,MemPlace→BI,TypeId→M8,Value→Li,World→MV
open Go.DataW renaming trod→Ny,weights→Bb,weightsEach→BW
open Go.Value renaming okWide→C1
open List renaming replicate→JK
open Option renaming none→B5,some→B1
open Option.some renaming inj→CM
namespace Go.Proofs.YtgjdmncoonceaaaGreatDoor.shrinkFirst
open Go.ChangeShapes Go.WideShapes Go.ChangeAt Go.RowKit Go.Am
set_option maxRecDepth 100000
theorem dh:dW Tryz.prog:=Q9 (by kernel_rfl) (by kernel_rfl)
theorem own:ownKnob Tryz.prog.godebug=none:=by kernel_rfl
theorem laidOut:laidOutB Tryz.prog=true:=by kernel_rfl
theorem read:∀t∈Tryz.f5.params.toList,Tryz.prog.readableRec t=B4/\t<Tryz.prog.types.size:=by
 rw[Tryz.params5];intro t a;simp only[j7,LM,or_false]at a;rcases a with rfl|rfl|rfl<;>exact⟨by kernel_rfl,by decide +kernel⟩
theorem RU:vW Rows.shrinkFirstRow.laid=true:=by kernel_rfl
theorem xB:iU n0 rZ=true:=by decide +kernel
theorem ae5:eL (vd rZ n0) rZ=true:=by decide +kernel
theorem LZ:sy Tryz.prog rZ n0 ⟨18,[],.bool B4⟩:=xfd dh (NS ..) xB (L:=[]) (λ e h=>by cases h) rfl run
theorem Wd:∀e∈[(⟨18,[],.bool B4⟩:fL)],Cm 0 e.args=B4/\sy Tryz.prog rZ n0 e:=λ e h=>by
 rcases yj.1 h with rfl
 exact⟨rfl,LZ⟩
noncomputable abbrev U_:ak:=ak.tell Tryz.prog rZ [⟨18,[],.bool B4⟩]
instance:MK U_:=⟨λ _ hn=>ak.zL hn,λ _ _=>rfl⟩
noncomputable def R':Array Field:=match Tryz.prog.underlying 29 with|some (.struct fs)=>fs|_=>#[]
noncomputable def x_:Array Field:=match Tryz.prog.underlying 23 with|some (.struct fs)=>fs|_=>#[]
noncomputable def buF:Array Field:=match Tryz.prog.underlying 26 with|some (.struct fs)=>fs|_=>#[]
noncomputable def mo:Array Field:=match Tryz.prog.underlying 46 with|some (.struct fs)=>fs|_=>#[]
theorem uM:Tryz.prog.underlying 29=B1 (.struct R'):=by kernel_rfl
theorem uS:Tryz.prog.underlying 23=B1 (.struct x_):=by kernel_rfl
theorem uB:Tryz.prog.underlying 26=B1 (.struct buF):=by kernel_rfl
theorem uA:Tryz.prog.underlying 46=B1 (.struct mo):=by kernel_rfl
theorem uC:Tryz.prog.underlying 56=B1 (.slice 5):=by kernel_rfl
theorem uY:Tryz.prog.underlying 5=B1 (.int .u8):=by kernel_rfl
theorem uN:Tryz.prog.underlying 3=B1 (.int .i64):=by kernel_rfl
theorem uQ:Tryz.prog.underlying 30=B1 (.slice 46):=by kernel_rfl
theorem tM:R'.toList.map (·.type)=[23,24,26,27]:=by kernel_rfl
theorem tS:x_.toList.map (·.type)=[3,3,3,3]:=by kernel_rfl
theorem tB:buF.toList.map (·.type)=[3,3,3]:=by kernel_rfl
theorem tA:mo.toList.map (·.type)=[3,3,3]:=by kernel_rfl
theorem bY:0<Tryz.prog.bytesOf 5:=by decide +kernel
theorem bC:0<Tryz.prog.bytesOf 56:=by decide +kernel
theorem stW:pA Tryz.prog 29 kJ :=
 xl3 (tK:=24) (tC:=56) (tY:=5) (tF:=27) (tL:=61) (tU:=31) uM tM uS tS (by kernel_rfl) uC uY uB tB (by kernel_rfl) (by kernel_rfl) (by kernel_rfl) uN (by kernel_rfl) (by kernel_rfl) bY bC (by kernel_rfl) (by kernel_rfl) (by kernel_rfl) (by kernel_rfl) (by kernel_rfl) (by kernel_rfl) (by kernel_rfl) (by kernel_rfl)
theorem acW:pA Tryz.prog 30 λ H l=>∃u,l=[u] /\ ∃ls:List Am.Act,bV Am.Act.enc 3 H u ls:=ag7 uQ uA tA uN (by kernel_rfl) (by kernel_rfl) (by kernel_rfl)
theorem sh0:(vd rZ n0).bU yk=B1 wI:=by kernel_rfl
theorem sl0:yk<(vd rZ n0).au:=by decide +kernel
theorem UO:p5 (vd rZ n0):=⟨sh0,sl0⟩
noncomputable def _n:Array Field:=match Tryz.prog.underlying 33 with|some (.struct fs)=>fs|_=>#[]
theorem uW:Tryz.prog.underlying 33=B1 (.struct _n):=by kernel_rfl
theorem tW:_n.toList.map (·.type)=[3,3,3,31,3]:=by kernel_rfl
theorem wnW:pA Tryz.prog 33 Dm:=GZ uW tW uN (by kernel_rfl) (by kernel_rfl) (by kernel_rfl)
theorem uP:Tryz.prog.underlying 52=B1 (.array 2 30):=by kernel_rfl
theorem paW:pA Tryz.prog 52 λ H l=>yZ (JK 2 λ H l=>∃u,l=[u] /\ ∃ls:List Am.Act,bV Am.Act.enc 3 H u ls) H l:=xl0 uP acW (by kernel_rfl)
theorem contract{H:Type}{enc:M8×Li->H}{W:MV}{base:Nat}{args:Array Li}{ds gs:List (Rg H)}{before:List BI}{apart:Bool}
 (a:∀(j:Nat)t v,Tryz.f5.params[j]? = B1 t->args[j]? = B1 v->C1 Tryz.prog W .any base t v) (hW:Rg.Whole enc Tryz.prog Tryz.f5.params.toList Rows.shrinkFirstSpec.vars apart W args.toList ds gs before)
 (hm:laidMet Tryz.prog Rows.shrinkFirstRow.laid W) {ts:List M8} (P:(BW Tryz.prog (Tryz.f5.params.toList++ts) (ds++gs)).all (·<=reachBytes)=B4):Calls Tryz.prog 5 args W λ e w'=>e=.returned (.bool B4)/\Below W.heap.size W w':=by
 obtain⟨p,q,k,_,_,_,_⟩:=hW;rw[Tryz.params5]at k a P;obtain⟨v,vs1,d,U,Q,q1,fuel,hl,rfl,K,k⟩:=Vs k;obtain⟨v2,vs2,d2,V,R,q2,g,rfl,rfl,r,k⟩:=Vs k;obtain⟨T,vs3,d3,X,S,q3,h,rfl,rfl,s,k⟩:=Vs k;obtain⟨rfl,rfl⟩:=Ek k;have hv:C1 Tryz.prog W .any base 29 v:=a 0 29 v rfl (by rw[<-vf,hl];rfl);have L:C1 Tryz.prog W .any base 33 v2:=a 1 33 v2 rfl (by rw[<-vf,hl];rfl);have N:C1 Tryz.prog W .any base 52 T:=a 2 52 T rfl (by rw[<-vf,hl];rfl);obtain⟨cs,rfl⟩:=YG (.inl ⟨_,uM⟩) hv;obtain⟨C,rfl⟩:=YG (.inl ⟨_,uW⟩) L;obtain⟨D,rfl⟩:=YG (.inr ⟨_,_,uP⟩) N;have r:Ny enc Tryz.prog W 0 (λ _=>B4) B4 g 33 C.toList=B1 (d2,R):=r;have s:Ny enc Tryz.prog W 0 (λ _=>B4) B4 h 52 D.toList=B1 (d3,S):=s;have K:Ny enc Tryz.prog W 0 (λ _=>B4) B4 fuel 29 cs.toList=B1 (d,Q):=K;have hw:∀x,x∈Bb Tryz.prog 29 d\/x∈Bb Tryz.prog 33 d2\/x∈Bb Tryz.prog 52 d3->x<=reachBytes:=λ x u=>by
  have Z:=Gw.1 P x (by simp only[I7,BW,z6];exact u.elim .inl λ q=>.inr (q.elim .inl λ q=>.inr (.inl q)))
  simpa using Z
 obtain⟨θL,hg,m⟩:=JV (tp:=0) RU hm;obtain⟨θ1,n1,E,l,df,O,G⟩:=stW.2 enc W B4 fuel _ d Q K (λ x u=>hw x (.inl u)) θL n0 rZ m;obtain⟨θ2,n2,F,l2,B,z,y,rfl⟩:=wnW.2 enc W B4 g _ d2 R r (λ x u=>hw x (.inr (.inl u))) θ1 n1 E df.dh;obtain⟨θ,n,Y,l3,w,A,_,_,rfl,⟨u1,rfl,ls1,I⟩,_,_,rfl,⟨u2,rfl,ls2,J⟩,rfl⟩:=paW.2 enc W B4 h _ d3 S s (λ x u=>hw x (.inr (.inr u))) θ2 n2 F B.dh;have c:=B.trans w;have i:=df.trans c;have o:∀H1,Fr Em (vd Y n) H1->eL H1 rZ=true:=λ H1 f =>
  γ (n:=n0) (H:=vd rZ n0) xB (λ b hb=>by rw[f.ah b (qn hb i.le) id];exact i.ah b hb) ae5
 refine Fa dh (n0:=n0) (NS ..) xB Wd (xhs (NS ..) hg i) ?_ (q2j (M:=U_) (y:=y) (λ H1 f=>xj5 (o H1 f)) (UO.em i.fr) (G.em c.fr) I J);rw[hl];exact .cons (VR.agg (O.up c.ag λ b hb=>qn hb c.le)) (.cons (VR.agg (z.up w.ag λ b hb=>qn hb w.le)) (.one (VR.agg A)))
/-- a world for the witness -/
noncomputable def CA(os:Os):World:=VC Tryz.prog (MV.doorLaid Tryz.prog 32 os) Rows.shrinkFirstRow.laid
theorem D4(os:Os):laidMetH Tryz.prog Rows.shrinkFirstRow.laid ((CA os).forCall (λ _ _=>0) ⟨#[],#[.agg #[.int .i64 0,.int .i64 0,.int .i64 0,.int .i64 0,.slice B5 0 0,.int .i64 0,.int .i64 0,.int .i64 0,.slice B5 0 0],.agg #[.int .i64 0,.int .i64 0,.int .i64 0,.int .u64 0,.int .i64 0],.agg #[.slice B5 0 0,.slice B5 0 0]],[]⟩).memory :=
 laidMet_of_run' 8 (by kernel_rfl) (by kernel_rfl)
theorem reads(os:Os){H:Type}(enc:M8×Li->H):∃places,Rg.whole enc Tryz.prog ((CA os).forCall (λ _ _=>0) ⟨#[],#[.agg #[.int .i64 0,.int .i64 0,.int .i64 0,.int .i64 0,.slice B5 0 0,.int .i64 0,.int .i64 0,.int .i64 0,.slice B5 0 0],.agg #[.int .i64 0,.int .i64 0,.int .i64 0,.int .u64 0,.int .i64 0],.agg #[.slice B5 0 0,.slice B5 0 0]],[]⟩).memory Tryz.f5.params.toList Rows.shrinkFirstSpec.vars B2 (#[.agg #[.int .i64 0,.int .i64 0,.int .i64 0,.int .i64 0,.slice B5 0 0,.int .i64 0,.int .i64 0,.int .i64 0,.slice B5 0 0],.agg #[.int .i64 0,.int .i64 0,.int .i64 0,.int .u64 0,.int .i64 0],.agg #[.slice B5 0 0,.slice B5 0 0]]:Array Li).toList 8=B1 ([.agg [.agg (JK 4 (.lit (.int .i64 0))),.nil,.agg (JK 3 (.lit (.int .i64 0))),.nil],.agg [.lit (.int .i64 0),.lit (.int .i64 0),.lit (.int .i64 0),.lit (.int .u64 0),.lit (.int .i64 0)],.agg [.nil,.nil]],[],places) :=
 ⟨[],by kernel_rfl⟩
theorem lifted(os:Os)(started:os.Started)(H:Type)(enc:M8×Li->H)(F:Stop.Interp) :
 ReturnsInHanded {} Tryz.checked os 5 .any ((OpenSpec.ofChange Rows.shrinkFirstSpec).preRow enc Tryz.prog Tryz.f5 Rows.shrinkFirstRow.domain B2 Rows.shrinkFirstRow.laid) (((OpenSpec.ofChange Rows.shrinkFirstSpec).at F).post enc Tryz.prog Tryz.f5 B2 B4 B2 B2):=by
 obtain⟨places,e⟩:=reads os enc;refine returnsInHanded_of_row (C:=Tryz.checked) (s:=OpenSpec.ofChange Rows.shrinkFirstSpec) own started (by kernel_rfl) Tryz.func5
  (witness_row_atRef (enc:=enc) (C:=Tryz.checked) B2 (CA os) #[.agg #[.int .i64 0,.int .i64 0,.int .i64 0,.int .i64 0,.slice B5 0 0,.int .i64 0,.int .i64 0,.int .i64 0,.slice B5 0 0],.agg #[.int .i64 0,.int .i64 0,.int .i64 0,.int .u64 0,.int .i64 0],.agg #[.slice B5 0 0,.slice B5 0 0]] rfl (by kernel_rfl) (by kernel_rfl) (by kernel_rfl)
   (OpenSpec.preRow_of_cond 8 e (by kernel_rfl) (λ k hk=>by cases hk) (by kernel_rfl) (D4 os))) ?_
 intro W base args ds gs before a c _ _ d b _ _;have hm:laidMet Tryz.prog Rows.shrinkFirstRow.laid W:=by
  unfold laidMetH at b;rw[show((Rows.shrinkFirstRow.laid.filter λ x=>x.2.handleName?.isSome)=[])from by kernel_rfl]at b;exact b
 refine q92 (s:=Rows.shrinkFirstSpec) laidOut read rfl (λ ds h=>?_) rfl Tryz.underlying4 c (contract a c hm d);rw[Tryz.params5]at h
 match ds,h with
 |[d0,d1,d2],_=>rfl
theorem said:Rows.ShrinkFirstSaid :=
 OpenClaim.holds_of_cond 5 Tryz.f5 rfl rfl rfl rfl rfl rfl rfl ⟨rfl,rfl,rfl,rfl,rfl⟩ rfl rfl rfl rfl rfl (by kernel_rfl) Tryz.func5 (by kernel_rfl)
  (of_decide_eq_true (by kernel_rfl)) (by unfold Func.isWrapper;first|(rw[xg (by decide +kernel)];kernel_rfl)|(rw[qv (by decide +kernel)];exact⟨rfl,rfl⟩))
  (λ os started H enc _ F=>by rw[OpenClaim.pre_eq_preRow];exact lifted os started H enc F)
theorem plain(f:FuncId)(fn:Func)(c:Tryz.pinned.checked.prog.funcNamed Rows.shrinkFirstRow.func=B1 f)(a:Tryz.pinned.checked.prog.funcs[f]? = B1 fn) :
 B2=Tryz.pinned.checked.prog.looks [] /\ ∀(j:Nat)t,fn.params[j]? = B1 t->Tryz.pinned.checked.prog.wantsStandIn t=false:=by
 obtain rfl:f=5:=CM ((show Tryz.prog.funcNamed Rows.shrinkFirstRow.func=B1 5 by kernel_rfl).symm.trans c) |>.symm;obtain rfl:fn=Tryz.f5:=(CM (Tryz.func5.symm.trans a)).symm;refine⟨by kernel_rfl,λ j t b=>?_⟩;have hm:t∈Tryz.f5.params.toList:=by rw[<-vf]at b;exact zd b
 rw[Tryz.params5]at hm;simp only[j7,LM,or_false]at hm;rcases hm with rfl|rfl|rfl<;>(show Tryz.pinned.checked.prog.wantsStandIn _=B2;kernel_rfl)
/-- THE CARD -/
theorem card:Rows.ShrinkFirstCardSaid :=
 Claim7.holds_tied_plain_at .later [] _ _ _ _ said (λ _ h=>by cases h) (by kernel_rfl) (λ _ h=>by cases h) shrinkFirst_row_tie rfl ⟨rfl,rfl⟩ (by kernel_rfl) rfl plain (by kernel_rfl)
end Go.Proofs.YtgjdmncoonceaaaGreatDoor.shrinkFirst
