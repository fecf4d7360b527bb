/- ShrinkTells: for every world that holds the listed variables as listed,and whatever the arguments read as,the law returns true and changes nothing that was there. No condition beyond the row's own. -/
import Derived.Test.YtgjdmncoonceaaaGreatDoorCards
import Derived.Test.YtgjdmncoonceaaaGreatDoorTie
import Derived.Test.YtgjdmncoonceaaaGreatDoorAmTZd
import Derived.Test.YtgjdmncoonceaaaGreatDoorAmTZe
import Derived.Test.YtgjdmncoonceaaaGreatDoorAmTZo
import Derived.LaidMore
import Derived.Deep.DeepHandedRow
import Derived.Deep.DeepWitnessRowRef
open Bool renaming false→B2,true→B4
open Go renaming DataW→Ph,MemPlace→BE,TypeId→Lx,Value→K1,World→N6
open Go.DataW renaming trod→Nd,weights→Bm,weightsEach→CA
open Go.Value renaming okWide→BQ
open List renaming replicate→Ji
open Option renaming none→B5,some→B1
open Option.some renaming inj→CM
namespace Go.Proofs.YtgjdmncoonceaaaGreatDoor.shrinkTells
open Go.ChangeShapes Go.WideShapes Go.ChangeAt Go.RowKit Go.Am
set_option maxRecDepth 100000
theorem du:d9 Tryz.prog:=Px (by kernel_rfl) (by kernel_rfl)
theorem own:ownKnob Tryz.prog.godebug=none:=by kernel_rfl
theorem laidOut:laidOutB Tryz.prog=true:=by kernel_rfl
theorem read:∀t∈Tryz.f3.params.toList,Tryz.prog.readableRec t=B4/\t<Tryz.prog.types.size:=by
 rw[Tryz.params3];intro t a;simp only[kw,MO,or_false]at a;rcases a with rfl|rfl|rfl<;>exact⟨by kernel_rfl,by decide +kernel⟩
noncomputable abbrev Nc:=rowsOf Tryz.prog 0 Tryz.prog.globals.size Rows.shrinkTellsRow.laid
noncomputable abbrev n0:=Tryz.prog.globals.size+Rows.shrinkTellsRow.laid.length
theorem Qg:xE Rows.shrinkTellsRow.laid=true:=by kernel_rfl
noncomputable abbrev mac:ak:=ak.plain Tryz.prog
instance:MK mac:=⟨λ _ _=>rfl,λ _ _=>rfl⟩
noncomputable def maF:Array Field:=match Tryz.prog.underlying 29 with|some (.struct fs)=>fs|_=>#[]
noncomputable def seF:Array Field:=match Tryz.prog.underlying 23 with|some (.struct fs)=>fs|_=>#[]
noncomputable def buF:Array Field:=match Tryz.prog.underlying 26 with|some (.struct fs)=>fs|_=>#[]
noncomputable def _z:Array Field:=match Tryz.prog.underlying 46 with|some (.struct fs)=>fs|_=>#[]
theorem uM:Tryz.prog.underlying 29=B1 (.struct maF):=by kernel_rfl
theorem uS:Tryz.prog.underlying 23=B1 (.struct seF):=by kernel_rfl
theorem uB:Tryz.prog.underlying 26=B1 (.struct buF):=by kernel_rfl
theorem uA:Tryz.prog.underlying 46=B1 (.struct _z):=by kernel_rfl
theorem uC:Tryz.prog.underlying 56=B1 (.slice 5):=by kernel_rfl
theorem uY:Tryz.prog.underlying 5=B1 (.int .u8):=by kernel_rfl
theorem uN:Tryz.prog.underlying 3=B1 (.int .i64):=by kernel_rfl
theorem uQ:Tryz.prog.underlying 30=B1 (.slice 46):=by kernel_rfl
theorem tM:maF.toList.map (·.type)=[23,24,26,27]:=by kernel_rfl
theorem tS:seF.toList.map (·.type)=[3,3,3,3]:=by kernel_rfl
theorem tB:buF.toList.map (·.type)=[3,3,3]:=by kernel_rfl
theorem tA:_z.toList.map (·.type)=[3,3,3]:=by kernel_rfl
theorem bY:0<Tryz.prog.bytesOf 5:=by decide +kernel
theorem bC:0<Tryz.prog.bytesOf 56:=by decide +kernel
theorem stW:qJ Tryz.prog 29 kF :=
 xmy (tK:=24) (tC:=56) (tY:=5) (tF:=27) (tL:=61) (tU:=31) uM tM uS tS (by kernel_rfl) uC uY uB tB (by kernel_rfl) (by kernel_rfl) (by kernel_rfl) uN (by kernel_rfl) (by kernel_rfl) bY bC (by kernel_rfl) (by kernel_rfl) (by kernel_rfl) (by kernel_rfl) (by kernel_rfl) (by kernel_rfl) (by kernel_rfl) (by kernel_rfl)
theorem acW:qJ Tryz.prog 30 λ H l=>∃u,l=[u] /\ ∃ls:List Am.Act,bI Am.Act.enc 3 H u ls:=Da uQ uA tA uN (by kernel_rfl) (by kernel_rfl) (by kernel_rfl)
theorem sh0:(sC Nc n0).bX yt=B1 xO:=by kernel_rfl
theorem sl0:yt<(sC Nc n0).au:=by decide +kernel
theorem YM:oJ (sC Nc n0):=⟨sh0,sl0⟩
noncomputable def waF:Array Field:=match Tryz.prog.underlying 33 with|some (.struct fs)=>fs|_=>#[]
theorem uW:Tryz.prog.underlying 33=B1 (.struct waF):=by kernel_rfl
theorem tW:waF.toList.map (·.type)=[3,3,3,31,3]:=by kernel_rfl
theorem wnW:qJ Tryz.prog 33 Bi:=HM uW tW uN (by kernel_rfl) (by kernel_rfl) (by kernel_rfl)
theorem contract{H:Type}{enc:Lx×K1->H}{W:N6}{base:Nat}{args:Array K1}{ds gs:List (Ph H)}{before:List BE}{apart:Bool}
 (a:∀(j:Nat)t v,Tryz.f3.params[j]? = B1 t->args[j]? = B1 v->BQ Tryz.prog W .any base t v) (X:Ph.Whole enc Tryz.prog Tryz.f3.params.toList Rows.shrinkTellsSpec.vars apart W args.toList ds gs before)
 (hm:laidMet Tryz.prog Rows.shrinkTellsRow.laid W) {ts:List Lx} (O:(CA Tryz.prog (Tryz.f3.params.toList++ts) (ds++gs)).all (·<=reachBytes)=B4):Calls Tryz.prog 3 args W λ e w'=>e=.returned (.bool B4)/\Below W.heap.size W w':=by
 obtain⟨p,q,i,_,_,_,_⟩:=X;rw[Tryz.params3]at i a O;obtain⟨v,vs1,d,S,P,q1,fuel,hl,rfl,J,i⟩:=Yz i;obtain⟨v2,vs2,d2,T,Z,q2,k,rfl,rfl,z,i⟩:=Yz i;obtain⟨R,vs3,d3,U,Q,q3,g,rfl,rfl,r,i⟩:=Yz i;obtain⟨rfl,rfl⟩:=ag2 i;have Y:BQ Tryz.prog W .any base 29 v:=a 0 29 v rfl (by rw[<-vh,hl];rfl);have K:BQ Tryz.prog W .any base 30 v2:=a 1 30 v2 rfl (by rw[<-vh,hl];rfl);have L:BQ Tryz.prog W .any base 33 R:=a 2 33 R rfl (by rw[<-vh,hl];rfl);obtain⟨cs,rfl⟩:=xkk (.inl ⟨_,uM⟩) Y;obtain⟨D,rfl⟩:=xkk (.inl ⟨_,uW⟩) L;have r:Nd enc Tryz.prog W 0 (λ _=>B4) B4 g 33 D.toList=B1 (d3,Q):=r;have J:Nd enc Tryz.prog W 0 (λ _=>B4) B4 fuel 29 cs.toList=B1 (d,P):=J;rw[q3p uQ K]at z;have hw:∀x,x∈Bm Tryz.prog 29 d\/x∈Bm Tryz.prog 30 d2\/x∈Bm Tryz.prog 33 d3->x<=reachBytes:=λ x s=>by
  have V:=Gn.1 O x (by simp only[Jo,CA,jm];exact s.elim .inl λ q=>.inr (q.elim .inl λ q=>.inr (.inl q)))
  simpa using V
 obtain⟨θL,hg,o⟩:=JB (tp:=0) Qg hm;obtain⟨θ1,n1,E,l,dp,N,I⟩:=stW.2 enc W B4 fuel _ d P J (λ x s=>hw x (.inl s)) θL n0 Nc o;obtain⟨θ2,n2,F,l2,C,A,u,rfl,ls,hs⟩:=acW.2 enc W B4 k _ d2 Z z (λ x s=>hw x (.inr (.inl s))) θ1 n1 E dp.du;obtain⟨θ,n,gl,l3,h,B,y,rfl⟩:=wnW.2 enc W B4 g _ d3 Q r (λ x s=>hw x (.inr (.inr s))) θ2 n2 F C.du;obtain⟨c,cs',m,G,_⟩:=A.eI;injection m with m _
 subst m;have f:=C.trans h;have w:=dp.trans f;refine xl2 du (xik (Nat.le_add_right ..) hg w) ?_ (q27 (M:=mac) (y:=y) (YM.em w.fr) (I.em f.fr) (Sl.em hs h.fr));rw[hl];exact .cons (VR.agg (N.up f.ag λ b hb=>qn hb f.le)) (.cons (G.up h.ag λ b hb=>qn hb h.le) (.one (VR.agg B)))
/-- a world for the witness -/
noncomputable def Bp(os:Os):World:=ZU Tryz.prog (N6.doorLaid Tryz.prog 32 os) Rows.shrinkTellsRow.laid
theorem Ff(os:Os):laidMetH Tryz.prog Rows.shrinkTellsRow.laid ((Bp os).forCall (λ _ _=>0) ⟨#[],#[.agg #[.int .i64 0,.int .i64 0,.int .i64 0,.int .i64 0,.slice B5 0 0,.int .i64 0,.int .i64 0,.int .i64 0,.slice B5 0 0],.slice B5 0 0,.agg #[.int .i64 0,.int .i64 0,.int .i64 0,.int .u64 0,.int .i64 0]],[]⟩).memory :=
 laidMet_of_run' 8 (by kernel_rfl) (by kernel_rfl)
theorem reads(os:Os){H:Type}(enc:Lx×K1->H):∃places,Ph.whole enc Tryz.prog ((Bp os).forCall (λ _ _=>0) ⟨#[],#[.agg #[.int .i64 0,.int .i64 0,.int .i64 0,.int .i64 0,.slice B5 0 0,.int .i64 0,.int .i64 0,.int .i64 0,.slice B5 0 0],.slice B5 0 0,.agg #[.int .i64 0,.int .i64 0,.int .i64 0,.int .u64 0,.int .i64 0]],[]⟩).memory Tryz.f3.params.toList Rows.shrinkTellsSpec.vars B2 (#[.agg #[.int .i64 0,.int .i64 0,.int .i64 0,.int .i64 0,.slice B5 0 0,.int .i64 0,.int .i64 0,.int .i64 0,.slice B5 0 0],.slice B5 0 0,.agg #[.int .i64 0,.int .i64 0,.int .i64 0,.int .u64 0,.int .i64 0]]:Array K1).toList 8=B1 ([.agg [.agg (Ji 4 (.lit (.int .i64 0))),.nil,.agg (Ji 3 (.lit (.int .i64 0))),.nil],.nil,.agg [.lit (.int .i64 0),.lit (.int .i64 0),.lit (.int .i64 0),.lit (.int .u64 0),.lit (.int .i64 0)]],[],places) :=
 ⟨[],by kernel_rfl⟩
theorem lifted(os:Os)(started:os.Started)(H:Type)(enc:Lx×K1->H)(F:Stop.Interp) :
 ReturnsInHanded {} Tryz.checked os 3 .any ((OpenSpec.ofChange Rows.shrinkTellsSpec).preRow enc Tryz.prog Tryz.f3 Rows.shrinkTellsRow.domain B2 Rows.shrinkTellsRow.laid) (((OpenSpec.ofChange Rows.shrinkTellsSpec).at F).post enc Tryz.prog Tryz.f3 B2 B4 B2 B2):=by
 obtain⟨places,e⟩:=reads os enc;refine returnsInHanded_of_row (C:=Tryz.checked) (s:=OpenSpec.ofChange Rows.shrinkTellsSpec) own started (by kernel_rfl) Tryz.func3
  (witness_row_atRef (enc:=enc) (C:=Tryz.checked) B2 (Bp os) #[.agg #[.int .i64 0,.int .i64 0,.int .i64 0,.int .i64 0,.slice B5 0 0,.int .i64 0,.int .i64 0,.int .i64 0,.slice B5 0 0],.slice B5 0 0,.agg #[.int .i64 0,.int .i64 0,.int .i64 0,.int .u64 0,.int .i64 0]] rfl (by kernel_rfl) (by kernel_rfl) (by kernel_rfl)
   (OpenSpec.preRow_of_cond 8 e (by kernel_rfl) (λ k hk=>by cases hk) (by kernel_rfl) (Ff os))) ?_
 intro W base args ds gs before a c _ _ d b _ _;have hm:laidMet Tryz.prog Rows.shrinkTellsRow.laid W:=by
  unfold laidMetH at b;rw[show((Rows.shrinkTellsRow.laid.filter λ x=>x.2.handleName?.isSome)=[])from by kernel_rfl]at b;exact b
 refine xap (s:=Rows.shrinkTellsSpec) laidOut read rfl (λ ds h=>?_) rfl Tryz.underlying4 c (contract a c hm d);rw[Tryz.params3]at h
 match ds,h with
 |[d0,d1,d2],_=>rfl
theorem said:Rows.ShrinkTellsSaid :=
 OpenClaim.holds_of_cond 3 Tryz.f3 rfl rfl rfl rfl rfl rfl rfl ⟨rfl,rfl,rfl,rfl,rfl⟩ rfl rfl rfl rfl rfl (by kernel_rfl) Tryz.func3 (by kernel_rfl)
  (of_decide_eq_true (by kernel_rfl)) (by unfold Func.isWrapper;first|(rw[xg (by decide +kernel)];kernel_rfl)|(rw[qy (by decide +kernel)];exact⟨rfl,rfl⟩))
  (λ os started H enc _ F=>by rw[OpenClaim.pre_eq_preRow];exact lifted os started H enc F)
theorem plain(f:FuncId)(fn:Func)(c:Tryz.pinned.checked.prog.funcNamed Rows.shrinkTellsRow.func=B1 f)(a:Tryz.pinned.checked.prog.funcs[f]? = B1 fn) :
 B2=Tryz.pinned.checked.prog.looks [] /\ ∀(j:Nat)t,fn.params[j]? = B1 t->Tryz.pinned.checked.prog.wantsStandIn t=false:=by
 obtain rfl:f=3:=CM ((show Tryz.prog.funcNamed Rows.shrinkTellsRow.func=B1 3 by kernel_rfl).symm.trans c) |>.symm;obtain rfl:fn=Tryz.f3:=(CM (Tryz.func3.symm.trans a)).symm;refine⟨by kernel_rfl,λ j t b=>?_⟩;have hm:t∈Tryz.f3.params.toList:=by rw[<-vh]at b;exact zd b
 rw[Tryz.params3]at hm;simp only[kw,MO,or_false]at hm;rcases hm with rfl|rfl|rfl<;>(show Tryz.pinned.checked.prog.wantsStandIn _=B2;kernel_rfl)
/-- THE CARD -/
theorem card:Rows.ShrinkTellsCardSaid :=
 Claim7.holds_tied_plain_at .later [] _ _ _ _ said (λ _ h=>by cases h) (by kernel_rfl) (λ _ h=>by cases h) shrinkTells_row_tie rfl ⟨rfl,rfl⟩ (by kernel_rfl) rfl plain (by kernel_rfl)
end Go.Proofs.YtgjdmncoonceaaaGreatDoor.shrinkTells
