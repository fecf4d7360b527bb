/- CoreFast: for every world that holds the listed variables as listed,and whatever the arguments read as,the law returns true and changes nothing that was there. No condition beyond the row's own. -/
import Derived.Test.YtbpnpfalldaocaaGreatDoorCards
import Derived.Test.YtbpnpfalldaocaaGreatDoorTie
import Derived.Test.YtbpnpfalldaocaaGreatDoorAmCZd
import Derived.Test.YtbpnpfalldaocaaGreatDoorAmCZe
import Derived.Test.YtbpnpfalldaocaaGreatDoorAmCZm
import Derived.Test.YtbpnpfalldaocaaGreatDoorCoreFastRun
import Derived.LaidMore
import Derived.Deep.DeepHandedRow
import Derived.Deep.DeepWitnessRowRef
open Bool renaming false→B2,true→B4
open Go renaming DataW→MC,MemPlace→AA,TypeId→IV,Value→Hm,World→J3
open Go.DataW renaming weights→As,weightsEach→Aj
open Go.Value renaming okWide→Ac
open List renaming replicate→Fh
open Option renaming none→B5,some→B1
open Option.some renaming inj→Aw
namespace Go.Proofs.YtbpnpfalldaocaaGreatDoor.coreFast
open Go.ChangeShapes Go.WideShapes Go.ChangeAt Go.RowKit Go.Am
set_option maxRecDepth 100000
theorem cU:dB Tryz.prog:=MF (by kernel_rfl) (by kernel_rfl)
theorem own:ownKnob Tryz.prog.godebug=none:=by kernel_rfl
theorem laidOut:laidOutB Tryz.prog=true:=by kernel_rfl
theorem read:∀t∈Tryz.f3.params.toList,Tryz.prog.readableRec t=B4/\t<Tryz.prog.types.size:=by
 rw[Tryz.params3];intro t a;simp only[j8,List.mem_nil_iff,or_false]at a;rcases a with rfl|rfl|rfl<;>exact⟨by kernel_rfl,by decide +kernel⟩
theorem MN:sW Rows.coreFastRow.laid=true:=by kernel_rfl
theorem sP:iv n0 pR=true:=by decide +kernel
theorem yN:dZ (kn pR n0) pR=true:=by decide +kernel
theorem Iu:qG Tryz.prog pR n0 ⟨6,[],.bool B4⟩:=xaq cU (Md ..) sP (L:=[]) (λ e h=>by cases h) rfl run
theorem Ui:∀e∈[(⟨6,[],.bool B4⟩:eV)],Cf 0 e.args=B4/\qG Tryz.prog pR n0 e:=λ e h=>by
 rcases z4.1 h with rfl
 exact⟨rfl,Iu⟩
noncomputable abbrev oS:ak:=ak.tell Tryz.prog pR [⟨6,[],.bool B4⟩]
instance:MK oS:=⟨λ _ hn=>ak.u3 hn,λ _ _=>rfl⟩
noncomputable def Wl:Array Field:=match Tryz.prog.underlying 81 with|some (.struct fs)=>fs|_=>#[]
theorem uC:Tryz.prog.underlying 22=B1 (.slice 81):=by kernel_rfl
theorem uI:Tryz.prog.underlying 81=B1 (.struct Wl):=by kernel_rfl
theorem uN:Tryz.prog.underlying 3=B1 (.int .i64):=by kernel_rfl
theorem cI:Tryz.prog.cellsOf 81=5:=by kernel_rfl
theorem tI:Wl.toList.map (·.type)=[3,3,3,3,3]:=by kernel_rfl
theorem inW:vK Tryz.prog 22 λ H l=>∃u,l=[u]/\ZT Tryz.prog 81 (Cy (Fh 5 λ _ l=>tL .i64 l)) (Tryz.prog.cellsOf 81) H u :=
 xg4 uC (Hl (n:=5) uI tI uN (by kernel_rfl) (by kernel_rfl)) (by rw[cI];decide)
theorem sh0:(kn pR n0).bM kc=B1 tt:=by kernel_rfl
theorem sl0:kc<(kn pR n0).au:=by decide +kernel
theorem TY:tO (kn pR n0):=⟨sh0,sl0⟩
theorem contract{H:Type}{enc:IV×Hm->H}{W:J3}{base:Nat}{args:Array Hm}{ds gs:List (MC H)}{before:List AA}{apart:Bool}
 (g:∀(j:Nat)t v,Tryz.f3.params[j]? = B1 t->args[j]? = B1 v->Ac Tryz.prog W .any base t v) (J:MC.Whole enc Tryz.prog Tryz.f3.params.toList Rows.coreFastSpec.vars apart W args.toList ds gs before)
 (hm:laidMet Tryz.prog Rows.coreFastRow.laid W) {ts:List IV} (B:(Aj Tryz.prog (Tryz.f3.params.toList++ts) (ds++gs)).all (·<=reachBytes)=B4):Calls Tryz.prog 3 args W λ e w'=>e=.returned (.bool B4)/\Below W.heap.size W w':=by
 obtain⟨p,q,k,_,_,_,_⟩:=J;rw[Tryz.params3]at k g B;obtain⟨v,V,d,D,T,q1,fuel,hl,rfl,C,k⟩:=UK k;obtain⟨v2,X,d2,E,Z,q2,s,rfl,rfl,N,k⟩:=UK k;obtain⟨U,Y,d3,F,p3,q3,w,rfl,rfl,O,k⟩:=UK k;obtain⟨rfl,rfl⟩:=ae5 k;have P:Ac Tryz.prog W .any base 22 v:=g 0 22 v rfl (by rw[<-kz,hl];rfl);obtain⟨n2,rfl,K⟩:=Wp uN (g 1 3 v2 rfl (by rw[<-kz,hl];rfl));obtain⟨S,rfl,L⟩:=Wp uN (g 2 3 U rfl (by rw[<-kz,hl];rfl));rw[qyv uC P]at C;have hw:∀x,x∈As Tryz.prog 22 d->x<=reachBytes:=λ x R=>by
  have I:=EZ.1 B x (by simp only[Gh,Aj,zr];exact .inl R)
  simpa using I
 obtain⟨θL,hg,o⟩:=F7 (tp:=0) MN hm;obtain⟨θ,n,G,l,i,A,u,rfl,hs,_⟩:=inW.2 enc W B4 fuel _ d T C hw θL n0 pR o;rw[cI]at hs;obtain⟨code,z,_⟩:=Gi (enc:=fX) (Q:=λ _=>True) (λ l h=>by
  obtain⟨_,_,rfl,⟨a,rfl,_⟩,_,_,rfl,⟨b,rfl,_⟩,_,_,rfl,⟨c,rfl,_⟩,_,_,rfl,⟨d,rfl,_⟩,_,_,rfl,⟨e,rfl,_⟩,rfl⟩:=h;exact⟨⟨a,b,c,d,e⟩,rfl,trivial⟩) hs
 obtain⟨c,cs',m,y,_⟩:=A.dR;injection m with m _
 subst m;have r:∀H1,Fr Em (kn G n) H1->dZ H1 pR=true:=λ H1 f =>
  Zo (n:=n0) (H:=kn pR n0) sP (λ b hb=>by rw[f.ah b (qj hb i.le) id];exact i.ah b hb) yN
 refine xF cU (n0:=n0) (Md ..) sP Ui (_z (Md ..) hg i) ?_ (j_ (M:=oS) (l:=n2) (st:=S) (λ H1 f=>xe7 (r H1 f)) (TY.em i.fr) z);rw[hl];exact .cons y (.cons (λ _ _=>rfl) (.one λ _ _=>rfl))
/-- a world for the witness -/
noncomputable def wT(os:Os):World:=Tn Tryz.prog (J3.doorLaid Tryz.prog 32 os) Rows.coreFastRow.laid
theorem ag2(os:Os):laidMetH Tryz.prog Rows.coreFastRow.laid ((wT os).forCall (λ _ _=>0) ⟨#[],#[.slice B5 0 0,.int .i64 0,.int .i64 0],[]⟩).memory :=
 laidMet_of_run' 8 (by kernel_rfl) (by kernel_rfl)
theorem reads(os:Os){H:Type}(enc:IV×Hm->H):∃places,MC.whole enc Tryz.prog ((wT os).forCall (λ _ _=>0) ⟨#[],#[.slice B5 0 0,.int .i64 0,.int .i64 0],[]⟩).memory Tryz.f3.params.toList Rows.coreFastSpec.vars B2 (#[.slice B5 0 0,.int .i64 0,.int .i64 0]:Array Hm).toList 8=B1 ([.nil,.lit (.int .i64 0),.lit (.int .i64 0)],[],places) :=
 ⟨[],by kernel_rfl⟩
theorem lifted(os:Os)(started:os.Started)(H:Type)(enc:IV×Hm->H)(F:Stop.Interp) :
 ReturnsInHanded {} Tryz.checked os 3 .any ((OpenSpec.ofChange Rows.coreFastSpec).preRow enc Tryz.prog Tryz.f3 Rows.coreFastRow.domain B2 Rows.coreFastRow.laid) (((OpenSpec.ofChange Rows.coreFastSpec).at F).post enc Tryz.prog Tryz.f3 B2 B4 B2 B2):=by
 obtain⟨places,e⟩:=reads os enc;refine returnsInHanded_of_row (C:=Tryz.checked) (s:=OpenSpec.ofChange Rows.coreFastSpec) own started (by kernel_rfl) Tryz.func3
  (witness_row_atRef (enc:=enc) (C:=Tryz.checked) B2 (wT os) #[.slice B5 0 0,.int .i64 0,.int .i64 0] rfl (by kernel_rfl) (by kernel_rfl) (by kernel_rfl)
   (OpenSpec.preRow_of_cond 8 e (by kernel_rfl) (λ k hk=>by cases hk) (by kernel_rfl) (ag2 os))) ?_
 intro W base args ds gs before a c _ _ d b _ _;have hm:laidMet Tryz.prog Rows.coreFastRow.laid W:=by
  unfold laidMetH at b;rw[show((Rows.coreFastRow.laid.filter λ x=>x.2.handleName?.isSome)=[])from by kernel_rfl]at b;exact b
 refine q5t (s:=Rows.coreFastSpec) laidOut read rfl (λ ds h=>?_) rfl Tryz.underlying4 c (contract a c hm d);rw[Tryz.params3]at h
 match ds,h with
 |[d0,d1,d2],_=>rfl
theorem said:Rows.CoreFastSaid :=
 OpenClaim.holds_of_cond 3 Tryz.f3 rfl rfl rfl rfl rfl rfl rfl ⟨rfl,rfl,rfl,rfl,rfl⟩ rfl rfl rfl rfl rfl (by kernel_rfl) Tryz.func3 (by kernel_rfl)
  (of_decide_eq_true (by kernel_rfl)) (by unfold Func.isWrapper;first|(rw[qv (by decide +kernel)];kernel_rfl)|(rw[qn (by decide +kernel)];exact⟨rfl,rfl⟩))
  (λ os started H enc _ F=>by rw[OpenClaim.pre_eq_preRow];exact lifted os started H enc F)
theorem plain(f:FuncId)(fn:Func)(c:Tryz.pinned.checked.prog.funcNamed Rows.coreFastRow.func=B1 f)(a:Tryz.pinned.checked.prog.funcs[f]? = B1 fn) :
 B2=Tryz.pinned.checked.prog.looks [] /\ ∀(j:Nat)t,fn.params[j]? = B1 t->Tryz.pinned.checked.prog.wantsStandIn t=false:=by
 obtain rfl:f=3:=Aw ((show Tryz.prog.funcNamed Rows.coreFastRow.func=B1 3 by kernel_rfl).symm.trans c) |>.symm;obtain rfl:fn=Tryz.f3:=(Aw (Tryz.func3.symm.trans a)).symm;refine⟨by kernel_rfl,λ j t b=>?_⟩;have hm:t∈Tryz.f3.params.toList:=by rw[<-kz]at b;exact xl b
 rw[Tryz.params3]at hm;simp only[j8,List.mem_nil_iff,or_false]at hm;rcases hm with rfl|rfl|rfl<;>(show Tryz.pinned.checked.prog.wantsStandIn _=B2;kernel_rfl)
/-- THE CARD -/
theorem card:Rows.CoreFastCardSaid :=
 Claim7.holds_tied_plain_at .later [] _ _ _ _ said (λ _ h=>by cases h) (by kernel_rfl) (λ _ h=>by cases h) coreFast_row_tie rfl ⟨rfl,rfl⟩ (by kernel_rfl) rfl plain (by kernel_rfl)
end Go.Proofs.YtbpnpfalldaocaaGreatDoor.coreFast
