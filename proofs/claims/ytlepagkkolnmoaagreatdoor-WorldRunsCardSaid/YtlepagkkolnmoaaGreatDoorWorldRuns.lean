/- WorldRuns: for every world that holds the listed variables as listed,and whatever the arguments read as,the law returns true and changes nothing that was there. No condition beyond the row's own. -/
import Derived.Test.YtlepagkkolnmoaaGreatDoorCards
import Derived.Test.YtlepagkkolnmoaaGreatDoorTie
import Derived.Test.YtlepagkkolnmoaaGreatDoorAmVZd
import Derived.Test.YtlepagkkolnmoaaGreatDoorAmVZe
import Derived.Test.YtlepagkkolnmoaaGreatDoorAmVZo
import Derived.Test.YtlepagkkolnmoaaGreatDoorWorldRunsRun
import Derived.LaidMore
import Derived.Deep.DeepHandedRow
import Derived.Deep.DeepWitnessRowRef
open Bool renaming false→B2,true→B4
open Go renaming DataW→Ry,MemPlace→B7,TypeId→LP,Value→K8,World→NJ
open Go.DataW renaming trod→Om,weights→Bf,weightsEach→Bo
open Go.Value renaming okWide→BO
open List renaming replicate→Jv
open Option renaming none→B5,some→B1
namespace Go.Proofs.YtlepagkkolnmoaaGreatDoor.worldRuns
open Go.ChangeShapes Go.WideShapes Go.ChangeAt Go.RowKit Go.Am
set_option maxRecDepth 100000
theorem de:dY Tryz.prog:=Qv (by kernel_rfl) (by kernel_rfl)
theorem own:ownKnob Tryz.prog.godebug=none:=by kernel_rfl
theorem laidOut:laidOutB Tryz.prog=true:=by kernel_rfl
theorem read:∀t∈Tryz.f3.params.toList,Tryz.prog.readableRec t=B4/\t<Tryz.prog.types.size:=by
 rw[Tryz.params3];intro t a;simp only[jj,OC,or_false]at a;rcases a with rfl|rfl|rfl<;>exact⟨by kernel_rfl,by decide +kernel⟩
theorem P2:wZ Rows.worldRunsRow.laid=true:=by kernel_rfl
theorem wG:jM n0 si=true:=by decide +kernel
theorem Dn:eQ (vm si n0) si=true:=by decide +kernel
theorem Lc:sK Tryz.prog si n0 ⟨5,[],.bool B4⟩:=xf6 de (Nd ..) wG (L:=[]) (λ e h=>by cases h) rfl run
theorem VS:∀e∈[(⟨5,[],.bool B4⟩:fK)],CF 0 e.args=B4/\sK Tryz.prog si n0 e:=λ e h=>by
 rcases jz.1 h with rfl
 exact⟨rfl,Lc⟩
noncomputable abbrev Ω:ao:=ao.tell Tryz.prog si [⟨5,[],.bool B4⟩]
instance:MK Ω:=⟨λ _ hn=>ao.Ai hn,λ _ _=>rfl⟩
noncomputable def maF:Array Field:=match Tryz.prog.underlying 29 with|some (.struct fs)=>fs|_=>#[]
noncomputable def _7:Array Field:=match Tryz.prog.underlying 23 with|some (.struct fs)=>fs|_=>#[]
noncomputable def _M:Array Field:=match Tryz.prog.underlying 26 with|some (.struct fs)=>fs|_=>#[]
theorem uM:Tryz.prog.underlying 29=B1 (.struct maF):=by kernel_rfl
theorem uS:Tryz.prog.underlying 23=B1 (.struct _7):=by kernel_rfl
theorem uB:Tryz.prog.underlying 26=B1 (.struct _M):=by kernel_rfl
theorem uC:Tryz.prog.underlying 30=B1 (.slice 5):=by kernel_rfl
theorem uY:Tryz.prog.underlying 5=B1 (.int .u8):=by kernel_rfl
theorem uN:Tryz.prog.underlying 3=B1 (.int .i64):=by kernel_rfl
theorem tM:maF.toList.map (·.type)=[23,24,26,27]:=by kernel_rfl
theorem tS:_7.toList.map (·.type)=[3,3,3,3]:=by kernel_rfl
theorem tB:_M.toList.map (·.type)=[3,3,3]:=by kernel_rfl
theorem stW:t9 Tryz.prog 29 xS :=
 xmz (tK:=24) (tC:=30) (tY:=5) (tF:=27) (tL:=43) (tU:=41) uM tM uS tS (by kernel_rfl) uC uY uB tB (by kernel_rfl) (by kernel_rfl) (by kernel_rfl) uN (by kernel_rfl) (by kernel_rfl) (by kernel_rfl) (by kernel_rfl) (by kernel_rfl) (by kernel_rfl) (by kernel_rfl) (by kernel_rfl) (by kernel_rfl) (by kernel_rfl)
theorem κ:t9 Tryz.prog 30 λ H l=>∃u,l=[u] /\ ∃bs:List Int,bM bZ 1 H u bs/\Bytes bs/\tg H u:=kx uC uY (by kernel_rfl)
theorem sh0:(vm si n0).bQ jq=B1 wW:=by kernel_rfl
theorem sl0:jq<(vm si n0).au:=by decide +kernel
theorem ZH:pQ (vm si n0):=⟨sh0,sl0⟩
theorem contract{H:Type}{enc:LP×K8->H}{W:NJ}{base:Nat}{args:Array K8}{ds gs:List (Ry H)}{before:List B7}{apart:Bool}
 (g:∀(j:Nat)t v,Tryz.f3.params[j]? = B1 t->args[j]? = B1 v->BO Tryz.prog W .any base t v) (hW:Ry.Whole enc Tryz.prog Tryz.f3.params.toList Rows.worldRunsSpec.vars apart W args.toList ds gs before)
 (hm:laidMet Tryz.prog Rows.worldRunsRow.laid W) {ts:List LP} (Z:(Bo Tryz.prog (Tryz.f3.params.toList++ts) (ds++gs)).all (·<=reachBytes)=B4):Calls Tryz.prog 3 args W λ e w'=>e=.returned (.bool B4)/\Below W.heap.size W w':=by
 obtain⟨p,q,o,_,_,_,_⟩:=hW;rw[Tryz.params3]at o g Z;obtain⟨v,vs1,d,ds1,p1,q1,fuel,hl,rfl,U,o⟩:=VG o;obtain⟨v2,vs2,d2,ds2,p2,q2,r,rfl,rfl,G,o⟩:=VG o;obtain⟨v3,vs3,d3,ds3,p3,q3,w,rfl,rfl,I,o⟩:=VG o;obtain⟨rfl,rfl⟩:=ag3 o;have hv:BO Tryz.prog W .any base 29 v:=g 0 29 v rfl (by rw[<-kh,hl];rfl);have V:BO Tryz.prog W .any base 30 v2:=g 1 30 v2 rfl (by rw[<-kh,hl];rfl);obtain⟨cs,rfl⟩:=IB (.inl ⟨_,uM⟩) hv;have U:Om enc Tryz.prog W 0 (λ _=>B4) B4 fuel 29 cs.toList=B1 (d,p1):=U;rw[yc uC V]at G;have X:BO Tryz.prog W .any base 30 v3:=g 2 30 v3 rfl (by rw[<-kh,hl];rfl);rw[yc uC X]at I;have hw:∀x,x∈Bf Tryz.prog 29 d\/x∈Bf Tryz.prog 30 d2\/x∈Bf Tryz.prog 30 d3->x<=reachBytes:=λ x C=>by
  have h1:=B6.1 Z x (by simp only[vx,Bo,zt];exact C.elim .inl λ q=>.inr (q.elim .inl λ q=>.inr (.inl q)))
  simpa using h1
 obtain⟨θL,hg,z⟩:=Kd (tp:=0) P2 hm;obtain⟨θ1,n1,L,l,cZ,Y,ln,co,se,wa,f,so,sf,pv,fv,ps,fs,rfl,hP,A,hF,R,Q⟩:=stW.2 enc W B4 fuel _ d p1 U (λ x C=>hw x (.inl C)) θL n0 si z;obtain⟨θ2,n2,N,l2,k,J,u,rfl,bs,hs,O,T⟩:=κ.2 enc W B4 r _ d2 p2 G (λ x C=>hw x (.inr (.inl C))) θ1 n1 L cZ.de;obtain⟨θ,n,gl,l3,a,K,u3,rfl,bs3,S,D,F⟩:=κ.2 enc W B4 w _ d3 p3 I (λ x C=>hw x (.inr (.inr C))) θ2 n2 N k.de;obtain⟨c,cs',y,P,_⟩:=(J.up a.ag λ b hb=>qn hb a.le).d9;injection y with y _
 subst y;obtain⟨c3,cs3,i,E,_⟩:=K.d9;injection i with i _
 subst i;have m:=(cZ.trans k).trans a;have h:=k.fr.em a.fr;have B:∀H1,Fr Em (vm gl n) H1->eQ H1 si=true:=λ H1 f =>
  q79 (n:=n0) (H:=vm si n0) wG (λ b hb=>by rw[f.ai b (qn hb m.le) id];exact m.ai b hb) Dn
 refine ac9 de (n0:=n0) (Nd ..) wG VS (xip (Nd ..) hg m) ?_ (q86 (M:=Ω) (l:=ln) (c:=co) (s:=se) (wy:=wa) (f:=f) (so:=so) (sf:=sf) (λ H1 f=>xk0 (B H1 f)) (ZH.em m.fr) (hP.em h) (λ p q=>⟨(A p q).1.em h,(A p q).2.1,(A p q).2.2.em h.au⟩) (hF.em h) R (Q.em h.au) (hs.em a.fr) O (T.em a.fr.au) S D F);rw[hl];exact .cons (VR.agg ((Y.up k.ag λ b hb=>qn hb k.le).up a.ag λ b hb=>qn hb a.le)) (.cons P (.one E))
/-- a world for the witness -/
noncomputable def DR(os:Os):World:=Vn Tryz.prog (NJ.doorLaid Tryz.prog 32 os) Rows.worldRunsRow.laid
theorem ad3(os:Os):laidMetH Tryz.prog Rows.worldRunsRow.laid ((DR os).forCall (λ _ _=>0) ⟨#[],#[.agg #[.int .i64 0,.int .i64 0,.int .i64 0,.int .i64 0,.slice B5 0 0,.int .i64 0,.int .i64 0,.int .i64 0,.slice B5 0 0],.slice B5 0 0,.slice B5 0 0],[]⟩).memory :=
 laidMet_of_run' 8 (by kernel_rfl) (by kernel_rfl)
theorem reads(os:Os){H:Type}(enc:LP×K8->H):∃places,Ry.whole enc Tryz.prog ((DR os).forCall (λ _ _=>0) ⟨#[],#[.agg #[.int .i64 0,.int .i64 0,.int .i64 0,.int .i64 0,.slice B5 0 0,.int .i64 0,.int .i64 0,.int .i64 0,.slice B5 0 0],.slice B5 0 0,.slice B5 0 0],[]⟩).memory Tryz.f3.params.toList Rows.worldRunsSpec.vars B2 (#[.agg #[.int .i64 0,.int .i64 0,.int .i64 0,.int .i64 0,.slice B5 0 0,.int .i64 0,.int .i64 0,.int .i64 0,.slice B5 0 0],.slice B5 0 0,.slice B5 0 0]:Array K8).toList 8=B1 ([.agg [.agg (Jv 4 (.lit (.int .i64 0))),.nil,.agg (Jv 3 (.lit (.int .i64 0))),.nil],.nil,.nil],[],places) :=
 ⟨[],by kernel_rfl⟩
theorem lifted(os:Os)(started:os.Started)(H:Type)(enc:LP×K8->H)(F:Stop.Interp) :
 ReturnsInHanded {} Tryz.checked os 3 .any ((OpenSpec.ofChange Rows.worldRunsSpec).preRow enc Tryz.prog Tryz.f3 Rows.worldRunsRow.domain B2 Rows.worldRunsRow.laid) (((OpenSpec.ofChange Rows.worldRunsSpec).at F).post enc Tryz.prog Tryz.f3 B2 B4 B2 B2):=by
 obtain⟨places,e⟩:=reads os enc;refine returnsInHanded_of_row (C:=Tryz.checked) (s:=OpenSpec.ofChange Rows.worldRunsSpec) own started (by kernel_rfl) Tryz.func3
  (witness_row_atRef (enc:=enc) (C:=Tryz.checked) B2 (DR os) #[.agg #[.int .i64 0,.int .i64 0,.int .i64 0,.int .i64 0,.slice B5 0 0,.int .i64 0,.int .i64 0,.int .i64 0,.slice B5 0 0],.slice B5 0 0,.slice B5 0 0] rfl (by kernel_rfl) (by kernel_rfl) (by kernel_rfl)
   (OpenSpec.preRow_of_cond 8 e (by kernel_rfl) (λ k hk=>by cases hk) (by kernel_rfl) (ad3 os))) ?_
 intro W base args ds gs before a c _ _ d b _ _;have hm:laidMet Tryz.prog Rows.worldRunsRow.laid W:=by
  unfold laidMetH at b;rw[show((Rows.worldRunsRow.laid.filter λ x=>x.2.handleName?.isSome)=[])from by kernel_rfl]at b;exact b
 refine xas (s:=Rows.worldRunsSpec) laidOut read rfl (λ ds h=>?_) rfl Tryz.underlying4 c (contract a c hm d);rw[Tryz.params3]at h
 match ds,h with
 |[d0,d1,d2],_=>rfl
theorem said:Rows.WorldRunsSaid :=
 OpenClaim.holds_of_cond 3 Tryz.f3 rfl rfl rfl rfl rfl rfl rfl ⟨rfl,rfl,rfl,rfl,rfl⟩ rfl rfl rfl rfl rfl (by kernel_rfl) Tryz.func3 (by kernel_rfl)
  (of_decide_eq_true (by kernel_rfl)) (by unfold Func.isWrapper;first|(rw[xb (by decide +kernel)];kernel_rfl)|(rw[qv (by decide +kernel)];exact⟨rfl,rfl⟩))
  (λ os started H enc _ F=>by rw[OpenClaim.pre_eq_preRow];exact lifted os started H enc F)
theorem plain(f:FuncId)(fn:Func)(c:Tryz.pinned.checked.prog.funcNamed Rows.worldRunsRow.func=B1 f)(a:Tryz.pinned.checked.prog.funcs[f]? = B1 fn) :
 B2=Tryz.pinned.checked.prog.looks [] /\ ∀(j:Nat)t,fn.params[j]? = B1 t->Tryz.pinned.checked.prog.wantsStandIn t=false:=by
 obtain rfl:f=3:=KA ((show Tryz.prog.funcNamed Rows.worldRunsRow.func=B1 3 by kernel_rfl).symm.trans c) |>.symm;obtain rfl:fn=Tryz.f3:=(KA (Tryz.func3.symm.trans a)).symm;refine⟨by kernel_rfl,λ j t b=>?_⟩;have hm:t∈Tryz.f3.params.toList:=by rw[<-kh]at b;exact zh b
 rw[Tryz.params3]at hm;simp only[jj,OC,or_false]at hm;rcases hm with rfl|rfl|rfl<;>(show Tryz.pinned.checked.prog.wantsStandIn _=B2;kernel_rfl)
/-- THE CARD -/
theorem card:Rows.WorldRunsCardSaid :=
 Claim7.holds_tied_plain_at .later [] _ _ _ _ said (λ _ h=>by cases h) (by kernel_rfl) (λ _ h=>by cases h) worldRuns_row_tie rfl ⟨rfl,rfl⟩ (by kernel_rfl) rfl plain (by kernel_rfl)
end Go.Proofs.YtlepagkkolnmoaaGreatDoor.worldRuns
