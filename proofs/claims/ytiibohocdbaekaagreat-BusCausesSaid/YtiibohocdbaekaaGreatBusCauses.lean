/- BusCauses: for every world that holds the listed variables as listed,and whatever the arguments read as,the law returns true and changes nothing that was there. No condition beyond the row's own. -/
import Derived.Test.YtiibohocdbaekaaGreatRows
import Derived.Test.YtiibohocdbaekaaGreatAmCB4
import Derived.Test.YtiibohocdbaekaaGreatAmCB5
import Derived.Test.YtiibohocdbaekaaGreatAmCBuKd
import Derived.Test.YtiibohocdbaekaaGreatBusCausesRun
import Derived.LaidMore
import Derived.Deep.DeepHandedRow
namespace Go.Proofs.YtiibohocdbaekaaGreat.busCauses
open Go.ChangeShapes Go.WideShapes Go.ChangeAt Go.RowKit Go.Am
set_option maxRecDepth 100000
theorem bZ:cF Tryz.prog:=Ia (by kernel_rfl) (by kernel_rfl)
theorem own:ownKnob Tryz.prog.godebug=none:=by kernel_rfl
theorem laidOut:laidOutB Tryz.prog=true:=by kernel_rfl
theorem read:∀ t ∈ Tryz.f3.params.toList,Tryz.prog.readableRec t=true/\t<Tryz.prog.types.size:=by
 rw [Tryz.params3];intro t ht;simp only [zr,List.mem_nil_iff,sr] at ht;rcases ht with rfl|rfl<;>exact ⟨by kernel_rfl,by decide +kernel⟩
theorem Iq:p7 Rows.busCausesRow.laid=true:=by kernel_rfl
theorem qS:fO n0 oL=true:=by decide +kernel
theorem uG:c8 (vd oL n0) oL=true:=by decide +kernel
theorem Fk:nQ Tryz.prog oL n0 ⟨4,[],.bool true⟩:=q1a bZ (wh ..) qS (L:=[]) (λ e h=>by cases h) rfl run
theorem NS:∀ e ∈ [(⟨4,[],.bool true⟩:dL)],tG 0 e.args=true/\nQ Tryz.prog oL n0 e:=λ e h=>by
 rcases xl.1 h with rfl
 exact ⟨rfl,Fk⟩
noncomputable abbrev mac:aA:=aA.tell Tryz.prog oL [⟨4,[],.bool true⟩]
instance:MK mac:=⟨λ _ hn=>aA.sQ hn⟩
noncomputable def q2n:Array Field:=match Tryz.prog.underlying 43 with|some (.struct fs)=>fs|_=>#[]
noncomputable def q2l:Array Field:=match Tryz.prog.underlying 23 with|some (.struct fs)=>fs|_=>#[]
theorem u57:Tryz.prog.underlying 24=some (.slice 43):=by kernel_rfl
theorem u65:Tryz.prog.underlying 43=some (.struct q2n):=by kernel_rfl
theorem u23:Tryz.prog.underlying 23=some (.struct q2l):=by kernel_rfl
theorem u3:Tryz.prog.underlying 3=some (.int .i64):=by kernel_rfl
theorem u34:Tryz.prog.underlying 35=some (.int .u64):=by kernel_rfl
theorem c65:Tryz.prog.cellsOf 43=5:=by kernel_rfl
theorem Ce:q2n.toList.map (·.type)=[3,3,3,35,35]:=by kernel_rfl
theorem AQ:q2l.toList.map (·.type)=[3,3,3,3]:=by kernel_rfl
abbrev OT:List (List AV->Prop):=[fQ .i64,fQ .i64,fQ .i64,fQ .u64,fQ .u64]
abbrev My:List (List AV->Prop):=[fQ .i64,fQ .i64,fQ .i64,fQ .i64]
theorem ME {α β:Type} {f:α->TypeId} {Q:TypeId -> β->Prop}:∀ (l:List α) (R:List β),(∀ x ∈ (l.map f).zip R,Q x.1 x.2) -> ∀ x ∈ l.zip R,Q (f x.1) x.2
 | [],_,_,x,h=>by simp at h
 | _::_,[],_,x,h=>by simp at h
 | a::l,b::R,hq,x,h=>by
  rcases zr.1 h with rfl|h
  ·exact hq (f a,b) (by simp)
  ·exact ME l R (λ y hy=>hq y (by simp [hy])) x h
theorem DV:iM Tryz.prog 43 (gR OT):=by
 refine qsi u65 (by kernel_rfl) (ME (f:=Field.type) (Q:=iM Tryz.prog) _ _ ?_) (by kernel_rfl) (by kernel_rfl);rw [Ce];intro x hx;simp only [OT,List.zip_cons_cons,List.zip_nil_right,zr,List.mem_nil_iff,sr] at hx;rcases hx with rfl|rfl|rfl|rfl|rfl
 ·exact Gu u3
 ·exact Gu u3
 ·exact Gu u3
 ·exact Gu u34
 ·exact Gu u34
theorem D7:iM Tryz.prog 23 (gR My):=by
 refine qsi u23 (by kernel_rfl) (ME (f:=Field.type) (Q:=iM Tryz.prog) _ _ ?_) (by kernel_rfl) (by kernel_rfl);rw [AQ];intro x hx;simp only [My,List.zip_cons_cons,List.zip_nil_right,zr,List.mem_nil_iff,sr] at hx;rcases hx with rfl|rfl|rfl|rfl<;>exact Gu u3
theorem HW {l:List AV} (h:gR OT l):∃ x:Bt,l=cV x/\True:=by
 obtain ⟨_,_,rfl,⟨a1,rfl,_⟩,_,_,rfl,⟨a2,rfl,_⟩,_,_,rfl,⟨a3,rfl,_⟩,_,_,rfl,⟨a4,rfl,_⟩,_,_,rfl,⟨a5,rfl,_⟩,rfl⟩:=h;exact ⟨⟨a1,a2,a3,a4,a5⟩,rfl,trivial⟩
theorem IM {l:List AV} (h:gR My l):∃ a b c d:Int,l=bo a b c d:=by
 obtain ⟨_,_,rfl,⟨a1,rfl,_⟩,_,_,rfl,⟨a2,rfl,_⟩,_,_,rfl,⟨a3,rfl,_⟩,_,_,rfl,⟨a4,rfl,_⟩,rfl⟩:=h;exact ⟨a1,a2,a3,a4,rfl⟩
theorem contract {H:Type} {enc:TypeId × Value->H} {W:World} {base:Nat} {args:Array Value} {ds gs:List (DataW H)} {before:List MemPlace} {apart:Bool}
 (hval:∀ (j:Nat) t v,Tryz.f3.params[j]? = some t->args[j]? = some v->Value.okWide Tryz.prog W .any base t v) (hW:DataW.Whole enc Tryz.prog Tryz.f3.params.toList Rows.busCausesSpec.vars apart W args.toList ds gs before)
 (hm:laidMet Tryz.prog Rows.busCausesRow.laid W):Calls Tryz.prog 3 args W λ e w'=>e=.returned (.bool true)/\Below W.heap.size W w':=by
 obtain ⟨p,q,hA,_,_,_,_⟩:=hW;rw [Tryz.params3] at hA hval;obtain ⟨v,vs1,d,ds1,p1,q1,fuel,hl,rfl,ht,hA⟩:=qzk hA;obtain ⟨v2,vs2,d2,ds2,p2,q2,fuel2,rfl,rfl,ht2,hA⟩:=qzk hA;obtain ⟨rfl,rfl⟩:=vF hA;have hv:Value.okWide Tryz.prog W .any base 23 v:=hval 0 23 v rfl (by rw [<-j6,hl];rfl);have hv2:Value.okWide Tryz.prog W .any base 24 v2:=hval 1 24 v2 rfl (by rw [<-j6,hl];rfl);obtain ⟨l1,h1,hv1⟩:=ux D7 (.inl ⟨_,u23⟩) hv ht;obtain ⟨ln,co,se,wa,rfl⟩:=IM h1;rw [qru u57 hv2] at ht2;have hrd:=xP u57 (Av DV) (by rw [c65];decide);obtain ⟨θL,hg,hgood⟩:=CJ (tp:=0) Iq hm;obtain ⟨θ,n,gl,l,hst,hvl,u,rfl,hsl⟩:=hrd.2 enc W true fuel2 _ d2 p2 ht2 θL n0 oL hgood;rw [c65] at hsl;obtain ⟨xs,hus,_⟩:=Ec (λ l h=>HW h) hsl;obtain ⟨c,cs',hcc,hcv,_⟩:=hvl.dW;injection hcc with hcc _
 subst hcc;have hrows:∀ H1,Fr Em (vd gl n) H1->c8 H1 oL=true:=λ H1 f =>
  qu2 (n:=n0) (H:=vd oL n0) qS (λ b hb=>by rw [f.ah b (qk hb hst.le) id];exact hst.ah b hb) uG
 refine xI bZ (n0:=n0) (wh ..) qS NS (q3n (wh ..) hg hst) ?_ (qvn (M:=mac) (λ H1 f=>q5a (hrows H1 f)) (l:=ln) (c:=co) (s:=se) (w:=wa) hus);rw [hl];exact .cons (hv1 _ _) (.one hcv)
/-- a world for the witness -/
noncomputable def vC (os:Os):World:=World.holding Tryz.prog os ⟨#[],#[.agg #[.int .i64 0,.int .i64 0,.int .i64 0,.int .i64 0],.slice none 0 0],[]⟩
theorem tZ (os:Os):laidMetH Tryz.prog Rows.busCausesRow.laid ((vC os).forCall (λ _ _=>0) ⟨#[],#[.agg #[.int .i64 0,.int .i64 0,.int .i64 0,.int .i64 0],.slice none 0 0],[]⟩).memory :=
 laidMet_of_run' 8 (by kernel_rfl) (by kernel_rfl)
theorem reads (os:Os) {H:Type} (enc:TypeId × Value->H):∃ places,DataW.whole enc Tryz.prog ((vC os).forCall (λ _ _=>0) ⟨#[],#[.agg #[.int .i64 0,.int .i64 0,.int .i64 0,.int .i64 0],.slice none 0 0],[]⟩).memory Tryz.f3.params.toList Rows.busCausesSpec.vars false (#[.agg #[.int .i64 0,.int .i64 0,.int .i64 0,.int .i64 0],.slice none 0 0]:Array Value).toList 8=some ([.agg (List.replicate 4 (.lit (.int .i64 0))),.nil],[],places) :=
 ⟨[],by kernel_rfl⟩
theorem lifted (os:Os) (started:os.Started) (H:Type) (enc:TypeId × Value->H) (F:Stop.Interp) :
 ReturnsInHanded {} Tryz.checked os 3 .any ((OpenSpec.ofChange Rows.busCausesSpec).preRow enc Tryz.prog Tryz.f3 Rows.busCausesRow.domain false Rows.busCausesRow.laid) (((OpenSpec.ofChange Rows.busCausesSpec).at F).post enc Tryz.prog Tryz.f3 false true false false):=by
 obtain ⟨places,hx⟩:=reads os enc;refine returnsInHanded_of_row (C:=Tryz.checked) (s:=OpenSpec.ofChange Rows.busCausesSpec) own started (by kernel_rfl) Tryz.func3
  (witness_row_at (enc:=enc) (C:=Tryz.checked) false (vC os) #[.agg #[.int .i64 0,.int .i64 0,.int .i64 0,.int .i64 0],.slice none 0 0] rfl (by kernel_rfl) (by kernel_rfl) (by kernel_rfl)
   (OpenSpec.preRow_of_cond 8 hx (by kernel_rfl) (λ k hk=>by cases hk) (by kernel_rfl) (tZ os))) ?_
 intro W base args ds gs before hval hW _ _ _ hL _ _;have hm:laidMet Tryz.prog Rows.busCausesRow.laid W:=by
  unfold laidMetH at hL;rw [show ((Rows.busCausesRow.laid.filter λ x=>x.2.handleName?.isSome)=[]) from by kernel_rfl] at hL;exact hL
 refine qw1 (s:=Rows.busCausesSpec) laidOut read rfl (λ ds h=>?_) rfl Tryz.underlying4 hW (contract hval hW hm);rw [Tryz.params3] at h
 match ds,h with
 | [d0,d1],_=>rfl
theorem said:Rows.BusCausesSaid :=
 OpenClaim.holds_of_cond 3 Tryz.f3 rfl rfl rfl rfl rfl rfl rfl ⟨rfl,rfl,rfl,rfl,rfl⟩ rfl rfl rfl rfl rfl (by kernel_rfl) Tryz.func3 (by kernel_rfl)
  (of_decide_eq_true (by kernel_rfl)) (by unfold Func.isWrapper;first|(rw [ql (by decide +kernel)];kernel_rfl) | (rw [qg (by decide +kernel)];exact ⟨rfl,rfl⟩))
  (λ os started H enc _ F=>by rw [OpenClaim.pre_eq_preRow];exact lifted os started H enc F)
end Go.Proofs.YtiibohocdbaekaaGreat.busCauses
