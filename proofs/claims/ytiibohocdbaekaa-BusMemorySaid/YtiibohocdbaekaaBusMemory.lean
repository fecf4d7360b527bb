/- BusMemory: for every world that holds the listed variables as listed,and whatever the arguments read as,the law returns true and changes nothing that was there. No condition beyond the row's own. -/
import Derived.Test.YtiibohocdbaekaaRows
import Derived.Test.YtiibohocdbaekaaAmMB4
import Derived.Test.YtiibohocdbaekaaAmMB5
import Derived.Test.YtiibohocdbaekaaAmMBuKd
import Derived.Test.YtiibohocdbaekaaBusMemoryRun
import Derived.LaidMore
import Derived.Deep.DeepHandedRow
namespace Go.Proofs.Ytiibohocdbaekaa.busMemory
open Go.ChangeShapes Go.WideShapes Go.ChangeAt Go.RowKit Go.Am
set_option maxRecDepth 100000
theorem cd:cF Try.prog:=IF (by kernel_rfl) (by kernel_rfl)
theorem own:ownKnob Try.prog.godebug=none:=by kernel_rfl
theorem laidOut:laidOutB Try.prog=true:=by kernel_rfl
theorem read:∀ t ∈ Try.f8.params.toList,Try.prog.readableRec t=true/\t<Try.prog.types.size:=by
 rw [Try.params8];intro t ht;simp only [jg,List.mem_nil_iff,qT] at ht;rcases ht with rfl|rfl<;>exact ⟨by kernel_rfl,by decide +kernel⟩
theorem IE:og Rows.busMemoryRow.laid=true:=by kernel_rfl
theorem ou:eX n0 mV=true:=by decide +kernel
theorem vO:cT (lH mV n0) mV=true:=by decide +kernel
theorem D2:lW Try.prog mV n0 ⟨20,[],.bool true⟩:=q4i cd (xS ..) ou (L:=[]) (λ e h=>by cases h) rfl run
theorem Ku:∀ e ∈ [(⟨20,[],.bool true⟩:dg)],ta 0 e.args=true/\lW Try.prog mV n0 e:=λ e h=>by
 rcases xn.1 h with rfl
 exact ⟨rfl,D2⟩
noncomputable abbrev mac:aL:=aL.tell Try.prog mV [⟨20,[],.bool true⟩]
instance:MK mac:=⟨λ n hn=>aL.qO (by
 have h:(bif Nat.beq 9 n then true else bM n [20])=false:=hn;cases q:Nat.beq 9 n with
 | true=>rw [q] at h;cases h
 | false=>rw [q] at h;exact h)⟩
noncomputable def q5t:Array Field:=match Try.prog.underlying 65 with|some (.struct fs)=>fs|_=>#[]
noncomputable def q5r:Array Field:=match Try.prog.underlying 23 with|some (.struct fs)=>fs|_=>#[]
theorem u57:Try.prog.underlying 57=some (.slice 65):=by kernel_rfl
theorem u65:Try.prog.underlying 65=some (.struct q5t):=by kernel_rfl
theorem u23:Try.prog.underlying 23=some (.struct q5r):=by kernel_rfl
theorem u3:Try.prog.underlying 3=some (.int .i64):=by kernel_rfl
theorem u34:Try.prog.underlying 34=some (.int .u64):=by kernel_rfl
theorem c65:Try.prog.cellsOf 65=5:=by kernel_rfl
theorem wX:q5t.toList.map (·.type)=[3,3,3,34,34]:=by kernel_rfl
theorem yC:q5r.toList.map (·.type)=[3,3,3,3]:=by kernel_rfl
abbrev MJ:List (List AV->Prop):=[fg .i64,fg .i64,fg .i64,fg .u64,fg .u64]
abbrev LI:List (List AV->Prop):=[fg .i64,fg .i64,fg .i64,fg .i64]
theorem KU {α β:Type} {f:α->TypeId} {Q:TypeId -> β->Prop}:∀ (l:List α) (R:List β),(∀ x ∈ (l.map f).zip R,Q x.1 x.2) -> ∀ x ∈ l.zip R,Q (f x.1) x.2
 | [],_,_,x,h=>by simp at h
 | _::_,[],_,x,h=>by simp at h
 | a::l,b::R,hq,x,h=>by
  rcases jg.1 h with rfl|h
  ·exact hq (f a,b) (by simp)
  ·exact KU l R (λ y hy=>hq y (by simp [hy])) x h
theorem Cw:hO Try.prog 65 (fJ MJ):=by
 refine qvk u65 (by kernel_rfl) (KU (f:=Field.type) (Q:=hO Try.prog) _ _ ?_) (by kernel_rfl) (by kernel_rfl);rw [wX];intro x hx;simp only [MJ,List.zip_cons_cons,List.zip_nil_right,jg,List.mem_nil_iff,qT] at hx;rcases hx with rfl|rfl|rfl|rfl|rfl
 ·exact Fa u3
 ·exact Fa u3
 ·exact Fa u3
 ·exact Fa u34
 ·exact Fa u34
theorem Dc:hO Try.prog 23 (fJ LI):=by
 refine qvk u23 (by kernel_rfl) (KU (f:=Field.type) (Q:=hO Try.prog) _ _ ?_) (by kernel_rfl) (by kernel_rfl);rw [yC];intro x hx;simp only [LI,List.zip_cons_cons,List.zip_nil_right,jg,List.mem_nil_iff,qT] at hx;rcases hx with rfl|rfl|rfl|rfl<;>exact Fa u3
theorem GN {l:List AV} (h:fJ MJ l):∃ x:Bt,l=fA x/\True:=by
 obtain ⟨_,_,rfl,⟨a1,rfl,_⟩,_,_,rfl,⟨a2,rfl,_⟩,_,_,rfl,⟨a3,rfl,_⟩,_,_,rfl,⟨a4,rfl,_⟩,_,_,rfl,⟨a5,rfl,_⟩,rfl⟩:=h;exact ⟨⟨a1,a2,a3,a4,a5⟩,rfl,trivial⟩
theorem GC {l:List AV} (h:fJ LI l):∃ a b c d:Int,l=cB a b c d:=by
 obtain ⟨_,_,rfl,⟨a1,rfl,_⟩,_,_,rfl,⟨a2,rfl,_⟩,_,_,rfl,⟨a3,rfl,_⟩,_,_,rfl,⟨a4,rfl,_⟩,rfl⟩:=h;exact ⟨a1,a2,a3,a4,rfl⟩
theorem contract {H:Type} {enc:TypeId × Value->H} {W:World} {base:Nat} {args:Array Value} {ds gs:List (DataW H)} {before:List MemPlace} {apart:Bool}
 (hval:∀ (j:Nat) t v,Try.f8.params[j]? = some t->args[j]? = some v->Value.okWide Try.prog W .any base t v) (hW:DataW.Whole enc Try.prog Try.f8.params.toList Rows.busMemorySpec.vars apart W args.toList ds gs before)
 (hm:laidMet Try.prog Rows.busMemoryRow.laid W):Calls Try.prog 8 args W λ e w'=>e=.returned (.bool true)/\Below W.heap.size W w':=by
 obtain ⟨p,q,hA,_,_,_,_⟩:=hW;rw [Try.params8] at hA hval;obtain ⟨v,vs1,d,ds1,p1,q1,fuel,hl,rfl,ht,hA⟩:=q20 hA;obtain ⟨v2,vs2,d2,ds2,p2,q2,fuel2,rfl,rfl,ht2,hA⟩:=q20 hA;obtain ⟨rfl,rfl⟩:=u9 hA;have hv:Value.okWide Try.prog W .any base 23 v:=hval 0 23 v rfl (by rw [<-kj,hl];rfl);have hv2:Value.okWide Try.prog W .any base 57 v2:=hval 1 57 v2 rfl (by rw [<-kj,hl];rfl);obtain ⟨l1,h1,hv1⟩:=uc Dc (.inl ⟨_,u23⟩) hv ht;obtain ⟨ln,co,se,wa,rfl⟩:=GC h1;rw [quq u57 hv2] at ht2;have hrd:=uS u57 (AA Cw) (by rw [c65];decide);obtain ⟨θL,hg,hgood⟩:=Bj (tp:=0) IE hm;obtain ⟨θ,n,gl,l,hst,hvl,u,rfl,hsl⟩:=hrd.2 enc W true fuel2 _ d2 p2 ht2 θL n0 mV hgood;rw [c65] at hsl;obtain ⟨xs,hus,_⟩:=Dz (λ l h=>GN h) hsl;obtain ⟨c,cs',hcc,hcv,_⟩:=hvl.dF;injection hcc with hcc _
 subst hcc;have hrows:∀ H1,Fr Em (lH gl n) H1->cT H1 mV=true:=λ H1 f =>
  qyk (n:=n0) (H:=lH mV n0) ou (λ b hb=>by rw [f.ae b (qp hb hst.le) id];exact hst.ae b hb) vO
 refine tI cd (n0:=n0) (xS ..) ou Ku (q6q (xS ..) hg hst) ?_ (qy5 (M:=mac) (λ H1 f=>q78 (hrows H1 f)) (l:=ln) (c:=co) (s:=se) (w:=wa) hus);rw [hl];exact .cons (hv1 _ _) (.one hcv)
/-- a world for the witness -/
noncomputable def sJ (os:Os):World:=World.holding Try.prog os ⟨#[],#[.agg #[.int .i64 0,.int .i64 0,.int .i64 0,.int .i64 0],.slice none 0 0],[]⟩
theorem rP (os:Os):laidMetH Try.prog Rows.busMemoryRow.laid ((sJ os).forCall (λ _ _=>0) ⟨#[],#[.agg #[.int .i64 0,.int .i64 0,.int .i64 0,.int .i64 0],.slice none 0 0],[]⟩).memory :=
 laidMet_of_run' 8 (by kernel_rfl) (by kernel_rfl)
theorem reads (os:Os) {H:Type} (enc:TypeId × Value->H):∃ places,DataW.whole enc Try.prog ((sJ os).forCall (λ _ _=>0) ⟨#[],#[.agg #[.int .i64 0,.int .i64 0,.int .i64 0,.int .i64 0],.slice none 0 0],[]⟩).memory Try.f8.params.toList Rows.busMemorySpec.vars false (#[.agg #[.int .i64 0,.int .i64 0,.int .i64 0,.int .i64 0],.slice none 0 0]:Array Value).toList 8=some ([.agg (List.replicate 4 (.lit (.int .i64 0))),.nil],[],places) :=
 ⟨[],by kernel_rfl⟩
theorem lifted (os:Os) (started:os.Started) (H:Type) (enc:TypeId × Value->H) (F:Stop.Interp) :
 ReturnsInHanded {} Try.checked os 8 .any ((OpenSpec.ofChange Rows.busMemorySpec).preRow enc Try.prog Try.f8 Rows.busMemoryRow.domain false Rows.busMemoryRow.laid) (((OpenSpec.ofChange Rows.busMemorySpec).at F).post enc Try.prog Try.f8 false true false false):=by
 obtain ⟨places,hx⟩:=reads os enc;refine returnsInHanded_of_row (C:=Try.checked) (s:=OpenSpec.ofChange Rows.busMemorySpec) own started (by kernel_rfl) Try.func8
  (witness_row_at (enc:=enc) (C:=Try.checked) false (sJ os) #[.agg #[.int .i64 0,.int .i64 0,.int .i64 0,.int .i64 0],.slice none 0 0] rfl (by kernel_rfl) (by kernel_rfl) (by kernel_rfl)
   (OpenSpec.preRow_of_cond 8 hx (by kernel_rfl) (λ k hk=>by cases hk) (by kernel_rfl) (rP os))) ?_
 intro W base args ds gs before hval hW _ _ _ hL _ _;have hm:laidMet Try.prog Rows.busMemoryRow.laid W:=by
  unfold laidMetH at hL;rw [show ((Rows.busMemoryRow.laid.filter λ x=>x.2.handleName?.isSome)=[]) from by kernel_rfl] at hL;exact hL
 refine q0k (s:=Rows.busMemorySpec) laidOut read rfl (λ ds h=>?_) rfl Try.underlying4 hW (contract hval hW hm);rw [Try.params8] at h
 match ds,h with
 | [d0,d1],_=>rfl
theorem said:Rows.BusMemorySaid :=
 OpenClaim.holds_of_cond 8 Try.f8 rfl rfl rfl rfl rfl rfl rfl ⟨rfl,rfl,rfl,rfl,rfl⟩ rfl rfl rfl rfl rfl (by kernel_rfl) Try.func8 (by kernel_rfl)
  (of_decide_eq_true (by kernel_rfl)) (by unfold Func.isWrapper;first|(rw [qm (by decide +kernel)];kernel_rfl) | (rw [qe (by decide +kernel)];exact ⟨rfl,rfl⟩))
  (λ os started H enc _ F=>by rw [OpenClaim.pre_eq_preRow];exact lifted os started H enc F)
end Go.Proofs.Ytiibohocdbaekaa.busMemory
