/- BusOne: for every world that holds the listed variables as listed,and whatever the arguments read as,the law returns true and changes nothing that was there. No condition beyond the row's own. -/
import Derived.Test.YtiibohocdbaekaaRows
import Derived.Test.YtiibohocdbaekaaAmKB4
import Derived.Test.YtiibohocdbaekaaAmKB5
import Derived.Test.YtiibohocdbaekaaAmKBuKc
import Derived.Test.YtiibohocdbaekaaBusOneRun
import Derived.LaidMore
import Derived.Deep.DeepHandedRow
namespace Go.Proofs.Ytiibohocdbaekaa.busOne
open Go.ChangeShapes Go.WideShapes Go.ChangeAt Go.RowKit Go.Am
set_option maxRecDepth 100000
theorem b9:cD Try.prog:=Ip (by kernel_rfl) (by kernel_rfl)
theorem own:ownKnob Try.prog.godebug=none:=by kernel_rfl
theorem laidOut:laidOutB Try.prog=true:=by kernel_rfl
theorem read:∀ t ∈ Try.f7.params.toList,Try.prog.readableRec t=true/\t<Try.prog.types.size:=by
 rw [Try.params7];intro t ht;simp only [je,List.mem_nil_iff,qS] at ht;rcases ht with rfl|rfl<;>exact ⟨by kernel_rfl,by decide +kernel⟩
theorem G2:pk Rows.busOneRow.laid=true:=by kernel_rfl
theorem oK:fm n0 mX=true:=by decide +kernel
theorem sK:cX (lP mX n0) mX=true:=by decide +kernel
theorem EC:mi Try.prog mX n0 ⟨20,[],.bool true⟩:=q5x b9 (zI ..) oK (L:=[]) (λ e h=>by cases h) rfl run
theorem Lv:∀ e ∈ [(⟨20,[],.bool true⟩:dp)],rK 0 e.args=true/\mi Try.prog mX n0 e:=λ e h=>by
 rcases xp.1 h with rfl
 exact ⟨rfl,EC⟩
noncomputable abbrev mac:aM:=aM.tell Try.prog mX [⟨20,[],.bool true⟩]
instance:MK mac:=⟨λ n hn=>aM.qI (by
 have h:(bif Nat.beq 9 n then true else bO n [20])=false:=hn
 cases q:Nat.beq 9 n with
 | true=>rw [q] at h;cases h
 | false=>rw [q] at h;exact h)⟩
noncomputable def q65:Array Field:=match Try.prog.underlying 65 with|some (.struct fs)=>fs|_=>#[]
noncomputable def q63:Array Field:=match Try.prog.underlying 23 with|some (.struct fs)=>fs|_=>#[]
theorem u57:Try.prog.underlying 57=some (.slice 65):=by kernel_rfl
theorem u65:Try.prog.underlying 65=some (.struct q65):=by kernel_rfl
theorem u23:Try.prog.underlying 23=some (.struct q63):=by kernel_rfl
theorem u3:Try.prog.underlying 3=some (.int .i64):=by kernel_rfl
theorem u34:Try.prog.underlying 34=some (.int .u64):=by kernel_rfl
theorem c65:Try.prog.cellsOf 65=5:=by kernel_rfl
theorem Ax:q65.toList.map (·.type)=[3,3,3,34,34]:=by kernel_rfl
theorem wY:q63.toList.map (·.type)=[3,3,3,3]:=by kernel_rfl
abbrev M0:List (List AV->Prop):=[fj .i64,fj .i64,fj .i64,fj .u64,fj .u64]
abbrev Nd:List (List AV->Prop):=[fj .i64,fj .i64,fj .i64,fj .i64]
theorem Lc {α β:Type} {f:α->TypeId} {Q:TypeId -> β->Prop}:∀ (l:List α) (R:List β),(∀ x ∈ (l.map f).zip R,Q x.1 x.2) -> ∀ x ∈ l.zip R,Q (f x.1) x.2
 | [],_,_,x,h=>by simp at h
 | _::_,[],_,x,h=>by simp at h
 | a::l,b::R,hq,x,h=>by
  rcases je.1 h with rfl|h
  ·exact hq (f a,b) (by simp)
  ·exact Lc l R (λ y hy=>hq y (by simp [hy])) x h
theorem BZ:ie Try.prog 65 (fT M0):=by
 refine qwk u65 (by kernel_rfl) (Lc (f:=Field.type) (Q:=ie Try.prog) _ _ ?_) (by kernel_rfl) (by kernel_rfl);rw [Ax];intro x hx;simp only [M0,List.zip_cons_cons,List.zip_nil_right,je,List.mem_nil_iff,qS] at hx;rcases hx with rfl|rfl|rfl|rfl|rfl
 ·exact Fe u3
 ·exact Fe u3
 ·exact Fe u3
 ·exact Fe u34
 ·exact Fe u34
theorem D5:ie Try.prog 23 (fT Nd):=by
 refine qwk u23 (by kernel_rfl) (Lc (f:=Field.type) (Q:=ie Try.prog) _ _ ?_) (by kernel_rfl) (by kernel_rfl);rw [wY];intro x hx;simp only [Nd,List.zip_cons_cons,List.zip_nil_right,je,List.mem_nil_iff,qS] at hx;rcases hx with rfl|rfl|rfl|rfl<;>exact Fe u3
theorem Gi {l:List AV} (h:fT M0 l):∃ x:Bt,l=fJ x/\True:=by
 obtain ⟨_,_,rfl,⟨a1,rfl,_⟩,_,_,rfl,⟨a2,rfl,_⟩,_,_,rfl,⟨a3,rfl,_⟩,_,_,rfl,⟨a4,rfl,_⟩,_,_,rfl,⟨a5,rfl,_⟩,rfl⟩:=h;exact ⟨⟨a1,a2,a3,a4,a5⟩,rfl,trivial⟩
theorem Ia {l:List AV} (h:fT Nd l):∃ a b c d:Int,l=cw a b c d:=by
 obtain ⟨_,_,rfl,⟨a1,rfl,_⟩,_,_,rfl,⟨a2,rfl,_⟩,_,_,rfl,⟨a3,rfl,_⟩,_,_,rfl,⟨a4,rfl,_⟩,rfl⟩:=h;exact ⟨a1,a2,a3,a4,rfl⟩
theorem contract {H:Type} {enc:TypeId × Value->H} {W:World} {base:Nat} {args:Array Value} {ds gs:List (DataW H)} {before:List MemPlace} {apart:Bool}
 (hval:∀ (j:Nat) t v,Try.f7.params[j]? = some t->args[j]? = some v->Value.okWide Try.prog W .any base t v) (hW:DataW.Whole enc Try.prog Try.f7.params.toList Rows.busOneSpec.vars apart W args.toList ds gs before)
 (hm:laidMet Try.prog Rows.busOneRow.laid W):Calls Try.prog 7 args W λ e w'=>e=.returned (.bool true)/\Below W.heap.size W w':=by
 obtain ⟨p,q,hA,_,_,_,_⟩:=hW;rw [Try.params7] at hA hval;obtain ⟨v,vs1,d,ds1,p1,q1,fuel,hl,rfl,ht,hA⟩:=q39 hA;obtain ⟨v2,vs2,d2,ds2,p2,q2,fuel2,rfl,rfl,ht2,hA⟩:=q39 hA;obtain ⟨rfl,rfl⟩:=sW hA;have hv:Value.okWide Try.prog W .any base 23 v:=hval 0 23 v rfl (by rw [<-kj,hl];rfl);have hv2:Value.okWide Try.prog W .any base 57 v2:=hval 1 57 v2 rfl (by rw [<-kj,hl];rfl);obtain ⟨l1,h1,hv1⟩:=vP D5 (.inl ⟨_,u23⟩) hv ht;obtain ⟨ln,co,se,wa,rfl⟩:=Ia h1;rw [qvl u57 hv2] at ht2;have hrd:=u6 u57 (xB BZ) (by rw [c65];decide);obtain ⟨θL,hg,hgood⟩:=Bk (tp:=0) G2 hm;obtain ⟨θ,n,gl,l,hst,hvl,u,rfl,hsl⟩:=hrd.2 enc W true fuel2 _ d2 p2 ht2 θL n0 mX hgood;rw [c65] at hsl;obtain ⟨xs,hus,_⟩:=DZ (λ l h=>Gi h) hsl;obtain ⟨c,cs',hcc,hcv,_⟩:=hvl.dG;injection hcc with hcc _
 subst hcc;have hrows:∀ H1,Fr Em (lP gl n) H1->cX H1 mX=true:=λ H1 f =>
  qzn (n:=n0) (H:=lP mX n0) oK (λ b hb=>by rw [f.ae b (qp hb hst.le) id];exact hst.ae b hb) sK
 refine uK b9 (n0:=n0) (zI ..) oK Lv (q71 (zI ..) hg hst) ?_ (q7c (M:=mac) (λ H1 f=>q9o (hrows H1 f)) (l:=ln) (c:=co) (s:=se) (w:=wa) hus);rw [hl];exact .cons (hv1 _ _) (.one hcv)
/-- a world for the witness -/
noncomputable def r9 (os:Os):World:=World.holding Try.prog os ⟨#[],#[.agg #[.int .i64 0,.int .i64 0,.int .i64 0,.int .i64 0],.slice none 0 0],[]⟩
theorem sX (os:Os):laidMetH Try.prog Rows.busOneRow.laid ((r9 os).forCall (λ _ _=>0) ⟨#[],#[.agg #[.int .i64 0,.int .i64 0,.int .i64 0,.int .i64 0],.slice none 0 0],[]⟩).memory :=
 laidMet_of_run' 8 (by kernel_rfl) (by kernel_rfl)
theorem reads (os:Os) {H:Type} (enc:TypeId × Value->H):∃ places,DataW.whole enc Try.prog ((r9 os).forCall (λ _ _=>0) ⟨#[],#[.agg #[.int .i64 0,.int .i64 0,.int .i64 0,.int .i64 0],.slice none 0 0],[]⟩).memory Try.f7.params.toList Rows.busOneSpec.vars false (#[.agg #[.int .i64 0,.int .i64 0,.int .i64 0,.int .i64 0],.slice none 0 0]:Array Value).toList 8=some ([.agg (List.replicate 4 (.lit (.int .i64 0))),.nil],[],places) :=
 ⟨[],by kernel_rfl⟩
theorem lifted (os:Os) (started:os.Started) (H:Type) (enc:TypeId × Value->H) (F:Stop.Interp) :
 ReturnsInHanded {} Try.checked os 7 .any ((OpenSpec.ofChange Rows.busOneSpec).preRow enc Try.prog Try.f7 Rows.busOneRow.domain false Rows.busOneRow.laid) (((OpenSpec.ofChange Rows.busOneSpec).at F).post enc Try.prog Try.f7 false true false false):=by
 obtain ⟨places,hx⟩:=reads os enc;refine returnsInHanded_of_row (C:=Try.checked) (s:=OpenSpec.ofChange Rows.busOneSpec) own started (by kernel_rfl) Try.func7
  (witness_row_at (enc:=enc) (C:=Try.checked) false (r9 os) #[.agg #[.int .i64 0,.int .i64 0,.int .i64 0,.int .i64 0],.slice none 0 0] rfl (by kernel_rfl) (by kernel_rfl) (by kernel_rfl)
   (OpenSpec.preRow_of_cond 8 hx (by kernel_rfl) (λ k hk=>by cases hk) (by kernel_rfl) (sX os))) ?_
 intro W base args ds gs before hval hW _ _ _ hL _ _;have hm:laidMet Try.prog Rows.busOneRow.laid W:=by
  unfold laidMetH at hL;rw [show ((Rows.busOneRow.laid.filter λ x=>x.2.handleName?.isSome)=[]) from by kernel_rfl] at hL;exact hL
 refine q1o (s:=Rows.busOneSpec) laidOut read rfl (λ ds h=>?_) rfl Try.underlying4 hW (contract hval hW hm);rw [Try.params7] at h
 match ds,h with
 | [d0,d1],_=>rfl
theorem said:Rows.BusOneSaid :=
 OpenClaim.holds_of_cond 7 Try.f7 rfl rfl rfl rfl rfl rfl rfl ⟨rfl,rfl,rfl,rfl,rfl⟩ rfl rfl rfl rfl rfl (by kernel_rfl) Try.func7 (by kernel_rfl)
  (of_decide_eq_true (by kernel_rfl)) (by unfold Func.isWrapper;first|(rw [qr (by decide +kernel)];kernel_rfl) | (rw [qf (by decide +kernel)];exact ⟨rfl,rfl⟩))
  (λ os started H enc _ F=>by rw [OpenClaim.pre_eq_preRow];exact lifted os started H enc F)
end Go.Proofs.Ytiibohocdbaekaa.busOne
