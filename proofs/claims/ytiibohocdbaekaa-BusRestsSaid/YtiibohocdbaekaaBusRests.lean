/- BusRests: for every world that holds the listed variables as listed,and whatever the arguments read as,the law returns true and changes nothing that was there. No condition beyond the row's own. -/
import Derived.Test.YtiibohocdbaekaaRows
import Derived.Test.YtiibohocdbaekaaAmRB4
import Derived.Test.YtiibohocdbaekaaAmRB5
import Derived.Test.YtiibohocdbaekaaAmRBuKd
import Derived.Test.YtiibohocdbaekaaBusRestsRun
import Derived.LaidMore
import Derived.Deep.DeepHandedRow
namespace Go.Proofs.Ytiibohocdbaekaa.busRests
open Go.ChangeShapes Go.WideShapes Go.ChangeAt Go.RowKit Go.Am
set_option maxRecDepth 100000
theorem cj:cJ Try.prog:=GF (by kernel_rfl) (by kernel_rfl)
theorem own:ownKnob Try.prog.godebug=none:=by kernel_rfl
theorem laidOut:laidOutB Try.prog=true:=by kernel_rfl
theorem read:∀ t ∈ Try.f5.params.toList,Try.prog.readableRec t=true/\t<Try.prog.types.size:=by
 rw [Try.params5];intro t ht;simp only [jd,List.mem_nil_iff,qW] at ht;rcases ht with rfl|rfl|rfl<;>exact ⟨by kernel_rfl,by decide +kernel⟩
theorem GJ:oe Rows.busRestsRow.laid=true:=by kernel_rfl
theorem pq:fg n0 mU=true:=by decide +kernel
theorem ti:cZ (lh mU n0) mU=true:=by decide +kernel
theorem Eg:lV Try.prog mU n0 ⟨20,[],.bool true⟩:=q4f cj (yZ ..) pq (L:=[]) (λ e h=>by cases h) rfl run
theorem Ll:∀ e ∈ [(⟨20,[],.bool true⟩:dt)],vS 0 e.args=true/\lV Try.prog mU n0 e:=λ e h=>by
 rcases xl.1 h with rfl
 exact ⟨rfl,Eg⟩
noncomputable abbrev mac:aO:=aO.tell Try.prog mU [⟨20,[],.bool true⟩]
instance:MK mac:=⟨λ n hn=>aO.qO (by
 have h:(bif Nat.beq 9 n then true else bQ n [20])=false:=hn;cases q:Nat.beq 9 n with
 | true=>rw [q] at h;cases h
 | false=>rw [q] at h;exact h)⟩
noncomputable def q5s:Array Field:=match Try.prog.underlying 65 with|some (.struct fs)=>fs|_=>#[]
noncomputable def q5q:Array Field:=match Try.prog.underlying 23 with|some (.struct fs)=>fs|_=>#[]
theorem u57:Try.prog.underlying 57=some (.slice 65):=by kernel_rfl
theorem u65:Try.prog.underlying 65=some (.struct q5s):=by kernel_rfl
theorem u23:Try.prog.underlying 23=some (.struct q5q):=by kernel_rfl
theorem u58:Try.prog.underlying 58=some (.slice 5):=by kernel_rfl
theorem u5:Try.prog.underlying 5=some (.int .u8):=by kernel_rfl
theorem c5:Try.prog.cellsOf 5=1:=by kernel_rfl
theorem u3:Try.prog.underlying 3=some (.int .i64):=by kernel_rfl
theorem u34:Try.prog.underlying 34=some (.int .u64):=by kernel_rfl
theorem c65:Try.prog.cellsOf 65=5:=by kernel_rfl
theorem xD:q5s.toList.map (·.type)=[3,3,3,34,34]:=by kernel_rfl
theorem xE:q5q.toList.map (·.type)=[3,3,3,3]:=by kernel_rfl
abbrev MJ:List (List AV->Prop):=[eH .i64,eH .i64,eH .i64,eH .u64,eH .u64]
abbrev Km:List (List AV->Prop):=[eH .i64,eH .i64,eH .i64,eH .i64]
theorem Nd {α β:Type} {f:α->TypeId} {Q:TypeId -> β->Prop}:∀ (l:List α) (R:List β),(∀ x ∈ (l.map f).zip R,Q x.1 x.2) -> ∀ x ∈ l.zip R,Q (f x.1) x.2
 | [],_,_,x,h=>by simp at h
 | _::_,[],_,x,h=>by simp at h
 | a::l,b::R,hq,x,h=>by
  rcases jd.1 h with rfl|h
  ·exact hq (f a,b) (by simp)
  ·exact Nd l R (λ y hy=>hq y (by simp [hy])) x h
theorem EW:hH Try.prog 65 (fR MJ):=by
 refine qu9 u65 (by kernel_rfl) (Nd (f:=Field.type) (Q:=hH Try.prog) _ _ ?_) (by kernel_rfl) (by kernel_rfl);rw [xD];intro x hx;simp only [MJ,List.zip_cons_cons,List.zip_nil_right,jd,List.mem_nil_iff,qW] at hx;rcases hx with rfl|rfl|rfl|rfl|rfl
 ·exact D3 u3
 ·exact D3 u3
 ·exact D3 u3
 ·exact D3 u34
 ·exact D3 u34
theorem EO:hH Try.prog 23 (fR Km):=by
 refine qu9 u23 (by kernel_rfl) (Nd (f:=Field.type) (Q:=hH Try.prog) _ _ ?_) (by kernel_rfl) (by kernel_rfl);rw [xE];intro x hx;simp only [Km,List.zip_cons_cons,List.zip_nil_right,jd,List.mem_nil_iff,qW] at hx;rcases hx with rfl|rfl|rfl|rfl<;>exact D3 u3
theorem Hv {l:List AV} (h:fR MJ l):∃ x:Bt,l=fH x/\True:=by
 obtain ⟨_,_,rfl,⟨a1,rfl,_⟩,_,_,rfl,⟨a2,rfl,_⟩,_,_,rfl,⟨a3,rfl,_⟩,_,_,rfl,⟨a4,rfl,_⟩,_,_,rfl,⟨a5,rfl,_⟩,rfl⟩:=h;exact ⟨⟨a1,a2,a3,a4,a5⟩,rfl,trivial⟩
theorem IB {l:List AV} (h:fR Km l):∃ a b c d:Int,l=cA a b c d:=by
 obtain ⟨_,_,rfl,⟨a1,rfl,_⟩,_,_,rfl,⟨a2,rfl,_⟩,_,_,rfl,⟨a3,rfl,_⟩,_,_,rfl,⟨a4,rfl,_⟩,rfl⟩:=h;exact ⟨a1,a2,a3,a4,rfl⟩
theorem La {l:List AV} (h:eH .u8 l):∃ x:Int,l=CY x/\(0<=x/\x<256):=by
 obtain ⟨a,rfl,w⟩:=h;simp only [Lit.wf,xk,CZ] at w;have h1:IntKind.max .u8=255:=by decide
 have h2:IntKind.min .u8=0:=by decide
 exact ⟨a,rfl,by omega⟩
theorem contract {H:Type} {enc:TypeId × Value->H} {W:World} {base:Nat} {args:Array Value} {ds gs:List (DataW H)} {before:List MemPlace} {apart:Bool}
 (hval:∀ (j:Nat) t v,Try.f5.params[j]? = some t->args[j]? = some v->Value.okWide Try.prog W .any base t v) (hW:DataW.Whole enc Try.prog Try.f5.params.toList Rows.busRestsSpec.vars apart W args.toList ds gs before)
 (hm:laidMet Try.prog Rows.busRestsRow.laid W):Calls Try.prog 5 args W λ e w'=>e=.returned (.bool true)/\Below W.heap.size W w':=by
 obtain ⟨p,q,hA,_,_,_,_⟩:=hW;rw [Try.params5] at hA hval;obtain ⟨v,vs1,d,ds1,p1,q1,fuel,hl,rfl,ht,hA⟩:=KX hA;obtain ⟨v2,vs2,d2,ds2,p2,q2,fuel2,rfl,rfl,ht2,hA⟩:=KX hA;obtain ⟨v3,vs3,d3,ds3,p3,q3,fuel3,rfl,rfl,ht3,hA⟩:=KX hA;obtain ⟨rfl,rfl⟩:=vO hA;have hv:Value.okWide Try.prog W .any base 23 v:=hval 0 23 v rfl (by rw [<-j2,hl];rfl);have hv2:Value.okWide Try.prog W .any base 57 v2:=hval 1 57 v2 rfl (by rw [<-j2,hl];rfl);have hv3:Value.okWide Try.prog W .any base 58 v3:=hval 2 58 v3 rfl (by rw [<-j2,hl];rfl);obtain ⟨l1,h1,hv1⟩:=sj EO (.inl ⟨_,u23⟩) hv ht;obtain ⟨ln,co,se,wa,rfl⟩:=IB h1;rw [qmk u57 hv2] at ht2;rw [qmk u58 hv3] at ht3;have hrd:=q5n u57 (q9z EW) (by rw [c65];decide);have hry:=q5n u58 (q9z (D3 u5)) (by rw [c5];decide);obtain ⟨θL,hg,hgood⟩:=BD (tp:=0) GJ hm;obtain ⟨θ,n,gl,l,hst,hvl,u,rfl,hsl⟩:=hrd.2 enc W true fuel2 _ d2 p2 ht2 θL n0 mU hgood;obtain ⟨θ2,n2,gl2,l2,hst2,hvl2,u2,rfl,hsl2⟩:=hry.2 enc W true fuel3 _ d3 p3 ht3 θ n gl hst.cj;rw [c65] at hsl;rw [c5] at hsl2;obtain ⟨xs,hus,_⟩:=u6 (λ l h=>Hv h) hsl;obtain ⟨ys,hus2,hy0⟩:=u6 (λ l h=>La h) hsl2;have hs:=hst.trans hst2;have hrows:∀ H1,Fr Em (lh gl2 n2) H1->cZ H1 mU=true:=λ H1 f=>qx8 (n:=n0) (H:=lh mU n0) pq (λ b hb=>by rw [f.ae b (qn hb hs.le) id];exact hs.ae b hb) ti;refine ue cj (n0:=n0) (yZ ..) pq Ll (q6o (yZ ..) hg hs) ?_ (q00 (M:=mac) (λ H1 f=>q77 (hrows H1 f)) (l:=ln) (c:=co) (s:=se) (w:=wa) (ep.em hus hst2.fr) hus2 hy0);rw [hl];obtain ⟨c,cs',hcc,hcv,_⟩:=(hvl.up hst2.ag λ b hb=>qn hb hst2.le).dn;injection hcc with hcc _
 subst hcc;obtain ⟨c2,cs2,hcc2,hcv2,_⟩:=hvl2.dn;injection hcc2 with hcc2 _
 subst hcc2;exact .cons (hv1 _ _) (.cons hcv (.one hcv2))
/-- a world for the witness -/
noncomputable def tC (os:Os):World:=World.holding Try.prog os ⟨#[],#[.agg #[.int .i64 0,.int .i64 0,.int .i64 0,.int .i64 0],.slice none 0 0,.slice none 0 0],[]⟩
theorem tN (os:Os):laidMetH Try.prog Rows.busRestsRow.laid ((tC os).forCall (λ _ _=>0) ⟨#[],#[.agg #[.int .i64 0,.int .i64 0,.int .i64 0,.int .i64 0],.slice none 0 0,.slice none 0 0],[]⟩).memory :=
 laidMet_of_run' 8 (by kernel_rfl) (by kernel_rfl)
theorem reads (os:Os) {H:Type} (enc:TypeId × Value->H):∃ places,DataW.whole enc Try.prog ((tC os).forCall (λ _ _=>0) ⟨#[],#[.agg #[.int .i64 0,.int .i64 0,.int .i64 0,.int .i64 0],.slice none 0 0,.slice none 0 0],[]⟩).memory Try.f5.params.toList Rows.busRestsSpec.vars false (#[.agg #[.int .i64 0,.int .i64 0,.int .i64 0,.int .i64 0],.slice none 0 0,.slice none 0 0]:Array Value).toList 8=some ([.agg (List.replicate 4 (.lit (.int .i64 0))),.nil,.nil],[],places) :=
 ⟨[],by kernel_rfl⟩
theorem lifted (os:Os) (started:os.Started) (H:Type) (enc:TypeId × Value->H) (F:Stop.Interp) :
 ReturnsInHanded {} Try.checked os 5 .any ((OpenSpec.ofChange Rows.busRestsSpec).preRow enc Try.prog Try.f5 Rows.busRestsRow.domain false Rows.busRestsRow.laid) (((OpenSpec.ofChange Rows.busRestsSpec).at F).post enc Try.prog Try.f5 false true false false):=by
 obtain ⟨places,hx⟩:=reads os enc;refine returnsInHanded_of_row (C:=Try.checked) (s:=OpenSpec.ofChange Rows.busRestsSpec) own started (by kernel_rfl) Try.func5
  (witness_row_at (enc:=enc) (C:=Try.checked) false (tC os) #[.agg #[.int .i64 0,.int .i64 0,.int .i64 0,.int .i64 0],.slice none 0 0,.slice none 0 0] rfl (by kernel_rfl) (by kernel_rfl) (by kernel_rfl)
   (OpenSpec.preRow_of_cond 8 hx (by kernel_rfl) (λ k hk=>by cases hk) (by kernel_rfl) (tN os))) ?_
 intro W base args ds gs before hval hW _ _ _ hL _ _;have hm:laidMet Try.prog Rows.busRestsRow.laid W:=by
  unfold laidMetH at hL;rw [show ((Rows.busRestsRow.laid.filter λ x=>x.2.handleName?.isSome)=[]) from by kernel_rfl] at hL;exact hL
 refine q0e (s:=Rows.busRestsSpec) laidOut read rfl (λ ds h=>?_) rfl Try.underlying4 hW (contract hval hW hm);rw [Try.params5] at h
 match ds,h with
 | [d0,d1,d2],_=>rfl
theorem said:Rows.BusRestsSaid :=
 OpenClaim.holds_of_cond 5 Try.f5 rfl rfl rfl rfl rfl rfl rfl ⟨rfl,rfl,rfl,rfl,rfl⟩ rfl rfl rfl rfl rfl (by kernel_rfl) Try.func5 (by kernel_rfl)
  (of_decide_eq_true (by kernel_rfl)) (by unfold Func.isWrapper;first|(rw [qm (by decide +kernel)];kernel_rfl) | (rw [qd (by decide +kernel)];exact ⟨rfl,rfl⟩))
  (λ os started H enc _ F=>by rw [OpenClaim.pre_eq_preRow];exact lifted os started H enc F)
end Go.Proofs.Ytiibohocdbaekaa.busRests
