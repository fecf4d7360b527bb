/- BusHidden: for every world that holds the listed variables as listed,and whatever the arguments read as,the law returns true and changes nothing that was there. No condition beyond the row's own. -/
import Derived.Test.YtiibohocdbaekaaRows
import Derived.Test.YtiibohocdbaekaaAmHB4
import Derived.Test.YtiibohocdbaekaaAmHB5
import Derived.Test.YtiibohocdbaekaaAmHBuKc
import Derived.Test.YtiibohocdbaekaaBusHiddenRun
import Derived.LaidMore
import Derived.Deep.DeepHandedRow
namespace Go.Proofs.Ytiibohocdbaekaa.busHidden
open Go.ChangeShapes Go.WideShapes Go.ChangeAt Go.RowKit Go.Am
set_option maxRecDepth 100000
theorem cj:cC Try.prog:=HK (by kernel_rfl) (by kernel_rfl)
theorem own:ownKnob Try.prog.godebug=none:=by kernel_rfl
theorem laidOut:laidOutB Try.prog=true:=by kernel_rfl
theorem read:∀ t ∈ Try.f6.params.toList,Try.prog.readableRec t=true/\t<Try.prog.types.size:=by
 rw [Try.params6];intro t ht;simp only [je,List.mem_nil_iff,qA] at ht;rcases ht with rfl|rfl<;>exact ⟨by kernel_rfl,by decide +kernel⟩
theorem G5:og Rows.busHiddenRow.laid=true:=by kernel_rfl
theorem pk:ff n0 mS=true:=by decide +kernel
theorem uh:cS (kV mS n0) mS=true:=by decide +kernel
theorem C9:lI Try.prog mS n0 ⟨20,[],.bool true⟩:=q4t cj (zN ..) pk (L:=[]) (λ e h=>by cases h) rfl run
theorem Km:∀ e ∈ [(⟨20,[],.bool true⟩:de)],ud 0 e.args=true/\lI Try.prog mS n0 e:=λ e h=>by
 rcases xq.1 h with rfl
 exact ⟨rfl,C9⟩
noncomputable abbrev mac:aL:=aL.tell Try.prog mS [⟨20,[],.bool true⟩]
instance:MK mac:=⟨λ n hn=>aL.qW (by
 have h:(bif Nat.beq 9 n then true else bK n [20])=false:=hn;cases q:Nat.beq 9 n with
 | true=>rw [q] at h;cases h
 | false=>rw [q] at h;exact h)⟩
noncomputable def q50:Array Field:=match Try.prog.underlying 65 with|some (.struct fs)=>fs|_=>#[]
noncomputable def q5y:Array Field:=match Try.prog.underlying 23 with|some (.struct fs)=>fs|_=>#[]
theorem u57:Try.prog.underlying 57=some (.slice 65):=by kernel_rfl
theorem u65:Try.prog.underlying 65=some (.struct q50):=by kernel_rfl
theorem u23:Try.prog.underlying 23=some (.struct q5y):=by kernel_rfl
theorem u3:Try.prog.underlying 3=some (.int .i64):=by kernel_rfl
theorem u34:Try.prog.underlying 34=some (.int .u64):=by kernel_rfl
theorem c65:Try.prog.cellsOf 65=5:=by kernel_rfl
theorem Aq:q50.toList.map (·.type)=[3,3,3,34,34]:=by kernel_rfl
theorem xI:q5y.toList.map (·.type)=[3,3,3,3]:=by kernel_rfl
abbrev LD:List (List AV->Prop):=[eT .i64,eT .i64,eT .i64,eT .u64,eT .u64]
abbrev Lx:List (List AV->Prop):=[eT .i64,eT .i64,eT .i64,eT .i64]
theorem KQ {α β:Type} {f:α->TypeId} {Q:TypeId -> β->Prop}:∀ (l:List α) (R:List β),(∀ x ∈ (l.map f).zip R,Q x.1 x.2) -> ∀ x ∈ l.zip R,Q (f x.1) x.2
 | [],_,_,x,h=>by simp at h
 | _::_,[],_,x,h=>by simp at h
 | a::l,b::R,hq,x,h=>by
  rcases je.1 h with rfl|h
  ·exact hq (f a,b) (by simp)
  ·exact KQ l R (λ y hy=>hq y (by simp [hy])) x h
theorem DZ:gK Try.prog 65 (fK LD):=by
 refine qvo u65 (by kernel_rfl) (KQ (f:=Field.type) (Q:=gK Try.prog) _ _ ?_) (by kernel_rfl) (by kernel_rfl);rw [Aq];intro x hx;simp only [LD,List.zip_cons_cons,List.zip_nil_right,je,List.mem_nil_iff,qA] at hx;rcases hx with rfl|rfl|rfl|rfl|rfl
 ·exact Fg u3
 ·exact Fg u3
 ·exact Fg u3
 ·exact Fg u34
 ·exact Fg u34
theorem DV:gK Try.prog 23 (fK Lx):=by
 refine qvo u23 (by kernel_rfl) (KQ (f:=Field.type) (Q:=gK Try.prog) _ _ ?_) (by kernel_rfl) (by kernel_rfl);rw [xI];intro x hx;simp only [Lx,List.zip_cons_cons,List.zip_nil_right,je,List.mem_nil_iff,qA] at hx;rcases hx with rfl|rfl|rfl|rfl<;>exact Fg u3
theorem GN {l:List AV} (h:fK LD l):∃ x:Bt,l=eO x/\True:=by
 obtain ⟨_,_,rfl,⟨a1,rfl,_⟩,_,_,rfl,⟨a2,rfl,_⟩,_,_,rfl,⟨a3,rfl,_⟩,_,_,rfl,⟨a4,rfl,_⟩,_,_,rfl,⟨a5,rfl,_⟩,rfl⟩:=h;exact ⟨⟨a1,a2,a3,a4,a5⟩,rfl,trivial⟩
theorem Ip {l:List AV} (h:fK Lx l):∃ a b c d:Int,l=cm a b c d:=by
 obtain ⟨_,_,rfl,⟨a1,rfl,_⟩,_,_,rfl,⟨a2,rfl,_⟩,_,_,rfl,⟨a3,rfl,_⟩,_,_,rfl,⟨a4,rfl,_⟩,rfl⟩:=h;exact ⟨a1,a2,a3,a4,rfl⟩
theorem contract {H:Type} {enc:TypeId × Value->H} {W:World} {base:Nat} {args:Array Value} {ds gs:List (DataW H)} {before:List MemPlace} {apart:Bool}
 (hval:∀ (j:Nat) t v,Try.f6.params[j]? = some t->args[j]? = some v->Value.okWide Try.prog W .any base t v) (hW:DataW.Whole enc Try.prog Try.f6.params.toList Rows.busHiddenSpec.vars apart W args.toList ds gs before)
 (hm:laidMet Try.prog Rows.busHiddenRow.laid W):Calls Try.prog 6 args W λ e w'=>e=.returned (.bool true)/\Below W.heap.size W w':=by
 obtain ⟨p,q,hA,_,_,_,_⟩:=hW;rw [Try.params6] at hA hval;obtain ⟨v,vs1,d,ds1,p1,q1,fuel,hl,rfl,ht,hA⟩:=q25 hA;obtain ⟨v2,vs2,d2,ds2,p2,q2,fuel2,rfl,rfl,ht2,hA⟩:=q25 hA;obtain ⟨rfl,rfl⟩:=tS hA;have hv:Value.okWide Try.prog W .any base 23 v:=hval 0 23 v rfl (by rw [<-km,hl];rfl);have hv2:Value.okWide Try.prog W .any base 57 v2:=hval 1 57 v2 rfl (by rw [<-km,hl];rfl);obtain ⟨l1,h1,hv1⟩:=tt DV (.inl ⟨_,u23⟩) hv ht;obtain ⟨ln,co,se,wa,rfl⟩:=Ip h1;rw [quv u57 hv2] at ht2;have hrd:=tX u57 (xF DZ) (by rw [c65];decide);obtain ⟨θL,hg,hgood⟩:=AQ (tp:=0) G5 hm;obtain ⟨θ,n,gl,l,hst,hvl,u,rfl,hsl⟩:=hrd.2 enc W true fuel2 _ d2 p2 ht2 θL n0 mS hgood;rw [c65] at hsl;obtain ⟨xs,hus,_⟩:=Eb (λ l h=>GN h) hsl;obtain ⟨c,cs',hcc,hcv,_⟩:=hvl.dF;injection hcc with hcc _
 subst hcc;have hrows:∀ H1,Fr Em (kV gl n) H1->cS H1 mS=true:=λ H1 f =>
  qym (n:=n0) (H:=kV mS n0) pk (λ b hb=>by rw [f.ae b (qt hb hst.le) id];exact hst.ae b hb) uh
 refine vV cj (n0:=n0) (zN ..) pk Km (q6w (zN ..) hg hst) ?_ (qy6 (M:=mac) (λ H1 f=>q8g (hrows H1 f)) (l:=ln) (c:=co) (s:=se) (w:=wa) hus);rw [hl];exact .cons (hv1 _ _) (.one hcv)
/-- a world for the witness -/
noncomputable def tH (os:Os):World:=World.holding Try.prog os ⟨#[],#[.agg #[.int .i64 0,.int .i64 0,.int .i64 0,.int .i64 0],.slice none 0 0],[]⟩
theorem uE (os:Os):laidMetH Try.prog Rows.busHiddenRow.laid ((tH os).forCall (λ _ _=>0) ⟨#[],#[.agg #[.int .i64 0,.int .i64 0,.int .i64 0,.int .i64 0],.slice none 0 0],[]⟩).memory :=
 laidMet_of_run' 8 (by kernel_rfl) (by kernel_rfl)
theorem reads (os:Os) {H:Type} (enc:TypeId × Value->H):∃ places,DataW.whole enc Try.prog ((tH os).forCall (λ _ _=>0) ⟨#[],#[.agg #[.int .i64 0,.int .i64 0,.int .i64 0,.int .i64 0],.slice none 0 0],[]⟩).memory Try.f6.params.toList Rows.busHiddenSpec.vars false (#[.agg #[.int .i64 0,.int .i64 0,.int .i64 0,.int .i64 0],.slice none 0 0]:Array Value).toList 8=some ([.agg (List.replicate 4 (.lit (.int .i64 0))),.nil],[],places) :=
 ⟨[],by kernel_rfl⟩
theorem lifted (os:Os) (started:os.Started) (H:Type) (enc:TypeId × Value->H) (F:Stop.Interp) :
 ReturnsInHanded {} Try.checked os 6 .any ((OpenSpec.ofChange Rows.busHiddenSpec).preRow enc Try.prog Try.f6 Rows.busHiddenRow.domain false Rows.busHiddenRow.laid) (((OpenSpec.ofChange Rows.busHiddenSpec).at F).post enc Try.prog Try.f6 false true false false):=by
 obtain ⟨places,hx⟩:=reads os enc;refine returnsInHanded_of_row (C:=Try.checked) (s:=OpenSpec.ofChange Rows.busHiddenSpec) own started (by kernel_rfl) Try.func6
  (witness_row_at (enc:=enc) (C:=Try.checked) false (tH os) #[.agg #[.int .i64 0,.int .i64 0,.int .i64 0,.int .i64 0],.slice none 0 0] rfl (by kernel_rfl) (by kernel_rfl) (by kernel_rfl)
   (OpenSpec.preRow_of_cond 8 hx (by kernel_rfl) (λ k hk=>by cases hk) (by kernel_rfl) (uE os))) ?_
 intro W base args ds gs before hval hW _ _ _ hL _ _;have hm:laidMet Try.prog Rows.busHiddenRow.laid W:=by
  unfold laidMetH at hL;rw [show ((Rows.busHiddenRow.laid.filter λ x=>x.2.handleName?.isSome)=[]) from by kernel_rfl] at hL;exact hL
 refine q0n (s:=Rows.busHiddenSpec) laidOut read rfl (λ ds h=>?_) rfl Try.underlying4 hW (contract hval hW hm);rw [Try.params6] at h
 match ds,h with
 | [d0,d1],_=>rfl
theorem said:Rows.BusHiddenSaid :=
 OpenClaim.holds_of_cond 6 Try.f6 rfl rfl rfl rfl rfl rfl rfl ⟨rfl,rfl,rfl,rfl,rfl⟩ rfl rfl rfl rfl rfl (by kernel_rfl) Try.func6 (by kernel_rfl)
  (of_decide_eq_true (by kernel_rfl)) (by unfold Func.isWrapper;first|(rw [qr (by decide +kernel)];kernel_rfl) | (rw [qd (by decide +kernel)];exact ⟨rfl,rfl⟩))
  (λ os started H enc _ F=>by rw [OpenClaim.pre_eq_preRow];exact lifted os started H enc F)
end Go.Proofs.Ytiibohocdbaekaa.busHidden
