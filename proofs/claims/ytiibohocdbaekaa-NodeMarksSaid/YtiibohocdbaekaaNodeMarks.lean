/- NodeMarks: for every world that holds the listed variables as listed,and whatever the arguments read as,the law returns true and changes nothing that was there. No condition beyond the row's own. -/
import Derived.Test.YtiibohocdbaekaaRows
import Derived.Test.YtiibohocdbaekaaAmKB4
import Derived.Test.YtiibohocdbaekaaAmKB5
import Derived.Test.YtiibohocdbaekaaAmKNmKb
import Derived.Test.YtiibohocdbaekaaNodeMarksRun
import Derived.LaidMore
import Derived.Deep.DeepHandedRow
namespace Go.Proofs.Ytiibohocdbaekaa.nodeMarks
open Go.ChangeShapes Go.WideShapes Go.ChangeAt Go.RowKit Go.Am
set_option maxRecDepth 100000
theorem good:PGood Try.prog:=pgood (by kernel_rfl) (by kernel_rfl)
theorem own:ownKnob Try.prog.godebug=none:=by kernel_rfl
theorem laidOut:laidOutB Try.prog=true:=by kernel_rfl
theorem read:∀ t ∈ Try.f3.params.toList,Try.prog.readableRec t=true/\t<Try.prog.types.size:=by
 rw [Try.params3]
 intro t ht
 simp only [z9,List.mem_nil_iff,or_false] at ht
 rcases ht with rfl|rfl<;>exact ⟨by kernel_rfl,by decide +kernel⟩
theorem noErr:noSent Rows.nodeMarksRow.laid=true:=by kernel_rfl
theorem okRows:rowsOk n0 gl0=true:=by decide +kernel
theorem hasRows0:hasRows (qac gl0 n0) gl0=true:=by decide +kernel
theorem aliveT:ToldP Try.prog gl0 n0 ⟨9,[],.bool true⟩:=q1y good (qf6 ..) okRows (L:=[]) (fun e h=>by cases h) rfl run
theorem allT:∀ e ∈ [(⟨9,[],.bool true⟩:TEntry)],qd7 0 e.args=true/\ToldP Try.prog gl0 n0 e:=fun e h=>by
 rcases kr.1 h with rfl
 exact ⟨rfl,aliveT⟩
noncomputable abbrev mac:Mac:=Mac.tell Try.prog gl0 [⟨9,[],.bool true⟩]
instance:MK mac:=⟨fun n hn=>Mac.tell_func (by
 have h:(bif Nat.beq 9 n then true else memN n [20])=false:=hn
 cases q:Nat.beq 9 n with
 | true=>rw [q] at h;cases h
 | false=>show (bif Nat.beq 9 n then true else false)=false;rw [q];rfl)⟩
noncomputable def q2s:Array Field:=match Try.prog.underlying 40 with|some (.struct fs)=>fs|_=>#[]
noncomputable def q2i:Array Field:=match Try.prog.underlying 38 with|some (.struct fs)=>fs|_=>#[]
noncomputable def q2q:Array Field:=match Try.prog.underlying 23 with|some (.struct fs)=>fs|_=>#[]
theorem u24:Try.prog.underlying 24=some (.slice 40):=by kernel_rfl
theorem u40:Try.prog.underlying 40=some (.struct q2s):=by kernel_rfl
theorem u38:Try.prog.underlying 38=some (.struct q2i):=by kernel_rfl
theorem u23:Try.prog.underlying 23=some (.struct q2q):=by kernel_rfl
theorem u36:Try.prog.underlying 36=some (.array 8 34):=by kernel_rfl
theorem u3:Try.prog.underlying 3=some (.int .i64):=by kernel_rfl
theorem u34:Try.prog.underlying 34=some (.int .u64):=by kernel_rfl
theorem c40:Try.prog.cellsOf 40=15:=by kernel_rfl
theorem spTypes:q2s.toList.map (·.type)=[3,3,34,34,38]:=by kernel_rfl
theorem mgTypes:q2i.toList.map (·.type)=[3,3,3,36]:=by kernel_rfl
theorem seTypes:q2q.toList.map (·.type)=[3,3,3,3]:=by kernel_rfl
abbrev lnR:List (List AV->Prop):=List.replicate 8 (isIntL .u64)
abbrev mgR:List (List AV->Prop):=[isIntL .i64,isIntL .i64,isIntL .i64,isParts lnR]
abbrev spR:List (List AV->Prop):=[isIntL .i64,isIntL .i64,isIntL .u64,isIntL .u64,isParts mgR]
abbrev seR:List (List AV->Prop):=[isIntL .i64,isIntL .i64,isIntL .i64,isIntL .i64]
theorem qyt {α β:Type} {f:α->TypeId} {Q:TypeId -> β->Prop}:∀ (l:List α) (R:List β),(∀ x ∈ (l.map f).zip R,Q x.1 x.2) -> ∀ x ∈ l.zip R,Q (f x.1) x.2
 | [],_,_,x,h=>by simp at h
 | _::_,[],_,x,h=>by simp at h
 | a::l,b::R,hq,x,h=>by
  rcases z9.1 h with rfl|h
  ·exact hq (f a,b) (by simp)
  ·exact qyt l R (fun y hy=>hq y (by simp [hy])) x h
theorem flatLn:FlatP Try.prog 36 (isParts lnR):=q3h u36 (qid u34) (by kernel_rfl)
theorem flatMg:FlatP Try.prog 38 (isParts mgR):=by
 refine qob u38 (by kernel_rfl) (qyt (f:=Field.type) (Q:=FlatP Try.prog) _ _ ?_) (by kernel_rfl) (by kernel_rfl)
 rw [mgTypes]
 intro x hx
 simp only [mgR,qdj,List.zip_nil_right,z9,List.mem_nil_iff,or_false] at hx
 rcases hx with rfl|rfl|rfl|rfl
 ·exact qid u3
 ·exact qid u3
 ·exact qid u3
 ·exact flatLn
theorem flatSp:FlatP Try.prog 40 (isParts spR):=by
 refine qob u40 (by kernel_rfl) (qyt (f:=Field.type) (Q:=FlatP Try.prog) _ _ ?_) (by kernel_rfl) (by kernel_rfl)
 rw [spTypes]
 intro x hx
 simp only [spR,qdj,List.zip_nil_right,z9,List.mem_nil_iff,or_false] at hx
 rcases hx with rfl|rfl|rfl|rfl|rfl
 ·exact qid u3
 ·exact qid u3
 ·exact qid u34
 ·exact qid u34
 ·exact flatMg
theorem flatSe:FlatP Try.prog 23 (isParts seR):=by
 refine qob u23 (by kernel_rfl) (qyt (f:=Field.type) (Q:=FlatP Try.prog) _ _ ?_) (by kernel_rfl) (by kernel_rfl)
 rw [seTypes]
 intro x hx
 simp only [seR,qdj,List.zip_nil_right,z9,List.mem_nil_iff,or_false] at hx
 rcases hx with rfl|rfl|rfl|rfl<;>exact qid u3
theorem ln_of {l:List AV} (h:isParts lnR l):∃ x:L8,l=enL x:=by
 obtain ⟨_,_,rfl,⟨a1,rfl,_⟩,_,_,rfl,⟨a2,rfl,_⟩,_,_,rfl,⟨a3,rfl,_⟩,_,_,rfl,⟨a4,rfl,_⟩,_,_,rfl,⟨a5,rfl,_⟩,_,_,rfl,⟨a6,rfl,_⟩,_,_,rfl,⟨a7,rfl,_⟩,_,_,rfl,⟨a8,rfl,_⟩,rfl⟩:=h
 exact ⟨⟨[a1,a2,a3,a4,a5,a6,a7,a8],rfl⟩,rfl⟩
theorem mg_of {l:List AV} (h:isParts mgR l):∃ m:Mg,l=encM m:=by
 obtain ⟨_,_,rfl,⟨a1,rfl,_⟩,_,_,rfl,⟨a2,rfl,_⟩,_,_,rfl,⟨a3,rfl,_⟩,b,_,rfl,h4,rfl⟩:=h
 obtain ⟨x,rfl⟩:=ln_of h4
 exact ⟨⟨a1,a2,a3,x⟩,by rw [je];rfl⟩
theorem sp_of {l:List AV} (h:isParts spR l):∃ x:Sp,l=encSp x/\True:=by
 obtain ⟨_,_,rfl,⟨a1,rfl,_⟩,_,_,rfl,⟨a2,rfl,_⟩,_,_,rfl,⟨a3,rfl,_⟩,_,_,rfl,⟨a4,rfl,_⟩,b,_,rfl,h5,rfl⟩:=h
 obtain ⟨m,rfl⟩:=mg_of h5
 exact ⟨⟨a1,a2,a3,a4,m⟩,by rw [je];rfl,trivial⟩
theorem se_of {l:List AV} (h:isParts seR l):∃ a b c d:Int,l=encSet a b c d:=by
 obtain ⟨_,_,rfl,⟨a1,rfl,_⟩,_,_,rfl,⟨a2,rfl,_⟩,_,_,rfl,⟨a3,rfl,_⟩,_,_,rfl,⟨a4,rfl,_⟩,rfl⟩:=h
 exact ⟨a1,a2,a3,a4,rfl⟩
theorem contract {H:Type} {enc:TypeId × Value->H} {W:World} {base:Nat} {args:Array Value} {ds gs:List (DataW H)} {before:List MemPlace} {apart:Bool}
 (hval:∀ (j:Nat) t v,Try.f3.params[j]? = some t->args[j]? = some v->Value.okWide Try.prog W .any base t v) (hW:DataW.Whole enc Try.prog Try.f3.params.toList Rows.nodeMarksSpec.vars apart W args.toList ds gs before)
 (hm:laidMet Try.prog Rows.nodeMarksRow.laid W):Calls Try.prog 3 args W fun e w'=>e=.returned (.bool true)/\Below W.heap.size W w':=by
 obtain ⟨p,q,hA,_,_,_,_⟩:=hW
 rw [Try.params3] at hA hval
 obtain ⟨v,vs1,d,ds1,p1,q1,fuel,hl,rfl,ht,hA⟩:=q0l hA
 obtain ⟨v2,vs2,d2,ds2,p2,q2,fuel2,rfl,rfl,ht2,hA⟩:=q0l hA
 obtain ⟨rfl,rfl⟩:=trod_nil hA
 have hv:Value.okWide Try.prog W .any base 23 v:=hval 0 23 v rfl (by rw [<-j9,hl];rfl)
 have hv2:Value.okWide Try.prog W .any base 24 v2:=hval 1 24 v2 rfl (by rw [<-j9,hl];rfl)
 obtain ⟨l1,h1,hv1⟩:=arg_flat flatSe (.inl ⟨_,u23⟩) hv ht
 obtain ⟨ln,co,se,wa,rfl⟩:=se_of h1
 rw [qsz u24 hv2] at ht2
 have hrd:=rd_slice u24 (rd_flat flatSp) (by rw [c40];decide)
 obtain ⟨θL,hg,hgood⟩:=laidN (tp:=0) noErr hm
 obtain ⟨θ,n,gl,l,hst,hvl,u,rfl,hsl⟩:=hrd.2 enc W true fuel2 _ d2 p2 ht2 θL n0 gl0 hgood
 rw [c40] at hsl
 obtain ⟨xs,hus,_⟩:=slt_of (fun l h=>sp_of h) hsl
 obtain ⟨c,cs',hcc,hcv,_⟩:=hvl.uncons
 injection hcc with hcc _
 subst hcc
 have hrows:∀ H1,Fr Em (qac gl n) H1->hasRows H1 gl0=true:=fun H1 f =>
  qv9 (n:=n0) (H:=qac gl0 n0) okRows (fun b hb=>by rw [f.keep b (ql hb hst.le) id];exact hst.keep b hb) hasRows0
 refine law_tell good (n0:=n0) (qf6 ..) okRows allT (q3j (qf6 ..) hg hst) ?_ (qww (M:=mac) (fun H1 f=>q4v (hrows H1 f)) (lines:=ln) (cores:=co) (s:=se) (w:=wa) hus)
 rw [hl]
 exact .cons (hv1 _ _) (.one hcv)
/-- a world for the witness -/
noncomputable def laidW (os:Os):World:=World.holding Try.prog os ⟨#[],#[.agg #[.int .i64 0,.int .i64 0,.int .i64 0,.int .i64 0],.slice none 0 0],[]⟩
theorem laid_met (os:Os):laidMetH Try.prog Rows.nodeMarksRow.laid ((laidW os).forCall (fun _ _=>0) ⟨#[],#[.agg #[.int .i64 0,.int .i64 0,.int .i64 0,.int .i64 0],.slice none 0 0],[]⟩).memory :=
 laidMet_of_run' 8 (by kernel_rfl) (by kernel_rfl)
theorem reads (os:Os) {H:Type} (enc:TypeId × Value->H):∃ places,DataW.whole enc Try.prog ((laidW os).forCall (fun _ _=>0) ⟨#[],#[.agg #[.int .i64 0,.int .i64 0,.int .i64 0,.int .i64 0],.slice none 0 0],[]⟩).memory Try.f3.params.toList Rows.nodeMarksSpec.vars false (#[.agg #[.int .i64 0,.int .i64 0,.int .i64 0,.int .i64 0],.slice none 0 0]:Array Value).toList 8=some ([.agg (List.replicate 4 (.lit (.int .i64 0))),.nil],[],places) :=
 ⟨[],by kernel_rfl⟩
theorem lifted (os:Os) (started:os.Started) (H:Type) (enc:TypeId × Value->H) (F:Stop.Interp) :
 ReturnsInHanded {} Try.checked os 3 .any ((OpenSpec.ofChange Rows.nodeMarksSpec).preRow enc Try.prog Try.f3 Rows.nodeMarksRow.domain false Rows.nodeMarksRow.laid) (((OpenSpec.ofChange Rows.nodeMarksSpec).at F).post enc Try.prog Try.f3 false true false false):=by
 obtain ⟨places,hx⟩:=reads os enc
 refine returnsInHanded_of_row (C:=Try.checked) (s:=OpenSpec.ofChange Rows.nodeMarksSpec) own started (by kernel_rfl) Try.func3
  (witness_row_at (enc:=enc) (C:=Try.checked) false (laidW os) #[.agg #[.int .i64 0,.int .i64 0,.int .i64 0,.int .i64 0],.slice none 0 0] rfl (by kernel_rfl) (by kernel_rfl) (by kernel_rfl)
   (OpenSpec.preRow_of_cond 8 hx (by kernel_rfl) (fun k hk=>by cases hk) (by kernel_rfl) (laid_met os))) ?_
 intro W base args ds gs before hval hW _ _ _ hL _ _
 have hm:laidMet Try.prog Rows.nodeMarksRow.laid W:=by
  unfold laidMetH at hL
  rw [show ((Rows.nodeMarksRow.laid.filter fun x=>x.2.handleName?.isSome)=[]) from by kernel_rfl] at hL
  exact hL
 refine qx3 (s:=Rows.nodeMarksSpec) laidOut read rfl (fun ds h=>?_) rfl Try.underlying4 hW (contract hval hW hm)
 rw [Try.params3] at h
 match ds,h with
 | [d0,d1],_=>rfl
theorem said:Rows.NodeMarksSaid :=
 OpenClaim.holds_of_cond 3 Try.f3 rfl rfl rfl rfl rfl rfl rfl ⟨rfl,rfl,rfl,rfl,rfl⟩ rfl rfl rfl rfl rfl (by kernel_rfl) Try.func3 (by kernel_rfl)
  (of_decide_eq_true (by kernel_rfl)) (by unfold Func.isWrapper;first|(rw [xb (by decide +kernel)];kernel_rfl) | (rw [qn (by decide +kernel)];exact ⟨rfl,rfl⟩))
  (fun os started H enc _ F=>by rw [OpenClaim.pre_eq_preRow];exact lifted os started H enc F)
end Go.Proofs.Ytiibohocdbaekaa.nodeMarks
