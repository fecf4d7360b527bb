/- NodeBack: for every world that holds the listed variables as listed,and whatever the arguments read as,the law returns true and changes nothing that was there. No condition beyond the row's own. -/
import Derived.Test.YtiibohocdbaekaaRows
import Derived.Test.YtiibohocdbaekaaAmQB4
import Derived.Test.YtiibohocdbaekaaAmQB5
import Derived.Test.YtiibohocdbaekaaAmQNmQb
import Derived.Test.YtiibohocdbaekaaNodeBackRun
import Derived.LaidMore
import Derived.Deep.DeepHandedRow
namespace Go.Proofs.Ytiibohocdbaekaa.nodeBack
open Go.ChangeShapes Go.WideShapes Go.ChangeAt Go.RowKit Go.Am
set_option maxRecDepth 100000
theorem good:PGood Try.prog:=pgood (by kernel_rfl) (by kernel_rfl)
theorem own:ownKnob Try.prog.godebug=none:=by kernel_rfl
theorem laidOut:laidOutB Try.prog=true:=by kernel_rfl
theorem read:∀ t ∈ Try.f4.params.toList,Try.prog.readableRec t=true/\t<Try.prog.types.size:=by
 rw [Try.params4]
 intro t ht
 simp only [zp,qeo,or_false] at ht
 rcases ht with rfl|rfl|rfl<;>exact ⟨by kernel_rfl,by decide +kernel⟩
theorem noErr:noSent Rows.nodeBackRow.laid=true:=by kernel_rfl
theorem okRows:rowsOk n0 gl0=true:=by decide +kernel
theorem hasRows0:hasRows (vd gl0 n0) gl0=true:=by decide +kernel
theorem aliveT:ToldP Try.prog gl0 n0 ⟨9,[],.bool true⟩:=q17 good (qf8 ..) okRows (L:=[]) (fun e h=>by cases h) rfl run
theorem allT:∀ e ∈ [(⟨9,[],.bool true⟩:TEntry)],qec 0 e.args=true/\ToldP Try.prog gl0 n0 e:=fun e h=>by
 rcases List.mem_singleton.1 h with rfl
 exact ⟨rfl,aliveT⟩
noncomputable abbrev mac:Mac:=Mac.tell Try.prog gl0 [⟨9,[],.bool true⟩]
instance:MK mac:=⟨fun n hn=>Mac.tell_func (by
 have h:(bif Nat.beq 9 n then true else memN n [20])=false:=hn
 cases q:Nat.beq 9 n with
 | true=>rw [q] at h;cases h
 | false=>show (bif Nat.beq 9 n then true else false)=false;rw [q];rfl)⟩
noncomputable def q26:Array Field:=match Try.prog.underlying 40 with|some (.struct fs)=>fs|_=>#[]
noncomputable def q2u:Array Field:=match Try.prog.underlying 38 with|some (.struct fs)=>fs|_=>#[]
noncomputable def q24:Array Field:=match Try.prog.underlying 23 with|some (.struct fs)=>fs|_=>#[]
theorem u24:Try.prog.underlying 24=some (.slice 40):=by kernel_rfl
theorem u40:Try.prog.underlying 40=some (.struct q26):=by kernel_rfl
theorem u38:Try.prog.underlying 38=some (.struct q2u):=by kernel_rfl
theorem u23:Try.prog.underlying 23=some (.struct q24):=by kernel_rfl
theorem u36:Try.prog.underlying 36=some (.array 8 34):=by kernel_rfl
theorem u3:Try.prog.underlying 3=some (.int .i64):=by kernel_rfl
theorem u34:Try.prog.underlying 34=some (.int .u64):=by kernel_rfl
theorem c40:Try.prog.cellsOf 40=15:=by kernel_rfl
theorem spTypes:q26.toList.map (·.type)=[3,3,34,34,38]:=by kernel_rfl
theorem mgTypes:q2u.toList.map (·.type)=[3,3,3,36]:=by kernel_rfl
theorem seTypes:q24.toList.map (·.type)=[3,3,3,3]:=by kernel_rfl
abbrev lnR:List (List AV->Prop):=List.replicate 8 (isIntL .u64)
abbrev mgR:List (List AV->Prop):=[isIntL .i64,isIntL .i64,isIntL .i64,isParts lnR]
abbrev spR:List (List AV->Prop):=[isIntL .i64,isIntL .i64,isIntL .u64,isIntL .u64,isParts mgR]
abbrev seR:List (List AV->Prop):=[isIntL .i64,isIntL .i64,isIntL .i64,isIntL .i64]
theorem qvl {α β:Type} {f:α->TypeId} {Q:TypeId -> β->Prop}:∀ (l:List α) (R:List β),(∀ x ∈ (l.map f).zip R,Q x.1 x.2) -> ∀ x ∈ l.zip R,Q (f x.1) x.2
 | [],_,_,x,h=>by simp at h
 | _::_,[],_,x,h=>by simp at h
 | a::l,b::R,hq,x,h=>by
  rcases zp.1 h with rfl|h
  ·exact hq (f a,b) (by simp)
  ·exact qvl l R (fun y hy=>hq y (by simp [hy])) x h
theorem flatLn:FlatP Try.prog 36 (isParts lnR):=q3x u36 (qf9 u34) (by kernel_rfl)
theorem flatMg:FlatP Try.prog 38 (isParts mgR):=by
 refine qk8 u38 (by kernel_rfl) (qvl (f:=Field.type) (Q:=FlatP Try.prog) _ _ ?_) (by kernel_rfl) (by kernel_rfl)
 rw [mgTypes]
 intro x hx
 simp only [mgR,wz,qe2,zp,qeo,or_false] at hx
 rcases hx with rfl|rfl|rfl|rfl
 ·exact qf9 u3
 ·exact qf9 u3
 ·exact qf9 u3
 ·exact flatLn
theorem flatSp:FlatP Try.prog 40 (isParts spR):=by
 refine qk8 u40 (by kernel_rfl) (qvl (f:=Field.type) (Q:=FlatP Try.prog) _ _ ?_) (by kernel_rfl) (by kernel_rfl)
 rw [spTypes]
 intro x hx
 simp only [spR,wz,qe2,zp,qeo,or_false] at hx
 rcases hx with rfl|rfl|rfl|rfl|rfl
 ·exact qf9 u3
 ·exact qf9 u3
 ·exact qf9 u34
 ·exact qf9 u34
 ·exact flatMg
theorem flatSe:FlatP Try.prog 23 (isParts seR):=by
 refine qk8 u23 (by kernel_rfl) (qvl (f:=Field.type) (Q:=FlatP Try.prog) _ _ ?_) (by kernel_rfl) (by kernel_rfl)
 rw [seTypes]
 intro x hx
 simp only [seR,wz,qe2,zp,qeo,or_false] at hx
 rcases hx with rfl|rfl|rfl|rfl<;>exact qf9 u3
theorem ln_of {l:List AV} (h:isParts lnR l):∃ x:L8,l=enL x:=by
 obtain ⟨_,_,rfl,⟨a1,rfl,_⟩,_,_,rfl,⟨a2,rfl,_⟩,_,_,rfl,⟨a3,rfl,_⟩,_,_,rfl,⟨a4,rfl,_⟩,_,_,rfl,⟨a5,rfl,_⟩,_,_,rfl,⟨a6,rfl,_⟩,_,_,rfl,⟨a7,rfl,_⟩,_,_,rfl,⟨a8,rfl,_⟩,rfl⟩:=h
 exact ⟨⟨[a1,a2,a3,a4,a5,a6,a7,a8],rfl⟩,rfl⟩
theorem mg_of {l:List AV} (h:isParts mgR l):∃ m:Mg,l=encM m:=by
 obtain ⟨_,_,rfl,⟨a1,rfl,_⟩,_,_,rfl,⟨a2,rfl,_⟩,_,_,rfl,⟨a3,rfl,_⟩,b,_,rfl,h4,rfl⟩:=h
 obtain ⟨x,rfl⟩:=ln_of h4
 exact ⟨⟨a1,a2,a3,x⟩,by rw [jb];rfl⟩
theorem sp_of {l:List AV} (h:isParts spR l):∃ x:Sp,l=encSp x/\True:=by
 obtain ⟨_,_,rfl,⟨a1,rfl,_⟩,_,_,rfl,⟨a2,rfl,_⟩,_,_,rfl,⟨a3,rfl,_⟩,_,_,rfl,⟨a4,rfl,_⟩,b,_,rfl,h5,rfl⟩:=h
 obtain ⟨m,rfl⟩:=mg_of h5
 exact ⟨⟨a1,a2,a3,a4,m⟩,by rw [jb];rfl,trivial⟩
theorem se_of {l:List AV} (h:isParts seR l):∃ a b c d:Int,l=encSet a b c d:=by
 obtain ⟨_,_,rfl,⟨a1,rfl,_⟩,_,_,rfl,⟨a2,rfl,_⟩,_,_,rfl,⟨a3,rfl,_⟩,_,_,rfl,⟨a4,rfl,_⟩,rfl⟩:=h
 exact ⟨a1,a2,a3,a4,rfl⟩
noncomputable def q29:Array Field:=match Try.prog.underlying 47 with|some (.struct fs)=>fs|_=>#[]
noncomputable def q2x:Array Field:=match Try.prog.underlying 50 with|some (.struct fs)=>fs|_=>#[]
theorem u47:Try.prog.underlying 47=some (.struct q29):=by kernel_rfl
theorem u50:Try.prog.underlying 50=some (.struct q2x):=by kernel_rfl
theorem u45:Try.prog.underlying 45=some (.slice 50):=by kernel_rfl
theorem u4:Try.prog.underlying 4=some .bool:=by kernel_rfl
theorem c50:Try.prog.cellsOf 50=2:=by kernel_rfl
theorem txTypes:q29.toList.map (·.type)=[45,3,4]:=by kernel_rfl
theorem paTypes:q2x.toList.map (·.type)=[3,34]:=by kernel_rfl
abbrev paR:List (List AV->Prop):=[isIntL .i64,isIntL .u64]
theorem flatPa:FlatP Try.prog 50 (isParts paR):=by
 refine qk8 u50 (by kernel_rfl) (qvl (f:=Field.type) (Q:=FlatP Try.prog) _ _ ?_) (by kernel_rfl) (by kernel_rfl)
 rw [paTypes]
 intro x hx
 simp only [paR,wz,qe2,zp,qeo,or_false] at hx
 rcases hx with rfl|rfl
 ·exact qf9 u3
 ·exact qf9 u34
theorem pa_of {l:List AV} (h:isParts paR l):∃ x:Int × Int,l=encP x/\True:=by
 obtain ⟨_,_,rfl,⟨a1,rfl,_⟩,_,_,rfl,⟨a2,rfl,_⟩,rfl⟩:=h
 exact ⟨(a1,a2),rfl,trivial⟩
theorem pasW:RdW Try.prog 45 fun H l=>∃ u,l=[u] /\ ∃ ps:List (Int × Int),SlT encP 2 H u ps:=by
 refine (q6h u45 (qyj flatPa).toW (by rw [c50];decide)).imp ?_ fun H l h=>?_
 ·rintro H H' l ⟨u,h1,xs,h2⟩ f;exact ⟨u,h1,xs,h2.em f⟩
 ·obtain ⟨u,rfl,h1,h2⟩:=h
  rw [c50] at h1
  obtain ⟨xs,h3,_⟩:=slt_of (enc:=encP) (Q:=fun _=>True) (fun l h=>pa_of h) h1
  exact ⟨u,rfl,xs,h3⟩
theorem txW:RdW Try.prog 47 fun H l=>∃ u k b,l=[u,.int .i64 k,.bool b] /\ ∃ ps:List (Int × Int),SlT encP 2 H u ps:=by
 refine (q4h (Rs:=[fun H l=>∃ u,l=[u] /\ ∃ ps:List (Int × Int),SlT encP 2 H u ps,fun _ l=>isIntL .i64 l,fun _ l=>isBoolL l]) u47 (by kernel_rfl) (q3d (f:=Field.type) (Q:=RdW Try.prog) _ _ (by
  rw [txTypes]
  intro x hx
  simp only [wz,qe2,zp,qeo,or_false] at hx
  rcases hx with rfl|rfl|rfl
  ·exact pasW
  ·exact (qyj (qf9 u3)).toW
  ·exact (qyj (q5p u4)).toW)) (by kernel_rfl) (by kernel_rfl)).imp ?_ fun H l h=>?_
 ·rintro H H' l ⟨u,k,b,h1,ps,h2⟩ f;exact ⟨u,k,b,h1,ps,h2.em f⟩
 ·obtain ⟨_,_,rfl,⟨u,rfl,ps,h1⟩,_,_,rfl,⟨k,rfl,_⟩,_,_,rfl,⟨b,rfl⟩,rfl⟩:=h
  exact ⟨u,k,b,rfl,ps,h1⟩
theorem contract {H:Type} {enc:TypeId × Value->H} {W:World} {base:Nat} {args:Array Value} {ds gs:List (DataW H)} {before:List MemPlace} {apart:Bool}
 (hval:∀ (j:Nat) t v,Try.f4.params[j]? = some t->args[j]? = some v->Value.okWide Try.prog W .any base t v) (hW:DataW.Whole enc Try.prog Try.f4.params.toList Rows.nodeBackSpec.vars apart W args.toList ds gs before)
 (hm:laidMet Try.prog Rows.nodeBackRow.laid W) {ts:List TypeId} (hZ:(DataW.weightsEach Try.prog (Try.f4.params.toList++ts) (ds++gs)).all (·<=reachBytes)=true):Calls Try.prog 4 args W fun e w'=>e=.returned (.bool true)/\Below W.heap.size W w':=by
 obtain ⟨p,q,hA,_,_,_,_⟩:=hW
 rw [Try.params4] at hA hval hZ
 obtain ⟨v,vs1,d,ds1,p1,q1,fuel,hl,rfl,ht,hA⟩:=qvj hA
 obtain ⟨v2,vs2,d2,ds2,p2,q2,fuel2,rfl,rfl,ht2,hA⟩:=qvj hA
 obtain ⟨v3,vs3,d3,ds3,p3,q3,fuel3,rfl,rfl,ht3,hA⟩:=qvj hA
 obtain ⟨rfl,rfl⟩:=trod_nil hA
 have hv:Value.okWide Try.prog W .any base 23 v:=hval 0 23 v rfl (by rw [<-jy,hl];rfl)
 have hv2:Value.okWide Try.prog W .any base 24 v2:=hval 1 24 v2 rfl (by rw [<-jy,hl];rfl)
 have hv3:Value.okWide Try.prog W .any base 47 v3:=hval 2 47 v3 rfl (by rw [<-jy,hl];rfl)
 obtain ⟨l1,h1,hv1⟩:=arg_flat flatSe (.inl ⟨_,u23⟩) hv ht
 obtain ⟨ln,co,se,wa,rfl⟩:=se_of h1
 rw [qs0 u24 hv2] at ht2
 obtain ⟨cs,rfl⟩:=q47 (.inl ⟨_,u47⟩) hv3
 have ht3:DataW.trod enc Try.prog W 0 (fun _=>true) true fuel3 47 cs.toList=some (d3,p3):=ht3
 have hwt:Wt Try.prog 47 d3:=fun x hx=>by
  have h1:=qdl.1 hZ x (by simp only [qci,DataW.weightsEach,jt];exact .inr (.inr (.inl hx)))
  simpa using h1
 have hrd:=rd_slice u24 (qyj flatSp) (by rw [c40];decide)
 obtain ⟨θL,hg,hgood⟩:=laidN (tp:=0) noErr hm
 obtain ⟨θ,n,gl,l,hst,hvl,u,rfl,hsl⟩:=hrd.2 enc W true fuel2 _ d2 p2 ht2 θL n0 gl0 hgood
 rw [c40] at hsl
 obtain ⟨xs,hus,_⟩:=slt_of (fun l h=>sp_of h) hsl
 obtain ⟨θ2,n2,gl2,l3,hst2,hvl2,tu,k,bb,rfl,ps,hps⟩:=txW.2 enc W true fuel3 _ d3 p3 ht3 hwt θ n gl hst.good
 have hs:=hst.trans hst2
 have hrows:∀ H1,Fr Em (vd gl2 n2) H1->hasRows H1 gl0=true:=fun H1 f =>
  qwi (n:=n0) (H:=vd gl0 n0) okRows (fun b hb=>by rw [f.keep b (ql hb hs.le) id];exact hs.keep b hb) hasRows0
 refine law_tell good (n0:=n0) (qf8 ..) okRows allT (q3z (qf8 ..) hg hs) ?_ (qy0 (M:=mac) (fun H1 f=>q49 (hrows H1 f)) (lines:=ln) (cores:=co) (s:=se) (w:=wa) (code:=k) (cm:=bb) (hus.em hst2.fr) hps)
 obtain ⟨c,cs',hcc,hcv,_⟩:=(hvl.up hst2.ag fun b hb=>ql hb hst2.le).uncons
 injection hcc with hcc _
 subst hcc
 rw [hl]
 exact .cons (hv1 _ _) (.cons hcv (.one (by simpa using VR.agg hvl2)))
/-- a world for the witness -/
noncomputable def laidW (os:Os):World:=World.holding Try.prog os ⟨#[],#[.agg #[.int .i64 0,.int .i64 0,.int .i64 0,.int .i64 0],.slice none 0 0,.agg #[.slice none 0 0,.int .i64 0,.bool false]],[]⟩
theorem laid_met (os:Os):laidMetH Try.prog Rows.nodeBackRow.laid ((laidW os).forCall (fun _ _=>0) ⟨#[],#[.agg #[.int .i64 0,.int .i64 0,.int .i64 0,.int .i64 0],.slice none 0 0,.agg #[.slice none 0 0,.int .i64 0,.bool false]],[]⟩).memory :=
 laidMet_of_run' 8 (by kernel_rfl) (by kernel_rfl)
theorem reads (os:Os) {H:Type} (enc:TypeId × Value->H):∃ places,DataW.whole enc Try.prog ((laidW os).forCall (fun _ _=>0) ⟨#[],#[.agg #[.int .i64 0,.int .i64 0,.int .i64 0,.int .i64 0],.slice none 0 0,.agg #[.slice none 0 0,.int .i64 0,.bool false]],[]⟩).memory Try.f4.params.toList Rows.nodeBackSpec.vars false (#[.agg #[.int .i64 0,.int .i64 0,.int .i64 0,.int .i64 0],.slice none 0 0,.agg #[.slice none 0 0,.int .i64 0,.bool false]]:Array Value).toList 8=some ([.agg (List.replicate 4 (.lit (.int .i64 0))),.nil,.agg [.nil,.lit (.int .i64 0),.lit (.bool false)]],[],places) :=
 ⟨[],by kernel_rfl⟩
theorem lifted (os:Os) (started:os.Started) (H:Type) (enc:TypeId × Value->H) (F:Stop.Interp) :
 ReturnsInHanded {} Try.checked os 4 .any ((OpenSpec.ofChange Rows.nodeBackSpec).preRow enc Try.prog Try.f4 Rows.nodeBackRow.domain false Rows.nodeBackRow.laid) (((OpenSpec.ofChange Rows.nodeBackSpec).at F).post enc Try.prog Try.f4 false true false false):=by
 obtain ⟨places,hx⟩:=reads os enc
 refine returnsInHanded_of_row (C:=Try.checked) (s:=OpenSpec.ofChange Rows.nodeBackSpec) own started (by kernel_rfl) Try.func4
  (witness_row_at (enc:=enc) (C:=Try.checked) false (laidW os) #[.agg #[.int .i64 0,.int .i64 0,.int .i64 0,.int .i64 0],.slice none 0 0,.agg #[.slice none 0 0,.int .i64 0,.bool false]] rfl (by kernel_rfl) (by kernel_rfl) (by kernel_rfl)
   (OpenSpec.preRow_of_cond 8 hx (by kernel_rfl) (fun k hk=>by cases hk) (by kernel_rfl) (laid_met os))) ?_
 intro W base args ds gs before hval hW _ _ hZ hL _ _
 have hm:laidMet Try.prog Rows.nodeBackRow.laid W:=by
  unfold laidMetH at hL
  rw [show ((Rows.nodeBackRow.laid.filter fun x=>x.2.handleName?.isSome)=[]) from by kernel_rfl] at hL
  exact hL
 refine qx8 (s:=Rows.nodeBackSpec) laidOut read rfl (fun ds h=>?_) rfl Try.underlying4 hW (contract hval hW hm hZ)
 rw [Try.params4] at h
 match ds,h with
 | [d0,d1,d2],_=>rfl
theorem said:Rows.NodeBackSaid :=
 OpenClaim.holds_of_cond 4 Try.f4 rfl rfl rfl rfl rfl rfl rfl ⟨rfl,rfl,rfl,rfl,rfl⟩ rfl rfl rfl rfl rfl (by kernel_rfl) Try.func4 (by kernel_rfl)
  (of_decide_eq_true (by kernel_rfl)) (by unfold Func.isWrapper;first|(rw [xc (by decide +kernel)];kernel_rfl) | (rw [qo (by decide +kernel)];exact ⟨rfl,rfl⟩))
  (fun os started H enc _ F=>by rw [OpenClaim.pre_eq_preRow];exact lifted os started H enc F)
end Go.Proofs.Ytiibohocdbaekaa.nodeBack
