/- CompMeans: for every world that holds the listed variables as listed,and whatever the arguments read as,the law returns true and changes nothing that was there. No condition beyond the row's own. -/
import Derived.Test.YtbimikjajohflaaGreatDoorCards
import Derived.Test.YtbimikjajohflaaGreatDoorTie
import Derived.Test.YtbimikjajohflaaGreatDoorAmMB4
import Derived.Test.YtbimikjajohflaaGreatDoorAmMB5
import Derived.Test.YtbimikjajohflaaGreatDoorAmMLqMg
import Derived.Test.YtbimikjajohflaaGreatDoorCompMeansRun
import Derived.LaidMore
import Derived.Deep.DeepHandedRow
import Derived.Deep.DeepWitnessRowRef
namespace Go.Proofs.YtbimikjajohflaaGreatDoor.compMeans
open Go.ChangeShapes Go.WideShapes Go.ChangeAt Go.RowKit Go.Am
set_option maxRecDepth 100000
theorem bC:db Tryz.prog:=IW (by kernel_rfl) (by kernel_rfl)
theorem own:ownKnob Tryz.prog.godebug=none:=by kernel_rfl
theorem laidOut:laidOutB Tryz.prog=true:=by kernel_rfl
theorem read:∀ t ∈ Tryz.f5.params.toList,Tryz.prog.readableRec t=true/\t<Tryz.prog.types.size:=by
 rw [Tryz.params5];intro t ht;simp only [x8,List.mem_nil_iff,or_false] at ht;rcases ht with rfl|rfl|rfl|rfl|rfl<;>exact ⟨by kernel_rfl,by decide +kernel⟩
theorem star : "*" ++ "errors.errorString" = "*errors.errorString" := by decide
theorem Nb:AA Tryz.prog 254 :=
 ⟨λ u h=>typeName_ptr_named (nm := "errors.errorString") (by rw [star];kernel_rfl) (by kernel_rfl) (by decide) u (by rw [star];exact h),by kernel_rfl⟩
theorem pG:fW n0 lG=true:=by decide +kernel
theorem ug:dz (yp lG n0) lG=true:=by decide +kernel
theorem Eb:mH Tryz.prog lG n0 ⟨7,[],.bool true⟩:=q8d bC (J3 ..) pG (L:=[]) (λ e h=>by cases h) rfl run
theorem O3:∀ e ∈ [(⟨7,[],.bool true⟩:dP)],vS 0 e.args=true/\mH Tryz.prog lG n0 e:=λ e h=>by
 rcases yk.1 h with rfl
 exact ⟨rfl,Eb⟩
noncomputable abbrev mac:aO:=aO.tell Tryz.prog lG [⟨7,[],.bool true⟩]
instance:MK mac:=⟨λ n hn=>aO.rG (by
 have h:(bif Nat.beq 7 n then true else cA n [16])=false:=hn;cases q:Nat.beq 7 n with
 | true=>rw [q] at h;cases h
 | false=>show (bif Nat.beq 7 n then true else false)=false;rw [q];rfl)⟩
theorem uS:Tryz.prog.underlying 22=some (.slice 34):=by kernel_rfl
noncomputable def q9e:Array Field:=match Tryz.prog.underlying 34 with|some (.struct fs)=>fs|_=>#[]
theorem uN:Tryz.prog.underlying 34=some (.struct q9e):=by kernel_rfl
theorem yO:q9e.toList.map (·.type)=[3,31,32]:=by kernel_rfl
theorem uI:Tryz.prog.underlying 3=some (.int .i64):=by kernel_rfl
theorem uU:Tryz.prog.underlying 31=some (.int .u64):=by kernel_rfl
theorem uK:Tryz.prog.underlying 32=some (.slice 3):=by kernel_rfl
theorem Dh:oT Tryz.prog 22 λ H l=>∃ u ts,l=[u]/\sP H u ts :=
 xep uS uN yO uI uU uK (by kernel_rfl) (by kernel_rfl) (by kernel_rfl) (by kernel_rfl) (by kernel_rfl) (by kernel_rfl)
noncomputable def q83:Array Field:=match Tryz.prog.underlying 24 with|some (.struct fs)=>fs|_=>#[]
theorem uF:Tryz.prog.underlying 24=some (.struct q83):=by kernel_rfl
theorem Bd:q83.toList.map (·.type)=[3,3,3]:=by kernel_rfl
abbrev i3:List (List AV->Prop):=List.replicate 3 (kY .i64)
theorem xfn {α β γ:Type} {f:α -> γ} {Q:γ -> β->Prop}:∀ (l:List α) (R:List β),(∀ x ∈ (l.map f).zip R,Q x.1 x.2) -> ∀ x ∈ l.zip R,Q (f x.1) x.2
 | [],_,_,x,h=>by cases h
 | _::_,[],_,x,h=>by cases h
 | a::l,b::R,hq,x,h=>by
  rcases x8.1 h with rfl|h
  ·exact hq (f a,b) (by simp)
  ·exact xfn l R (λ y hy=>hq y (by simp [hy])) x h
theorem DJ:iz Tryz.prog 24 (fN i3):=by
 refine q61 uF (by kernel_rfl) (xfn (f:=Field.type) (Q:=iz Tryz.prog) _ _ ?_) (by kernel_rfl) (by kernel_rfl);rw [Bd];intro x hx;simp only [i3,List.replicate,Fz,List.zip_nil_right,x8,List.mem_nil_iff,or_false] at hx;rcases hx with rfl|rfl|rfl<;>exact Jb uI
theorem JX {l:List AV} (h:fN i3 l):∃ f:Lang.cF,AV.agg l=Av f:=by
 obtain ⟨_,_,rfl,⟨a1,rfl,_⟩,_,_,rfl,⟨a2,rfl,_⟩,_,_,rfl,⟨a3,rfl,_⟩,rfl⟩:=h;exact ⟨⟨a1,a2,a3⟩,rfl⟩
theorem wJ:reachBytes<=140737488355328:=by decide
theorem Pm:kD (yp lG n0):=by unfold kD;kernel_rfl
theorem pl0:jo<(yp lG n0).next:=by decide +kernel
theorem u45:Tryz.prog.underlying 45=some (.slice 31):=by kernel_rfl
theorem u46:Tryz.prog.underlying 46=some (.array 8 31):=by kernel_rfl
theorem u5:Tryz.prog.underlying 5=some (.int .u8):=by kernel_rfl
theorem Eg:oT Tryz.prog 45 λ H l=>∃ u,l=[u] /\ ∃ xs:List Int,cU (λ x=>[AV.int .u64 x]) 1 H u xs/\xs.length*Tryz.prog.bytesOf 31<=reachBytes /\ ∀ x ∈ xs,(Lit.int .u64 x).wf=true :=
 q9j u45 uU (by kernel_rfl)
theorem sh0:(yp lG n0).bz BD=some pn:=by kernel_rfl
theorem sl0:BD<(yp lG n0).next:=by decide +kernel
theorem Od:xD (yp lG n0):=⟨sh0,sl0⟩
theorem xer:∀ (n:Nat) (l:List AV),fN (List.replicate n (kY .u64)) l -> ∃ v:List Int,l=v.map (λ x=>AV.int .u64 x)/\v.length=n /\ ∀ x ∈ v,0<=x/\x<18446744073709551616
 | 0,l,h=>by cases h;exact ⟨[],rfl,rfl,λ x hx=>by cases hx⟩
 | n+1,l,h=>by
  obtain ⟨a,b,rfl,⟨x,rfl,hx⟩,hb⟩:=h;obtain ⟨v,rfl,h2,h3⟩:=xer n b hb;exact ⟨x::v,rfl,by simp [h2],λ y hy=>(x8.1 hy).elim (λ q=>by rw [q];exact ng hx) (h3 y)⟩
theorem contract {H:Type} {enc:TypeId × Value->H} {W:World} {base:Nat} {args:Array Value} {ds gs:List (DataW H)} {before:List MemPlace} {apart:Bool}
 (hval:∀ (j:Nat) t v,Tryz.f5.params[j]? = some t->args[j]? = some v->Value.okWide Tryz.prog W .any base t v) (hW:DataW.Whole enc Tryz.prog Tryz.f5.params.toList Rows.compMeansSpec.vars apart W args.toList ds gs before)
 (hm:laidMet Tryz.prog Rows.compMeansRow.laid W) {ts:List TypeId} (hZ:(DataW.weightsEach Tryz.prog (Tryz.f5.params.toList++ts) (ds++gs)).all (·<=reachBytes)=true):Calls Tryz.prog 5 args W λ e w'=>e=.returned (.bool true)/\Below W.heap.size W w':=by
 obtain ⟨p,q,hA,_,_,_,_⟩:=hW;rw [Tryz.params5] at hA hval hZ;obtain ⟨v,vs1,d,ds1,p1,q1,fuel,hl,rfl,ht,hA⟩:=Jc hA;obtain ⟨v2,vs2,d2,ds2,p2,q2,fuel2,rfl,rfl,ht2,hA⟩:=Jc hA;obtain ⟨v3,vs3,d3,ds3,p3,q3,fuel3,rfl,rfl,ht3,hA⟩:=Jc hA;obtain ⟨v4,vs4,d4,ds4,p4,q4,fuel4,rfl,rfl,ht4,hA⟩:=Jc hA;obtain ⟨v5,vs5,d5,ds5,p5,q5,fuel5,rfl,rfl,ht5,hA⟩:=Jc hA;obtain ⟨rfl,rfl⟩:=uh hA;have hv:Value.okWide Tryz.prog W .any base 22 v:=hval 0 22 v rfl (by rw [<-z5,hl];rfl);have hv2:Value.okWide Tryz.prog W .any base 24 v2:=hval 1 24 v2 rfl (by rw [<-z5,hl];rfl);have hv3:Value.okWide Tryz.prog W .any base 45 v3:=hval 2 45 v3 rfl (by rw [<-z5,hl];rfl);have hv4:Value.okWide Tryz.prog W .any base 46 v4:=hval 3 46 v4 rfl (by rw [<-z5,hl];rfl);obtain ⟨n5,rfl,hn5⟩:=AK u5 (hval 4 5 v5 rfl (by rw [<-z5,hl];rfl));obtain ⟨l2,hl2,hv2'⟩:=q8s DJ (.inl ⟨_,uF⟩) hv2 ht2;obtain ⟨f,hf⟩:=JX hl2;obtain ⟨l4,hl4,hv4'⟩:=q8s (xas u46 (Jb uU) (by kernel_rfl)) (.inr ⟨_,_,u46⟩) hv4 ht4;obtain ⟨rs,rfl,hrs,hrr⟩:=xer 8 l4 hl4;rw [qp4 uS hv] at ht;rw [qp4 u45 hv3] at ht3;have hwt:Wt Tryz.prog 22 d:=λ x hx=>by
  have h1:=yP.1 hZ x (by simp only [ur,DataW.weightsEach,zy];exact .inl hx)
  simpa using h1
 have hwt3:Wt Tryz.prog 45 d3:=λ x hx=>by
  have h1:=yP.1 hZ x (by simp only [ur,DataW.weightsEach,zy];exact .inr (.inr (.inl hx)))
  simpa using h1
 obtain ⟨θL,hg,hgood⟩:=I3 Nb hm;obtain ⟨θ,n,gl,l,hst,hvl,u,tl,rfl,hu⟩:=Dh.2 enc W true fuel _ d p1 ht hwt θL n0 lG hgood;obtain ⟨θ2,n2,gl2,l3,hst2,hvl2,u2,rfl,ws,hus2,_,hwr⟩:=Eg.2 enc W true fuel3 _ d3 p3 ht3 hwt3 θ n gl hst.bC;have hre:=wJ;have hs:=hst.trans hst2;have hrows:∀ H1,Fr Em (yp gl2 n2) H1->dz H1 lG=true:=λ H1 f =>
  q08 (n:=n0) (H:=yp lG n0) pG (λ b hb=>by rw [f.aj b (qe hb hs.le) id];exact hs.aj b hb) ug
 have hnd:uW (yp gl2 n2) u tl:=⟨hu.IA.em hst2.fr,λ x hx=>xz (hu.kids x hx) hre,hu.lo,hu.hi,(hs.fr.cells pl0 id).trans Pm,qe pl0 hs.fr.next⟩
 have htl:tl.length<=140737488355328:=by have:=hu.len;omega
 have hfu:0<=n5/\n5<256:=by
  have h1:IntKind.max .u8=255:=by decide
  have h2:IntKind.min .u8=0:=by decide
  have h3:IntKind.min .u8<=n5/\n5<=IntKind.max .u8:=hn5;omega
 refine vV bC (n0:=n0) (J3 ..) pG O3 (xau (J3 ..) hg hs) ?_ (q2c (M:=mac) (λ H1 f=>xcz (hrows H1 f)) hnd htl (Od.em hs.fr) f hus2 hrs (λ x hx=>ng (hwr x hx)) hrr hfu);rw [hl];obtain ⟨c,cs',hcc,hcv,_⟩:=(hvl.up hst2.ag λ b hb=>qe hb hst2.le).cT;injection hcc with hcc _
 subst hcc;obtain ⟨c2,cs2,hcc2,hcv2,_⟩:=hvl2.cT;injection hcc2 with hcc2 _
 subst hcc2;exact .cons hcv (.cons (by rw [<-hf];exact hv2' _ _) (.cons hcv2 (.cons (hv4' _ _) (.one λ _ _=>rfl))))
/-- a world for the witness -/
noncomputable def wZ (os:Os):World:=Nt Tryz.prog (World.doorLaid Tryz.prog 95 os) Rows.compMeansRow.laid
theorem uR (os:Os):laidMetH Tryz.prog Rows.compMeansRow.laid ((wZ os).forCall (λ _ _=>0) ⟨#[],#[.slice none 0 0,.agg #[.int .i64 0,.int .i64 0,.int .i64 0],.slice none 0 0,.agg #[.int .u64 0,.int .u64 0,.int .u64 0,.int .u64 0,.int .u64 0,.int .u64 0,.int .u64 0,.int .u64 0],.int .u8 0],[]⟩).memory :=
 laidMet_of_run' 8 (by kernel_rfl) (by kernel_rfl)
theorem reads (os:Os) {H:Type} (enc:TypeId × Value->H):∃ places,DataW.whole enc Tryz.prog ((wZ os).forCall (λ _ _=>0) ⟨#[],#[.slice none 0 0,.agg #[.int .i64 0,.int .i64 0,.int .i64 0],.slice none 0 0,.agg #[.int .u64 0,.int .u64 0,.int .u64 0,.int .u64 0,.int .u64 0,.int .u64 0,.int .u64 0,.int .u64 0],.int .u8 0],[]⟩).memory Tryz.f5.params.toList Rows.compMeansSpec.vars false (#[.slice none 0 0,.agg #[.int .i64 0,.int .i64 0,.int .i64 0],.slice none 0 0,.agg #[.int .u64 0,.int .u64 0,.int .u64 0,.int .u64 0,.int .u64 0,.int .u64 0,.int .u64 0,.int .u64 0],.int .u8 0]:Array Value).toList 8=some ([.nil,.agg (List.replicate 3 (.lit (.int .i64 0))),.nil,.agg (List.replicate 8 (.lit (.int .u64 0))),.lit (.int .u8 0)],[],places) :=
 ⟨[],by kernel_rfl⟩
theorem lifted (os:Os) (started:os.Started) (H:Type) (enc:TypeId × Value->H) (F:Stop.Interp) :
 ReturnsInHanded {} Tryz.checked os 5 .any ((OpenSpec.ofChange Rows.compMeansSpec).preRow enc Tryz.prog Tryz.f5 Rows.compMeansRow.domain false Rows.compMeansRow.laid) (((OpenSpec.ofChange Rows.compMeansSpec).at F).post enc Tryz.prog Tryz.f5 false true false false):=by
 obtain ⟨places,hx⟩:=reads os enc;refine returnsInHanded_of_row (C:=Tryz.checked) (s:=OpenSpec.ofChange Rows.compMeansSpec) own started (by kernel_rfl) Tryz.func5
  (witness_row_atRef (enc:=enc) (C:=Tryz.checked) false (wZ os) #[.slice none 0 0,.agg #[.int .i64 0,.int .i64 0,.int .i64 0],.slice none 0 0,.agg #[.int .u64 0,.int .u64 0,.int .u64 0,.int .u64 0,.int .u64 0,.int .u64 0,.int .u64 0,.int .u64 0],.int .u8 0] rfl (by kernel_rfl) (by kernel_rfl) (by kernel_rfl)
   (OpenSpec.preRow_of_cond 8 hx (by kernel_rfl) (λ k hk=>by cases hk) (by kernel_rfl) (uR os))) ?_
 intro W base args ds gs before hval hW _ _ hZ hL _ _;have hm:laidMet Tryz.prog Rows.compMeansRow.laid W:=by
  unfold laidMetH at hL;rw [show ((Rows.compMeansRow.laid.filter λ x=>x.2.handleName?.isSome)=[]) from by kernel_rfl] at hL;exact hL
 refine q3j (s:=Rows.compMeansSpec) laidOut read rfl (λ ds h=>?_) rfl Tryz.underlying4 hW (contract hval hW hm hZ);rw [Tryz.params5] at h
 match ds,h with
 | [d0,d1,d2,d3,d4],_=>rfl
theorem said:Rows.CompMeansSaid :=
 OpenClaim.holds_of_cond 5 Tryz.f5 rfl rfl rfl rfl rfl rfl rfl ⟨rfl,rfl,rfl,rfl,rfl⟩ rfl rfl rfl rfl rfl (by kernel_rfl) Tryz.func5 (by kernel_rfl)
  (of_decide_eq_true (by kernel_rfl)) (by unfold Func.isWrapper;first|(rw [qk (by decide +kernel)];kernel_rfl) | (rw [qc (by decide +kernel)];exact ⟨rfl,rfl⟩))
  (λ os started H enc _ F=>by rw [OpenClaim.pre_eq_preRow];exact lifted os started H enc F)
theorem plain (f:FuncId) (fn:Func) (hf:Tryz.pinned.checked.prog.funcNamed Rows.compMeansRow.func=some f) (hfn:Tryz.pinned.checked.prog.funcs[f]? = some fn) :
 true=Tryz.pinned.checked.prog.looks [] /\ ∀ (j:Nat) t,fn.params[j]? = some t->Tryz.pinned.checked.prog.wantsStandIn t=false:=by
 obtain rfl:f=5:=yn ((show Tryz.prog.funcNamed Rows.compMeansRow.func=some 5 by kernel_rfl).symm.trans hf) |>.symm;obtain rfl:fn=Tryz.f5:=(yn (Tryz.func5.symm.trans hfn)).symm;refine ⟨by kernel_rfl,λ j t ht=>?_⟩;have hm:t ∈ Tryz.f5.params.toList:=by rw [<-z5] at ht;exact xv ht
 rw [Tryz.params5] at hm;simp only [x8,List.mem_nil_iff,or_false] at hm;rcases hm with rfl|rfl|rfl|rfl|rfl<;>(show Tryz.pinned.checked.prog.wantsStandIn _=false;kernel_rfl)
/-- THE CARD -/
theorem card:Rows.CompMeansCardSaid :=
 Claim7.holds_tied_plain_at .later [] _ _ _ _ said (λ _ h=>by cases h) (by kernel_rfl) (λ _ h=>by cases h) compMeans_row_tie rfl ⟨rfl,rfl⟩ (by kernel_rfl) rfl plain (by kernel_rfl)
end Go.Proofs.YtbimikjajohflaaGreatDoor.compMeans
