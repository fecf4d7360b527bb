import Derived.Test.YtbpnpfalldaocaaGreatDoorAmCZc
import Derived.Test.YtbpnpfalldaocaaGreatDoorAmCZd
import Derived.Carry
set_option linter.defProp false
set_option linter.unusedVariables false
set_option linter.unusedSimpArgs false
open Bool renaming false→B2,true→B4
open Go renaming DataW→MC,IntKind→KB,MemPlace→AA,Program→Fv,TypeId→IV,Value→Hm,World→J3
open Go.DataW renaming TrodAll→A_,trod→Jv
open Go.Value renaming okWide→Ac
open List renaming take_left→BK
open Nat renaming beq→FW,ble→Jo,blt→KI
open Option renaming none→B5,some→B1
namespace Go.Am
open Go.RowKit
abbrev GL:=List (Nat×List AV)
def Good(W:J3)(θ:Th)(n:Nat)(gl:GL):Prop :=
 ∀b l,(b,l)∈gl->b<n /\ ∃pre cs post e fz,W.heap[θ.bQ b]? = B1 (.cells (pre++cs++post).toArray e fz)/\pre.length = θ.off b/\bH (Lt n) θ l cs
structure Step(W:J3)(θ:Th)(n:Nat)(gl:GL)(θ':Th)(n':Nat)(gl':GL):Prop where
 le:n<=n'
 ag:Ag (Lt n) θ θ'
 cU:Good W θ' n' gl'
 ah:∀b,b<n->(Cv gl' .nil).get b=(Cv gl .nil).get b
theorem Step.refl{W:J3}{θ:Th}{n:Nat}{a:GL}(h:Good W θ n a):Step W θ n a θ n a:=⟨qg n,Ag.refl _ _,h,λ _ _=>rfl⟩
theorem Step.trans{W:J3}{θ θ' θ'':Th}{n n' e:Nat}{g d c:GL}(a:Step W θ n g θ' n' d)(b:Step W θ' n' d θ'' e c):Step W θ n g θ'' e c :=
 ⟨xm a.le b.le,a.ag.trans b.ag λ x f=>qj f a.le,b.cU,λ x f=>by rw[b.ah x (qj f a.le),a.ah x f]⟩
def Step.fr{W:J3}{θ θ':Th}{n n':Nat}{d c:GL}(a:Step W θ n d θ' n' c):Fr Em (kn d n) (kn c n'):=⟨a.le,λ b hb _=>a.ah b hb⟩
def Step.row{W:J3}{θ:Th}{n:Nat}{d:GL}(h:Good W θ n d){k off:Nat}{l:List AV}{pre cs post:List Hm}{e:IV}{fz:Nat×Nat}(hk:W.heap[k]? = B1 (.cells (pre++cs++post).toArray e fz))(hp:pre.length=off)(j:bH (Lt n) θ l cs) :
 Step W θ n d (θ.add n k off 0) (n+1) ((n,l)::d):=by
 have a:Ag (Lt n) θ (θ.add n k off 0):=θ.gC n k off 0 (ES n);have g:∀b,Lt n b->Lt (n+1) b:=λ b hb=>JI hb;refine⟨jt n,a,λ b m hm=>?_,λ b hb=>?_⟩
 .rcases j8.1 hm with hm|hm
  .injection hm with c f;subst c;subst f
   obtain⟨o,p,_⟩:=θ.dY b k off 0;exact⟨zd b,pre,cs,post,e,fz,by grind,by omega,j.up a g⟩
  .obtain ⟨c,pre,cs,post,e,fz,f,q,i⟩:=h b m hm;obtain⟨o,p,_⟩:=a b c;exact⟨JI c,pre,cs,post,e,fz,by grind,by omega,i.up a g⟩
 .rw [Cv,T.aH,qn (by omega)]
section
variable{P:Fv}
def F9(P:Fv)(t:IV)(R:List AV->Prop):Prop :=
 ∀{H:Type}(enc:IV×Hm->H)(W:J3)(base:Nat)(sp:Nat->Bool)(held:Bool)(fuel:Nat)(cs:List Hm)(d:MC H)(ps:List AA),
  Jv enc P W base sp held fuel t cs=B1 (d,ps) -> ∃l,R l /\ ∀θ,bO θ l=cs
def tL(k:KB)(l:List AV):Prop:=∃n,l=[.int k n]/\(Lit.int k n).wf=B4
def zU{t:IV}{k:KB}(h:P.underlying t=B1 (.int k)):F9 P t (tL k):=by
 intro H enc W base sp held fuel cs d g a;cases fuel with
 |zero=>cases a
 |succ f =>
  simp only[Jv,h]at a;split at a<;>first|grind|skip
  all_goals first|(simp_all;done)|skip
  .rename_i e n2 c b;injection b with b;cases b
   split at a
   .rename_i hw;obtain⟨rfl,hw⟩:=hw;exact⟨_,⟨_,rfl,hw⟩,λ θ=>rfl⟩
   grind
def Lp(P:Fv):Nat->List Field->Bool
 |_,[]=>B4
 |k,f::fs=>FW f.offset k && Lp P (k+P.cellsOf f.type) fs
def zV{fs:List Field}:∀{k:Nat},Lp P k fs=B4 -> ∀(j:Nat)f,fs[j]? = B1 f->f.offset=k+((fs.take j).map λ f=>P.cellsOf f.type).sum:=by
 induction fs with
 |nil=>grind
 |cons g fs ih =>
  intro k h j f a;simp only[Lp,xq,je]at h;cases j with
  |zero=>grind
  |succ j =>
   grind
end
end Go.Am
namespace Go.Am
open Go.RowKit
theorem PT{W:J3}{k o n:Nat}{cs:List Hm}(hn:0<n)(h:W.cells? 0 ⟨k,o,B5⟩ n=B1 cs):∃arr e fz,W.heap[k]? = B1 (.cells arr e fz)/\cs=(arr.toList.drop o).take n/\o+n<=arr.size:=by
 unfold J3.cells? at h;rw[qv (xu _)]at h;have hlen:=mapM_some_length h;have a:=λ i(d:i<n)=>mapM_some_get h i i (by grind);obtain⟨f,g⟩:∃c,W.cell? ⟨k,o,B5⟩=B1 c:=by
  grind [Addr.add]
 obtain⟨arr,e,fz,b⟩:∃arr e fz,W.heap[k]? = B1 (.cells arr e fz):=by
  grind [World.cell?]
 refine⟨arr,e,fz,b,?_,?_⟩
 .refine j0 λ i=>?_
  by_cases d:i<n
  .have:=a i d;rw[uM,Kn b]at this
   grind
  grind
 .have:=a (n-1) (by omega);rw[uM,Kn b]at this;have hl:n-1<cs.length:=by rw[hlen];simp;omega
  rw[xj hl]at this;have:=(Oa.1 this).1;omega
theorem Xr{α:Type}{L:List α}{size:Nat}:∀{cs:List (List α)}{o:Nat},(∀(i:Nat)c,cs[i]? = B1 c->c=(L.drop (o+i*size)).take size/\c.length=size)->cs.flatten=(L.drop o).take (cs.length*size)
 |[],o,_=>by simp
 |c::cs,o,h=>by
  obtain⟨a,e⟩:=h 0 c rfl;rw[yO,zJ]at a;have f:=Xr (cs:=cs) (o:=o+size) λ i d b=>by
   have:=h (i+1) d (by simpa using b);rw[show o+size+i*size=o+(i+1)*size from by rw[vq];omega];exact this
  grind [vq,FU]
section
variable{P:Fv}
def T5(R:List AV->Prop)(size:Nat)(H:ar)(u:AV):Prop:=∃ls:List (List AV),(∀l∈ls,R l/\l.length=size)/\Sl H size u ls.length ls.flatten
def T5.em{R:List AV->Prop}{size:Nat}{H H':ar}{u:AV}(h:T5 R size H u)(f:Fr Em H H'):T5 R size H' u:=by
 obtain⟨ls,a,b⟩:=h;exact⟨ls,a,b.em f⟩
def Step.bare{W:J3}{θ:Th}{n:Nat}{c:GL}(h:Good W θ n c)(k off:Nat):Step W θ n c (θ.add n k off 0) (n+1) c:=by
 have a:Ag (Lt n) θ (θ.add n k off 0):=θ.gC n k off 0 (ES n);have g:∀b,Lt n b->Lt (n+1) b:=λ b hb=>JI hb;refine⟨jt n,a,λ b i hm=>?_,λ b hb=>rfl⟩;obtain⟨d,pre,cs,post,e,fz,j,l,f⟩:=h b i hm;obtain⟨m,o,_⟩:=a b d;exact⟨JI d,pre,cs,post,e,fz,by grind,by omega,f.up a g⟩
end
end Go.Am
namespace Go.Am
open Go.RowKit Go.ChangeShapes Go.WideShapes Go.ChangeAt
section
variable{P:Fv}
def Wp{W:J3}{r:Reach}{base:Nat}{t:IV}{v:Hm}{k:KB}(a:P.underlying t=B1 (.int k))(h:Ac P W r base t v):∃n,v=.int k n/\k.has n:=by
 unfold Ac at h;rw[a]at h;simp only[Cell.okWide,a]at h;unfold Cell.ok at h
 grind
def qyv{W:J3}{r:Reach}{base:Nat}{t e:IV}{v:Hm}(a:P.underlying t=B1 (.slice e))(h:Ac P W r base t v):v.cells.toList=[v]:=by
 unfold Ac at h;rw[a]at h;cases v with
 |agg cs =>
  simp_all[Cell.okWide,Cell.ok]
 |_=>rfl
def UK{H:Type}{enc:IV×Hm->H}{W:J3}{b:Nat}{sp:Nat->Bool}{held:Bool}{t:IV}{ts:List IV}{vs:List Hm}{ds:List (MC H)}{e:List AA}(h:A_ enc P W b sp held (t::ts) vs ds e) :
 ∃v c d a p q fuel,vs=v::c/\ds=d::a/\Jv enc P W b sp held fuel t v.cells.toList=B1 (d,p)/\A_ enc P W b sp held ts c a q:=by
 cases vs with
 |nil=>exact h.elim
 |cons v vs =>
  cases ds with
  |nil=>exact h.elim
  |cons d ds=>obtain⟨p,q,⟨fuel,f⟩,g,_⟩:=h;grind
def ae5{H:Type}{enc:IV×Hm->H}{W:J3}{b:Nat}{sp:Nat->Bool}{held:Bool}{vs:List Hm}{ds:List (MC H)}{a:List AA}(h:A_ enc P W b sp held [] vs ds a):vs=[]/\ds=[]:=by
 cases vs with
 |cons v vs=>exact h.elim
 |nil =>
  cases ds with
  |cons d ds=>exact h.elim
  |nil=>grind
noncomputable def ak.plain(P:Fv):ak:=⟨aU P,λ _ _ _ _=>B5,λ _=>B2,λ _ _ _ _ _=>rfl⟩
def xdb(u:dB P){M:ak}(t:M.prog=aU P)(w:yq P 0 M.told)(i:y9 M.told){W:J3}{θ:Th}{n:Nat}{d:GL}(h:HR P 0 (Lt n) θ (kn d n) W){f:Nat}{vs:List AV}{args:Array Hm}(x:bH (Lt n) θ vs args.toList){H':ar}
 (v:CALL M f vs (kn d n) (.ret (.bool B4)) H'):Calls P f args W λ e w'=>e=.returned (.bool B4)/\Below W.heap.size W w':=by
 obtain⟨m,hr⟩:=v.Bi;simp only[ak.call,t]at hr;intro cs;obtain⟨_,θ',w',cs',fr,e',k,o,p,q,a,y,r,z,s,l⟩ :=
  RP u (by grind [YR]) w i m (Lt n) θ (kn d n) W f vs args B5 H' (.ret (.bool B4)) B5 .normal cs h x rfl hr
   (λ b j A hb=>by have j:n<=b:=j;have hb:b<n:=hb;omega)
 have g:cs'=cs:=s;subst g;cases e' with
 |returned c =>
  have a:VR _ θ' (.bool B4) c:=a;exact⟨.returned c,w',fr,⟨by rw[<-a.now];rfl,r.below (JT _ _)⟩,k,p,NP q o⟩
 |panicked _=>exact a.elim
 |outgrown=>exact a.elim
theorem W8{H:Type}{enc:IV×Hm->H}(hl:laidOutB P=B4){W W':J3}{sp:Nat->Bool}:∀{ts:List IV}{vs:List Hm}{ds:List (MC H)}{a:List AA},
 (∀t∈ts,P.readableRec t=B4/\t<P.types.size)->A_ enc P W 0 (λ _=>B4) B4 ts vs ds a->Below W.heap.size W W'->(∀x∈a,x.block<W.heap.size)->(∀x∈a,sp x.block=B4) ->
 A_ enc P W' 0 sp B4 ts vs ds a
 |[],[],[],a,_,h,_,_,_=>h
 |t::ts,v::vs,d::ds,a,ht,⟨p,q,h1,h2,e⟩,hb,hlt,hs=>by
  subst e;exact⟨p,q,WideElems.Trod_stays hl (by grind) (by simp_all) h1 (λ x b=>hb.same (by grind)) (by grind),
   W8 hl (by grind) h2 hb (by grind) (by grind),rfl⟩
 |[],_::_,_,_,_,h,_,_,_=>h.elim
 |[],[],_::_,_,_,h,_,_,_=>h.elim
 |_::_,[],_,_,_,h,_,_,_=>h.elim
 |_::_,_::_,[],_,_,h,_,_,_=>h.elim
def q5t{H:Type}{enc:IV×Hm->H}{f:Nat}{fn:Func}{s:ChangeSpec}{n:IV}(hl:laidOutB P=B4)(l:∀t∈fn.params.toList,P.readableRec t=B4/\t<P.types.size)(g:s.vars=[])
 (a:∀ds:List (MC H),ds.length=fn.params.size->s.fn H ds = {results:=[.lit (.bool B4)],args:=ds}) (b:fn.resultTypes = #[n]) (i:P.underlying n=B1 .bool)
 {W:J3} {args:Array Hm} {ds gs:List (MC H)} {before:List AA} {apart fresh handsOn again:Bool}
 (j:MC.Whole enc P fn.params.toList s.vars apart W args.toList ds gs before) (c:Calls P f args W λ e w'=>e=.returned (.bool B4)/\Below W.heap.size W w') :
 Calls P f args W λ e W'=>∃v,e=.returned v/\s.post enc P fn apart fresh handsOn again W args v W':=by
 have r:∀p∈before,p.block<W.heap.size:=j.lt;have k:=j;obtain⟨p,q,x,hV,rfl,o,u⟩:=j;rw[g]at hV;obtain⟨rfl,rfl⟩:=trodVars_none hV;have hlen:ds.length=fn.params.size:=by
  have:∀{ts:List IV}{vs:List Hm}{ds:List (MC H)}{m:List AA},A_ enc P W 0 (λ _=>B4) B4 ts vs ds m->ds.length=ts.length:=by
   intro ts
   induction ts with
   |nil=>intro vs ds m h;cases vs<;>cases ds<;>first|rfl|exact h.elim
   |cons t ts ih =>
    intro vs ds m h;cases vs with
    |nil=>exact h.elim
    |cons v vs =>
     cases ds with
     |nil=>exact h.elim
     |cons d ds=>obtain⟨p,q,_,w,_⟩:=h;grind
  grind
 refine c.mono λ e W'⟨he,hg⟩=>?_;subst he;refine⟨_,rfl,q5u (pa:=p) (pv:=[]) k (λ _ _ _=>?_) (λ sp hs=>?_) (λ _ _=>?_) rfl hg ?_⟩
 .rw [b,zu,a ds hlen];exact trodAll_cons_mk (shut_bool i _) trodAll_mk0
 .grind [W8]
 .rw [g,zu,a ds hlen];rfl
 .exact ok_one b rfl (okWide_bool_mk i _)
end
end Go.Am
namespace Go.Am
open Go.RowKit
section
variable{P:Fv}
def Ux(P:Fv)(t:IV)(R:ar->List AV->Prop):Prop :=
 (∀H H' l,R H l->Fr Em H H'->R H' l) /\ ∀{Hh:Type}(enc:IV×Hm->Hh)(W:J3)(held:Bool)(fuel:Nat)(cs:List Hm)(d:MC Hh)(ps:List AA),
  Jv enc P W 0 (λ _=>B4) held fuel t cs=B1 (d,ps) -> ∀(θ:Th)(n:Nat)(gl:GL),Good W θ n gl -> ∃θ' n' gl' l,Step W θ n gl θ' n' gl'/\bH (Lt n') θ' l cs/\R (kn gl' n') l
def DN{t:IV}{R:List AV->Prop}(h:F9 P t R):Ux P t λ _ l=>R l :=
 ⟨λ _ _ _ h _=>h,λ enc W held fuel cs d f e θ n a hg=>by
  have⟨l,b,c⟩:=h enc W 0 _ held fuel cs d f e;exact⟨θ,n,a,l,Step.refl hg,λ θ' _=>c θ',b⟩⟩
def MG(R:ar->List AV->Prop)(size:Nat)(H:ar)(u:AV):Prop:=∃ls:List (List AV),(∀l∈ls,R H l/\l.length=size)/\Sl H size u ls.length ls.flatten/\(u=.nils\/aG u<H.au)
def MG.em{R:ar->List AV->Prop}(hm:∀H H' l,R H l->Fr Em H H'->R H' l){size:Nat}{H H':ar}{u:AV}(h:MG R size H u)(f:Fr Em H H'):MG R size H' u:=by
 have⟨ls,c,a,b⟩:=h;exact⟨ls,λ l hl=>(by grind),a.em f,b.imp id λ q=>qj q f.au⟩
def qP:Option Nat->Nat
 |none=>0
 |some z=>z+1
theorem ae0(s:Option Nat):xS (qP s)=s:=by cases s<;>rfl
def Step.Ll{W:J3}{θ:Th}{n:Nat}{c:GL}(h:Good W θ n c)(k off ext:Nat):Step W θ n c (θ.add n k off ext) (n+1) c:=by
 have a:Ag (Lt n) θ (θ.add n k off ext):=θ.gC n k off ext (ES n);have g:∀b,Lt n b->Lt (n+1) b:=λ b hb=>JI hb;refine⟨jt n,a,λ b i hm=>?_,λ b hb=>rfl⟩;have⟨d,pre,cs,post,e,fz,j,l,f⟩:=h b i hm;have⟨m,o,_⟩:=a b d;exact⟨JI d,pre,cs,post,e,fz,by grind,by omega,f.up a g⟩
def We{W:J3}{a:Addr}{n:Nat}{cs:List Hm}(hn:0<n)(h:W.cells? 0 a n=B1 cs):a.spot=none:=by
 unfold J3.cells? at h;rw[qv (xu _)]at h;have:=mapM_some_get h 0 0 (by grind);have hl:0<cs.length:=by rw[mapM_some_length h];simpa using hn
 grind [J3.cell?_spot,Addr.add]
end
end Go.Am
namespace Go.Am
open Go.RowKit
section
variable{P:Fv}
def Gi{α:Type}{enc:α->List AV}{R:ar->List AV->Prop}{Q:α->Prop}{size:Nat}{H:ar}{u:AV}(hR:∀l,R H l -> ∃x,l=enc x/\Q x)(h:MG R size H u):∃xs:List α,eS enc size H u xs /\ ∀x∈xs,Q x:=by
 obtain⟨ls,b,e,_⟩:=h;have:∀ls:List (List AV),(∀l∈ls,R H l) -> ∃xs:List α,ls=xs.map enc /\ ∀x∈xs,Q x:=by
  intro ls
  induction ls with
  |nil=>simp_all
  |cons l ls ih =>
   intro h;obtain⟨xs,d,a⟩:=ih λ l hl=>h l (by simp[hl]);obtain⟨x,g,i⟩:=hR l (h l (by simp));refine⟨x::xs,by grind,λ c f=>?_⟩
   grind
 obtain⟨xs,d,a⟩:=this ls λ l hl=>(b l hl).1;refine⟨xs,?_,a⟩
 grind [eS]
end
end Go.Am
namespace Go.Am
variable{P:Fv}
end Go.Am
namespace Go.Am
open Go.RowKit
variable{P:Fv}
def F7{tp:IV}{w:J3}{laid:List (String×MC Unit)}(hn:sW laid=B4)(h:laidMet P laid w) :
 ∃θ:Th,(∀g,g<P.globals.size -> θ.bQ g=g /\ θ.off g=0)/\Good w θ (P.globals.size+laid.length) (rowsOf P tp P.globals.size laid):=rV h (λ x a=>⟨default,λ g t s b c d=>by
  have:=EZ.1 hn x a
  grind⟩)
def _z{W:J3}{θL θ:Th}{n0 n:Nat}{pR b:GL}(hn:P.globals.size<=n0)(hg:∀g,g<P.globals.size -> θL.bQ g=g /\ θL.off g=0)(h:Step W θL n0 pR θ n b):HR P 0 (Lt n) θ (kn b n) W :=
 HR.sO (xu _) (xm hn h.le) (λ g a=>by obtain⟨c,d,_⟩:=h.ag g (qj a hn);grind) h.cU
def BZ(L:List eV):List Nat:=L.map λ e=>e.f
def WA{a:List (Nat×List AV)}{H:ar}{f:Nat}{vs:List AV}:∀{L:List eV},bA f (BZ L)=B2->nI a H f vs L=B5
 |[],_=>rfl
 |e::L,h=>by
  have h:cond (FW e.f f) B4 (bA f (BZ L))=false:=h;cases hb:FW e.f f with
  |true=>grind
  |false =>
   rw[hb]at h;have:FW f e.f=false:=by
    grind [ve]
   simp only[nI,this,Bool.false_and,ze];exact WA h
noncomputable def ak.tell(P:Fv)(gl:List (Nat×List AV))(L:List eV):ak:=⟨aU P,lM gl L,λ f=>bA f (BZ L),λ f vs up H h=>by
 cases up with
 |none=>exact WA h
 |some _=>rfl⟩
def ak.u3{a:List (Nat×List AV)}{L:List eV}{n:Nat}(h:bA n (BZ L)=B2):(ak.tell P a L).func n=(aU P).func n:=by
 show cond (bA n (BZ L)) B5 _=_;rw[h];rfl
def xe7{a:List (Nat×List AV)}{f:Nat}{v:AV}{H:ar}(hr:dZ H a=B4):xz (ak.tell P a [⟨f,[],v⟩]) f [] H λ w H'=>w=v/\H'=H:=by
 have h:lM a [⟨f,[],v⟩] f [] B5 H=B1 (.ret v,B5,H):=by
  show nI a H f [] [⟨f,[],v⟩]=_;simp_all[nI,kB]
 refine xz.intro (v:=v) (H':=H) ⟨0,λ n _=>?_⟩ ⟨rfl,rfl⟩;cases n with
 |zero=>exact h
 |succ n =>
  show(match lM a [⟨f,[],v⟩] f [] B5 H with|some r=>B1 r|none=>_)=_;rw[h]
def Zo{n:Nat}{H H':ar}:∀{a:List (Nat×List AV)},iv n a=B4->(∀b,b<n->H'.get b=H.get b)->dZ H a=B4->dZ H' a=B4
 |[],_,_,_=>rfl
 |(b,l)::r,hok,hk,h=>by
  simp only[iv,xq,uv]at hok;simp only[dZ,xq]at h⊢;rw[hk b hok.1.1];exact⟨h.1,Zo hok.2 hk h.2⟩
def xF(g:dB P){pR:List (Nat×List AV)}{n0:Nat}{L:List eV}(hn:P.globals.size<=n0)(b:iv n0 pR=B4)(d:∀e∈L,Cf 0 e.args=B4/\qG P pR n0 e)
 {W:J3} {θ:Th} {n:Nat} {c:GL} (h:HR P 0 (Lt n) θ (kn c n) W) {f:Nat} {vs:List AV} {args:Array Hm} (i:bH (Lt n) θ vs args.toList)
 (a:xz (ak.tell P pR L) f vs (kn c n) λ v _=>v=.bool B4):Calls P f args W λ e w'=>e=.returned (.bool B4)/\Below W.heap.size W w':=by
 obtain⟨v,H',a,rfl⟩:=a.elim;exact xdb g (M:=ak.tell P pR L) rfl (WJ hn b d) sq h i a
end Go.Am
namespace Go.Am
structure L8 where
 l:List Int
 h:l.length=8
namespace L8
def eq{a b:L8}(h:a.l=b.l):a=b:=by cases a;simp_all
instance:DecidableEq L8:=λ a b=>if h:a.l=b.l then isTrue (L8.eq h)else isFalse λ q=>h (by rw[q])
def zero:L8:=⟨[0,0,0,0,0,0,0,0],rfl⟩
def put(x:L8)(i:Nat)(y:Int):L8:=⟨x.l.set i y,by rw[xw];exact x.h⟩
def get(x:L8)(i:Nat):Int:=x.l[i]?.getD 0
end L8
structure En where
 line:Int
 st:Int
 r:Bool
 w:Bool
 d:L8
 o:L8
 u:Int
def En.zero:En:=⟨0,0,B2,B2,.zero,.zero,0⟩
def cY(p:Nat->Bool):Nat->Option Nat
 |0=>B5
 |n+1=>match cY p n with
  |some i=>B1 i
  |none=>if p n then B1 n else B5
theorem IX{p:Nat->Bool}:∀{n:Nat},(∀j,j<n->p j=B2)->cY p n=B5
 |0,_=>rfl
 |n+1,h=>by rw[cY,IX λ j a=>(by grind),h n (by omega)];rfl
def Ji{p:Nat->Bool}{i:Nat}:∀{n:Nat},i<n->p i=B4->(∀j,j<i->p j=B2)->cY p n=B1 i
 |0,h,_,_=>by omega
 |n+1,h,hp,hl=>by
  rw[cY];rcases xp i n with q|q
  .rw [Ji q hp hl]
  grind [IX]
def Fp{p:Nat->Bool}{i:Nat}:∀{n:Nat},cY p n=B1 i->i<n/\p i=B4 /\ ∀j,j<i->p j=B2
 |0,h=>by cases h
 |n+1,h=>by
  rw[cY]at h;cases d:cY p n with
  |some k =>
   rw[d]at h;injection h with h;subst h
   obtain⟨a,b,c⟩:=Fp d
   grind
  |none =>
   rw[d]at h;simp only at h;split at h
   .rename_i hp;injection h with h;subst h
    refine⟨by omega,hp,λ j e=>?_⟩;cases f:p j with
    |false=>rfl
    |true =>
     exfalso;exact firstN_not (n:=n) d j e f
   grind
where
 firstN_not {p:Nat->Bool}:∀{n:Nat},cY p n=B5 -> ∀j,j<n->p j=B4->False
 |0,_,j,hj,_=>by omega
 |n+1,h,j,hj,hp=>by
  rw[cY]at h;cases hf:cY p n with
  |some k=>grind
  |none =>
   rw[hf]at h;simp only at h;split at h
   .cases h
   .rename_i hq;rcases xp j n with q|q
    .exact firstN_not hf j q hp
    grind
theorem QP{p:Nat->Bool}{n:Nat}(h:cY p n=B5):∀j,j<n->p j=false:=λ j a=>by
 grind [Fp.firstN_not]
structure Ca where
 cu:Nat
 ways:Nat
 sl:List En
 us:Int
namespace Ca
def fr(c:Ca)(line:Int):Nat:=(line.toNat % c.cu)*c.ways
def en(c:Ca)(i:Nat):En:=c.sl[i]?.getD .zero
def mK(c:Ca)(line:Int)(i:Nat):Bool:=(c.en (c.fr line+i)).st != 0 && (c.en (c.fr line+i)).line == line
def pos(c:Ca)(line:Int):Option Nat:=if line<0 then B5 else(cY (c.mK line) c.ways).map (c.fr line + ·)
def set(c:Ca)(i:Nat)(e:En):Ca:={c with sl:=c.sl.set i e}
def find(c:Ca)(line:Int):Option En:=(c.pos line).map c.en
def use(c:Ca)(i:Nat):Ca:={c with us:=c.us+1,sl:=c.sl.set i {c.en i with u:=c.us+1}}
def word(c:Ca)(a:Nat):Ca×Option Int:=match c.pos ((a / 8:Nat):Int)with
 |none=>(c,B5)
 |some i=>(c.use i,B1 ((c.en i).d.get (a % 8)))
def kG(c:Ca)(line st:Int):Option Nat:=match c.pos line with
 |none=>B5
 |some i=>if st≠0/\(c.en i).st≠st then B5 else B1 i
def put(c:Ca)(a:Nat)(y:Int):Ca:=match c.kG ((a / 8:Nat):Int) 2 with
 |none=>c
 |some i=>{c with us:=c.us+1,sl:=c.sl.set i {c.en i with u:=c.us+1,d:=(c.en i).d.put (a % 8) y}}
def mark(c:Ca)(line:Int)(wr:Bool):Ca:=if wr then
 match c.kG line 2 with
 |none=>c
 |some i=>if(c.en i).w then c else c.set i {c.en i with w:=B4,o:=(c.en i).d}
 else match c.kG line 0 with
  |none=>c
  |some i=>c.set i {c.en i with r:=B4}
def cE(c:Ca)(line:Int):Ca×L8:=match c.kG line 2 with
 |none=>(c,.zero)
 |some i=>(c.set i {c.en i with st:=1},(c.en i).d)
def bn(c:Ca)(line:Int)(d:L8):Ca:=match c.kG line 1 with
 |none=>c
 |some i=>c.set i {c.en i with st:=2,d:=d}
def drop(c:Ca)(line:Int):Ca×En:=match c.kG line 0 with
 |none=>(c,.zero)
 |some i=>(c.set i .zero,c.en i)
def nO(e:En):En:=if e.st=0 then e else{e with r:=B2,w:=B2,o:=.zero}
def back(e:En):En:=if e.st=0 then e else{e with r:=B2,w:=B2,o:=.zero,d:=if e.w then e.o else e.d}
def aT(c:Ca):Ca:={c with sl:=c.sl.map nO}
def discard(c:Ca):Ca:={c with sl:=c.sl.map back}
def gW(c:Ca)(line:Int):Nat->Option Nat
 |0=>B5
 |n+1=>if(c.en (c.fr line+n)).r ||(c.en (c.fr line+n)).w then c.gW line n else match c.gW line n with
  |none=>B1 n
  |some j=>if(c.en (c.fr line+n)).u<(c.en (c.fr line+j)).u then B1 n else B1 j
def free(c:Ca)(line:Int)(i:Nat):Bool:=(c.en (c.fr line+i)).st == 0
def room(c:Ca)(line:Int):Option Nat:=match cY (c.free line) c.ways with
 |some i=>B1 (c.fr line+i)
 |none=>(c.gW line c.ways).map (c.fr line + ·)
def fill(c:Ca)(line st:Int)(d:L8):Ca×En×Int :=
 match c.pos line with
 |some _=>(c,.zero,21)
 |none=>match c.room line with
  |none=>(c,.zero,22)
  |some i=>({c with us:=c.us+1,sl:=c.sl.set i ⟨line,st,B2,B2,d,.zero,c.us+1⟩},c.en i,0)
end Ca
end Go.Am
namespace Go.Am
structure Mg where
 k:Int
 core:Int
 line:Int
 d:L8
 deriving DecidableEq
structure No where
 core:Int
 lines:Int
 c:Ca
 out:Mg
 aR:List Int
 live:Bool
 code:Int
namespace No
def may(n:No)(a:Int):Prop:=0<=a/\a<n.lines*8
instance(n:No)(a:Int):Decidable (n.may a):=inferInstanceAs (Decidable (_/\_))
def msg(n:No)(k line:Int):Mg:=⟨k,n.core,line,.zero⟩
def ask(n:No)(k line:Int):No×List Mg:=if n.out.k≠0\/line∈n.aR then(n,[])else({n with out:=n.msg k line},[n.msg k line])
def ln(a:Int):Int:=((a.toNat / 8:Nat):Int)
def load(n:No)(a:Int):No×Int×Bool×List Mg×Int :=
 if n.may a then match n.c.find (ln a)with
  |none=>((n.ask 1 (ln a)).1,0,B2,(n.ask 1 (ln a)).2,0)
  |some _=>({n with c:=((if n.live then n.c.mark (ln a) B2 else n.c).word a.toNat).1},((if n.live then n.c.mark (ln a) B2 else n.c).word a.toNat).2.getD 0,B4,[],0)
 else(n,0,B2,[],2)
def owned(n:No)(line:Int):Bool:=match n.c.find line with
 |none=>B2
 |some x=>x.st == 2
def store(n:No)(a y:Int):No×Bool×List Mg×Int :=
 if n.may a then if n.owned (ln a)then({n with c:=(if n.live then n.c.mark (ln a) B4 else n.c).put a.toNat y},B4,[],0)
  else((n.ask 2 (ln a)).1,B2,(n.ask 2 (ln a)).2,0)
 else(n,B2,[],2)
def mL(n:No)(a old y:Int):No×List Mg :=
 if n.may a then if n.live then(n,[])else if n.owned (ln a)then
  ({n with c:=if(n.c.word a.toNat).2.getD 0=old then(n.c.word a.toNat).1.put a.toNat y else(n.c.word a.toNat).1},[])
  else n.ask 2 (ln a)
 else(n,[])
def begin(n:No):No:=if n.live then n else{n with live:=B4,code:=0}
def aT(n:No):No:=if n.live then{n with c:=n.c.aT,live:=B2}else n
def iJ(n:No)(code:Int):No:={n with c:=n.c.discard,live:=B2,code:=code}
def abort(n:No)(code:Int):No×Int:=if n.live then if code<1\/7<code then(n,2)else(n.iJ code,0)else(n,40)
def lost(n:No)(x:En)(too:Bool):No:=if x.w ||(x.r && too)then if x.line=0 then n.iJ 2 else n.iJ 1 else n
def iK(n:No)(m:Mg)(x:En):Prop :=
 m.k=11/\x.st≠2\/(m.k=12\/m.k=13)/\x.st≠1\/m.k=14/\n.out=n.msg 1 m.line\/m.k=15/\n.out=n.msg 2 m.line\/m.k=16/\m.line∈n.aR
instance(n:No)(m:Mg)(x:En):Decidable (n.iK m x):=inferInstanceAs (Decidable (_\/_))
def gone(n:No)(x:En):No×List Mg:=if x.st=2 then({n with aR:=n.aR ++ [x.line]},[⟨3,n.core,x.line,x.d⟩])else(n,[])
def dp(n:No)(m:Mg)(st:Int):No×List Mg :=
 if(n.c.fill m.line st m.d).2.2=0/\(n.c.fill m.line st m.d).2.1.st≠0 then gone {n with c:=(n.c.fill m.line st m.d).1} (n.c.fill m.line st m.d).2.1
 else({n with c:=(n.c.fill m.line st m.d).1},[])
def kH(n:No)(m:Mg)(st:Int):No×List Mg:=if(n.c.fill m.line st m.d).2.2=22 then(n.iJ 3).dp m st else n.dp m st
def fill(n:No)(m:Mg):No×List Mg:=n.kH m (if m.k=15 then 2 else 1)
end No
end Go.Am
namespace Go.Am
namespace Ca
structure CI(lines:Int)(c:Ca):Prop where
 len:c.sl.length=c.cu*c.ways
 s0:0<c.cu
 w0:0<c.ways
 ok:∀i,i<c.sl.length->(c.en i).st≠0->((c.en i).st=1\/(c.en i).st=2)/\0<=(c.en i).line/\(c.en i).line<lines/\i / c.ways=(c.en i).line.toNat % c.cu/\((c.en i).w=B4->(c.en i).st=2)
 uq:∀i j,i<c.sl.length->j<c.sl.length->(c.en i).st≠0->(c.en j).st≠0->(c.en i).line=(c.en j).line->i=j
def C0{c:Ca}{i:Nat}(h:i<c.sl.length):c.sl[i]? = B1 (c.en i):=by
 grind [en]
def Bq{c:Ca}{i j:Nat}{e:En}(h:i<c.sl.length):(c.set i e).en j=if i=j then e else c.en j:=by
 unfold en set
 grind
def TG{c:Ca}{i:Nat}(h:c.sl.length<=i):c.en i=.zero:=by
 grind [en]
section
variable{lines:Int}{c:Ca}
def CI.gI(h:CI lines c)(line:Int){k:Nat}(hk:k<c.ways):c.fr line+k<c.sl.length:=by
 have a:line.toNat % c.cu<c.cu:=Nat.mod_lt _ h.s0;have b:(line.toNat % c.cu+1)*c.ways<=c.cu*c.ways:=jy _ a;rw[yk,Nat.one_mul]at b;unfold fr;rw[h.len];omega
def CI.sN(h:CI lines c)(line:Int){k:Nat}(hk:k<c.ways):(c.fr line+k) / c.ways=line.toNat % c.cu:=by
 unfold fr;rw[Nat.add_comm,Nat.add_mul_div_right _ _ h.w0,Nat.div_eq_of_lt hk,yu]
def CI.aX(h:CI lines c){line:Int}{i:Nat}(hp:c.pos line=B1 i):0<=line/\i<c.sl.length/\(c.en i).st≠0/\(c.en i).line=line /\ ∃k,k<c.ways/\i=c.fr line+k/\cY (c.mK line) c.ways=B1 k:=by
 unfold pos at hp;split at hp
 .cases hp
 .rename_i hl;rw[xh]at hp;obtain⟨k,hk,rfl⟩:=hp;obtain⟨a,b,-⟩:=Fp hk;unfold mK at b;simp only[xq,bne_iff_ne,ne_eq,beq_iff_eq]at b;exact⟨by omega,h.gI line a,b.1,b.2,k,a,rfl,hk⟩
def CI.G8(h:CI lines c){i:Nat}(e:i<c.sl.length)(f:(c.en i).st≠0):c.pos (c.en i).line=B1 i:=by
 obtain⟨-,a,-,b,-⟩:=h.ok i e f;have hk:i % c.ways<c.ways:=Nat.mod_lt _ h.w0;have g:c.fr (c.en i).line+i % c.ways=i:=by
  unfold fr;grind [Nat.div_add_mod']
 unfold pos;rw[qn (by omega),Ji (i:=i % c.ways) hk]
 .grind
 .unfold mK
  grind
 .intro j k;cases d:c.mK (c.en i).line j with
  |false=>rfl
  |true =>
   unfold mK at d;simp only[xq,bne_iff_ne,ne_eq,beq_iff_eq]at d;have:=h.uq _ _ (by omega) e d.1 f d.2;omega
def CI.rB(h:CI lines c){line:Int}(hp:c.pos line=B5):∀i,i<c.sl.length->(c.en i).st≠0->(c.en i).line≠line:=λ i a b q=>by
 have:=h.G8 a b
 grind
def CI.uJ(h:CI lines c){i:Nat}(m:i<c.sl.length){e:En}(p:(c.en i).st≠0)(hl:e.line=(c.en i).line)(hs:e.st=1\/e.st=2)(hw:e.w=B4->e.st=2):CI lines (c.set i e):=by
 have hlen:(c.set i e).sl.length=c.sl.length:=by show(c.sl.set i e).length=_;grind
 have r:e.st≠0:=by omega
 obtain⟨-,a,b,d,-⟩:=h.ok i m p;refine⟨by rw[hlen];exact h.len,h.s0,h.w0,λ j n f=>?_,λ j k n hk f g q=>?_⟩
 .rw [hlen]at n;rw[Bq m]at f⊢
  by_cases q:i=j
  .subst q;rw[qv rfl,hl];exact⟨hs,a,b,d,hw⟩
  .rw [qn q]at f⊢;exact h.ok j n f
 .rw [hlen]at n hk;rw[Bq m]at f q;rw[Bq m]at g q
  by_cases o:i=j
  .by_cases l:i=k
   .omega
   .rw [qv o,qn l,hl]at q;rw[qn l]at g;rw[<-o];exact h.uq i k m hk p g q
  .by_cases l:i=k
   .rw [qn o,qv l,hl]at q;rw[qn o]at f;rw[<-l];exact h.uq j i n m f p q
   .rw [qn o,qn l]at q;rw[qn o]at f;rw[qn l]at g;exact h.uq j k n hk f g q
def CI.off(h:CI lines c){i:Nat}(l:i<c.sl.length):CI lines (c.set i .zero):=by
 have hlen:(c.set i .zero).sl.length=c.sl.length:=by show(c.sl.set i .zero).length=_;grind
 have e:∀j,((c.set i .zero).en j).st≠0->i≠j/\(c.set i .zero).en j=c.en j:=λ j b=>by
  rw[Bq l]at b⊢
  by_cases q:i=j
  .rw [qv q]at b;exact absurd rfl b
  grind
 refine⟨by rw[hlen];exact h.len,h.s0,h.w0,λ j b a=>?_,λ j k b hk a d q=>?_⟩
 .rw [hlen]at b;have:=(e j a).2;rw[this]at a⊢;exact h.ok j b a
 .rw [hlen]at b hk;have f:=(e j a).2;have g:=(e k d).2;rw[f]at a q;rw[g]at d q;exact h.uq j k b hk a d q
def CI.G3(h:CI lines c){i k:Nat}{line:Int}{e:En}(hk:k<c.ways)(g:i=c.fr line+k)(hn:c.pos line=B5)(hl:e.line=line)(o:0<=line)(p:line<lines)(hs:e.st=1\/e.st=2)(hw:e.w=B2):CI lines (c.set i e):=by
 have b:i<c.sl.length:=by rw[g];exact h.gI line hk
 have hlen:(c.set i e).sl.length=c.sl.length:=by show(c.sl.set i e).length=_;grind
 have r:=h.rB hn;refine⟨by rw[hlen];exact h.len,h.s0,h.w0,λ j f a=>?_,λ j m f hm a d q=>?_⟩
 .rw [hlen]at f;rw[Bq b]at a⊢
  by_cases q:i=j
  .rw [qv q,hl];exact⟨hs,o,p,by rw[<-q,g];exact h.sN line hk,λ q=>by grind⟩
  .rw [qn q]at a⊢;exact h.ok j f a
 .rw [hlen]at f hm;rw[Bq b]at a q;rw[Bq b]at d q
  by_cases l:i=j
  .grind
  .by_cases n:i=m
   .grind
   .rw [qn l,qn n]at q;rw[qn l]at a;rw[qn n]at d;exact h.uq j m f hm a d q
theorem CI.map(h:CI lines c){g:En->En}(hl:∀e,(g e).line=e.line)(hs:∀e,(g e).st=e.st)(hw:∀e,e.st≠0->(g e).w=B4->e.w=B4)(us:Int):CI lines {c with sl:=c.sl.map g,us:=us}:=by
 have hlen:(c.sl.map g).length=c.sl.length:=zj _;have he:∀j,j<c.sl.length->Ca.en {c with sl:=c.sl.map g,us:=us} j=g (c.en j):=λ j l=>by
  unfold en;grind
 refine⟨by show(c.sl.map g).length=_;rw[hlen];exact h.len,h.s0,h.w0,λ j l i=>?_,λ j k l hk i m q=>?_⟩
 .have l:j<c.sl.length:=by grind
  rw[he j l]at i⊢;rw[hs]at i;obtain⟨a,b,d,e,f⟩:=h.ok j l i
  grind
 .have l:j<c.sl.length:=by grind
  have hk:k<c.sl.length:=by grind
  rw[he j l]at i q;rw[he k hk]at m q;rw[hs]at i m;rw[hl,hl]at q;exact h.uq j k l hk i m q
def CI.us(h:CI lines c)(u:Int):CI lines {c with us:=u}:=⟨h.len,h.s0,h.w0,h.ok,h.uq⟩
end
end Ca
end Go.Am
namespace Go.Am
namespace No
def bh(n:No)(m:Mg):No×List Mg :=
 if m.core≠n.core\/m.line<0\/n.lines<=m.line \/ ¬n.iK m ((n.c.find m.line).getD .zero)then(n,[])
 else if m.k=11 then({n.lost ((n.c.find m.line).getD .zero) B4 with c:=((n.lost ((n.c.find m.line).getD .zero) B4).c.drop m.line).1},[n.msg 4 m.line])
 else if m.k=12\/m.k=13 then match n.c.find m.line with
  |none=>(n,[n.msg 6 m.line])
  |some x =>
   if m.k=12 then({n.lost x B2 with c:=((n.lost x B2).c.cE m.line).1},[⟨5,n.core,m.line,((n.lost x B2).c.cE m.line).2⟩])
   else({n.lost x B4 with c:=((n.lost x B4).c.drop m.line).1},[⟨5,n.core,m.line,((n.lost x B4).c.drop m.line).2.d⟩])
 else if m.k=16 then({n with aR:=n.aR.filter (· ≠m.line)},[])
 else match n.c.find m.line with
  |some _=>({n with out:=⟨0,0,0,.zero⟩,c:=n.c.bn m.line m.d},[n.msg 7 m.line])
  |none=>((fill {n with out:=⟨0,0,0,.zero⟩} m).1,(fill {n with out:=⟨0,0,0,.zero⟩} m).2 ++ [n.msg 7 m.line])
def eQ(n:No)(line:Int):No×List Mg :=
 if line<0\/n.lines<=line then(n,[])else match n.c.find line with
  |none=>(n,[])
  |some x =>
   gone {(if x.r ||x.w then n.iJ 4 else n)with c:=((if x.r ||x.w then n.iJ 4 else n).c.drop line).1} ((if x.r ||x.w then n.iJ 4 else n).c.drop line).2
end No
structure ac4 where
 k:Int
 n:Int
 v:Int
 o:Int
 m:Mg
namespace Ca
section
variable{lines:Int}{c:Ca}
def Dq{g:En->En}(hl:∀e,(g e).line=e.line)(hs:∀e,(g e).st=e.st)(line:Int)(i:Nat):Ca.mK {c with sl:=c.sl.map g} line i=c.mK line i:=by
 have he:∀j,(Ca.en {c with sl:=c.sl.map g} j).st=(c.en j).st/\((Ca.en {c with sl:=c.sl.map g} j).st≠0->(Ca.en {c with sl:=c.sl.map g} j).line=(c.en j).line):=λ j=>by
  grind [en]
 have a:Ca.fr {c with sl:=c.sl.map g} line=c.fr line:=rfl
 grind [mK]
def Yd{g:En->En}(hl:∀e,(g e).line=e.line)(hs:∀e,(g e).st=e.st)(line:Int):Ca.pos {c with sl:=c.sl.map g} line=c.pos line:=by
 have:Ca.mK {c with sl:=c.sl.map g} line=c.mK line:=funext λ i=>Dq hl hs line i;unfold pos;rw[this];rfl
def Po{g:En->En}{i:Nat}(a:i<c.sl.length):Ca.en {c with sl:=c.sl.map g} i=g (c.en i):=by
 grind [en]
def NC(e:En):(back e).line=e.line:=by grind [back]
def PB(e:En):(back e).st=e.st:=by grind [back]
def yE(e:En):(nO e).line=e.line:=by grind [nO]
def PN(e:En):(nO e).st=e.st:=by grind [nO]
theorem O8{e:En}(h:e.st≠0):(back e).r=B2/\(back e).w=B2/\(back e).d=if e.w then e.o else e.d:=by simp_all[back]
def Q0{e:En}(h:e.st≠0):(nO e).r=B2/\(nO e).w=B2/\(nO e).d=e.d:=by simp_all[nO]
def plain(c:Ca):Prop:=∀i,i<c.sl.length->(c.en i).st≠0->(c.en i).r=B2/\(c.en i).w=B2
def CI.discard(h:CI lines c):CI lines c.discard:=by
 refine(h.map (g:=back) NC PB (λ e he q=>?_) c.us);rw[(O8 he).2.1]at q;cases q
theorem CI.aT(h:CI lines c):CI lines c.aT:=by
 refine(h.map (g:=nO) yE PN (λ e he q=>?_) c.us);rw[(Q0 he).2.1]at q;cases q
def CI.DY(h:CI lines c):c.discard.plain:=λ i b a=>by
 have b:i<c.sl.length:=by have:c.discard.sl.length=c.sl.length:=zj _;omega
 have e:c.discard.en i=back (c.en i):=Po b;rw[e]at a⊢;rw[PB]at a;exact⟨(O8 a).1,(O8 a).2.1⟩
def CI.uY(h:CI lines c):c.aT.plain:=λ i b a=>by
 have b:i<c.sl.length:=by have:c.aT.sl.length=c.sl.length:=zj _;omega
 have e:c.aT.en i=nO (c.en i):=Po b;rw[e]at a⊢;rw[PN]at a;exact⟨(Q0 a).1,(Q0 a).2.1⟩
theorem plain.set(h:c.plain){i:Nat}(f:i<c.sl.length){e:En}(hr:e.st≠0->e.r=B2/\e.w=B2)(us:Int):Ca.plain {c.set i e with us:=us}:=λ j a b=>by
 have a:j<c.sl.length:=by have:(c.sl.set i e).length=c.sl.length:=xw;have a:j<(c.sl.set i e).length:=a;omega
 have d:Ca.en {c.set i e with us:=us} j=(c.set i e).en j:=rfl;rw[d,Bq f]at b⊢
 by_cases q:i=j
 .grind
 .rw [qn q]at b⊢;exact h j a b
theorem Om{line:Int}{x:En}(h:c.find line=B1 x):∃i,c.pos line=B1 i/\x=c.en i:=by
 grind [find,xh]
def sE{line st:Int}{i:Nat}(h:c.kG line st=B1 i):c.pos line=B1 i/\(st≠0->(c.en i).st=st):=by
 unfold kG at h
 grind
theorem rz{line:Int}:c.kG line 0=c.pos line:=by
 unfold kG
 grind
theorem CI.use(h:CI lines c){i:Nat}(d:i<c.sl.length)(f:(c.en i).st≠0):CI lines (c.use i):=by
 obtain⟨a,-,-,-,b⟩:=h.ok i d f;exact(h.uJ d (e:={c.en i with u:=c.us+1}) f rfl a b).us (c.us+1)
theorem CI.word(h:CI lines c)(a:Nat):CI lines (c.word a).1:=by
 unfold Ca.word;cases hp:c.pos ((a / 8:Nat):Int)with
 |none=>exact h
 |some i=>obtain⟨-,b,d,-⟩:=h.aX hp;exact h.use b d
theorem CI.put(h:CI lines c)(a:Nat)(y:Int):CI lines (c.put a y):=by
 unfold Ca.put;cases hp:c.kG ((a / 8:Nat):Int) 2 with
 |none=>exact h
 |some i =>
  obtain⟨q,-⟩:=sE hp;obtain⟨-,b,d,-⟩:=h.aX q;obtain⟨k,-,-,-,l⟩:=h.ok i b d;exact(h.uJ b (e:={c.en i with u:=c.us+1,d:=(c.en i).d.put (a % 8) y}) d rfl k l).us (c.us+1)
def CI.mark(h:CI lines c)(line:Int)(wr:Bool):CI lines (c.mark line wr):=by
 unfold Ca.mark;cases wr with
 |true =>
  rw[qv rfl];cases hp:c.kG line 2 with
  |none=>exact h
  |some i =>
   have⟨q,s⟩:=sE hp;obtain⟨-,b,d,-⟩:=h.aX q;show CI lines (if(c.en i).w then c else c.set i {c.en i with w:=B4,o:=(c.en i).d});split
   .exact h
   .exact h.uJ b d rfl (by grind) λ _=>s (by decide)
 |false =>
  rw[qn (by decide)];cases hp:c.kG line 0 with
  |none=>exact h
  |some i =>
   obtain⟨q,-⟩:=sE hp;obtain⟨-,b,d,-⟩:=h.aX q;obtain⟨k,-,-,-,l⟩:=h.ok i b d;exact h.uJ b (e:={c.en i with r:=B4}) d rfl k l
theorem CI.drop(h:CI lines c)(line:Int):CI lines (c.drop line).1:=by
 unfold Ca.drop;rw[rz];cases hp:c.pos line with
 |none=>exact h
 |some i=>obtain⟨-,b,-⟩:=h.aX hp;exact h.off b
def CI.cE(h:CI lines c)(line:Int)(hu:∀i,c.pos line=B1 i->(c.en i).w=B2):CI lines (c.cE line).1:=by
 unfold Ca.cE;cases hp:c.kG line 2 with
 |none=>exact h
 |some i =>
  obtain⟨q,-⟩:=sE hp;obtain⟨-,b,d,-⟩:=h.aX q;have hw:=hu i q;exact h.uJ b (e:={c.en i with st:=1}) d rfl (.inl rfl) λ w=>by grind
def CI.bn(h:CI lines c)(line:Int)(x:L8):CI lines (c.bn line x):=by
 unfold Ca.bn;cases hp:c.kG line 1 with
 |none=>exact h
 |some i =>
  obtain⟨q,-⟩:=sE hp;obtain⟨-,b,d,-⟩:=h.aX q;exact h.uJ b (e:={c.en i with st:=2,d:=x}) d rfl (.inr rfl) λ _=>rfl
def OI{line:Int}:∀{n i:Nat},c.gW line n=B1 i->i<n/\(c.en (c.fr line+i)).r=B2/\(c.en (c.fr line+i)).w=B2
 |0,i,h=>by cases h
 |n+1,i,h=>by
  rw[gW]at h;split at h
  .have ⟨a,b⟩:=OI h;grind
  .rename_i hm;have hm:(c.en (c.fr line+n)).r=B2/\(c.en (c.fr line+n)).w=false:=by simpa using hm
   cases hb:c.gW line n with
   |none=>grind
   |some j =>
    rw[hb]at h;simp only at h;have⟨a,b⟩:=OI hb
    grind
def Oz{line:Int}{i:Nat}(h:c.room line=B1 i):∃k,k<c.ways/\i=c.fr line+k/\((c.en i).st=0\/(c.en i).r=B2/\(c.en i).w=B2):=by
 unfold room at h;cases d:cY (c.free line) c.ways with
 |some k =>
  rw[d]at h;cases h;obtain⟨a,b,-⟩:=Fp d;simp_all[free]
 |none =>
  rw[d]at h;simp only[xh]at h;obtain⟨k,hk,rfl⟩:=h;have⟨a,b⟩:=OI hk;simp_all
theorem CI.fill(h:CI lines c){line st:Int}{x:L8}(d:0<=line)(f:line<lines)(hs:st=1\/st=2):CI lines (c.fill line st x).1:=by
 unfold Ca.fill;cases hp:c.pos line with
 |some _=>exact h
 |none =>
  show CI lines (match c.room line with|none=>(c,En.zero,(22:Int))|some i=>({c with us:=c.us+1,sl:=c.sl.set i ⟨line,st,B2,B2,x,.zero,c.us+1⟩},c.en i,0)).1;cases hr:c.room line with
  |none=>exact h
  |some i =>
   obtain⟨k,a,b,-⟩:=Oz hr;exact(h.G3 (e:=⟨line,st,B2,B2,x,.zero,c.us+1⟩) a b hp rfl d f hs rfl).us (c.us+1)
end
end Ca
end Go.Am
namespace Go.Am
namespace Ca
section
variable{lines:Int}{c:Ca}
theorem plain.word(h:c.plain)(f:CI lines c)(a:Nat):(c.word a).1.plain:=by
 unfold Ca.word;cases hp:c.pos ((a / 8:Nat):Int)with
 |none=>exact h
 |some i=>obtain⟨-,b,d,-⟩:=f.aX hp;exact h.set b (e:={c.en i with u:=c.us+1}) (λ _=>h i b d) (c.us+1)
theorem plain.put(h:c.plain)(f:CI lines c)(a:Nat)(y:Int):(c.put a y).plain:=by
 unfold Ca.put;cases hp:c.kG ((a / 8:Nat):Int) 2 with
 |none=>exact h
 |some i =>
  obtain⟨q,-⟩:=sE hp;obtain⟨-,b,d,-⟩:=f.aX q;exact h.set b (e:={c.en i with u:=c.us+1,d:=(c.en i).d.put (a % 8) y}) (λ _=>h i b d) (c.us+1)
theorem plain.drop(h:c.plain)(a:CI lines c)(line:Int):(c.drop line).1.plain:=by
 unfold Ca.drop;rw[rz];cases hp:c.pos line with
 |none=>exact h
 |some i=>obtain⟨-,b,-⟩:=a.aX hp;exact h.set b (e:=.zero) (λ q=>absurd rfl q) c.us
def plain.cE(h:c.plain)(a:CI lines c)(line:Int):(c.cE line).1.plain:=by
 unfold Ca.cE;cases hp:c.kG line 2 with
 |none=>exact h
 |some i =>
  obtain⟨q,-⟩:=sE hp;obtain⟨-,b,d,-⟩:=a.aX q;exact h.set b (e:={c.en i with st:=1}) (λ _=>h i b d) c.us
def plain.bn(h:c.plain)(a:CI lines c)(line:Int)(x:L8):(c.bn line x).plain:=by
 unfold Ca.bn;cases hp:c.kG line 1 with
 |none=>exact h
 |some i =>
  obtain⟨q,-⟩:=sE hp;obtain⟨-,b,d,-⟩:=a.aX q;exact h.set b (e:={c.en i with st:=2,d:=x}) (λ _=>h i b d) c.us
theorem plain.fill(h:c.plain)(d:CI lines c){line st:Int}{x:L8}:(c.fill line st x).1.plain:=by
 unfold Ca.fill;cases hp:c.pos line with
 |some _=>exact h
 |none =>
  show Ca.plain (match c.room line with|none=>(c,En.zero,(22:Int))|some i=>({c with us:=c.us+1,sl:=c.sl.set i ⟨line,st,B2,B2,x,.zero,c.us+1⟩},c.en i,0)).1;cases hr:c.room line with
  |none=>exact h
  |some i =>
   obtain⟨k,a,b,-⟩:=Oz hr;exact h.set (by rw[b];exact d.gI line a) (e:=⟨line,st,B2,B2,x,.zero,c.us+1⟩) (by grind) (c.us+1)
def Bj{line st:Int}{x:L8}:(c.fill line st x).2.2=21/\(c.fill line st x).1=c/\(c.fill line st x).2.1=.zero\/(c.fill line st x).2.2=22/\(c.fill line st x).1=c/\(c.fill line st x).2.1=.zero \/
 (c.fill line st x).2.2=0 /\ ∃i,c.room line=B1 i/\(c.fill line st x).2.1=c.en i:=by
 grind [Ca.fill]
end
end Ca
open Ca
namespace No
structure NI(n:No):Prop where
 ci:CI n.lines n.c
 pl:n.live=B2->n.c.plain
section
variable{n:No}
def NI.iJ(h:n.NI)(k:Int):(n.iJ k).NI:=⟨h.ci.discard,λ _=>h.ci.DY⟩
theorem NI.lost(h:n.NI)(x:En)(too:Bool):(n.lost x too).NI:=by
 unfold No.lost;split
 .split
  .exact h.iJ 2
  .exact h.iJ 1
 omega
def NI.ask(h:n.NI)(k line:Int):(n.ask k line).1.NI:=by
 unfold No.ask;split
 .exact h
 .exact ⟨h.ci,h.pl⟩
def KZ{k line:Int}:∀m∈(n.ask k line).2,m.k=k:=by
 unfold No.ask;split
 .grind
 .intro m q;rw[z4.1 q];rfl
def NI.jT(h:n.NI){c:Ca}(a:CI n.lines c)(hp:n.live=B2->c.plain):NI {n with c:=c}:=⟨a,hp⟩
def NI.gone(h:n.NI)(x:En):(n.gone x).1.NI:=by
 unfold No.gone;split
 .exact ⟨h.ci,h.pl⟩
 omega
def NI.dp(h:n.NI){m:Mg}{st:Int}(hs:st=1\/st=2)(a:0<=m.line)(b:m.line<n.lines):(n.dp m st).1.NI:=by
 have hb:NI {n with c:=(n.c.fill m.line st m.d).1}:=h.jT (h.ci.fill a b hs) λ w=>(h.pl w).fill h.ci;unfold No.dp;split
 .exact NI.gone (n:={n with c:=(n.c.fill m.line st m.d).1}) hb _
 omega
theorem NI.fill(h:n.NI){m:Mg}(a:0<=m.line)(b:m.line<n.lines):(n.fill m).1.NI:=by
 have hs:(if m.k=15 then(2:Int)else 1)=1\/(if m.k=15 then(2:Int)else 1)=2:=by omega
 unfold No.fill No.kH;generalize(if m.k=15 then(2:Int)else 1)=st at hs;split
 .exact (h.iJ 3).dp hs a b
 .exact h.dp hs a b
theorem NI.load(h:n.NI)(a:Int):(n.load a).1.NI:=by
 unfold No.load;split
 .cases b:n.c.find (ln a)with
  |none=>exact h.ask _ _
  |some x =>
   refine h.jT (CI.word ?_ _) λ q=>?_
   .split
    .exact h.ci.mark _ _
    .exact h.ci
   .rw [qn (by rw[q];decide)];exact(h.pl q).word h.ci _
 omega
theorem NI.store(h:n.NI)(a y:Int):(n.store a y).1.NI:=by
 unfold No.store;split
 .split
  .refine h.jT (CI.put ?_ _ _) λ q=>?_
   .split
    .exact h.ci.mark _ _
    .exact h.ci
   .rw [qn (by rw[q];decide)];exact(h.pl q).put h.ci _ _
  .exact h.ask _ _
 omega
theorem NI.mL(h:n.NI)(a o y:Int):(n.mL a o y).1.NI:=by
 unfold No.mL;split
 .split
  .exact h
  .split
   .simp only;split
    .exact h.jT ((h.ci.word _).put _ _) λ q=>((h.pl q).word h.ci _).put (h.ci.word _) _ _
    .exact h.jT (h.ci.word _) λ q=>(h.pl q).word h.ci _
   .exact h.ask _ _
 omega
def ad0{x:En}{too:Bool}{i:Nat}(h:n.NI)(a:i<n.c.sl.length)(b:(n.c.en i).st≠0)(d:x=n.c.en i):((n.lost x too).c.en i).w=false:=by
 unfold No.lost;split
 .have e:(n.c.discard).en i=back (n.c.en i):=Po a;split<;>(show(n.c.discard.en i).w=B2;grind [O8])
 grind
def zT(x:En)(too:Bool)(line:Int):(n.lost x too).c.pos line=n.c.pos line:=by
 unfold No.lost;split
 .split<;>exact Yd NC PB line
 .rfl
def NI.bh(h:n.NI)(m:Mg):(n.bh m).1.NI:=by
 unfold No.bh;split
 .exact h
 rename_i hg;have f:0<=m.line:=by omega
 have g:m.line<n.lines:=by omega
 have l:∀x too,NI {n.lost x too with c:=((n.lost x too).c.drop m.line).1}:=λ x too =>
  (h.lost x too).jT ((h.lost x too).ci.drop m.line) λ q=>((h.lost x too).pl q).drop (h.lost x too).ci m.line
 split
 .grind
 split
 .cases d:n.c.find m.line with
  |none=>exact h
  |some x =>
   simp only;split
   .refine (h.lost x B2).jT ((h.lost x B2).ci.cE m.line λ i e=>?_) λ q=>((h.lost x B2).pl q).cE (h.lost x B2).ci m.line;have⟨j,a,b⟩:=Om d;rw[zT,a]at e;cases e;obtain⟨-,hl,k,-⟩:=h.ci.aX a;exact ad0 h hl k b
   grind
 split
 .exact ⟨h.ci,h.pl⟩
 .cases d:n.c.find m.line with
  |some x=>exact⟨h.ci.bn _ _,λ q=>(h.pl q).bn h.ci _ _⟩
  |none=>exact NI.fill (n:={n with out:=⟨0,0,0,.zero⟩}) ⟨h.ci,h.pl⟩ f g
def NI.eQ(h:n.NI)(line:Int):(n.eQ line).1.NI:=by
 unfold No.eQ;split
 .exact h
 .cases a:n.c.find line with
  |none=>exact h
  |some x =>
   simp only;have hb:NI (if(x.r ||x.w)=B4 then n.iJ 4 else n):=by
    split
    .exact h.iJ 4
    omega
   generalize(if(x.r ||x.w)=B4 then n.iJ 4 else n)=n1 at hb;exact NI.gone (n:={n1 with c:=(n1.c.drop line).1}) (hb.jT (hb.ci.drop line) λ q=>(hb.pl q).drop hb.ci line) _
def Ku(n:No)(n':No)(l:List Mg):Prop:=n.live=B4 -> ∀m∈l,m.k=3\/m.k=5 -> ∀i,i<n.c.sl.length->(n.c.en i).st≠0->(n.c.en i).line=m.line->(n.c.en i).w=B4->m.d=(n.c.en i).o/\n'.live=B2
def Ku.k{n n':No}{l:List Mg}(h:∀m∈l,m.k≠3/\m.k≠5):Ku n n' l:=λ _ m hm q=>by grind
def HM{k:Int}{i:Nat}(a:i<n.c.sl.length):(n.iJ k).c.en i=back (n.c.en i):=Po a
theorem X7{c:Ca}{line:Int}{i:Nat}(hp:c.pos line=B1 i):(c.drop line).2=c.en i:=by
 grind [Ca.drop,rz]
end
end No
end Go.Am
namespace Go.Am
namespace Ca
section
variable{lines:Int}{c:Ca}
structure CJ(c c':Ca):Prop where
 cu:c'.cu=c.cu
 ways:c'.ways=c.ways
 len:c'.sl.length=c.sl.length
 st:∀i,(c'.en i).st=(c.en i).st
 line:∀i,(c'.en i).line=(c.en i).line
theorem CJ.trans{a b d:Ca}(h:CJ a b)(e:CJ b d):CJ a d:=⟨e.cu.trans h.cu,e.ways.trans h.ways,e.len.trans h.len,λ i=>(e.st i).trans (h.st i),λ i=>(e.line i).trans (h.line i)⟩
theorem CJ.set{c:Ca}{i:Nat}{e:En}(us:Int)(hl:e.line=(c.en i).line)(hs:e.st=(c.en i).st):CJ c {c.set i e with us:=us}:=by
 have he:∀j,Ca.en {c.set i e with us:=us} j=(c.set i e).en j:=λ j=>rfl;have hlen:(c.set i e).sl.length=c.sl.length:=xw;rcases xp i c.sl.length with a|a
 .refine ⟨rfl,rfl,hlen,λ j=>?_,λ j=>?_⟩<;>(rw[he,Bq a];by_cases q:i=j)
  .subst q;rw[qv rfl,hs]
  .grind
  .grind
  grind
 .have:(c.set i e)=c:=by
   unfold Ca.set;rw[List.set_eq_of_length_le a]
  rw[this];exact⟨rfl,rfl,rfl,λ _=>rfl,λ _=>rfl⟩
def CJ.pos{c a:Ca}(h:CJ c a)(line:Int):a.pos line=c.pos line:=by
 have b:∀line,a.fr line=c.fr line:=λ line=>by unfold fr;rw[h.cu,h.ways]
 have d:a.mK line=c.mK line:=funext λ i=>by unfold mK;rw[b,h.st,h.line]
 unfold Ca.pos;rw[d,h.ways,b]
end
end Ca
end Go.Am
namespace Go.Am
structure oA{α:Type}(enc:α->List AV)(e size:Nat)(H:ar)(v:AV)(xs:List α)(b i alt r:Nat):Prop where
 eq:v=.gslice b i (i+xs.length+r) size alt xs.length
 lt:b<H.au
 cells:∃P R,P.length=i*size/\R.length=r*size/\H.get b=B1 (.grown (i+xs.length+r) size (P++(xs.flatMap enc++R)) e (0,0))
def Sk{α:Type}(enc:α->List AV)(e size:Nat)(H:ar)(v:AV)(xs:List α):Prop:=(v=.nils/\xs=[]) \/ ∃b i alt r,oA enc e size H v xs b i alt r
section
variable{α:Type}{enc:α->List AV}{e size:Nat}{H H':ar}{v:AV}{xs ys:List α}{b i alt r:Nat}
theorem Sk.nil(H:ar):Sk enc e size H .nils ([]:List α):=.inl ⟨rfl,rfl⟩
def oA.fr{W:Nat->Prop}(h:oA enc e size H v xs b i alt r)(f:Fr W H H')(hw:¬W b):oA enc e size H' v xs b i alt r:=by
 obtain⟨P,R,a,c,d⟩:=h.cells;exact⟨h.eq,qj h.lt f.au,P,R,a,c,by rw[f.ah b h.lt hw];exact d⟩
def oA.on(h:oA enc e size H v xs b i alt r):bm v b:=⟨by rw[h.eq];simp,by rw[h.eq];rfl⟩
def oA.Pf(h:oA enc e size H v xs b i alt r){x:Nat}(a:bm v x):x=b:=by rw[a.2,h.eq];rfl
def Sk.fr{W:Nat->Prop}(h:Sk enc e size H v xs)(f:Fr W H H')(hw:∀x,bm v x -> ¬W x):Sk enc e size H' v xs:=by
 rcases h with q|⟨b,i,alt,r,h⟩
 .exact .inl q
 .exact .inr ⟨b,i,alt,r,h.fr f (hw b h.on)⟩
def Sk.em(h:Sk enc e size H v xs)(f:Fr Em H H'):Sk enc e size H' v xs:=h.fr f λ _ _ q=>q
def Sk.lt(h:Sk enc e size H v xs):∀x,bm v x->x<H.au:=by
 intro x a;rcases h with⟨rfl,-⟩|⟨b,i,alt,r,h⟩
 .exact (a.1 rfl).elim
 .rw [h.Pf a];exact h.lt
theorem wQ(hs:∀x,(enc x).length=size):∀(l:List α),(l.flatMap enc).length=l.length*size
 |[]=>by simp
 |a::l=>by rw[jv,xk,hs,wQ hs l,zy,yk];omega
def oA.sl(hs:∀x,(enc x).length=size)(h:oA enc e size H v xs b i alt r):eS enc size H v xs:=by
 obtain⟨P,R,a,c,d⟩:=h.cells;rw[h.eq];refine⟨wQ hs xs,rfl,rfl,by omega,.inr ⟨h.lt,_,TN d,?_⟩⟩;have hl:=wQ hs xs;rw[tw,qv (by simp only[xk];omega),<-a,List.drop_left,<-hl,BK]
def Sk.sl(hs:∀x,(enc x).length=size)(h:Sk enc e size H v xs):eS enc size H v xs:=by
 rcases h with⟨rfl,rfl⟩|⟨b,i,alt,r,h⟩
 .exact ⟨by simp,rfl⟩
 .exact h.sl hs
def Sk.len(hs:∀x,(enc x).length=size)(h:Sk enc e size H v xs):Op.dg [v]=B1 (.int .i64 xs.length):=(h.sl hs).len
def oA.Ar(hs:∀x,(enc x).length=size)(B:0<size)(h:oA enc e size H v xs b i alt r){x:AV}{k:Nat}{new:List AV}(hk:k<=r)(hl:k=ys.length)(hn:new=ys.flatMap enc)(p:eL x=B1 k)(o:firstCells H size k x=B1 new)(f:aP new=B4)(bytes:Nat) :
 ∃z H',Op.append e size bytes [v,x] H=B1 (z,H')/\oA enc e size H' z (xs++ys) b i alt (r-k)/\Fr (On b) H H':=by
 obtain⟨P,R,a,c,d⟩:=h.cells;have A:∀n,FW n n=true:=λ n=>by simp
 have hle:=kr (show i+xs.length<=i+xs.length+r by omega);have E:=wQ hs xs;have G:=wQ hs ys;rw[h.eq];have hm:i+xs.length+r=i+(xs++ys).length+(r-k):=by grind
 by_cases s:k=0
 .subst s;have F:ys=[]:=j6.1 hl.symm;subst F;refine⟨.gslice b i (i+xs.length+r) size alt xs.length,H,?_,?_,Fr.refl H⟩
  .simp only[Op.append,p,o,qm,f,xg,cK,FW,hle]
  .rw [zu,Nat.sub_zero,<-h.eq];exact h
 .have q:FW k 0=false:=by grind [je]
  have t:KI 0 size=true:=CW B;have g:=kr (show i+xs.length+k<=i+xs.length+r by omega);have j:new.length=k*size:=by grind
  have hmul:k*size<=r*size:=jy _ hk;have u:H.store b ((i+xs.length)*size) new=B1 (H.set b (.grown (i+xs.length+r) size (P++((xs++ys).flatMap enc++R.drop (k*size))) e (0,0))):=by
   have D:dS (0,0) ((i+xs.length)*size) (cF new)=true:=by simp[dS]
   have y:(i+xs.length)*size=(P++xs.flatMap enc).length:=by grind
   have C:(P++(xs.flatMap enc++R)).take ((i+xs.length)*size)++new++(P++(xs.flatMap enc++R)).drop ((i+xs.length)*size+new.length)=P++((xs++ys).flatMap enc++R.drop (k*size)):=by
    rw[y,<-yo P,BK,vp,j,jd (by omega),jh,show(P++xs.flatMap enc).length+k*size-(P++xs.flatMap enc).length=k*size by omega,yi,hn]
    grind
   simp only[ar.store,f,xg,d,D,Ct];rw[qv (by rw[j,y];simp only[xk];omega),qm,C]
  refine⟨.gslice b i (i+xs.length+r) size alt (xs.length+k),H.set b (.grown (i+xs.length+r) size (P++((xs++ys).flatMap enc++R.drop (k*size))) e (0,0)),?_,⟨?_,?_,P,R.drop (k*size),a,?_,?_⟩,(Fr.refl H).set (W:=On b) (.inl rfl) _⟩
  .simp only[Op.append,p,o,qm,f,xg,cK,q,ze,A,hle,t,jb,g,u]
  .grind
  .exact h.lt
  .grind [Nat.sub_mul]
  grind [xb]
def Sk.app(hs:∀x,(enc x).length=size)(K:0<size)(h:Sk enc e size H v xs){x:AV}{k:Nat}{new:List AV}(hl:k=ys.length)(hn:new=ys.flatMap enc)(o:eL x=B1 k)(j:firstCells H size k x=B1 new)(f:aP new=B4){bytes:Nat}
 (S:(xs.length+k)*bytes<=140737488355328) (E:xs.length+k<=140737488355328) :
 ∃B H',Op.append e size bytes [v,x] H=B1 (B,H')/\Sk enc e size H' B (xs++ys)/\Fr (bm v) H H' /\ ∀z,bm B z->bm v z\/H.au<=z:=by
 have J:∀n,FW n n=true:=λ n=>by simp
 have g:=Pe S E;have t:KI 0 size=true:=CW K;have W:=wQ hs ys
 by_cases F:k=0
 .subst F;have U:ys=[]:=j6.1 hl.symm;subst U;refine⟨v,H,?_,by rw[zu];exact h,Fr.refl H,λ z q=>.inl q⟩;rcases h with⟨rfl,rfl⟩|⟨b,i,alt,r,h⟩
  .simp only[Op.append,o,j,qm,f,xg,cK,FW]
  .rw [h.eq];have hle:=kr (show i+xs.length<=i+xs.length+r by omega);simp only[Op.append,o,j,qm,f,xg,cK,FW,hle]
 .have p:FW k 0=false:=by grind [je]
  rcases h with⟨rfl,rfl⟩|⟨b,i,alt,r,h⟩
  .have g:fits k bytes=true:=by simpa using g
   refine⟨.gslice H.au 0 k size 0 k,H.alloc (.grown k size new e (0,0)),?_,.inr ⟨H.au,0,0,0,?_,?_,[],[],?_,?_,?_⟩,(Fr.refl H).alloc _,λ z q=>.inr ?_⟩
   .simp only[Op.append,o,j,qm,f,xg,cK,p,ze,g,t,jb,cZ]
   .grind
   .grind [xt]
   .simp
   .simp
   .simp_all [xf]
   .rw [q.2];exact qg _
  .by_cases hr:k<=r
   .obtain ⟨B,H',O,L,C⟩:=h.Ar hs K hr hl hn o j f bytes;exact⟨B,H',O,.inr ⟨_,_,_,_,L⟩,C.mono λ z hz(q:z=b)=>by rw[q];exact h.on,λ z q=>.inl (by rw[L.Pf q];exact h.on)⟩
   .obtain ⟨P,R,a,c,d⟩:=h.cells;have G:=wQ hs xs;have y:=h.on;rw[h.eq]at y⊢;have hle:=kr (show i+xs.length<=i+xs.length+r by omega);have C:Jo (i+xs.length+k) (i+xs.length+r)=false:=by cases M:Jo (i+xs.length+k) (i+xs.length+r)with|false=>rfl|true=>grind [vd]
    have A:=kr (xu ((i+xs.length+r)*size));have I:=kr (xu (i*size));have u:Fr (bm (.gslice b i (i+xs.length+r) size alt xs.length)) H (H.kill b):=Fr.kill (Fr.refl H) (.inl y);have fin:∀cs,cs=xs.flatMap enc->Sk enc e size ((H.kill b).alloc (.grown (xs.length+k) size (cs++new) e (0,0))) (.gslice (H.kill b).au 0 (xs.length+k) size 0 (xs.length+k)) (xs++ys):=λ cs D=>by
     refine .inr ⟨H.au,0,0,0,?_,?_,[],[],?_,?_,?_⟩
     .simp_all [D9]
     .grind [xt,D9]
     .simp
     .simp
     .have:=xf (H.kill b) (.grown (xs.length+k) size (cs++new) e (0,0));rw[D9]at this;rw[this,jh,zu,yi,D,hn,xk,hl,yu,zJ]
    by_cases hw:i=0/\r=0
    .obtain ⟨rfl,rfl⟩:=hw;have Q:P=[]:=(by grind)
     have hR:R=[]:=(by grind)
     subst Q hR;have s:FW xs.length (0+xs.length+0)=true:=by simp
     refine⟨_,_,?_,fin (xs.flatMap enc) rfl,u.alloc _,λ z q=>.inr (by rw[q.2];exact qg _)⟩;simp only[Op.append,o,j,qm,f,xg,cK,p,ze,J,hle,t,jb,C,g,d,A,s,cZ,FW,wx,jh,zu]
    .have s:(FW i 0 && FW xs.length (i+xs.length+r))=false:=by
      cases M:(FW i 0 && FW xs.length (i+xs.length+r))with
      |false=>rfl
      |true =>
       rw[xq,je,je]at M;omega
     have T:fg (P++(xs.flatMap enc++R)) (i*size) (xs.length*size)=B1 (xs.flatMap enc):=by
      rw[tw,qv (by simp only[xk];omega),<-a,List.drop_left,<-G,BK]
     refine⟨_,_,?_,fin (xs.flatMap enc) rfl,u.alloc _,λ z q=>.inr (by rw[q.2];exact qg _)⟩;simp only[Op.append,o,j,qm,f,xg,cK,p,ze,J,hle,t,jb,C,g,d,A,s,Bool.false_and,I,T,cZ,FW,wx]
def oA.off(h:oA enc e size H v xs b i alt r)(hs:∀x,(enc x).length=size){k:Nat}(hk:k<=xs.length)(kk:KB):∃j f,Op.aJ size [B1 0,B5,B5] [v,.int kk (k:Int)]=B1 j/\oA enc e size H j (xs.drop k) b (i+k) f r/\(f=cond (FW k 0) alt (i*size)):=by
 obtain⟨P,R,a,c,d⟩:=h.cells;have o:∀n,FW n n=true:=λ n=>by simp
 have g:∀d m,bound B5 d m=B1 d:=λ _ _=>rfl;have hlen:i+k+(xs.drop k).length+r=i+xs.length+r:=by grind
 rw[h.eq];refine⟨.gslice b (i+k) (i+xs.length+r) size (cond (FW k 0) alt (i*size)) (xs.length-k),_,?_,⟨?_,h.lt,P++(xs.take k).flatMap enc,R,?_,c,?_⟩,rfl⟩
 .simp only[Op.aJ,arg,kX,zx,qm,ei,g,ug (z:=(k:Int)) (k:=k) rfl hk kk,o,kr (show xs.length<=i+xs.length+r-i by omega),kr (show i<=i+xs.length+r by omega),jb,xg]
 .grind
 .grind [wQ,Is,yk]
 grind [wo]
def oA.upto(h:oA enc e size H v xs b i alt r)(hs:∀x,(enc x).length=size){k:Nat}(hk:k<=xs.length)(kk:KB):∃j,Op.aJ size [B5,B1 0,B5] [v,.int kk (k:Int)]=B1 j/\oA enc e size H j (xs.take k) b i alt (r+(xs.length-k)):=by
 obtain⟨P,R,a,c,d⟩:=h.cells;have o:∀n,FW n n=true:=λ n=>by simp
 have g:∀d m,bound B5 d m=B1 d:=λ _ _=>rfl;have f:(xs.take k).length=k:=by grind
 have hlen:i+(xs.take k).length+(r+(xs.length-k))=i+xs.length+r:=by rw[f];omega
 rw[h.eq];refine⟨.gslice b (i+0) (i+xs.length+r) size (cond (FW 0 0) alt (i*size)) (k-0),?_,⟨?_,h.lt,P,(xs.drop k).flatMap enc++R,a,?_,?_⟩⟩
 .simp only[Op.aJ,arg,kX,zx,qm,ei,g,ug (z:=(k:Int)) (k:=k) rfl (show k<=i+xs.length+r-i by omega) kk,o,kr (show k<=i+xs.length+r-i by omega),kr (show i<=i+xs.length+r by omega),jb,xg]
 .rw [hlen,f];rfl
 .rw [xk,wQ hs,HQ,c,<-yk];congr 1;omega
 .rw [hlen,d,<-yo (List.flatMap enc (List.take k xs)),<-yi,wo]
def oA.TW(h:oA enc e size H v xs b i alt (r+1))(hs:∀x,(enc x).length=size)(E:0<size){zero:List AV}(s:zero.length=size)(D:aP zero=B4)(kk:KB) :
 ∃t H',Op.aJ size [B1 0,B1 1,B5] [v,.int kk (xs.length:Int),.int kk ((xs.length+1:Nat):Int)]=B1 t/\Op.bW zero [t] H=B1 (.tuple [],H')/\oA enc e size H' v xs b i alt (r+1)/\Fr (On b) H H':=by
 obtain⟨P,R,a,c,d⟩:=h.cells;have q:∀n,FW n n=true:=λ n=>by simp
 have C:=wQ hs xs;have he:=h.eq;refine⟨.gslice b (i+xs.length) (i+xs.length+(r+1)) size (cond (FW xs.length 0) alt (i*size)) (xs.length+1-xs.length),H.set b (.grown (i+xs.length+(r+1)) size (P++(xs.flatMap enc++(zero++R.drop size))) e (0,0)),?_,?_,⟨h.eq,h.lt,P,zero++R.drop size,a,?_,xb ..⟩,(Fr.refl H).set (W:=On b) (.inl rfl) _⟩
 .rw [he];simp only[Op.aJ,arg,kX,zx,zw,qm,ei,ug (z:=((xs.length+1:Nat):Int)) (k:=xs.length+1) rfl (show xs.length+1<=i+xs.length+(r+1)-i by omega) kk,ug (z:=(xs.length:Int)) (k:=xs.length) rfl (show xs.length<=xs.length+1 by omega) kk,q,kr (show xs.length+1<=i+xs.length+(r+1)-i by omega),kr (show i<=i+xs.length+(r+1)by omega),jb,xg]
 .rw [show xs.length+1-xs.length=1 by omega];have j:KI 0 1=true:=rfl;have f:KI (i+xs.length+0) (i+xs.length+(r+1))=true:=CW (by omega);have u:(i+xs.length)*size+0*size=(P++xs.flatMap enc).length:=by grind
  have A:R.length=r*size+size:=by grind
  have F:(P++(xs.flatMap enc++R)).take ((i+xs.length)*size+0*size)++fp 1 zero++(P++(xs.flatMap enc++R)).drop ((i+xs.length)*size+0*size+(fp 1 zero).length)=P++(xs.flatMap enc++(zero++R.drop size)):=by
   have hr:fp 1 zero=zero:=by simp[fp,wx]
   rw[u,<-yo P,BK,vp,hr,s,jd (by omega),jh,show(P++xs.flatMap enc).length+size-(P++xs.flatMap enc).length=size by omega]
   grind
  have hr:fp 1 zero=zero:=by simp[fp,wx]
  have B:dS (0,0) ((i+xs.length)*size+0*size) (cF (fp 1 zero))=true:=by simp[dS]
  have o:H.store b ((i+xs.length)*size+0*size) (fp 1 zero)=B1 (H.set b (.grown (i+xs.length+(r+1)) size (P++(xs.flatMap enc++(zero++R.drop size))) e (0,0))):=by
   have y:aP (fp 1 zero)=true:=by grind
   simp only[ar.store,y,xg,d,B,Ct]
   grind
  have g:FW 1 0=false:=rfl;have p:zero.length=size:=s;simp only[Op.bW,eL,qm,g,ze,p,elemAt,j,q,f,jb,xg,o]
 grind
def oA.del(h:oA enc e size H v xs b i alt r)(hs:∀x,(enc x).length=size)(J:∀x,aP (enc x)=B4)(u:0<size){n:Nat}(hn:n<xs.length){zero:List AV}(K:zero.length=size)(p:aP zero=B4)(bytes:Nat) :
 ∃v0 v1 v2 c H1 v4 d,Op.aJ size [B1 0,B1 1,B1 2] [v,.int .i64 (n:Int),.int .i64 ((n+1:Nat):Int),.int .i64 (xs.length:Int)]=B1 v0/\Op.aJ size [B5,B1 0,B5] [v,.int .i64 (n:Int)]=B1 v1/\Op.aJ size [B1 0,B5,B5] [v,.int .i64 ((n+1:Nat):Int)]=B1 v2 /\
  Op.append e size bytes [v1,v2] H=B1 (c,H1)/\Op.dg [c]=B1 (.int .i64 ((xs.length-1:Nat):Int))/\Op.aJ size [B1 0,B1 1,B5] [c,.int .i64 ((xs.length-1:Nat):Int),.int .i64 (xs.length:Int)]=B1 v4/\Op.bW zero [v4] H1=B1 (.tuple [],d) /\
  oA enc e size d c (xs.eraseIdx n) b i alt (r+1)/\Fr (On b) H d:=by
 obtain⟨v1,y,D⟩:=h.upto hs (k:=n) (by omega) .i64;obtain⟨v2,t,A,E,-⟩:=h.off hs (k:=n+1) (by omega) .i64;have s2:=E.sl hs;have f:∀l:List α,aP (l.flatMap enc)=true:=λ l=>by
  rw[ym,List.all_flatMap,EZ];intro x _;have:=J x;rw[ym]at this;exact this
 obtain⟨c,H1,B,j,G⟩:=D.Ar hs u (ys:=xs.drop (n+1)) (x:=v2) (k:=(xs.drop (n+1)).length) (by rw[HQ];omega) rfl rfl (Sl.eL s2) (Sl.first s2) (f _) bytes;have a:r+(xs.length-n)-(xs.drop (n+1)).length=r+1:=by rw[HQ];omega
 rw[a,<-List.eraseIdx_eq_take_drop_succ]at j;have hlen:(xs.eraseIdx n).length=xs.length-1:=by rw[List.length_eraseIdx,qv hn]
 obtain⟨v4,d,g,C,b5,I⟩:=j.TW hs u K p .i64;have s:=(j.sl hs).len;rw[hlen]at g s;rw[show xs.length-1+1=xs.length by omega]at g;obtain⟨v0,a0⟩:∃v0,Op.aJ size [B1 0,B1 1,B1 2] [v,.int .i64 (n:Int),.int .i64 ((n+1:Nat):Int),.int .i64 (xs.length:Int)]=B1 v0:=by
  have F:∀n,FW n n=true:=λ n=>by simp
  have o:FW xs.length n=false:=by grind [je]
  rw[h.eq];refine⟨.slice b ((i+n)*size) (n+1-n) (xs.length-n),?_⟩;simp only[Op.aJ,arg,kX,zx,zw,qm,ei,ug (z:=(xs.length:Int)) (k:=xs.length) rfl (show xs.length<=i+xs.length+r-i by omega) .i64,ug (z:=((n+1:Nat):Int)) (k:=n+1) rfl (show n+1<=xs.length by omega) .i64,ug (z:=(n:Int)) (k:=n) rfl (show n<=n+1 by omega) .i64,F,o,kr (show i<=i+xs.length+r by omega),jb,xg,ze]
 exact⟨v0,v1,v2,c,H1,v4,d,a0,y,A,B,s,g,C,b5,G.trans I λ _ q=>.inl q⟩
end
end Go.Am
namespace Go.Am
structure De where
 ow:Int
 sh:Nat
 un:Mg
 ph:Int
 ask:Nat
 wt:List Mg
def hb(s:Nat)(c:Int):Nat:=s / 2 ^ c.toNat % 2
def pH(s:Nat)(c:Int):Nat:=if hb s c=1 then s else s+2 ^ c.toNat
def bT(s:Nat)(c:Int):Nat:=if hb s c=1 then s-2 ^ c.toNat else s
def tK(s:Nat):List Int:=([0,1,2,3]:List Int).filter λ c=>hb s c == 1
def Fx(s:Nat)(c:Int):hb s c<=1:=by unfold hb;omega
theorem VS(c:Int):hb 0 c=0:=by unfold hb;simp
def four{c:Int}(a:0<=c)(d:c<4):c=0\/c=1\/c=2\/c=3:=by omega
def Mi{s:Nat}(hs:s<16){c d:Int}(a:0<=c)(f:c<4)(d0:0<=d)(d1:d<4):pH s c<16/\hb (pH s c) d=if d=c then 1 else hb s d:=by
 rcases four a f with rfl|rfl|rfl|rfl<;>rcases four d0 d1 with rfl|rfl|rfl|rfl<;>(revert s;decide)
def JB{s:Nat}(hs:s<16){c d:Int}(a:0<=c)(f:c<4)(d0:0<=d)(d1:d<4):bT s c<16/\hb (bT s c) d=if d=c then 0 else hb s d:=by
 rcases four a f with rfl|rfl|rfl|rfl<;>rcases four d0 d1 with rfl|rfl|rfl|rfl<;>(revert s;decide)
def Gw{c d:Int}(a:0<=c)(f:c<4)(d0:0<=d)(d1:d<4):2 ^ c.toNat<16/\hb (2 ^ c.toNat) d=if d=c then 1 else 0:=by
 rcases four a f with rfl|rfl|rfl|rfl<;>rcases four d0 d1 with rfl|rfl|rfl|rfl<;>decide
def ag7{s:Nat}{c:Int}:c∈tK s↔0<=c/\c<4/\hb s c=1:=by
 unfold tK;simp only[List.mem_filter,j8,List.mem_nil_iff,or_false,beq_iff_eq];constructor
 .rintro ⟨a,b⟩;exact⟨by omega,by omega,b⟩
 .rintro ⟨a,b,c⟩;exact⟨by omega,c⟩
namespace De
def own(x:De)(m:Mg):Prop:=∃w∈x.wt,w.core=m.core
instance(x:De)(m:Mg):Decidable (x.own m):=inferInstanceAs (Decidable (∃w∈x.wt,_))
def may(x:De)(m:Mg):Prop :=
 if m.k=1\/m.k=2 then¬(x.ph≠0/\x.ph≠4/\x.un.core=m.core)/\(x.ow≠m.core\/x.ph=2) /\ ¬x.own m
 else if m.k=4 then x.ph=1/\hb x.ask m.core=1
 else if m.k=5 then x.ph=2/\x.ow=m.core
 else if m.k=6 then x.ph=2/\hb x.ask m.core=1
 else if m.k=3 then x.ow=m.core
 else m.k=7/\x.ph=4/\x.un.core=m.core
instance(x:De)(m:Mg):Decidable (x.may m):=by unfold may;infer_instance
def cH(x:De)(w:L8):De×Mg :=
 if x.un.k=1 then({x with ph:=4,ask:=0,sh:=pH x.sh x.un.core},⟨14,x.un.core,x.un.line,w⟩)
 else({x with ph:=4,ask:=0,ow:=x.un.core,sh:=0},⟨15,x.un.core,x.un.line,w⟩)
def begin(x:De)(m:Mg)(w:L8):De×List Mg :=
 if 0<=x.ow then({x with un:=m,ph:=2,ask:=2 ^ x.ow.toNat},[⟨if m.k=2 then 13 else 12,x.ow,m.line,.zero⟩])
 else if m.k=1\/bT x.sh m.core=0 then((cH {x with un:=m,ask:=bT x.sh m.core} w).1,[(cH {x with un:=m,ask:=bT x.sh m.core} w).2])
 else({x with un:=m,ask:=bT x.sh m.core,ph:=1},(tK (bT x.sh m.core)).map λ c=>⟨11,c,m.line,.zero⟩)
def sK(x:De)(w:L8)(q:Prop)[Decidable q](o:List Mg):De×L8×List Mg :=
 if q then((x.cH w).1,w,o ++ [(x.cH w).2])else(x,w,o)
def bh(x:De)(w:L8)(m:Mg):De×L8×List Mg :=
 if¬x.may m then(x,w,[])
 else if m.k=1\/m.k=2 then if x.ph≠0 then({x with wt:=x.wt ++ [{m with d:=.zero}]},w,[])else((x.begin {m with d:=.zero} w).1,w,(x.begin {m with d:=.zero} w).2)
 else if m.k=4 then sK {x with sh:=bT x.sh m.core,ask:=bT x.ask m.core} w (bT x.ask m.core=0) []
 else if m.k=5 then sK {x with ow:=-1,sh:=if x.un.k=1 then pH x.sh m.core else x.sh} m.d True []
 else if m.k=6 then sK {x with ph:=3} w (x.ow<0) []
 else if m.k=3 then sK {x with ow:=-1} m.d (x.ph=3) [⟨16,m.core,m.line,.zero⟩]
 else match x.wt with
  |[]=>({x with ph:=0,un:=⟨0,0,0,.zero⟩},w,[])
  |n::r=>((begin {x with ph:=0,un:=⟨0,0,0,.zero⟩,wt:=r} n w).1,w,(begin {x with ph:=0,un:=⟨0,0,0,.zero⟩,wt:=r} n w).2)
end De
end Go.Am
namespace Go.Am
open Ca
structure Bu where
 m:List L8
 l:List De
 ns:List No
 fl:List Mg
structure XP(x:De)(N l:Int):Prop where
 N4:N<=4
 ow:-1<=x.ow/\x.ow<N
 sb:x.sh<16
 ab:x.ask<16
 tH:∀c,0<=c->c<4->hb x.sh c=1->c<N
 wt:∀w∈x.wt,(w.k=1\/w.k=2)/\0<=w.core/\w.core<N/\w.line=l
def MR(m:Mg)(N l:Int):Prop:=(m.k=1\/m.k=2)/\0<=m.core/\m.core<N/\m.line=l
structure XI(x:De)(N l:Int):Prop extends XP x N l where
 un:x.ph≠0->(x.un.k=1\/x.un.k=2)/\0<=x.un.core/\x.un.core<N/\x.un.line=l
structure OW(o:Mg)(N l:Int):Prop where
 k:11<=o.k/\o.k<=16
 c:0<=o.core/\o.core<N
 l:o.line=l
section
variable{x:De}{m:Mg}{w:L8}{N l:Int}
def Xf(h:XP x N l)(hu:MR x.un N l):XI (x.cH w).1 N l/\OW (x.cH w).2 N l:=by
 have⟨hk,a,g,ul⟩:=hu;have j:=h.N4;unfold De.cH;split
 .refine ⟨⟨⟨h.N4,h.ow,(Mi h.sb a (by omega) (vE 0) (by decide)).1,Nat.zero_lt_succ _,λ c d f q=>?_,h.wt⟩,λ _=>(by grind)⟩,⟨by grind,⟨a,g⟩,ul⟩⟩;have q:hb (pH x.sh x.un.core) c=1:=q;rw[(Mi h.sb a (by omega) d f).2]at q;split at q
  .omega
  .exact h.tH c d f q
 .exact ⟨⟨⟨h.N4,(by grind),Nat.zero_lt_succ _,Nat.zero_lt_succ _,λ c d f q=>(by grind [VS]),h.wt⟩,λ _=>(by grind)⟩,⟨by grind,⟨a,g⟩,ul⟩⟩
def iw(h:XP x N l)(hm:MR m N l):XI (x.begin m w).1 N l /\ ∀o∈(x.begin m w).2,OW o N l:=by
 have⟨hk,g,k,ul⟩:=hm;have j:=h.N4;have ow:=h.ow;have ds:bT x.sh m.core<16:=(JB h.sb g (by omega) (vE 0) (by decide)).1;unfold De.begin;split
 .rename_i q;refine⟨⟨⟨h.N4,h.ow,h.sb,(Gw q (by omega) (vE 0) (by decide)).1,h.tH,h.wt⟩,λ _=>(by grind)⟩,λ o ho=>?_⟩;rw[z4.1 ho];exact⟨by grind,⟨q,h.ow.2⟩,ul⟩
 .split
  .have ⟨a,b⟩:=Xf (x:={x with un:=m,ask:=bT x.sh m.core}) (w:=w) ⟨h.N4,h.ow,h.sb,ds,h.tH,h.wt⟩ (by grind)
   grind
  .refine ⟨⟨⟨h.N4,h.ow,h.sb,ds,h.tH,h.wt⟩,λ _=>(by grind)⟩,λ o ho=>?_⟩;obtain⟨d,c,rfl⟩:=CD.1 ho;have⟨d0,f,c⟩:=ag7.1 c;refine⟨by grind,⟨d0,h.tH d d0 f ?_⟩,ul⟩;rw[(JB h.sb g (by omega) d0 f).2]at c
   grind
def PH{q:Prop}[Decidable q]{r:List Mg}(h:XI x N l)(hu:q->x.ph≠0)(hr:∀o∈r,OW o N l):XI (x.sK w q r).1 N l /\ ∀o∈(x.sK w q r).2.2,OW o N l:=by
 unfold De.sK;split
 .rename_i p;have⟨a,b⟩:=Xf (w:=w) h.toXP (h.un (hu p))
  grind
 grind
def ZL(h:XI x N l)(a:0<=m.core/\m.core<N)(hl:m.line=l):XI (x.bh w m).1 N l /\ ∀o∈(x.bh w m).2.2,OW o N l:=by
 have A:=h.N4;have no:∀o∈([]:List Mg),OW o N l:=λ _ q=>by cases q
 have dl:∀{s:Nat},s<16->bT s m.core<16:=λ hs=>(JB hs a.1 (by omega) (vE 0) (by decide)).1;have y:∀c,0<=c->c<4->hb (bT x.sh m.core) c=1->c<N:=λ c f g q=>by
  rw[(JB h.sb a.1 (by omega) f g).2]at q;split at q
  .cases q
  .exact h.tH c f g q
 unfold De.bh;split
 .grind
 rename_i hm;have hm:x.may m:=vy.1 hm;unfold De.may at hm;split
 .rename_i hk;split
  .exact ⟨⟨⟨h.N4,h.ow,h.sb,h.ab,h.tH,λ v j=>(zr.1 j).elim (h.wt v) λ j=>by grind⟩,h.un⟩,no⟩
  .exact iw (m:={m with d:=.zero}) h.toXP ⟨hk,a.1,a.2,hl⟩
 rename_i z;rw[qn z]at hm;split
 .rename_i p;rw[qv p]at hm;exact PH (x:={x with sh:=bT x.sh m.core,ask:=bT x.ask m.core}) ⟨⟨h.N4,h.ow,dl h.sb,dl h.ab,y,h.wt⟩,h.un⟩ (by grind) no
 rename_i p;rw[qn p]at hm;split
 .rename_i t;rw[qv t]at hm;refine PH (x:={x with ow:=-1,sh:=if x.un.k=1 then pH x.sh m.core else x.sh}) ⟨⟨h.N4,(by grind),?_,h.ab,λ c f g q=>?_,h.wt⟩,h.un⟩ (by grind) no
  .show (if x.un.k=1 then pH x.sh m.core else x.sh)<16;split
   .exact (Mi h.sb a.1 (by omega) (vE 0) (by decide)).1
   .exact h.sb
  .have q:hb (if x.un.k=1 then pH x.sh m.core else x.sh) c=1:=q;split at q
   .rw [(Mi h.sb a.1 (by omega) f g).2]at q;split at q
    .omega
    .exact h.tH c f g q
   .exact h.tH c f g q
 rename_i t;rw[qn t]at hm;split
 .rename_i u;rw[qv u]at hm;exact PH (x:={x with ph:=3}) ⟨⟨h.N4,h.ow,h.sb,h.ab,h.tH,h.wt⟩,λ _=>h.un (by omega)⟩ (by grind) no
 rename_i u;rw[qn u]at hm;split
 .refine PH (x:={x with ow:=-1}) ⟨⟨h.N4,(by grind),h.sb,h.ab,h.tH,h.wt⟩,h.un⟩ (by grind) λ o q=>?_;rw[z4.1 q];exact⟨by grind,a,hl⟩
 split
 .exact ⟨⟨⟨h.N4,h.ow,h.sb,h.ab,h.tH,h.wt⟩,λ q=>(q rfl).elim⟩,no⟩
 .rename_i n r hw;exact iw (x:={x with ph:=0,un:=⟨0,0,0,.zero⟩,wt:=r}) ⟨h.N4,h.ow,h.sb,h.ab,h.tH,λ v j=>h.wt v (by grind)⟩ (h.wt n (by grind))
end
structure MW(m:Mg)(N L:Int):Prop where
 k:1<=m.k/\m.k<=7\/11<=m.k/\m.k<=16
 c:0<=m.core/\m.core<N
 l:0<=m.line/\m.line<L
structure NW(n:No)(c L:Int):Prop where
 ni:n.NI
 core:n.core=c
 lines:n.lines=L
structure Mo(n:No)(r:No×List Mg):Prop where
 core:r.1.core=n.core
 lines:r.1.lines=n.lines
 o:∀m∈r.2,(1<=m.k/\m.k<=7)/\m.core=n.core/\0<=m.line/\m.line<n.lines
theorem Mo.cl{n n2:No}{r:No×List Mg}(h:Mo n2 r)(a:n2.core=n.core)(c:n2.lines=n.lines):Mo n r:=⟨h.core.trans a,h.lines.trans c,λ m q=>by have:=h.o m q;omega⟩
namespace No
section
variable{n:No}
theorem u7{n':No}(h:n'.core=n.core)(a:n'.lines=n.lines):Mo n (n',[]):=⟨h,a,λ _ q=>by cases q⟩
theorem Qb{a:Int}(hm:n.may a):0<=ln a/\ln a<n.lines:=by grind [No.may,ln]
theorem Uu{k l:Int}(hk:k=1\/k=2)(a:0<=l)(c:l<n.lines):Mo n (n.ask k l):=by
 unfold ask;split
 .grind [u7]
 .exact ⟨rfl,rfl,λ m q=>by rw[z4.1 q];exact⟨by show 1<=k/\k<=7;omega,rfl,a,c⟩⟩
def EK(a:Int):Mo n ((n.load a).1,(n.load a).2.2.2.1):=by
 grind [load,Qb,Uu,u7]
def wZ(a y:Int):Mo n ((n.store a y).1,(n.store a y).2.2.1):=by
 grind [store,Qb,u7,Uu]
def HE(a o y:Int):Mo n (n.mL a o y):=by
 grind [mL,Qb,u7,Uu]
def wX:Mo n (n.begin,[]):=by grind [begin,u7]
def vW:Mo n (n.aT,[]):=by grind [aT,u7]
def A8(k:Int):Mo n ((n.abort k).1,[]):=by
 unfold abort
 repeat' split
 all_goals exact u7 rfl rfl
theorem Qy{x:En}(a:x.st≠0->0<=x.line/\x.line<n.lines):Mo n (n.gone x):=by
 unfold gone;split
 .rename_i q;have:=a (by omega);exact⟨rfl,rfl,λ m q=>by grind⟩
 grind [u7]
theorem WT(h:n.NI)(m:Mg)(st:Int):Mo n (n.dp m st):=by
 unfold dp;split
 .rename_i q;refine Mo.cl (Qy λ _=>?_) rfl rfl;rcases Bj (c:=n.c) (line:=m.line) (st:=st) (x:=m.d)with⟨f,-⟩|⟨f,-⟩|⟨f,j,g,o⟩
  .omega
  .omega
  .rw [o]at q⊢;obtain⟨k,a,b,-⟩:=Oz g;have:=h.ci.ok j (by rw[b];exact h.ci.gI m.line a) q.2
   grind
 grind [u7]
def D5(h:n.NI)(m:Mg):Mo n (n.fill m):=by
 unfold fill;generalize(if m.k=15 then(2:Int)else 1)=st;unfold kH;split
 .exact (WT (h.iJ 3) m st).cl rfl rfl
 grind [WT]
def Dh(x:En)(too:Bool):(n.lost x too).core=n.core/\(n.lost x too).lines=n.lines:=by
 unfold lost
 repeat' split
 all_goals exact⟨rfl,rfl⟩
def D8(h:n.NI)(m:Mg):Mo n (n.bh m):=by
 unfold bh;split
 .grind [u7]
 rename_i q;have hl:0<=m.line/\m.line<n.lines:=(by omega)
 have one:∀{n':No}{k:Int}{d:L8},n'.core=n.core->n'.lines=n.lines->1<=k/\k<=7->Mo n (n',[⟨k,n.core,m.line,d⟩]):=λ a c f=>⟨a,c,λ y q=>by grind⟩
 have lc:=λ x too=>(Dh (n:=n) x too)
 split
 .exact one (lc _ _).1 (lc _ _).2 (by decide)
 split
 .split
  .exact one rfl rfl (by decide)
  grind
 split
 .grind [u7]
 split
 .exact one rfl rfl (by decide)
 .have g:=D5 (n:={n with out:=⟨0,0,0,.zero⟩}) ⟨h.ci,h.pl⟩ m;exact⟨g.core,g.lines,λ y q=>(zr.1 q).elim (g.o y) λ q=>by rw[z4.1 q];exact⟨by show(1:Int)<=7/\(7:Int)<=7;decide,rfl,hl⟩⟩
def DJ(h:n.NI)(line:Int):Mo n (n.eQ line):=by
 unfold eQ;split
 .grind [u7]
 split
 .grind [u7]
 .rename_i x k;have⟨j,a,b⟩:=Om k;obtain⟨-,g,f,o,-⟩:=h.ci.aX a;have d:=h.ci.ok j g f;split
  .refine Mo.cl (Qy λ _=>?_) rfl rfl;have hp:(n.iJ 4).c.pos line=B1 j:=(Yd NC PB line).trans a;rw[X7 hp,HM g,NC];exact⟨d.2.1,d.2.2.1⟩
  grind [Mo.cl,Qy,X7]
end
end No
open No
structure BuI(b:Bu)(V:Int->L8):Prop where
 N4:b.ns.length<=4
 ml:b.m.length=b.l.length
 nw:∀(c:Nat)n,b.ns[c]? = B1 n->NW n c b.l.length
 mw:∀m∈b.fl,MW m b.ns.length b.l.length
 xs:∀(i:Nat)x,b.l[i]? = B1 x->XI x b.ns.length i
def Bu.put(b:Bu)(c:Nat)(r:No×List Mg):Bu:={b with ns:=b.ns.set c r.1,fl:=b.fl++r.2}
def HC{b:Bu}{c:Nat}{n:No}(hn:b.ns[c]? = B1 n):b.put c (n,[])=b:=by
 have:b.ns.set c n=b.ns:=by
  apply j0
  grind
 simp_all[Bu.put]
namespace BuI
variable{b:Bu}{V V':Int->L8}
def entry(h:BuI b V){l:Int}(c:0<=l)(f:l<b.l.length):∃x w,b.l[l.toNat]? = B1 x/\b.m[l.toNat]? = B1 w/\XI x b.ns.length l:=by
 have a:l.toNat<b.l.length:=by omega
 have d:l.toNat<b.m.length:=by rw[h.ml];exact a
 have:=h.xs l.toNat _ (xj a);rw[KL c]at this;simp_all
def core(h:BuI b V){c:Int}(d:0<=c)(f:c<b.ns.length):∃n,b.ns[c.toNat]? = B1 n/\NW n c b.l.length:=by
 have a:c.toNat<b.ns.length:=by omega
 have:=h.nw c.toNat _ (xj a)
 grind
def node(h:BuI b V){c:Nat}{n:No}{r:No×List Mg}{f:List Mg}(hn:b.ns[c]? = B1 n)(k:r.1.NI)(p:Mo n r)(s:∀m∈f,m∈b.fl):BuI {b with ns:=b.ns.set c r.1,fl:=f++r.2} V':=by
 have j:=(qo.1 hn).1;have w:=h.nw c n hn;refine⟨by simp only[xw];exact h.N4,h.ml,λ d y g=>?_,λ m hm=>?_,λ i x t=>?_⟩
 .by_cases q:d=c
  .have g:(b.ns.set c r.1)[d]? = B1 y:=g;rw[q,zf j]at g;cases g;subst q;exact⟨k,p.core.trans w.core,p.lines.trans w.lines⟩
  .have g:(b.ns.set c r.1)[d]? = B1 y:=g;rw[zm (pT q)]at g;exact h.nw d y g
 .simp only[xw];rcases zr.1 hm with q|q
  .exact h.mw m (s m q)
  .have ⟨a,e,l0,l1⟩:=p.o m q;exact⟨.inl a,by rw[e,w.core];omega,l0,by rw[<-w.lines];exact l1⟩
 .simp only[xw];exact h.xs i x t
def call(h:BuI b V){c:Nat}{n:No}{r:No×List Mg}(hn:b.ns[c]? = B1 n)(a:r.1.NI)(d:Mo n r):BuI (b.put c r) V':=h.node hn a d λ _ q=>q
end BuI
end Go.Am
