import Derived.Test.YtgjdmncoonceaaaGreatDoorAmEZc
import Derived.Test.YtgjdmncoonceaaaGreatDoorAmEZd
import Derived.Carry
set_option linter.defProp false
set_option linter.unusedVariables false
set_option linter.unusedSimpArgs false
open Bool renaming false→B2,true→B4
open Go renaming DataW→Rd,IntKind→OA,MemPlace→BK,Program→Jg,TypeId→Ku,Value→Kl,World→N7
open Go.DataW renaming TrodAll→Bp,trod→Nn
open Go.Value renaming okWide→Bg
open List renaming range→N2,replicate→I5,take_left→Cw
open Nat renaming beq→I4,ble→Nz,blt→Oz
open Option renaming none→B5,some→B1
namespace Go.Am
open Go.RowKit
abbrev GL:=List (Nat×List AV)
def Good(W:N7)(θ:Th)(n:Nat)(gl:GL):Prop :=
 ∀b l,(b,l)∈gl->b<n /\ ∃pre cs post e fz,W.heap[θ.ct b]? = B1 (.cells (pre++cs++post).toArray e fz)/\pre.length = θ.off b/\bP (Lt n) θ l cs
structure Step(W:N7)(θ:Th)(n:Nat)(gl:GL)(θ':Th)(n':Nat)(gl':GL):Prop where
 le:n<=n'
 ag:Ag (Lt n) θ θ'
 du:Good W θ' n' gl'
 ah:∀b,b<n->(FM gl' .nil).get b=(FM gl .nil).get b
theorem Step.refl{W:N7}{θ:Th}{n:Nat}{a:GL}(h:Good W θ n a):Step W θ n a θ n a:=⟨qm n,Ag.refl _ _,h,λ _ _=>rfl⟩
theorem Step.trans{W:N7}{θ θ' θ'':Th}{n n' e:Nat}{g d c:GL}(a:Step W θ n g θ' n' d)(b:Step W θ' n' d θ'' e c):Step W θ n g θ'' e c :=
 ⟨xx a.le b.le,a.ag.trans b.ag λ x f=>qn f a.le,b.du,λ x f=>by rw[b.ah x (qn f a.le),a.ah x f]⟩
def Step.fr{W:N7}{θ θ':Th}{n n':Nat}{d c:GL}(a:Step W θ n d θ' n' c):Fr Em (sr d n) (sr c n'):=⟨a.le,λ b hb _=>a.ah b hb⟩
def Step.row{W:N7}{θ:Th}{n:Nat}{d:GL}(h:Good W θ n d){k off:Nat}{l:List AV}{pre cs post:List Kl}{e:Ku}{fz:Nat×Nat}(hk:W.heap[k]? = B1 (.cells (pre++cs++post).toArray e fz))(hp:pre.length=off)(j:bP (Lt n) θ l cs) :
 Step W θ n d (θ.add n k off 0) (n+1) ((n,l)::d):=by
 have a:Ag (Lt n) θ (θ.add n k off 0):=θ.hO n k off 0 (IK n);have g:∀b,Lt n b->Lt (n+1) b:=λ b hb=>Oa hb;refine⟨j7 n,a,λ b m hm=>?_,λ b hb=>?_⟩
 .rcases kw.1 hm with hm|hm
  .injection hm with c f;subst c;subst f
   obtain⟨o,p,_⟩:=θ.eT b k off 0;exact⟨zu b,pre,cs,post,e,fz,by grind,by omega,j.up a g⟩
  .obtain ⟨c,pre,cs,post,e,fz,f,q,i⟩:=h b m hm;obtain⟨o,p,_⟩:=a b c;exact⟨Oa c,pre,cs,post,e,fz,by grind,by omega,i.up a g⟩
 .rw [FM,T.aK,qy (by omega)]
section
variable{P:Jg}
def yN(P:Jg)(t:Ku)(R:List AV->Prop):Prop :=
 ∀{H:Type}(enc:Ku×Kl->H)(W:N7)(base:Nat)(sp:Nat->Bool)(held:Bool)(fuel:Nat)(cs:List Kl)(d:Rd H)(ps:List BK),
  Nn enc P W base sp held fuel t cs=B1 (d,ps) -> ∃l,R l /\ ∀θ,cu θ l=cs
def kB(k:OA)(l:List AV):Prop:=∃n,l=[.int k n]/\(Lit.int k n).wf=B4
def tI:List (List AV->Prop)->List AV->Prop
 |[],l=>l=[]
 |R::Rs,l=>∃a b,l=a++b/\R a/\tI Rs b
def J7{t:Ku}{k:OA}(h:P.underlying t=B1 (.int k)):yN P t (kB k):=by
 intro H enc W base sp held fuel cs d c a;cases fuel with
 |zero=>cases a
 |succ f =>
  simp only[Nn,h]at a;split at a<;>first|grind|skip
  all_goals first|(simp_all;done)|skip
  .rename_i b n2 e1 e2;injection e2 with e2;cases e2
   split at a
   .rename_i hw;obtain⟨rfl,hw⟩:=hw;exact⟨_,⟨_,rfl,hw⟩,λ θ=>rfl⟩
   grind
def FP(P:Jg):Nat->List Field->Bool
 |_,[]=>B4
 |k,f::fs=>I4 f.offset k && FP P (k+P.cellsOf f.type) fs
def DE{fs:List Field}:∀{k:Nat},FP P k fs=B4 -> ∀(j:Nat)f,fs[j]? = B1 f->f.offset=k+((fs.take j).map λ f=>P.cellsOf f.type).sum:=by
 induction fs with
 |nil=>grind
 |cons g fs ih =>
  intro k h j f a;simp only[FP,zn,jz]at h;cases j with
  |zero=>grind
  |succ j =>
   grind
end
end Go.Am
namespace Go.Am
open Go.RowKit
theorem Vl{W:N7}{k o n:Nat}{cs:List Kl}(hn:0<n)(h:W.cells? 0 ⟨k,o,B5⟩ n=B1 cs):∃arr e fz,W.heap[k]? = B1 (.cells arr e fz)/\cs=(arr.toList.drop o).take n/\o+n<=arr.size:=by
 unfold N7.cells? at h;rw[xg (xw _)]at h;have hlen:=mapM_some_length h;have a:=λ i(d:i<n)=>mapM_some_get h i i (by grind);obtain⟨f,g⟩:∃c,W.cell? ⟨k,o,B5⟩=B1 c:=by
  grind [Addr.add]
 obtain⟨arr,e,fz,b⟩:∃arr e fz,W.heap[k]? = B1 (.cells arr e fz):=by
  grind [World.cell?]
 refine⟨arr,e,fz,b,?_,?_⟩
 .refine yk λ i=>?_
  by_cases d:i<n
  .have:=a i d;rw[zD,Qt b]at this
   grind
  grind
 .have:=a (n-1) (by omega);rw[zD,Qt b]at this;have hl:n-1<cs.length:=by rw[hlen];simp;omega
  rw[xf hl]at this;have:=(Tp.1 this).1;omega
theorem hY{α:Type}{L:List α}{size:Nat}:∀{cs:List (List α)}{o:Nat},(∀(i:Nat)c,cs[i]? = B1 c->c=(L.drop (o+i*size)).take size/\c.length=size)->cs.flatten=(L.drop o).take (cs.length*size)
 |[],o,_=>by simp
 |c::cs,o,h=>by
  obtain⟨a,e⟩:=h 0 c rfl;rw[AG,Ae]at a;have f:=hY (cs:=cs) (o:=o+size) λ i d b=>by
   have:=h (i+1) d (by simpa using b);rw[show o+size+i*size=o+(i+1)*size from by rw[vm];omega];exact this
  grind [vm,Fy]
section
variable{P:Jg}
def U4(R:List AV->Prop)(size:Nat)(H:ar)(u:AV):Prop:=∃ls:List (List AV),(∀l∈ls,R l/\l.length=size)/\Sl H size u ls.length ls.flatten
def U4.em{R:List AV->Prop}{size:Nat}{H H':ar}{u:AV}(h:U4 R size H u)(f:Fr Em H H'):U4 R size H' u:=by
 obtain⟨ls,a,b⟩:=h;exact⟨ls,a,b.em f⟩
def Step.bare{W:N7}{θ:Th}{n:Nat}{c:GL}(h:Good W θ n c)(k off:Nat):Step W θ n c (θ.add n k off 0) (n+1) c:=by
 have a:Ag (Lt n) θ (θ.add n k off 0):=θ.hO n k off 0 (IK n);have g:∀b,Lt n b->Lt (n+1) b:=λ b hb=>Oa hb;refine⟨j7 n,a,λ b i hm=>?_,λ b hb=>rfl⟩;obtain⟨d,pre,cs,post,e,fz,j,l,f⟩:=h b i hm;obtain⟨m,o,_⟩:=a b d;exact⟨Oa d,pre,cs,post,e,fz,by grind,by omega,f.up a g⟩
end
end Go.Am
namespace Go.Am
open Go.RowKit Go.ChangeShapes Go.WideShapes Go.ChangeAt
section
variable{P:Jg}
def qq{W:N7}{r:Reach}{base:Nat}{t:Ku}{v:Kl}(a:(∃fs,P.underlying t=B1 (.struct fs)) \/ ∃n e,P.underlying t=B1 (.array n e))(h:Bg P W r base t v):∃cs:Array Kl,v=.agg cs:=by
 grind [Bg]
def q3y{W:N7}{r:Reach}{base:Nat}{t e:Ku}{v:Kl}(a:P.underlying t=B1 (.slice e))(h:Bg P W r base t v):v.cells.toList=[v]:=by
 unfold Bg at h;rw[a]at h;cases v with
 |agg cs =>
  simp_all[Cell.okWide,Cell.ok]
 |_=>rfl
def Ze{H:Type}{enc:Ku×Kl->H}{W:N7}{b:Nat}{sp:Nat->Bool}{held:Bool}{t:Ku}{ts:List Ku}{vs:List Kl}{ds:List (Rd H)}{e:List BK}(h:Bp enc P W b sp held (t::ts) vs ds e) :
 ∃v c d a p q fuel,vs=v::c/\ds=d::a/\Nn enc P W b sp held fuel t v.cells.toList=B1 (d,p)/\Bp enc P W b sp held ts c a q:=by
 cases vs with
 |nil=>exact h.elim
 |cons v vs =>
  cases ds with
  |nil=>exact h.elim
  |cons d ds=>obtain⟨p,q,⟨fuel,f⟩,g,_⟩:=h;grind
def EE{H:Type}{enc:Ku×Kl->H}{W:N7}{b:Nat}{sp:Nat->Bool}{held:Bool}{vs:List Kl}{ds:List (Rd H)}{a:List BK}(h:Bp enc P W b sp held [] vs ds a):vs=[]/\ds=[]:=by
 cases vs with
 |cons v vs=>exact h.elim
 |nil =>
  cases ds with
  |cons d ds=>exact h.elim
  |nil=>grind
noncomputable def ak.plain(P:Jg):ak:=⟨bq P,λ _ _ _ _=>B5,λ _=>B2,λ _ _ _ _ _=>rfl⟩
def xjj(u:d8 P){M:ak}(t:M.prog=bq P)(w:rX P 0 M.told)(i:qI M.told){W:N7}{θ:Th}{n:Nat}{d:GL}(h:HR P 0 (Lt n) θ (sr d n) W){f:Nat}{vs:List AV}{args:Array Kl}(x:bP (Lt n) θ vs args.toList){H':ar}
 (v:CALL M f vs (sr d n) (.ret (.bool B4)) H'):Calls P f args W λ e w'=>e=.returned (.bool B4)/\Below W.heap.size W w':=by
 obtain⟨m,hr⟩:=v.Fm;simp only[ak.call,t]at hr;intro cs;obtain⟨_,θ',w',cs',fr,e',k,o,p,q,a,y,r,z,s,l⟩ :=
  qzm u (by grind [xiy]) w i m (Lt n) θ (sr d n) W f vs args B5 H' (.ret (.bool B4)) B5 .normal cs h x rfl hr
   (λ b j A hb=>by have j:n<=b:=j;have hb:b<n:=hb;omega)
 have g:cs'=cs:=s;subst g;cases e' with
 |returned c =>
  have a:VR _ θ' (.bool B4) c:=a;exact⟨.returned c,w',fr,⟨by rw[<-a.now];rfl,r.below (RM _ _)⟩,k,p,XZ q o⟩
 |panicked _=>exact a.elim
 |outgrown=>exact a.elim
theorem xmj(c:d8 P){W:N7}{θ:Th}{n:Nat}{b:GL}(h:HR P 0 (Lt n) θ (sr b n) W){f:Nat}{vs:List AV}{args:Array Kl}(g:bP (Lt n) θ vs args.toList){H':ar}
 (d:CALL (ak.plain P) f vs (sr b n) (.ret (.bool B4)) H'):Calls P f args W λ e w'=>e=.returned (.bool B4)/\Below W.heap.size W w' :=
 xjj c rfl (λ D θ H w f vs args up H' e a kind cs _ _ _ h _=>by cases h) (λ f vs up H e a H' h=>by cases h) h g d
theorem _c{H:Type}{enc:Ku×Kl->H}(hl:laidOutB P=B4){W W':N7}{sp:Nat->Bool}:∀{ts:List Ku}{vs:List Kl}{ds:List (Rd H)}{a:List BK},
 (∀t∈ts,P.readableRec t=B4/\t<P.types.size)->Bp enc P W 0 (λ _=>B4) B4 ts vs ds a->Below W.heap.size W W'->(∀x∈a,x.block<W.heap.size)->(∀x∈a,sp x.block=B4) ->
 Bp enc P W' 0 sp B4 ts vs ds a
 |[],[],[],a,_,h,_,_,_=>h
 |t::ts,v::vs,d::ds,a,ht,⟨p,q,h1,h2,e⟩,hb,hlt,hs=>by
  subst e;exact⟨p,q,WideElems.Trod_stays hl (by grind) (by simp_all) h1 (λ x b=>hb.same (by grind)) (by grind),
   _c hl (by grind) h2 hb (by grind) (by grind),rfl⟩
 |[],_::_,_,_,_,h,_,_,_=>h.elim
 |[],[],_::_,_,_,h,_,_,_=>h.elim
 |_::_,[],_,_,_,h,_,_,_=>h.elim
 |_::_,_::_,[],_,_,h,_,_,_=>h.elim
def xa0{H:Type}{enc:Ku×Kl->H}{f:Nat}{fn:Func}{s:ChangeSpec}{n:Ku}(hl:laidOutB P=B4)(l:∀t∈fn.params.toList,P.readableRec t=B4/\t<P.types.size)(g:s.vars=[])
 (a:∀ds:List (Rd H),ds.length=fn.params.size->s.fn H ds = {results:=[.lit (.bool B4)],args:=ds}) (b:fn.resultTypes = #[n]) (i:P.underlying n=B1 .bool)
 {W:N7} {args:Array Kl} {ds gs:List (Rd H)} {before:List BK} {apart fresh handsOn again:Bool}
 (j:Rd.Whole enc P fn.params.toList s.vars apart W args.toList ds gs before) (c:Calls P f args W λ e w'=>e=.returned (.bool B4)/\Below W.heap.size W w') :
 Calls P f args W λ e W'=>∃v,e=.returned v/\s.post enc P fn apart fresh handsOn again W args v W':=by
 have r:∀p∈before,p.block<W.heap.size:=j.lt;have k:=j;obtain⟨p,q,x,hV,rfl,o,u⟩:=j;rw[g]at hV;obtain⟨rfl,rfl⟩:=trodVars_none hV;have hlen:ds.length=fn.params.size:=by
  have:∀{ts:List Ku}{vs:List Kl}{ds:List (Rd H)}{m:List BK},Bp enc P W 0 (λ _=>B4) B4 ts vs ds m->ds.length=ts.length:=by
   intro ts
   induction ts with
   |nil=>intro vs ds m h;cases vs<;>cases ds<;>first|rfl|exact h.elim
   |cons t ts ih =>
    intro vs ds m h;cases vs with
    |nil=>exact h.elim
    |cons v vs =>
     cases ds with
     |nil=>exact h.elim
     |cons d ds=>obtain⟨p,q,_,w,_⟩:=h;grind
  grind
 refine c.mono λ e W'⟨he,hg⟩=>?_;subst he;refine⟨_,rfl,xa1 (pa:=p) (pv:=[]) k (λ _ _ _=>?_) (λ sp hs=>?_) (λ _ _=>?_) rfl hg ?_⟩
 .rw [b,zq,a ds hlen];exact trodAll_cons_mk (shut_bool i _) trodAll_mk0
 .grind [_c]
 .rw [g,zq,a ds hlen];rfl
 .exact ok_one b rfl (okWide_bool_mk i _)
end
end Go.Am
namespace Go.Am
open Go.RowKit
section
variable{P:Jg}
def VF(P:Jg)(t:Ku)(R:ar->List AV->Prop):Prop :=
 (∀H H' l,R H l->Fr Em H H'->R H' l) /\ ∀{Hh:Type}(enc:Ku×Kl->Hh)(W:N7)(held:Bool)(fuel:Nat)(cs:List Kl)(d:Rd Hh)(ps:List BK),
  Nn enc P W 0 (λ _=>B4) held fuel t cs=B1 (d,ps) -> ∀(θ:Th)(n:Nat)(gl:GL),Good W θ n gl -> ∃θ' n' gl' l,Step W θ n gl θ' n' gl'/\bP (Lt n') θ' l cs/\R (sr gl' n') l
def Jy{t:Ku}{R:List AV->Prop}(h:yN P t R):VF P t λ _ l=>R l :=
 ⟨λ _ _ _ h _=>h,λ enc W held fuel cs d f e θ n a hg=>by
  have⟨l,b,c⟩:=h enc W 0 _ held fuel cs d f e;exact⟨θ,n,a,l,Step.refl hg,λ θ' _=>c θ',b⟩⟩
def It(R:ar->List AV->Prop)(size:Nat)(H:ar)(u:AV):Prop:=∃ls:List (List AV),(∀l∈ls,R H l/\l.length=size)/\Sl H size u ls.length ls.flatten/\(u=.nils\/aG u<H.au)
def It.em{R:ar->List AV->Prop}(hm:∀H H' l,R H l->Fr Em H H'->R H' l){size:Nat}{H H':ar}{u:AV}(h:It R size H u)(f:Fr Em H H'):It R size H' u:=by
 have⟨ls,c,a,b⟩:=h;exact⟨ls,λ l hl=>(by grind),a.em f,b.imp id λ q=>qn q f.au⟩
def tw:Option Nat->Nat
 |none=>0
 |some z=>z+1
theorem af7(s:Option Nat):CM (tw s)=s:=by cases s<;>rfl
def Step.OT{W:N7}{θ:Th}{n:Nat}{c:GL}(h:Good W θ n c)(k off ext:Nat):Step W θ n c (θ.add n k off ext) (n+1) c:=by
 have a:Ag (Lt n) θ (θ.add n k off ext):=θ.hO n k off ext (IK n);have g:∀b,Lt n b->Lt (n+1) b:=λ b hb=>Oa hb;refine⟨j7 n,a,λ b i hm=>?_,λ b hb=>rfl⟩;have⟨d,pre,cs,post,e,fz,j,l,f⟩:=h b i hm;have⟨m,o,_⟩:=a b d;exact⟨Oa d,pre,cs,post,e,fz,by grind,by omega,f.up a g⟩
def qw1{W:N7}{a:Addr}{n:Nat}{cs:List Kl}(hn:0<n)(h:W.cells? 0 a n=B1 cs):a.spot=none:=by
 unfold N7.cells? at h;rw[xg (xw _)]at h;have:=mapM_some_get h 0 0 (by grind);have hl:0<cs.length:=by rw[mapM_some_length h];simpa using hn
 grind [N7.cell?_spot,Addr.add]
end
end Go.Am
namespace Go.Am
open Go.RowKit
section
variable{P:Jg}
def xi3{t e:Ku}{n:Nat}{R:List AV->Prop}(h:P.underlying t=B1 (.array n e))(hR:yN P e R)(s:n*P.cellsOf e=P.cellsOf t):yN P t (tI (I5 n R)):=by
 intro H enc W base sp held fuel cs d v o;cases fuel with
 |zero=>cases o
 |succ f =>
  have hlen:cs.length=P.cellsOf t /\ ∃xs,(N2 n).mapM (λ i=>Nn enc P W base sp held f e ((cs.drop (i*P.cellsOf e)).take (P.cellsOf e)))=B1 xs:=by
   simp only[Nn,h]at o
   grind [xr]
  obtain⟨hl,xs,hm⟩:=hlen;have j:∀i,i<n -> ∃x,Nn enc P W base sp held f e ((cs.drop (i*P.cellsOf e)).take (P.cellsOf e))=B1 x:=λ i u=>by
   have hl:=mapM_some_length hm;have:=mapM_some_get hm i i (by grind)
   grind
  have key:∀(m k:Nat),k+m=n -> ∃l,tI (I5 m R) l /\ ∀θ,cu θ l=cs.drop (k*P.cellsOf e):=by
   intro m
   induction m with
   |zero =>
    intro k hk;refine⟨[],rfl,λ θ=>?_⟩;simp_all[cu]
   |succ m ih =>
    intro k hk;obtain⟨x,p⟩:=j k (by omega);obtain⟨a,ha,c⟩:=hR enc W base sp held f _ x.1 x.2 p;obtain⟨b,hb,g⟩:=ih (k+1) (by omega);refine⟨a++b,⟨a,b,rfl,ha,hb⟩,λ θ=>?_⟩;rw[vP,Jb,<-vP,<-vP,c,g,vm,<-Fy,yu]
  obtain⟨l,q,r⟩:=key n 0 (by omega)
  grind
def Uh{α:Type}{enc:α->List AV}{R:ar->List AV->Prop}{Q:α->Prop}{size:Nat}{H:ar}{u:AV}(hR:∀l,R H l -> ∃x,l=enc x/\Q x)(h:It R size H u):∃xs:List α,bN enc size H u xs /\ ∀x∈xs,Q x:=by
 obtain⟨ls,b,e,_⟩:=h;have:∀ls:List (List AV),(∀l∈ls,R H l) -> ∃xs:List α,ls=xs.map enc /\ ∀x∈xs,Q x:=by
  intro ls
  induction ls with
  |nil=>simp_all
  |cons l ls ih =>
   intro h;obtain⟨xs,d,a⟩:=ih λ l hl=>h l (by simp[hl]);obtain⟨x,g,i⟩:=hR l (h l (by simp));refine⟨x::xs,by grind,λ c f=>?_⟩
   grind
 obtain⟨xs,d,a⟩:=this ls λ l hl=>(b l hl).1;refine⟨xs,?_,a⟩
 grind [bN]
end
end Go.Am
namespace Go.Am
variable{P:Jg}
end Go.Am
namespace Go.Am
open Go.RowKit
variable{P:Jg}
def Jz{tp:Ku}{w:N7}{laid:List (String×Rd Unit)}(hn:wT laid=B4)(h:laidMet P laid w) :
 ∃θ:Th,(∀g,g<P.globals.size -> θ.ct g=g /\ θ.off g=0)/\Good w θ (P.globals.size+laid.length) (rowsOf P tp P.globals.size laid):=ur h (λ x a=>⟨default,λ g t s b c d=>by
  have:=Ic.1 hn x a
  grind⟩)
def xi5{W:N7}{θL θ:Th}{n0 n:Nat}{Of b:GL}(hn:P.globals.size<=n0)(hg:∀g,g<P.globals.size -> θL.ct g=g /\ θL.off g=0)(h:Step W θL n0 Of θ n b):HR P 0 (Lt n) θ (sr b n) W :=
 HR.EF (xw _) (xx hn h.le) (λ g a=>by obtain⟨c,d,_⟩:=h.ag g (qn a hn);grind) h.du
def MC(L:List rq):List Nat:=L.map λ e=>e.f
def q8m{a:List (Nat×List AV)}{H:ar}{f:Nat}{vs:List AV}:∀{L:List rq},bK f (MC L)=B2->zE a H f vs L=B5
 |[],_=>rfl
 |e::L,h=>by
  have h:cond (I4 e.f f) B4 (bK f (MC L))=false:=h;cases hb:I4 e.f f with
  |true=>grind
  |false =>
   rw[hb]at h;have:I4 f e.f=false:=by
    grind [Ln]
   simp only[zE,this,Bool.false_and,zo];exact q8m h
noncomputable def ak.tell(P:Jg)(gl:List (Nat×List AV))(L:List rq):ak:=⟨bq P,LP gl L,λ f=>bK f (MC L),λ f vs up H h=>by
 cases up with
 |none=>exact q8m h
 |some _=>rfl⟩
def xmk(c:d8 P){W:N7}{θ:Th}{n:Nat}{a:GL}(h:HR P 0 (Lt n) θ (sr a n) W){f:Nat}{vs:List AV}{args:Array Kl}(d:bP (Lt n) θ vs args.toList)
 (b:zb (ak.plain P) f vs (sr a n) λ v _=>v=.bool B4):Calls P f args W λ e w'=>e=.returned (.bool B4)/\Below W.heap.size W w':=by
 obtain⟨v,H',b,rfl⟩:=b.elim
 grind [xmj]
end Go.Am
namespace Go.Am
structure L8 where
 l:List Int
 h:l.length=8
namespace L8
def eq{a b:L8}(h:a.l=b.l):a=b:=by cases a;simp_all
instance:DecidableEq L8:=λ a b=>if h:a.l=b.l then isTrue (L8.eq h)else isFalse λ q=>h (by rw[q])
def zero:L8:=⟨[0,0,0,0,0,0,0,0],rfl⟩
def put(x:L8)(i:Nat)(y:Int):L8:=⟨x.l.set i y,by rw[zg];exact x.h⟩
def get(x:L8)(i:Nat):Int:=x.l[i]?.getD 0
end L8
structure En where
 line:Int
 st:Int
 r:Bool
 w:Bool
 d:L8
 o:L8
 u:Int
def En.zero:En:=⟨0,0,B2,B2,.zero,.zero,0⟩
def dI(p:Nat->Bool):Nat->Option Nat
 |0=>B5
 |n+1=>match dI p n with
  |some i=>B1 i
  |none=>if p n then B1 n else B5
theorem M9{p:Nat->Bool}:∀{n:Nat},(∀j,j<n->p j=B2)->dI p n=B5
 |0,_=>rfl
 |n+1,h=>by rw[dI,M9 λ j a=>(by grind),h n (by omega)];rfl
def NF{p:Nat->Bool}{i:Nat}:∀{n:Nat},i<n->p i=B4->(∀j,j<i->p j=B2)->dI p n=B1 i
 |0,h,_,_=>by omega
 |n+1,h,hp,hl=>by
  rw[dI];rcases xz i n with q|q
  .rw [NF q hp hl]
  grind [M9]
def KC{p:Nat->Bool}{i:Nat}:∀{n:Nat},dI p n=B1 i->i<n/\p i=B4 /\ ∀j,j<i->p j=B2
 |0,h=>by cases h
 |n+1,h=>by
  rw[dI]at h;cases d:dI p n with
  |some k =>
   rw[d]at h;injection h with h;subst h
   obtain⟨a,b,c⟩:=KC d
   grind
  |none =>
   rw[d]at h;simp only at h;split at h
   .rename_i hp;injection h with h;subst h
    refine⟨by omega,hp,λ j e=>?_⟩;cases f:p j with
    |false=>rfl
    |true =>
     exfalso;exact firstN_not (n:=n) d j e f
   grind
where
 firstN_not {p:Nat->Bool}:∀{n:Nat},dI p n=B5 -> ∀j,j<n->p j=B4->False
 |0,_,j,hj,_=>by omega
 |n+1,h,j,hj,hp=>by
  rw[dI]at h;cases hf:dI p n with
  |some k=>grind
  |none =>
   rw[hf]at h;simp only at h;split at h
   .cases h
   .rename_i hq;rcases xz j n with q|q
    .exact firstN_not hf j q hp
    grind
theorem C'{p:Nat->Bool}{n:Nat}(h:dI p n=B5):∀j,j<n->p j=false:=λ j a=>by
 grind [KC.firstN_not]
structure Ca where
 fM:Nat
 ways:Nat
 sl:List En
 us:Int
namespace Ca
def fr(c:Ca)(line:Int):Nat:=(line.toNat % c.fM)*c.ways
def en(c:Ca)(i:Nat):En:=c.sl[i]?.getD .zero
def nj(c:Ca)(line:Int)(i:Nat):Bool:=(c.en (c.fr line+i)).st != 0 && (c.en (c.fr line+i)).line == line
def pos(c:Ca)(line:Int):Option Nat:=if line<0 then B5 else(dI (c.nj line) c.ways).map (c.fr line + ·)
def set(c:Ca)(i:Nat)(e:En):Ca:={c with sl:=c.sl.set i e}
def find(c:Ca)(line:Int):Option En:=(c.pos line).map c.en
def use(c:Ca)(i:Nat):Ca:={c with us:=c.us+1,sl:=c.sl.set i {c.en i with u:=c.us+1}}
def word(c:Ca)(a:Nat):Ca×Option Int:=match c.pos ((a / 8:Nat):Int)with
 |none=>(c,B5)
 |some i=>(c.use i,B1 ((c.en i).d.get (a % 8)))
def lW(c:Ca)(line st:Int):Option Nat:=match c.pos line with
 |none=>B5
 |some i=>if st≠0/\(c.en i).st≠st then B5 else B1 i
def put(c:Ca)(a:Nat)(y:Int):Ca:=match c.lW ((a / 8:Nat):Int) 2 with
 |none=>c
 |some i=>{c with us:=c.us+1,sl:=c.sl.set i {c.en i with u:=c.us+1,d:=(c.en i).d.put (a % 8) y}}
def mark(c:Ca)(line:Int)(wr:Bool):Ca:=if wr then
 match c.lW line 2 with
 |none=>c
 |some i=>if(c.en i).w then c else c.set i {c.en i with w:=B4,o:=(c.en i).d}
 else match c.lW line 0 with
  |none=>c
  |some i=>c.set i {c.en i with r:=B4}
def dc(c:Ca)(line:Int):Ca×L8:=match c.lW line 2 with
 |none=>(c,.zero)
 |some i=>(c.set i {c.en i with st:=1},(c.en i).d)
def db(c:Ca)(line:Int)(d:L8):Ca:=match c.lW line 1 with
 |none=>c
 |some i=>c.set i {c.en i with st:=2,d:=d}
def drop(c:Ca)(line:Int):Ca×En:=match c.lW line 0 with
 |none=>(c,.zero)
 |some i=>(c.set i .zero,c.en i)
def rA(e:En):En:=if e.st=0 then e else{e with r:=B2,w:=B2,o:=.zero}
def back(e:En):En:=if e.st=0 then e else{e with r:=B2,w:=B2,o:=.zero,d:=if e.w then e.o else e.d}
def bt(c:Ca):Ca:={c with sl:=c.sl.map rA}
def discard(c:Ca):Ca:={c with sl:=c.sl.map back}
def iO(c:Ca)(line:Int):Nat->Option Nat
 |0=>B5
 |n+1=>if(c.en (c.fr line+n)).r ||(c.en (c.fr line+n)).w then c.iO line n else match c.iO line n with
  |none=>B1 n
  |some j=>if(c.en (c.fr line+n)).u<(c.en (c.fr line+j)).u then B1 n else B1 j
def free(c:Ca)(line:Int)(i:Nat):Bool:=(c.en (c.fr line+i)).st == 0
def room(c:Ca)(line:Int):Option Nat:=match dI (c.free line) c.ways with
 |some i=>B1 (c.fr line+i)
 |none=>(c.iO line c.ways).map (c.fr line + ·)
def fill(c:Ca)(line st:Int)(d:L8):Ca×En×Int :=
 match c.pos line with
 |some _=>(c,.zero,21)
 |none=>match c.room line with
  |none=>(c,.zero,22)
  |some i=>({c with us:=c.us+1,sl:=c.sl.set i ⟨line,st,B2,B2,d,.zero,c.us+1⟩},c.en i,0)
end Ca
end Go.Am
namespace Go.Am
structure Mg where
 k:Int
 core:Int
 line:Int
 d:L8
 deriving DecidableEq
structure No where
 core:Int
 lines:Int
 c:Ca
 out:Mg
 aS:List Int
 live:Bool
 code:Int
namespace No
def may(n:No)(a:Int):Prop:=0<=a/\a<n.lines*8
instance(n:No)(a:Int):Decidable (n.may a):=inferInstanceAs (Decidable (_/\_))
def msg(n:No)(k line:Int):Mg:=⟨k,n.core,line,.zero⟩
def ask(n:No)(k line:Int):No×List Mg:=if n.out.k≠0\/line∈n.aS then(n,[])else({n with out:=n.msg k line},[n.msg k line])
def ln(a:Int):Int:=((a.toNat / 8:Nat):Int)
def load(n:No)(a:Int):No×Int×Bool×List Mg×Int :=
 if n.may a then match n.c.find (ln a)with
  |none=>((n.ask 1 (ln a)).1,0,B2,(n.ask 1 (ln a)).2,0)
  |some _=>({n with c:=((if n.live then n.c.mark (ln a) B2 else n.c).word a.toNat).1},((if n.live then n.c.mark (ln a) B2 else n.c).word a.toNat).2.getD 0,B4,[],0)
 else(n,0,B2,[],2)
def owned(n:No)(line:Int):Bool:=match n.c.find line with
 |none=>B2
 |some x=>x.st == 2
def store(n:No)(a y:Int):No×Bool×List Mg×Int :=
 if n.may a then if n.owned (ln a)then({n with c:=(if n.live then n.c.mark (ln a) B4 else n.c).put a.toNat y},B4,[],0)
  else((n.ask 2 (ln a)).1,B2,(n.ask 2 (ln a)).2,0)
 else(n,B2,[],2)
def nq(n:No)(a old y:Int):No×List Mg :=
 if n.may a then if n.live then(n,[])else if n.owned (ln a)then
  ({n with c:=if(n.c.word a.toNat).2.getD 0=old then(n.c.word a.toNat).1.put a.toNat y else(n.c.word a.toNat).1},[])
  else n.ask 2 (ln a)
 else(n,[])
def begin(n:No):No:=if n.live then n else{n with live:=B4,code:=0}
def bt(n:No):No:=if n.live then{n with c:=n.c.bt,live:=B2}else n
def iN(n:No)(code:Int):No:={n with c:=n.c.discard,live:=B2,code:=code}
def abort(n:No)(code:Int):No×Int:=if n.live then if code<1\/7<code then(n,2)else(n.iN code,0)else(n,40)
def lost(n:No)(x:En)(too:Bool):No:=if x.w ||(x.r && too)then if x.line=0 then n.iN 2 else n.iN 1 else n
def jQ(n:No)(m:Mg)(x:En):Prop :=
 m.k=11/\x.st≠2\/(m.k=12\/m.k=13)/\x.st≠1\/m.k=14/\n.out=n.msg 1 m.line\/m.k=15/\n.out=n.msg 2 m.line\/m.k=16/\m.line∈n.aS
instance(n:No)(m:Mg)(x:En):Decidable (n.jQ m x):=inferInstanceAs (Decidable (_\/_))
def gone(n:No)(x:En):No×List Mg:=if x.st=2 then({n with aS:=n.aS ++ [x.line]},[⟨3,n.core,x.line,x.d⟩])else(n,[])
def dZ(n:No)(m:Mg)(st:Int):No×List Mg :=
 if(n.c.fill m.line st m.d).2.2=0/\(n.c.fill m.line st m.d).2.1.st≠0 then gone {n with c:=(n.c.fill m.line st m.d).1} (n.c.fill m.line st m.d).2.1
 else({n with c:=(n.c.fill m.line st m.d).1},[])
def mH(n:No)(m:Mg)(st:Int):No×List Mg:=if(n.c.fill m.line st m.d).2.2=22 then(n.iN 3).dZ m st else n.dZ m st
def fill(n:No)(m:Mg):No×List Mg:=n.mH m (if m.k=15 then 2 else 1)
end No
end Go.Am
namespace Go.Am
namespace Ca
structure CI(lines:Int)(c:Ca):Prop where
 len:c.sl.length=c.fM*c.ways
 s0:0<c.fM
 w0:0<c.ways
 ok:∀i,i<c.sl.length->(c.en i).st≠0->((c.en i).st=1\/(c.en i).st=2)/\0<=(c.en i).line/\(c.en i).line<lines/\i / c.ways=(c.en i).line.toNat % c.fM/\((c.en i).w=B4->(c.en i).st=2)
 uq:∀i j,i<c.sl.length->j<c.sl.length->(c.en i).st≠0->(c.en j).st≠0->(c.en i).line=(c.en j).line->i=j
def FD{c:Ca}{i:Nat}(h:i<c.sl.length):c.sl[i]? = B1 (c.en i):=by
 grind [en]
def D8{c:Ca}{i j:Nat}{e:En}(h:i<c.sl.length):(c.set i e).en j=if i=j then e else c.en j:=by
 unfold en set
 grind
def UT{c:Ca}{i:Nat}(h:c.sl.length<=i):c.en i=.zero:=by
 grind [en]
section
variable{lines:Int}{c:Ca}
def CI.mO(h:CI lines c)(line:Int){k:Nat}(hk:k<c.ways):c.fr line+k<c.sl.length:=by
 have a:line.toNat % c.fM<c.fM:=Nat.mod_lt _ h.s0;have b:(line.toNat % c.fM+1)*c.ways<=c.fM*c.ways:=j9 _ a;rw[wg,Nat.one_mul]at b;unfold fr;rw[h.len];omega
def CI.Ki(h:CI lines c)(line:Int){k:Nat}(hk:k<c.ways):(c.fr line+k) / c.ways=line.toNat % c.fM:=by
 unfold fr;rw[Nat.add_comm,Nat.add_mul_div_right _ _ h.w0,Nat.div_eq_of_lt hk,ya]
def CI.bD(h:CI lines c){line:Int}{i:Nat}(hp:c.pos line=B1 i):0<=line/\i<c.sl.length/\(c.en i).st≠0/\(c.en i).line=line /\ ∃k,k<c.ways/\i=c.fr line+k/\dI (c.nj line) c.ways=B1 k:=by
 unfold pos at hp;split at hp
 .cases hp
 .rename_i hl;rw[xr]at hp;obtain⟨k,hk,rfl⟩:=hp;obtain⟨a,b,-⟩:=KC hk;unfold nj at b;simp only[zn,bne_iff_ne,ne_eq,beq_iff_eq]at b;exact⟨by omega,h.mO line a,b.1,b.2,k,a,rfl,hk⟩
def CI.L3(h:CI lines c){i:Nat}(e:i<c.sl.length)(f:(c.en i).st≠0):c.pos (c.en i).line=B1 i:=by
 obtain⟨-,a,-,b,-⟩:=h.ok i e f;have hk:i % c.ways<c.ways:=Nat.mod_lt _ h.w0;have g:c.fr (c.en i).line+i % c.ways=i:=by
  unfold fr;grind [Nat.div_add_mod']
 unfold pos;rw[qy (by omega),NF (i:=i % c.ways) hk]
 .grind
 .unfold nj
  grind
 .intro j k;cases d:c.nj (c.en i).line j with
  |false=>rfl
  |true =>
   unfold nj at d;simp only[zn,bne_iff_ne,ne_eq,beq_iff_eq]at d;have:=h.uq _ _ (by omega) e d.1 f d.2;omega
def CI.Cj(h:CI lines c){line:Int}(hp:c.pos line=B5):∀i,i<c.sl.length->(c.en i).st≠0->(c.en i).line≠line:=λ i a b q=>by
 have:=h.L3 a b
 grind
def CI.Fo(h:CI lines c){i:Nat}(m:i<c.sl.length){e:En}(p:(c.en i).st≠0)(hl:e.line=(c.en i).line)(hs:e.st=1\/e.st=2)(hw:e.w=B4->e.st=2):CI lines (c.set i e):=by
 have hlen:(c.set i e).sl.length=c.sl.length:=by show(c.sl.set i e).length=_;grind
 have r:e.st≠0:=by omega
 obtain⟨-,a,b,d,-⟩:=h.ok i m p;refine⟨by rw[hlen];exact h.len,h.s0,h.w0,λ j n f=>?_,λ j k n hk f g q=>?_⟩
 .rw [hlen]at n;rw[D8 m]at f⊢
  by_cases q:i=j
  .subst q;rw[xg rfl,hl];exact⟨hs,a,b,d,hw⟩
  .rw [qy q]at f⊢;exact h.ok j n f
 .rw [hlen]at n hk;rw[D8 m]at f q;rw[D8 m]at g q
  by_cases o:i=j
  .by_cases l:i=k
   .omega
   .rw [xg o,qy l,hl]at q;rw[qy l]at g;rw[<-o];exact h.uq i k m hk p g q
  .by_cases l:i=k
   .rw [qy o,xg l,hl]at q;rw[qy o]at f;rw[<-l];exact h.uq j i n m f p q
   .rw [qy o,qy l]at q;rw[qy o]at f;rw[qy l]at g;exact h.uq j k n hk f g q
def CI.off(h:CI lines c){i:Nat}(f:i<c.sl.length):CI lines (c.set i .zero):=by
 have hlen:(c.set i .zero).sl.length=c.sl.length:=by show(c.sl.set i .zero).length=_;grind
 have e:∀j,((c.set i .zero).en j).st≠0->i≠j/\(c.set i .zero).en j=c.en j:=λ j b=>by
  rw[D8 f]at b⊢
  by_cases q:i=j
  .rw [xg q]at b;exact absurd rfl b
  grind
 refine⟨by rw[hlen];exact h.len,h.s0,h.w0,λ j b a=>?_,λ j k b hk a d q=>?_⟩
 .rw [hlen]at b;have:=(e j a).2;rw[this]at a⊢;exact h.ok j b a
 .rw [hlen]at b hk;have e1:=(e j a).2;have e2:=(e k d).2;rw[e1]at a q;rw[e2]at d q;exact h.uq j k b hk a d q
def CI.Mq(h:CI lines c){i k:Nat}{line:Int}{e:En}(hk:k<c.ways)(g:i=c.fr line+k)(hn:c.pos line=B5)(hl:e.line=line)(o:0<=line)(p:line<lines)(hs:e.st=1\/e.st=2)(hw:e.w=B2):CI lines (c.set i e):=by
 have b:i<c.sl.length:=by rw[g];exact h.mO line hk
 have hlen:(c.set i e).sl.length=c.sl.length:=by show(c.sl.set i e).length=_;grind
 have r:=h.Cj hn;refine⟨by rw[hlen];exact h.len,h.s0,h.w0,λ j f a=>?_,λ j m f hm a d q=>?_⟩
 .rw [hlen]at f;rw[D8 b]at a⊢
  by_cases q:i=j
  .rw [xg q,hl];exact⟨hs,o,p,by rw[<-q,g];exact h.Ki line hk,λ q=>by grind⟩
  .rw [qy q]at a⊢;exact h.ok j f a
 .rw [hlen]at f hm;rw[D8 b]at a q;rw[D8 b]at d q
  by_cases l:i=j
  .grind
  .by_cases n:i=m
   .grind
   .rw [qy l,qy n]at q;rw[qy l]at a;rw[qy n]at d;exact h.uq j m f hm a d q
theorem CI.map(h:CI lines c){g:En->En}(hl:∀e,(g e).line=e.line)(hs:∀e,(g e).st=e.st)(hw:∀e,e.st≠0->(g e).w=B4->e.w=B4)(us:Int):CI lines {c with sl:=c.sl.map g,us:=us}:=by
 have hlen:(c.sl.map g).length=c.sl.length:=xu _;have he:∀j,j<c.sl.length->Ca.en {c with sl:=c.sl.map g,us:=us} j=g (c.en j):=λ j l=>by
  unfold en;grind
 refine⟨by show(c.sl.map g).length=_;rw[hlen];exact h.len,h.s0,h.w0,λ j l i=>?_,λ j k l hk i m q=>?_⟩
 .have l:j<c.sl.length:=by grind
  rw[he j l]at i⊢;rw[hs]at i;obtain⟨a,b,d,e,f⟩:=h.ok j l i
  grind
 .have l:j<c.sl.length:=by grind
  have hk:k<c.sl.length:=by grind
  rw[he j l]at i q;rw[he k hk]at m q;rw[hs]at i m;rw[hl,hl]at q;exact h.uq j k l hk i m q
def CI.us(h:CI lines c)(u:Int):CI lines {c with us:=u}:=⟨h.len,h.s0,h.w0,h.ok,h.uq⟩
end
end Ca
end Go.Am
namespace Go.Am
namespace No
def bT(n:No)(m:Mg):No×List Mg :=
 if m.core≠n.core\/m.line<0\/n.lines<=m.line \/ ¬n.jQ m ((n.c.find m.line).getD .zero)then(n,[])
 else if m.k=11 then({n.lost ((n.c.find m.line).getD .zero) B4 with c:=((n.lost ((n.c.find m.line).getD .zero) B4).c.drop m.line).1},[n.msg 4 m.line])
 else if m.k=12\/m.k=13 then match n.c.find m.line with
  |none=>(n,[n.msg 6 m.line])
  |some x =>
   if m.k=12 then({n.lost x B2 with c:=((n.lost x B2).c.dc m.line).1},[⟨5,n.core,m.line,((n.lost x B2).c.dc m.line).2⟩])
   else({n.lost x B4 with c:=((n.lost x B4).c.drop m.line).1},[⟨5,n.core,m.line,((n.lost x B4).c.drop m.line).2.d⟩])
 else if m.k=16 then({n with aS:=n.aS.filter (· ≠m.line)},[])
 else match n.c.find m.line with
  |some _=>({n with out:=⟨0,0,0,.zero⟩,c:=n.c.db m.line m.d},[n.msg 7 m.line])
  |none=>((fill {n with out:=⟨0,0,0,.zero⟩} m).1,(fill {n with out:=⟨0,0,0,.zero⟩} m).2 ++ [n.msg 7 m.line])
def da(n:No)(line:Int):No×List Mg :=
 if line<0\/n.lines<=line then(n,[])else match n.c.find line with
  |none=>(n,[])
  |some x =>
   gone {(if x.r ||x.w then n.iN 4 else n)with c:=((if x.r ||x.w then n.iN 4 else n).c.drop line).1} ((if x.r ||x.w then n.iN 4 else n).c.drop line).2
end No
structure Sp where
 k:Int
 n:Int
 v:Int
 o:Int
 m:Mg
def No.KA(n:No)(x:Sp):No×List Mg :=
 if x.k=0 then((n.load x.n).1,(n.load x.n).2.2.2.1)
 else if x.k=1 then((n.store x.n x.v).1,(n.store x.n x.v).2.2.1)
 else if x.k=2 then n.nq x.n x.o x.v
 else if x.k=3 then(n.begin,[])
 else if x.k=4 then(n.bt,[])
 else if x.k=5 then((n.abort x.n).1,[])
 else if x.k=6 then n.bT x.m
 else if x.k=7 then n.da x.n
 else(n,[])
namespace Ca
section
variable{lines:Int}{c:Ca}
def Hg{g:En->En}(hl:∀e,(g e).line=e.line)(hs:∀e,(g e).st=e.st)(line:Int)(i:Nat):Ca.nj {c with sl:=c.sl.map g} line i=c.nj line i:=by
 have he:∀j,(Ca.en {c with sl:=c.sl.map g} j).st=(c.en j).st/\((Ca.en {c with sl:=c.sl.map g} j).st≠0->(Ca.en {c with sl:=c.sl.map g} j).line=(c.en j).line):=λ j=>by
  grind [en]
 have a:Ca.fr {c with sl:=c.sl.map g} line=c.fr line:=rfl
 grind [nj]
def μ{g:En->En}(hl:∀e,(g e).line=e.line)(hs:∀e,(g e).st=e.st)(line:Int):Ca.pos {c with sl:=c.sl.map g} line=c.pos line:=by
 have:Ca.nj {c with sl:=c.sl.map g} line=c.nj line:=funext λ i=>Hg hl hs line i;unfold pos;rw[this];rfl
def Ts{g:En->En}{i:Nat}(a:i<c.sl.length):Ca.en {c with sl:=c.sl.map g} i=g (c.en i):=by
 grind [en]
def R3(e:En):(back e).line=e.line:=by grind [back]
def Uo(e:En):(back e).st=e.st:=by grind [back]
def ad1(e:En):(rA e).line=e.line:=by grind [rA]
def Z2(e:En):(rA e).st=e.st:=by grind [rA]
theorem Tu{e:En}(h:e.st≠0):(back e).r=B2/\(back e).w=B2/\(back e).d=if e.w then e.o else e.d:=by simp_all[back]
def Vy{e:En}(h:e.st≠0):(rA e).r=B2/\(rA e).w=B2/\(rA e).d=e.d:=by simp_all[rA]
def plain(c:Ca):Prop:=∀i,i<c.sl.length->(c.en i).st≠0->(c.en i).r=B2/\(c.en i).w=B2
def CI.discard(h:CI lines c):CI lines c.discard:=by
 refine(h.map (g:=back) R3 Uo (λ e he q=>?_) c.us);rw[(Tu he).2.1]at q;cases q
theorem CI.bt(h:CI lines c):CI lines c.bt:=by
 refine(h.map (g:=rA) ad1 Z2 (λ e he q=>?_) c.us);rw[(Vy he).2.1]at q;cases q
def CI.G1(h:CI lines c):c.discard.plain:=λ i b a=>by
 have b:i<c.sl.length:=by have:c.discard.sl.length=c.sl.length:=xu _;omega
 have e:c.discard.en i=back (c.en i):=Ts b;rw[e]at a⊢;rw[Uo]at a;exact⟨(Tu a).1,(Tu a).2.1⟩
def CI.xT(h:CI lines c):c.bt.plain:=λ i b a=>by
 have b:i<c.sl.length:=by have:c.bt.sl.length=c.sl.length:=xu _;omega
 have e:c.bt.en i=rA (c.en i):=Ts b;rw[e]at a⊢;rw[Z2]at a;exact⟨(Vy a).1,(Vy a).2.1⟩
theorem plain.set(h:c.plain){i:Nat}(d:i<c.sl.length){e:En}(hr:e.st≠0->e.r=B2/\e.w=B2)(us:Int):Ca.plain {c.set i e with us:=us}:=λ j a b=>by
 have a:j<c.sl.length:=by have:(c.sl.set i e).length=c.sl.length:=zg;have a:j<(c.sl.set i e).length:=a;omega
 have e1:Ca.en {c.set i e with us:=us} j=(c.set i e).en j:=rfl;rw[e1,D8 d]at b⊢
 by_cases q:i=j
 .grind
 .rw [qy q]at b⊢;exact h j a b
theorem Sh{line:Int}{x:En}(h:c.find line=B1 x):∃i,c.pos line=B1 i/\x=c.en i:=by
 grind [find,xr]
def zH{line st:Int}{i:Nat}(h:c.lW line st=B1 i):c.pos line=B1 i/\(st≠0->(c.en i).st=st):=by
 unfold lW at h
 grind
theorem sL{line:Int}:c.lW line 0=c.pos line:=by
 unfold lW
 grind
theorem CI.use(h:CI lines c){i:Nat}(d:i<c.sl.length)(f:(c.en i).st≠0):CI lines (c.use i):=by
 obtain⟨a,-,-,-,b⟩:=h.ok i d f;exact(h.Fo d (e:={c.en i with u:=c.us+1}) f rfl a b).us (c.us+1)
theorem CI.word(h:CI lines c)(a:Nat):CI lines (c.word a).1:=by
 unfold Ca.word;cases hp:c.pos ((a / 8:Nat):Int)with
 |none=>exact h
 |some i=>obtain⟨-,b,d,-⟩:=h.bD hp;exact h.use b d
theorem CI.put(h:CI lines c)(a:Nat)(y:Int):CI lines (c.put a y):=by
 unfold Ca.put;cases hp:c.lW ((a / 8:Nat):Int) 2 with
 |none=>exact h
 |some i =>
  obtain⟨q,-⟩:=zH hp;obtain⟨-,b,d,-⟩:=h.bD q;obtain⟨k,-,-,-,l⟩:=h.ok i b d;exact(h.Fo b (e:={c.en i with u:=c.us+1,d:=(c.en i).d.put (a % 8) y}) d rfl k l).us (c.us+1)
def CI.mark(h:CI lines c)(line:Int)(wr:Bool):CI lines (c.mark line wr):=by
 unfold Ca.mark;cases wr with
 |true =>
  rw[xg rfl];cases hp:c.lW line 2 with
  |none=>exact h
  |some i =>
   have⟨q,s⟩:=zH hp;obtain⟨-,b,d,-⟩:=h.bD q;show CI lines (if(c.en i).w then c else c.set i {c.en i with w:=B4,o:=(c.en i).d});split
   .exact h
   .exact h.Fo b d rfl (by grind) λ _=>s (by decide)
 |false =>
  rw[qy (by decide)];cases hp:c.lW line 0 with
  |none=>exact h
  |some i =>
   obtain⟨q,-⟩:=zH hp;obtain⟨-,b,d,-⟩:=h.bD q;obtain⟨k,-,-,-,l⟩:=h.ok i b d;exact h.Fo b (e:={c.en i with r:=B4}) d rfl k l
theorem CI.drop(h:CI lines c)(line:Int):CI lines (c.drop line).1:=by
 unfold Ca.drop;rw[sL];cases hp:c.pos line with
 |none=>exact h
 |some i=>obtain⟨-,b,-⟩:=h.bD hp;exact h.off b
def CI.dc(h:CI lines c)(line:Int)(hu:∀i,c.pos line=B1 i->(c.en i).w=B2):CI lines (c.dc line).1:=by
 unfold Ca.dc;cases hp:c.lW line 2 with
 |none=>exact h
 |some i =>
  obtain⟨q,-⟩:=zH hp;obtain⟨-,b,d,-⟩:=h.bD q;have hw:=hu i q;exact h.Fo b (e:={c.en i with st:=1}) d rfl (.inl rfl) λ w=>by grind
def CI.db(h:CI lines c)(line:Int)(x:L8):CI lines (c.db line x):=by
 unfold Ca.db;cases hp:c.lW line 1 with
 |none=>exact h
 |some i =>
  obtain⟨q,-⟩:=zH hp;obtain⟨-,b,d,-⟩:=h.bD q;exact h.Fo b (e:={c.en i with st:=2,d:=x}) d rfl (.inr rfl) λ _=>rfl
def Ut{line:Int}:∀{n i:Nat},c.iO line n=B1 i->i<n/\(c.en (c.fr line+i)).r=B2/\(c.en (c.fr line+i)).w=B2
 |0,i,h=>by cases h
 |n+1,i,h=>by
  rw[iO]at h;split at h
  .have ⟨a,b⟩:=Ut h;grind
  .rename_i hm;have hm:(c.en (c.fr line+n)).r=B2/\(c.en (c.fr line+n)).w=false:=by simpa using hm
   cases hb:c.iO line n with
   |none=>grind
   |some j =>
    rw[hb]at h;simp only at h;have⟨a,b⟩:=Ut hb
    grind
def TY{line:Int}{i:Nat}(h:c.room line=B1 i):∃k,k<c.ways/\i=c.fr line+k/\((c.en i).st=0\/(c.en i).r=B2/\(c.en i).w=B2):=by
 unfold room at h;cases d:dI (c.free line) c.ways with
 |some k =>
  rw[d]at h;cases h;obtain⟨a,b,-⟩:=KC d;simp_all[free]
 |none =>
  rw[d]at h;simp only[xr]at h;obtain⟨k,hk,rfl⟩:=h;have⟨a,b⟩:=Ut hk;simp_all
theorem CI.fill(h:CI lines c){line st:Int}{x:L8}(d:0<=line)(f:line<lines)(hs:st=1\/st=2):CI lines (c.fill line st x).1:=by
 unfold Ca.fill;cases hp:c.pos line with
 |some _=>exact h
 |none =>
  show CI lines (match c.room line with|none=>(c,En.zero,(22:Int))|some i=>({c with us:=c.us+1,sl:=c.sl.set i ⟨line,st,B2,B2,x,.zero,c.us+1⟩},c.en i,0)).1;cases hr:c.room line with
  |none=>exact h
  |some i =>
   obtain⟨k,a,b,-⟩:=TY hr;exact(h.Mq (e:=⟨line,st,B2,B2,x,.zero,c.us+1⟩) a b hp rfl d f hs rfl).us (c.us+1)
end
end Ca
end Go.Am
namespace Go.Am
namespace Ca
section
variable{lines:Int}{c:Ca}
theorem plain.word(h:c.plain)(f:CI lines c)(a:Nat):(c.word a).1.plain:=by
 unfold Ca.word;cases hp:c.pos ((a / 8:Nat):Int)with
 |none=>exact h
 |some i=>obtain⟨-,b,d,-⟩:=f.bD hp;exact h.set b (e:={c.en i with u:=c.us+1}) (λ _=>h i b d) (c.us+1)
theorem plain.put(h:c.plain)(f:CI lines c)(a:Nat)(y:Int):(c.put a y).plain:=by
 unfold Ca.put;cases hp:c.lW ((a / 8:Nat):Int) 2 with
 |none=>exact h
 |some i =>
  obtain⟨q,-⟩:=zH hp;obtain⟨-,b,d,-⟩:=f.bD q;exact h.set b (e:={c.en i with u:=c.us+1,d:=(c.en i).d.put (a % 8) y}) (λ _=>h i b d) (c.us+1)
theorem plain.drop(h:c.plain)(a:CI lines c)(line:Int):(c.drop line).1.plain:=by
 unfold Ca.drop;rw[sL];cases hp:c.pos line with
 |none=>exact h
 |some i=>obtain⟨-,b,-⟩:=a.bD hp;exact h.set b (e:=.zero) (λ q=>absurd rfl q) c.us
def plain.dc(h:c.plain)(a:CI lines c)(line:Int):(c.dc line).1.plain:=by
 unfold Ca.dc;cases hp:c.lW line 2 with
 |none=>exact h
 |some i =>
  obtain⟨q,-⟩:=zH hp;obtain⟨-,b,d,-⟩:=a.bD q;exact h.set b (e:={c.en i with st:=1}) (λ _=>h i b d) c.us
def plain.db(h:c.plain)(a:CI lines c)(line:Int)(x:L8):(c.db line x).plain:=by
 unfold Ca.db;cases hp:c.lW line 1 with
 |none=>exact h
 |some i =>
  obtain⟨q,-⟩:=zH hp;obtain⟨-,b,d,-⟩:=a.bD q;exact h.set b (e:={c.en i with st:=2,d:=x}) (λ _=>h i b d) c.us
theorem plain.fill(h:c.plain)(d:CI lines c){line st:Int}{x:L8}:(c.fill line st x).1.plain:=by
 unfold Ca.fill;cases hp:c.pos line with
 |some _=>exact h
 |none =>
  show Ca.plain (match c.room line with|none=>(c,En.zero,(22:Int))|some i=>({c with us:=c.us+1,sl:=c.sl.set i ⟨line,st,B2,B2,x,.zero,c.us+1⟩},c.en i,0)).1;cases hr:c.room line with
  |none=>exact h
  |some i =>
   obtain⟨k,a,b,-⟩:=TY hr;exact h.set (by rw[b];exact d.mO line a) (e:=⟨line,st,B2,B2,x,.zero,c.us+1⟩) (by grind) (c.us+1)
def DR{line st:Int}{x:L8}:(c.fill line st x).2.2=21/\(c.fill line st x).1=c/\(c.fill line st x).2.1=.zero\/(c.fill line st x).2.2=22/\(c.fill line st x).1=c/\(c.fill line st x).2.1=.zero \/
 (c.fill line st x).2.2=0 /\ ∃i,c.room line=B1 i/\(c.fill line st x).2.1=c.en i:=by
 grind [Ca.fill]
end
end Ca
open Ca
namespace No
structure NI(n:No):Prop where
 ci:CI n.lines n.c
 pl:n.live=B2->n.c.plain
section
variable{n:No}
def NI.iN(h:n.NI)(k:Int):(n.iN k).NI:=⟨h.ci.discard,λ _=>h.ci.G1⟩
theorem NI.lost(h:n.NI)(x:En)(too:Bool):(n.lost x too).NI:=by
 unfold No.lost;split
 .split
  .exact h.iN 2
  .exact h.iN 1
 omega
def NI.ask(h:n.NI)(k line:Int):(n.ask k line).1.NI:=by
 unfold No.ask;split
 .exact h
 .exact ⟨h.ci,h.pl⟩
def NI.lI(h:n.NI){c:Ca}(a:CI n.lines c)(hp:n.live=B2->c.plain):NI {n with c:=c}:=⟨a,hp⟩
def NI.gone(h:n.NI)(x:En):(n.gone x).1.NI:=by
 unfold No.gone;split
 .exact ⟨h.ci,h.pl⟩
 omega
def NI.dZ(h:n.NI){m:Mg}{st:Int}(hs:st=1\/st=2)(a:0<=m.line)(b:m.line<n.lines):(n.dZ m st).1.NI:=by
 have hb:NI {n with c:=(n.c.fill m.line st m.d).1}:=h.lI (h.ci.fill a b hs) λ w=>(h.pl w).fill h.ci;unfold No.dZ;split
 .exact NI.gone (n:={n with c:=(n.c.fill m.line st m.d).1}) hb _
 omega
theorem NI.fill(h:n.NI){m:Mg}(a:0<=m.line)(b:m.line<n.lines):(n.fill m).1.NI:=by
 have hs:(if m.k=15 then(2:Int)else 1)=1\/(if m.k=15 then(2:Int)else 1)=2:=by omega
 unfold No.fill No.mH;generalize(if m.k=15 then(2:Int)else 1)=st at hs;split
 .exact (h.iN 3).dZ hs a b
 .exact h.dZ hs a b
theorem NI.load(h:n.NI)(a:Int):(n.load a).1.NI:=by
 unfold No.load;split
 .cases b:n.c.find (ln a)with
  |none=>exact h.ask _ _
  |some x =>
   refine h.lI (CI.word ?_ _) λ q=>?_
   .split
    .exact h.ci.mark _ _
    .exact h.ci
   .rw [qy (by rw[q];decide)];exact(h.pl q).word h.ci _
 omega
theorem NI.store(h:n.NI)(a y:Int):(n.store a y).1.NI:=by
 unfold No.store;split
 .split
  .refine h.lI (CI.put ?_ _ _) λ q=>?_
   .split
    .exact h.ci.mark _ _
    .exact h.ci
   .rw [qy (by rw[q];decide)];exact(h.pl q).put h.ci _ _
  .exact h.ask _ _
 omega
theorem NI.nq(h:n.NI)(a o y:Int):(n.nq a o y).1.NI:=by
 unfold No.nq;split
 .split
  .exact h
  .split
   .simp only;split
    .exact h.lI ((h.ci.word _).put _ _) λ q=>((h.pl q).word h.ci _).put (h.ci.word _) _ _
    .exact h.lI (h.ci.word _) λ q=>(h.pl q).word h.ci _
   .exact h.ask _ _
 omega
def Ee{x:En}{too:Bool}{i:Nat}(h:n.NI)(a:i<n.c.sl.length)(b:(n.c.en i).st≠0)(d:x=n.c.en i):((n.lost x too).c.en i).w=false:=by
 unfold No.lost;split
 .have e:(n.c.discard).en i=back (n.c.en i):=Ts a;split<;>(show(n.c.discard.en i).w=B2;grind [Tu])
 grind
def EA(x:En)(too:Bool)(line:Int):(n.lost x too).c.pos line=n.c.pos line:=by
 unfold No.lost;split
 .split<;>exact μ R3 Uo line
 .rfl
def NI.bT(h:n.NI)(m:Mg):(n.bT m).1.NI:=by
 unfold No.bT;split
 .exact h
 rename_i hg;have f:0<=m.line:=by omega
 have g:m.line<n.lines:=by omega
 have l:∀x too,NI {n.lost x too with c:=((n.lost x too).c.drop m.line).1}:=λ x too =>
  (h.lost x too).lI ((h.lost x too).ci.drop m.line) λ q=>((h.lost x too).pl q).drop (h.lost x too).ci m.line
 split
 .grind
 split
 .cases d:n.c.find m.line with
  |none=>exact h
  |some x =>
   simp only;split
   .refine (h.lost x B2).lI ((h.lost x B2).ci.dc m.line λ i e=>?_) λ q=>((h.lost x B2).pl q).dc (h.lost x B2).ci m.line;have⟨j,a,b⟩:=Sh d;rw[EA,a]at e;cases e;obtain⟨-,hl,k,-⟩:=h.ci.bD a;exact Ee h hl k b
   grind
 split
 .exact ⟨h.ci,h.pl⟩
 .cases d:n.c.find m.line with
  |some x=>exact⟨h.ci.db _ _,λ q=>(h.pl q).db h.ci _ _⟩
  |none=>exact NI.fill (n:={n with out:=⟨0,0,0,.zero⟩}) ⟨h.ci,h.pl⟩ f g
def NI.da(h:n.NI)(line:Int):(n.da line).1.NI:=by
 unfold No.da;split
 .exact h
 .cases a:n.c.find line with
  |none=>exact h
  |some x =>
   simp only;have hb:NI (if(x.r ||x.w)=B4 then n.iN 4 else n):=by
    split
    .exact h.iN 4
    omega
   generalize(if(x.r ||x.w)=B4 then n.iN 4 else n)=n1 at hb;exact NI.gone (n:={n1 with c:=(n1.c.drop line).1}) (hb.lI (hb.ci.drop line) λ q=>(hb.pl q).drop hb.ci line) _
def NI.KA(h:n.NI)(x:Sp):(n.KA x).1.NI:=by
 unfold No.KA;split;· exact h.load _
 split;· exact h.store _ _
 split;· exact h.nq _ _ _
 split
 .unfold No.begin;split
  .exact h
  .exact ⟨h.ci,λ q=>by cases q⟩
 split
 .unfold No.bt;split
  .exact ⟨h.ci.bt,λ _=>h.ci.xT⟩
  omega
 split
 .unfold No.abort;split
  .split
   .exact h
   .exact h.iN _
  omega
 split;· exact h.bT _
 split;· exact h.da _
 exact h
def Oq(n:No)(n':No)(l:List Mg):Prop:=n.live=B4 -> ∀m∈l,m.k=3\/m.k=5 -> ∀i,i<n.c.sl.length->(n.c.en i).st≠0->(n.c.en i).line=m.line->(n.c.en i).w=B4->m.d=(n.c.en i).o/\n'.live=B2
def Oq.k{n n':No}{l:List Mg}(h:∀m∈l,m.k≠3/\m.k≠5):Oq n n' l:=λ _ m hm q=>by grind
def KS{k:Int}{i:Nat}(a:i<n.c.sl.length):(n.iN k).c.en i=back (n.c.en i):=Ts a
theorem Z7{c:Ca}{line:Int}{i:Nat}(hp:c.pos line=B1 i):(c.drop line).2=c.en i:=by
 grind [Ca.drop,sL]
end
end No
end Go.Am
namespace Go.Am
namespace Ca
section
variable{lines:Int}{c:Ca}
structure A4(c c':Ca):Prop where
 fM:c'.fM=c.fM
 ways:c'.ways=c.ways
 len:c'.sl.length=c.sl.length
 st:∀i,(c'.en i).st=(c.en i).st
 line:∀i,(c'.en i).line=(c.en i).line
theorem A4.refl(c:Ca):A4 c c:=⟨rfl,rfl,rfl,λ _=>rfl,λ _=>rfl⟩
theorem A4.trans{a b d:Ca}(h:A4 a b)(e:A4 b d):A4 a d:=⟨e.fM.trans h.fM,e.ways.trans h.ways,e.len.trans h.len,λ i=>(e.st i).trans (h.st i),λ i=>(e.line i).trans (h.line i)⟩
theorem A4.set{c:Ca}{i:Nat}{e:En}(us:Int)(hl:e.line=(c.en i).line)(hs:e.st=(c.en i).st):A4 c {c.set i e with us:=us}:=by
 have he:∀j,Ca.en {c.set i e with us:=us} j=(c.set i e).en j:=λ j=>rfl;have hlen:(c.set i e).sl.length=c.sl.length:=zg;rcases xz i c.sl.length with a|a
 .refine ⟨rfl,rfl,hlen,λ j=>?_,λ j=>?_⟩<;>(rw[he,D8 a];by_cases q:i=j)
  .subst q;rw[xg rfl,hs]
  .grind
  .grind
  grind
 .have:(c.set i e)=c:=by
   unfold Ca.set;rw[List.set_eq_of_length_le a]
  rw[this];exact⟨rfl,rfl,rfl,λ _=>rfl,λ _=>rfl⟩
def A4.pos{c a:Ca}(h:A4 c a)(line:Int):a.pos line=c.pos line:=by
 have b:∀line,a.fr line=c.fr line:=λ line=>by unfold fr;rw[h.fM,h.ways]
 have d:a.nj line=c.nj line:=funext λ i=>by unfold nj;rw[b,h.st,h.line]
 unfold Ca.pos;rw[d,h.ways,b]
end
end Ca
end Go.Am
namespace Go.Am
structure pT{α:Type}(enc:α->List AV)(e size:Nat)(H:ar)(v:AV)(xs:List α)(b i alt r:Nat):Prop where
 eq:v=.gslice b i (i+xs.length+r) size alt xs.length
 lt:b<H.au
 cells:∃P R,P.length=i*size/\R.length=r*size/\H.get b=B1 (.grown (i+xs.length+r) size (P++(xs.flatMap enc++R)) e (0,0))
def Sk{α:Type}(enc:α->List AV)(e size:Nat)(H:ar)(v:AV)(xs:List α):Prop:=(v=.nils/\xs=[]) \/ ∃b i alt r,pT enc e size H v xs b i alt r
section
variable{α:Type}{enc:α->List AV}{e size:Nat}{H H':ar}{v:AV}{xs ys:List α}{b i alt r:Nat}
theorem Sk.nil(H:ar):Sk enc e size H .nils ([]:List α):=.inl ⟨rfl,rfl⟩
def pT.fr{W:Nat->Prop}(h:pT enc e size H v xs b i alt r)(f:Fr W H H')(hw:¬W b):pT enc e size H' v xs b i alt r:=by
 obtain⟨P,R,a,c,d⟩:=h.cells;exact⟨h.eq,qn h.lt f.au,P,R,a,c,by rw[f.ah b h.lt hw];exact d⟩
def pT.on(h:pT enc e size H v xs b i alt r):aM v b:=⟨by rw[h.eq];simp,by rw[h.eq];rfl⟩
def pT.TW(h:pT enc e size H v xs b i alt r){x:Nat}(a:aM v x):x=b:=by rw[a.2,h.eq];rfl
def Sk.fr{W:Nat->Prop}(h:Sk enc e size H v xs)(f:Fr W H H')(hw:∀x,aM v x -> ¬W x):Sk enc e size H' v xs:=by
 rcases h with q|⟨b,i,alt,r,h⟩
 .exact .inl q
 .exact .inr ⟨b,i,alt,r,h.fr f (hw b h.on)⟩
def Sk.em(h:Sk enc e size H v xs)(f:Fr Em H H'):Sk enc e size H' v xs:=h.fr f λ _ _ q=>q
def Sk.lt(h:Sk enc e size H v xs):∀x,aM v x->x<H.au:=by
 intro x a;rcases h with⟨rfl,-⟩|⟨b,i,alt,r,h⟩
 .exact (a.1 rfl).elim
 .rw [h.TW a];exact h.lt
theorem AE(hs:∀x,(enc x).length=size):∀(l:List α),(l.flatMap enc).length=l.length*size
 |[]=>by simp
 |a::l=>by rw[j8,xe,hs,AE hs l,zt,wg];omega
def pT.sl(hs:∀x,(enc x).length=size)(h:pT enc e size H v xs b i alt r):bN enc size H v xs:=by
 obtain⟨P,R,a,c,d⟩:=h.cells;rw[h.eq];refine⟨AE hs xs,rfl,rfl,by omega,.inr ⟨h.lt,_,Oo d,?_⟩⟩;have hl:=AE hs xs;rw[tV,xg (by simp only[xe];omega),<-a,List.drop_left,<-hl,Cw]
def Sk.sl(hs:∀x,(enc x).length=size)(h:Sk enc e size H v xs):bN enc size H v xs:=by
 rcases h with⟨rfl,rfl⟩|⟨b,i,alt,r,h⟩
 .exact ⟨by simp,rfl⟩
 .exact h.sl hs
def Sk.len(hs:∀x,(enc x).length=size)(h:Sk enc e size H v xs):Op.cw [v]=B1 (.int .i64 xs.length):=(h.sl hs).len
def pT.CF(hs:∀x,(enc x).length=size)(z:0<size)(h:pT enc e size H v xs b i alt r){x:AV}{k:Nat}{new:List AV}(hk:k<=r)(hl:k=ys.length)(hn:new=ys.flatMap enc)(p:eJ x=B1 k)(o:firstCells H size k x=B1 new)(f:aN new=B4)(bytes:Nat) :
 ∃y H',Op.append e size bytes [v,x] H=B1 (y,H')/\pT enc e size H' y (xs++ys) b i alt (r-k)/\Fr (On b) H H':=by
 obtain⟨P,R,a,c,d⟩:=h.cells;have e1:∀n,I4 n n=true:=λ n=>by simp
 have hle:=kz (show i+xs.length<=i+xs.length+r by omega);have C:=AE hs xs;have E:=AE hs ys;rw[h.eq];have hm:i+xs.length+r=i+(xs++ys).length+(r-k):=by grind
 by_cases s:k=0
 .subst s;have D:ys=[]:=js.1 hl.symm;subst D;refine⟨.gslice b i (i+xs.length+r) size alt xs.length,H,?_,?_,Fr.refl H⟩
  .simp only[Op.append,p,o,qr,f,xt,cQ,I4,hle]
  .rw [zq,Nat.sub_zero,<-h.eq];exact h
 .have q:I4 k 0=false:=by grind [jz]
  have t:Oz 0 size=true:=Bc z;have g:=kz (show i+xs.length+k<=i+xs.length+r by omega);have j:new.length=k*size:=by grind
  have hmul:k*size<=r*size:=j9 _ hk;have u:H.store b ((i+xs.length)*size) new=B1 (H.set b (.grown (i+xs.length+r) size (P++((xs++ys).flatMap enc++R.drop (k*size))) e (0,0))):=by
   have B:dD (0,0) ((i+xs.length)*size) (cR new)=true:=by simp[dD]
   have e2:(i+xs.length)*size=(P++xs.flatMap enc).length:=by grind
   have A:(P++(xs.flatMap enc++R)).take ((i+xs.length)*size)++new++(P++(xs.flatMap enc++R)).drop ((i+xs.length)*size+new.length)=P++((xs++ys).flatMap enc++R.drop (k*size)):=by
    rw[e2,<-yd P,Cw,G2,j,jj (by omega),ji,show(P++xs.flatMap enc).length+k*size-(P++xs.flatMap enc).length=k*size by omega,kh,hn]
    grind
   simp only[ar.store,f,xt,d,B,AF];rw[xg (by rw[j,e2];simp only[xe];omega),qr,A]
  refine⟨.gslice b i (i+xs.length+r) size alt (xs.length+k),H.set b (.grown (i+xs.length+r) size (P++((xs++ys).flatMap enc++R.drop (k*size))) e (0,0)),?_,⟨?_,?_,P,R.drop (k*size),a,?_,?_⟩,(Fr.refl H).set (W:=On b) (.inl rfl) _⟩
  .simp only[Op.append,p,o,qr,f,xt,cQ,q,zo,e1,hle,t,zy,g,u]
  .grind
  .exact h.lt
  .grind [Nat.sub_mul]
  grind [xb]
def Sk.app(hs:∀x,(enc x).length=size)(J:0<size)(h:Sk enc e size H v xs){x:AV}{k:Nat}{new:List AV}(hl:k=ys.length)(hn:new=ys.flatMap enc)(o:eJ x=B1 k)(j:firstCells H size k x=B1 new)(f:aN new=B4){bytes:Nat}
 (Q:(xs.length+k)*bytes<=140737488355328) (E:xs.length+k<=140737488355328) :
 ∃B H',Op.append e size bytes [v,x] H=B1 (B,H')/\Sk enc e size H' B (xs++ys)/\Fr (aM v) H H' /\ ∀z,aM B z->aM v z\/H.au<=z:=by
 have e1:∀n,I4 n n=true:=λ n=>by simp
 have g:=Td Q E;have t:Oz 0 size=true:=Bc J;have U:=AE hs ys
 by_cases F:k=0
 .subst F;have T:ys=[]:=js.1 hl.symm;subst T;refine⟨v,H,?_,by rw[zq];exact h,Fr.refl H,λ z q=>.inl q⟩;rcases h with⟨rfl,rfl⟩|⟨b,i,alt,r,h⟩
  .simp only[Op.append,o,j,qr,f,xt,cQ,I4]
  .rw [h.eq];have hle:=kz (show i+xs.length<=i+xs.length+r by omega);simp only[Op.append,o,j,qr,f,xt,cQ,I4,hle]
 .have p:I4 k 0=false:=by grind [jz]
  rcases h with⟨rfl,rfl⟩|⟨b,i,alt,r,h⟩
  .have g:fits k bytes=true:=by simpa using g
   refine⟨.gslice H.au 0 k size 0 k,H.alloc (.grown k size new e (0,0)),?_,.inr ⟨H.au,0,0,0,?_,?_,[],[],?_,?_,?_⟩,(Fr.refl H).alloc _,λ z q=>.inr ?_⟩
   .simp only[Op.append,o,j,qr,f,xt,cQ,p,zo,g,t,zy,dC]
   .grind
   .grind [xy]
   .simp
   .simp
   .simp_all [xp]
   .rw [q.2];exact qm _
  .by_cases hr:k<=r
   .obtain ⟨B,H',M,K,C⟩:=h.CF hs J hr hl hn o j f bytes;exact⟨B,H',M,.inr ⟨_,_,_,_,K⟩,C.mono λ z hz(q:z=b)=>by rw[q];exact h.on,λ z q=>.inl (by rw[K.TW q];exact h.on)⟩
   .obtain ⟨P,R,a,c,d⟩:=h.cells;have G:=AE hs xs;have y:=h.on;rw[h.eq]at y⊢;have hle:=kz (show i+xs.length<=i+xs.length+r by omega);have C:Nz (i+xs.length+k) (i+xs.length+r)=false:=by cases L:Nz (i+xs.length+k) (i+xs.length+r)with|false=>rfl|true=>grind [uo]
    have A:=kz (xw ((i+xs.length+r)*size));have I:=kz (xw (i*size));have u:Fr (aM (.gslice b i (i+xs.length+r) size alt xs.length)) H (H.kill b):=Fr.kill (Fr.refl H) (.inl y);have fin:∀cs,cs=xs.flatMap enc->Sk enc e size ((H.kill b).alloc (.grown (xs.length+k) size (cs++new) e (0,0))) (.gslice (H.kill b).au 0 (xs.length+k) size 0 (xs.length+k)) (xs++ys):=λ cs D=>by
     refine .inr ⟨H.au,0,0,0,?_,?_,[],[],?_,?_,?_⟩
     .simp_all [GK]
     .grind [xy,GK]
     .simp
     .simp
     .have:=xp (H.kill b) (.grown (xs.length+k) size (cs++new) e (0,0));rw[GK]at this;rw[this,ji,zq,kh,D,hn,xe,hl,ya,Ae]
    by_cases hw:i=0/\r=0
    .obtain ⟨rfl,rfl⟩:=hw;have O:P=[]:=(by grind)
     have hR:R=[]:=(by grind)
     subst O hR;have s:I4 xs.length (0+xs.length+0)=true:=by simp
     refine⟨_,_,?_,fin (xs.flatMap enc) rfl,u.alloc _,λ z q=>.inr (by rw[q.2];exact qm _)⟩;simp only[Op.append,o,j,qr,f,xt,cQ,p,zo,e1,hle,t,zy,C,g,d,A,s,dC,I4,px,ji,zq]
    .have s:(I4 i 0 && I4 xs.length (i+xs.length+r))=false:=by
      cases L:(I4 i 0 && I4 xs.length (i+xs.length+r))with
      |false=>rfl
      |true =>
       rw[zn,jz,jz]at L;omega
     have S:fO (P++(xs.flatMap enc++R)) (i*size) (xs.length*size)=B1 (xs.flatMap enc):=by
      rw[tV,xg (by simp only[xe];omega),<-a,List.drop_left,<-G,Cw]
     refine⟨_,_,?_,fin (xs.flatMap enc) rfl,u.alloc _,λ z q=>.inr (by rw[q.2];exact qm _)⟩;simp only[Op.append,o,j,qr,f,xt,cQ,p,zo,e1,hle,t,zy,C,g,d,A,s,Bool.false_and,I,S,dC,I4,px]
def pT.off(h:pT enc e size H v xs b i alt r)(hs:∀x,(enc x).length=size){k:Nat}(hk:k<=xs.length)(kk:OA):∃j f,Op.aA size [B1 0,B5,B5] [v,.int kk (k:Int)]=B1 j/\pT enc e size H j (xs.drop k) b (i+k) f r/\(f=cond (I4 k 0) alt (i*size)):=by
 obtain⟨P,R,a,c,d⟩:=h.cells;have e1:∀n,I4 n n=true:=λ n=>by simp
 have g:∀d m,bound B5 d m=B1 d:=λ _ _=>rfl;have hlen:i+k+(xs.drop k).length+r=i+xs.length+r:=by grind
 rw[h.eq];refine⟨.gslice b (i+k) (i+xs.length+r) size (cond (I4 k 0) alt (i*size)) (xs.length-k),_,?_,⟨?_,h.lt,P++(xs.take k).flatMap enc,R,?_,c,?_⟩,rfl⟩
 .simp only[Op.aA,arg,jL,zk,qr,dh,g,ti (z:=(k:Int)) (k:=k) rfl hk kk,e1,kz (show xs.length<=i+xs.length+r-i by omega),kz (show i<=i+xs.length+r by omega),zy,xt]
 .grind
 .grind [AE,jx,wg]
 grind [yu]
def pT.upto(h:pT enc e size H v xs b i alt r)(hs:∀x,(enc x).length=size){k:Nat}(hk:k<=xs.length)(kk:OA):∃j,Op.aA size [B5,B1 0,B5] [v,.int kk (k:Int)]=B1 j/\pT enc e size H j (xs.take k) b i alt (r+(xs.length-k)):=by
 obtain⟨P,R,a,c,d⟩:=h.cells;have e1:∀n,I4 n n=true:=λ n=>by simp
 have g:∀d m,bound B5 d m=B1 d:=λ _ _=>rfl;have f:(xs.take k).length=k:=by grind
 have hlen:i+(xs.take k).length+(r+(xs.length-k))=i+xs.length+r:=by rw[f];omega
 rw[h.eq];refine⟨.gslice b (i+0) (i+xs.length+r) size (cond (I4 0 0) alt (i*size)) (k-0),?_,⟨?_,h.lt,P,(xs.drop k).flatMap enc++R,a,?_,?_⟩⟩
 .simp only[Op.aA,arg,jL,zk,qr,dh,g,ti (z:=(k:Int)) (k:=k) rfl (show k<=i+xs.length+r-i by omega) kk,e1,kz (show k<=i+xs.length+r-i by omega),kz (show i<=i+xs.length+r by omega),zy,xt]
 .rw [hlen,f];rfl
 .rw [xe,AE hs,yg,c,<-wg];congr 1;omega
 .rw [hlen,d,<-yd (List.flatMap enc (List.take k xs)),<-kh,yu]
def pT.Yu(h:pT enc e size H v xs b i alt (r+1))(hs:∀x,(enc x).length=size)(C:0<size){zero:List AV}(q:zero.length=size)(B:aN zero=B4)(kk:OA) :
 ∃s H',Op.aA size [B1 0,B1 1,B5] [v,.int kk (xs.length:Int),.int kk ((xs.length+1:Nat):Int)]=B1 s/\Op.bS zero [s] H=B1 (.tuple [],H')/\pT enc e size H' v xs b i alt (r+1)/\Fr (On b) H H':=by
 obtain⟨P,R,a,c,d⟩:=h.cells;have e1:∀n,I4 n n=true:=λ n=>by simp
 have A:=AE hs xs;have he:=h.eq;refine⟨.gslice b (i+xs.length) (i+xs.length+(r+1)) size (cond (I4 xs.length 0) alt (i*size)) (xs.length+1-xs.length),H.set b (.grown (i+xs.length+(r+1)) size (P++(xs.flatMap enc++(zero++R.drop size))) e (0,0)),?_,?_,⟨h.eq,h.lt,P,zero++R.drop size,a,?_,xb ..⟩,(Fr.refl H).set (W:=On b) (.inl rfl) _⟩
 .rw [he];simp only[Op.aA,arg,jL,zk,z8,qr,dh,ti (z:=((xs.length+1:Nat):Int)) (k:=xs.length+1) rfl (show xs.length+1<=i+xs.length+(r+1)-i by omega) kk,ti (z:=(xs.length:Int)) (k:=xs.length) rfl (show xs.length<=xs.length+1 by omega) kk,e1,kz (show xs.length+1<=i+xs.length+(r+1)-i by omega),kz (show i<=i+xs.length+(r+1)by omega),zy,xt]
 .rw [show xs.length+1-xs.length=1 by omega];have j:Oz 0 1=true:=rfl;have f:Oz (i+xs.length+0) (i+xs.length+(r+1))=true:=Bc (by omega);have e2:(i+xs.length)*size+0*size=(P++xs.flatMap enc).length:=by grind
  have u:R.length=r*size+size:=by grind
  have D:(P++(xs.flatMap enc++R)).take ((i+xs.length)*size+0*size)++fP 1 zero++(P++(xs.flatMap enc++R)).drop ((i+xs.length)*size+0*size+(fP 1 zero).length)=P++(xs.flatMap enc++(zero++R.drop size)):=by
   have hr:fP 1 zero=zero:=by simp[fP,px]
   rw[e2,<-yd P,Cw,G2,hr,q,jj (by omega),ji,show(P++xs.flatMap enc).length+size-(P++xs.flatMap enc).length=size by omega]
   grind
  have hr:fP 1 zero=zero:=by simp[fP,px]
  have y:dD (0,0) ((i+xs.length)*size+0*size) (cR (fP 1 zero))=true:=by simp[dD]
  have o:H.store b ((i+xs.length)*size+0*size) (fP 1 zero)=B1 (H.set b (.grown (i+xs.length+(r+1)) size (P++(xs.flatMap enc++(zero++R.drop size))) e (0,0))):=by
   have t:aN (fP 1 zero)=true:=by grind
   simp only[ar.store,t,xt,d,y,AF]
   grind
  have g:I4 1 0=false:=rfl;have p:zero.length=size:=q;simp only[Op.bS,eJ,qr,g,zo,p,elemAt,j,e1,f,zy,xt,o]
 grind
def pT.del(h:pT enc e size H v xs b i alt r)(hs:∀x,(enc x).length=size)(I:∀x,aN (enc x)=B4)(u:0<size){n:Nat}(hn:n<xs.length){zero:List AV}(J:zero.length=size)(p:aN zero=B4)(bytes:Nat) :
 ∃v0 v1 v2 c H1 v4 d,Op.aA size [B1 0,B1 1,B1 2] [v,.int .i64 (n:Int),.int .i64 ((n+1:Nat):Int),.int .i64 (xs.length:Int)]=B1 v0/\Op.aA size [B5,B1 0,B5] [v,.int .i64 (n:Int)]=B1 v1/\Op.aA size [B1 0,B5,B5] [v,.int .i64 ((n+1:Nat):Int)]=B1 v2 /\
  Op.append e size bytes [v1,v2] H=B1 (c,H1)/\Op.cw [c]=B1 (.int .i64 ((xs.length-1:Nat):Int))/\Op.aA size [B1 0,B1 1,B5] [c,.int .i64 ((xs.length-1:Nat):Int),.int .i64 (xs.length:Int)]=B1 v4/\Op.bS zero [v4] H1=B1 (.tuple [],d) /\
  pT enc e size d c (xs.eraseIdx n) b i alt (r+1)/\Fr (On b) H d:=by
 obtain⟨v1,y,D⟩:=h.upto hs (k:=n) (by omega) .i64;obtain⟨v2,t,A,E,-⟩:=h.off hs (k:=n+1) (by omega) .i64;have s2:=E.sl hs;have f:∀l:List α,aN (l.flatMap enc)=true:=λ l=>by
  rw[vh,List.all_flatMap,Ic];intro x _;have:=I x;rw[vh]at this;exact this
 obtain⟨c,H1,B,j,F⟩:=D.CF hs u (ys:=xs.drop (n+1)) (x:=v2) (k:=(xs.drop (n+1)).length) (by rw[yg];omega) rfl rfl (Sl.eJ s2) (Sl.first s2) (f _) bytes;have a:r+(xs.length-n)-(xs.drop (n+1)).length=r+1:=by rw[yg];omega
 rw[a,<-List.eraseIdx_eq_take_drop_succ]at j;have hlen:(xs.eraseIdx n).length=xs.length-1:=by rw[List.length_eraseIdx,xg hn]
 obtain⟨v4,d,g,C,b5,G⟩:=j.Yu hs u J p .i64;have s:=(j.sl hs).len;rw[hlen]at g s;rw[show xs.length-1+1=xs.length by omega]at g;obtain⟨v0,a0⟩:∃v0,Op.aA size [B1 0,B1 1,B1 2] [v,.int .i64 (n:Int),.int .i64 ((n+1:Nat):Int),.int .i64 (xs.length:Int)]=B1 v0:=by
  have e1:∀n,I4 n n=true:=λ n=>by simp
  have o:I4 xs.length n=false:=by grind [jz]
  rw[h.eq];refine⟨.slice b ((i+n)*size) (n+1-n) (xs.length-n),?_⟩;simp only[Op.aA,arg,jL,zk,z8,qr,dh,ti (z:=(xs.length:Int)) (k:=xs.length) rfl (show xs.length<=i+xs.length+r-i by omega) .i64,ti (z:=((n+1:Nat):Int)) (k:=n+1) rfl (show n+1<=xs.length by omega) .i64,ti (z:=(n:Int)) (k:=n) rfl (show n<=n+1 by omega) .i64,e1,o,kz (show i<=i+xs.length+r by omega),zy,xt,zo]
 exact⟨v0,v1,v2,c,H1,v4,d,a0,y,A,B,s,g,C,b5,F.trans G λ _ q=>.inl q⟩
end
end Go.Am
namespace Go.Am
structure De where
 ow:Int
 sh:Nat
 un:Mg
 ph:Int
 ask:Nat
 wt:List Mg
def hb(s:Nat)(c:Int):Nat:=s / 2 ^ c.toNat % 2
def rz(s:Nat)(c:Int):Nat:=if hb s c=1 then s else s+2 ^ c.toNat
def cT(s:Nat)(c:Int):Nat:=if hb s c=1 then s-2 ^ c.toNat else s
def wI(s:Nat):List Int:=([0,1,2,3]:List Int).filter λ c=>hb s c == 1
def IW(s:Nat)(c:Int):hb s c<=1:=by unfold hb;omega
theorem tz(c:Int):hb 0 c=0:=by unfold hb;simp
def four{c:Int}(a:0<=c)(d:c<4):c=0\/c=1\/c=2\/c=3:=by omega
def RI{s:Nat}(hs:s<16){c d:Int}(a:0<=c)(f:c<4)(d0:0<=d)(d1:d<4):rz s c<16/\hb (rz s c) d=if d=c then 1 else hb s d:=by
 rcases four a f with rfl|rfl|rfl|rfl<;>rcases four d0 d1 with rfl|rfl|rfl|rfl<;>(revert s;decide)
def Nb{s:Nat}(hs:s<16){c d:Int}(a:0<=c)(f:c<4)(d0:0<=d)(d1:d<4):cT s c<16/\hb (cT s c) d=if d=c then 0 else hb s d:=by
 rcases four a f with rfl|rfl|rfl|rfl<;>rcases four d0 d1 with rfl|rfl|rfl|rfl<;>(revert s;decide)
def Lq{c d:Int}(a:0<=c)(f:c<4)(d0:0<=d)(d1:d<4):2 ^ c.toNat<16/\hb (2 ^ c.toNat) d=if d=c then 1 else 0:=by
 rcases four a f with rfl|rfl|rfl|rfl<;>rcases four d0 d1 with rfl|rfl|rfl|rfl<;>decide
def EL{s:Nat}{c:Int}:c∈wI s↔0<=c/\c<4/\hb s c=1:=by
 unfold wI;simp only[List.mem_filter,kw,Lx,or_false,beq_iff_eq];constructor
 .rintro ⟨a,b⟩;exact⟨by omega,by omega,b⟩
 .rintro ⟨a,b,c⟩;exact⟨by omega,c⟩
namespace De
def own(x:De)(m:Mg):Prop:=∃w∈x.wt,w.core=m.core
instance(x:De)(m:Mg):Decidable (x.own m):=inferInstanceAs (Decidable (∃w∈x.wt,_))
def may(x:De)(m:Mg):Prop :=
 if m.k=1\/m.k=2 then¬(x.ph≠0/\x.ph≠4/\x.un.core=m.core)/\(x.ow≠m.core\/x.ph=2) /\ ¬x.own m
 else if m.k=4 then x.ph=1/\hb x.ask m.core=1
 else if m.k=5 then x.ph=2/\x.ow=m.core
 else if m.k=6 then x.ph=2/\hb x.ask m.core=1
 else if m.k=3 then x.ow=m.core
 else m.k=7/\x.ph=4/\x.un.core=m.core
instance(x:De)(m:Mg):Decidable (x.may m):=by unfold may;infer_instance
def dY(x:De)(w:L8):De×Mg :=
 if x.un.k=1 then({x with ph:=4,ask:=0,sh:=rz x.sh x.un.core},⟨14,x.un.core,x.un.line,w⟩)
 else({x with ph:=4,ask:=0,ow:=x.un.core,sh:=0},⟨15,x.un.core,x.un.line,w⟩)
def begin(x:De)(m:Mg)(w:L8):De×List Mg :=
 if 0<=x.ow then({x with un:=m,ph:=2,ask:=2 ^ x.ow.toNat},[⟨if m.k=2 then 13 else 12,x.ow,m.line,.zero⟩])
 else if m.k=1\/cT x.sh m.core=0 then((dY {x with un:=m,ask:=cT x.sh m.core} w).1,[(dY {x with un:=m,ask:=cT x.sh m.core} w).2])
 else({x with un:=m,ask:=cT x.sh m.core,ph:=1},(wI (cT x.sh m.core)).map λ c=>⟨11,c,m.line,.zero⟩)
def wA(x:De)(w:L8)(q:Prop)[Decidable q](o:List Mg):De×L8×List Mg :=
 if q then((x.dY w).1,w,o ++ [(x.dY w).2])else(x,w,o)
def bT(x:De)(w:L8)(m:Mg):De×L8×List Mg :=
 if¬x.may m then(x,w,[])
 else if m.k=1\/m.k=2 then if x.ph≠0 then({x with wt:=x.wt ++ [{m with d:=.zero}]},w,[])else((x.begin {m with d:=.zero} w).1,w,(x.begin {m with d:=.zero} w).2)
 else if m.k=4 then wA {x with sh:=cT x.sh m.core,ask:=cT x.ask m.core} w (cT x.ask m.core=0) []
 else if m.k=5 then wA {x with ow:=-1,sh:=if x.un.k=1 then rz x.sh m.core else x.sh} m.d True []
 else if m.k=6 then wA {x with ph:=3} w (x.ow<0) []
 else if m.k=3 then wA {x with ow:=-1} m.d (x.ph=3) [⟨16,m.core,m.line,.zero⟩]
 else match x.wt with
  |[]=>({x with ph:=0,un:=⟨0,0,0,.zero⟩},w,[])
  |n::r=>((begin {x with ph:=0,un:=⟨0,0,0,.zero⟩,wt:=r} n w).1,w,(begin {x with ph:=0,un:=⟨0,0,0,.zero⟩,wt:=r} n w).2)
end De
end Go.Am
namespace Go.Am
open Ca
structure Bu where
 m:List L8
 l:List De
 ns:List No
 fl:List Mg
structure XP(x:De)(N l:Int):Prop where
 N4:N<=4
 ow:-1<=x.ow/\x.ow<N
 sb:x.sh<16
 ab:x.ask<16
 Au:∀c,0<=c->c<4->hb x.sh c=1->c<N
 wt:∀w∈x.wt,(w.k=1\/w.k=2)/\0<=w.core/\w.core<N/\w.line=l
def MR(m:Mg)(N l:Int):Prop:=(m.k=1\/m.k=2)/\0<=m.core/\m.core<N/\m.line=l
structure XI(x:De)(N l:Int):Prop extends XP x N l where
 un:x.ph≠0->(x.un.k=1\/x.un.k=2)/\0<=x.un.core/\x.un.core<N/\x.un.line=l
structure OW(o:Mg)(N l:Int):Prop where
 k:11<=o.k/\o.k<=16
 c:0<=o.core/\o.core<N
 l:o.line=l
section
variable{x:De}{m:Mg}{w:L8}{N l:Int}
def J'(h:XP x N l)(hu:MR x.un N l):XI (x.dY w).1 N l/\OW (x.dY w).2 N l:=by
 have⟨hk,a,g,ul⟩:=hu;have j:=h.N4;unfold De.dY;split
 .refine ⟨⟨⟨h.N4,h.ow,(RI h.sb a (by omega) (yE 0) (by decide)).1,Nat.zero_lt_succ _,λ c d f q=>?_,h.wt⟩,λ _=>(by grind)⟩,⟨by grind,⟨a,g⟩,ul⟩⟩;have q:hb (rz x.sh x.un.core) c=1:=q;rw[(RI h.sb a (by omega) d f).2]at q;split at q
  .omega
  .exact h.Au c d f q
 .exact ⟨⟨⟨h.N4,(by grind),Nat.zero_lt_succ _,Nat.zero_lt_succ _,λ c d f q=>(by grind [tz]),h.wt⟩,λ _=>(by grind)⟩,⟨by grind,⟨a,g⟩,ul⟩⟩
def _D(h:XP x N l)(hm:MR m N l):XI (x.begin m w).1 N l /\ ∀o∈(x.begin m w).2,OW o N l:=by
 have⟨hk,g,k,ul⟩:=hm;have j:=h.N4;have ow:=h.ow;have ds:cT x.sh m.core<16:=(Nb h.sb g (by omega) (yE 0) (by decide)).1;unfold De.begin;split
 .rename_i q;refine⟨⟨⟨h.N4,h.ow,h.sb,(Lq q (by omega) (yE 0) (by decide)).1,h.Au,h.wt⟩,λ _=>(by grind)⟩,λ o ho=>?_⟩;rw[vi.1 ho];exact⟨by grind,⟨q,h.ow.2⟩,ul⟩
 .split
  .have ⟨a,b⟩:=J' (x:={x with un:=m,ask:=cT x.sh m.core}) (w:=w) ⟨h.N4,h.ow,h.sb,ds,h.Au,h.wt⟩ (by grind)
   grind
  .refine ⟨⟨⟨h.N4,h.ow,h.sb,ds,h.Au,h.wt⟩,λ _=>(by grind)⟩,λ o ho=>?_⟩;obtain⟨d,c,rfl⟩:=Fw.1 ho;have⟨d0,f,c⟩:=EL.1 c;refine⟨by grind,⟨d0,h.Au d d0 f ?_⟩,ul⟩;rw[(Nb h.sb g (by omega) d0 f).2]at c
   grind
def Tc{q:Prop}[Decidable q]{r:List Mg}(h:XI x N l)(hu:q->x.ph≠0)(hr:∀o∈r,OW o N l):XI (x.wA w q r).1 N l /\ ∀o∈(x.wA w q r).2.2,OW o N l:=by
 unfold De.wA;split
 .rename_i p;have⟨a,b⟩:=J' (w:=w) h.toXP (h.un (hu p))
  grind
 grind
def Gz(h:XI x N l)(a:0<=m.core/\m.core<N)(hl:m.line=l):XI (x.bT w m).1 N l /\ ∀o∈(x.bT w m).2.2,OW o N l:=by
 have A:=h.N4;have no:∀o∈([]:List Mg),OW o N l:=λ _ q=>by cases q
 have dl:∀{s:Nat},s<16->cT s m.core<16:=λ hs=>(Nb hs a.1 (by omega) (yE 0) (by decide)).1;have y:∀c,0<=c->c<4->hb (cT x.sh m.core) c=1->c<N:=λ c f g q=>by
  rw[(Nb h.sb a.1 (by omega) f g).2]at q;split at q
  .cases q
  .exact h.Au c f g q
 unfold De.bT;split
 .grind
 rename_i hm;have hm:x.may m:=wh.1 hm;unfold De.may at hm;split
 .rename_i hk;split
  .exact ⟨⟨⟨h.N4,h.ow,h.sb,h.ab,h.Au,λ v j=>(jq.1 j).elim (h.wt v) λ j=>by grind⟩,h.un⟩,no⟩
  .exact _D (m:={m with d:=.zero}) h.toXP ⟨hk,a.1,a.2,hl⟩
 rename_i z;rw[qy z]at hm;split
 .rename_i p;rw[xg p]at hm;exact Tc (x:={x with sh:=cT x.sh m.core,ask:=cT x.ask m.core}) ⟨⟨h.N4,h.ow,dl h.sb,dl h.ab,y,h.wt⟩,h.un⟩ (by grind) no
 rename_i p;rw[qy p]at hm;split
 .rename_i t;rw[xg t]at hm;refine Tc (x:={x with ow:=-1,sh:=if x.un.k=1 then rz x.sh m.core else x.sh}) ⟨⟨h.N4,(by grind),?_,h.ab,λ c f g q=>?_,h.wt⟩,h.un⟩ (by grind) no
  .show (if x.un.k=1 then rz x.sh m.core else x.sh)<16;split
   .exact (RI h.sb a.1 (by omega) (yE 0) (by decide)).1
   .exact h.sb
  .have q:hb (if x.un.k=1 then rz x.sh m.core else x.sh) c=1:=q;split at q
   .rw [(RI h.sb a.1 (by omega) f g).2]at q;split at q
    .omega
    .exact h.Au c f g q
   .exact h.Au c f g q
 rename_i t;rw[qy t]at hm;split
 .rename_i u;rw[xg u]at hm;exact Tc (x:={x with ph:=3}) ⟨⟨h.N4,h.ow,h.sb,h.ab,h.Au,h.wt⟩,λ _=>h.un (by omega)⟩ (by grind) no
 rename_i u;rw[qy u]at hm;split
 .refine Tc (x:={x with ow:=-1}) ⟨⟨h.N4,(by grind),h.sb,h.ab,h.Au,h.wt⟩,h.un⟩ (by grind) λ o q=>?_;rw[vi.1 q];exact⟨by grind,a,hl⟩
 split
 .exact ⟨⟨⟨h.N4,h.ow,h.sb,h.ab,h.Au,h.wt⟩,λ q=>(q rfl).elim⟩,no⟩
 .rename_i n r hw;exact _D (x:={x with ph:=0,un:=⟨0,0,0,.zero⟩,wt:=r}) ⟨h.N4,h.ow,h.sb,h.ab,h.Au,λ v j=>h.wt v (by grind)⟩ (h.wt n (by grind))
end
structure MW(m:Mg)(N L:Int):Prop where
 k:1<=m.k/\m.k<=7\/11<=m.k/\m.k<=16
 c:0<=m.core/\m.core<N
 l:0<=m.line/\m.line<L
structure NW(n:No)(c L:Int):Prop where
 ni:n.NI
 core:n.core=c
 lines:n.lines=L
structure Mo(n:No)(r:No×List Mg):Prop where
 core:r.1.core=n.core
 lines:r.1.lines=n.lines
 o:∀m∈r.2,(1<=m.k/\m.k<=7)/\m.core=n.core/\0<=m.line/\m.line<n.lines
theorem Mo.cl{n n2:No}{r:No×List Mg}(h:Mo n2 r)(e1:n2.core=n.core)(e2:n2.lines=n.lines):Mo n r:=⟨h.core.trans e1,h.lines.trans e2,λ m q=>by have:=h.o m q;omega⟩
namespace No
section
variable{n:No}
theorem Ax{n':No}(h:n'.core=n.core)(a:n'.lines=n.lines):Mo n (n',[]):=⟨h,a,λ _ q=>by cases q⟩
theorem Wz{a:Int}(hm:n.may a):0<=ln a/\ln a<n.lines:=by grind [No.may,ln]
theorem V0{k l:Int}(hk:k=1\/k=2)(a:0<=l)(c:l<n.lines):Mo n (n.ask k l):=by
 unfold ask;split
 .grind [Ax]
 .exact ⟨rfl,rfl,λ m q=>by rw[vi.1 q];exact⟨by show 1<=k/\k<=7;omega,rfl,a,c⟩⟩
def Gg(a:Int):Mo n ((n.load a).1,(n.load a).2.2.2.1):=by
 grind [load,Wz,V0,Ax]
def C8(a y:Int):Mo n ((n.store a y).1,(n.store a y).2.2.1):=by
 grind [store,Wz,Ax,V0]
def Lc(a o y:Int):Mo n (n.nq a o y):=by
 grind [nq,Wz,Ax,V0]
def D5:Mo n (n.begin,[]):=by grind [begin,Ax]
def zX:Mo n (n.bt,[]):=by grind [bt,Ax]
def BJ(k:Int):Mo n ((n.abort k).1,[]):=by
 unfold abort
 repeat' split
 all_goals exact Ax rfl rfl
theorem XK{x:En}(a:x.st≠0->0<=x.line/\x.line<n.lines):Mo n (n.gone x):=by
 unfold gone;split
 .rename_i q;have:=a (by omega);exact⟨rfl,rfl,λ m q=>by grind⟩
 grind [Ax]
theorem J_(h:n.NI)(m:Mg)(st:Int):Mo n (n.dZ m st):=by
 unfold dZ;split
 .rename_i q;refine Mo.cl (XK λ _=>?_) rfl rfl;rcases DR (c:=n.c) (line:=m.line) (st:=st) (x:=m.d)with⟨e1,-⟩|⟨e1,-⟩|⟨e1,j,e2,f⟩
  .omega
  .omega
  .rw [f]at q⊢;obtain⟨k,a,b,-⟩:=TY e2;have:=h.ci.ok j (by rw[b];exact h.ci.mO m.line a) q.2
   grind
 grind [Ax]
def HQ(h:n.NI)(m:Mg):Mo n (n.fill m):=by
 unfold fill;generalize(if m.k=15 then(2:Int)else 1)=st;unfold mH;split
 .exact (J_ (h.iN 3) m st).cl rfl rfl
 grind [J_]
def Gk(x:En)(too:Bool):(n.lost x too).core=n.core/\(n.lost x too).lines=n.lines:=by
 unfold lost
 repeat' split
 all_goals exact⟨rfl,rfl⟩
def HS(h:n.NI)(m:Mg):Mo n (n.bT m):=by
 unfold bT;split
 .grind [Ax]
 rename_i q;have hl:0<=m.line/\m.line<n.lines:=(by omega)
 have one:∀{n':No}{k:Int}{d:L8},n'.core=n.core->n'.lines=n.lines->1<=k/\k<=7->Mo n (n',[⟨k,n.core,m.line,d⟩]):=λ a c f=>⟨a,c,λ y q=>by grind⟩
 have lc:=λ x too=>(Gk (n:=n) x too)
 split
 .exact one (lc _ _).1 (lc _ _).2 (by decide)
 split
 .split
  .exact one rfl rfl (by decide)
  grind
 split
 .grind [Ax]
 split
 .exact one rfl rfl (by decide)
 .have g:=HQ (n:={n with out:=⟨0,0,0,.zero⟩}) ⟨h.ci,h.pl⟩ m;exact⟨g.core,g.lines,λ y q=>(jq.1 q).elim (g.o y) λ q=>by rw[vi.1 q];exact⟨by show(1:Int)<=7/\(7:Int)<=7;decide,rfl,hl⟩⟩
def Ih(h:n.NI)(line:Int):Mo n (n.da line):=by
 unfold da;split
 .grind [Ax]
 split
 .grind [Ax]
 .rename_i x k;have⟨j,a,b⟩:=Sh k;obtain⟨-,g,f,o,-⟩:=h.ci.bD a;have d:=h.ci.ok j g f;split
  .refine Mo.cl (XK λ _=>?_) rfl rfl;have hp:(n.iN 4).c.pos line=B1 j:=(μ R3 Uo line).trans a;rw[Z7 hp,KS g,R3];exact⟨d.2.1,d.2.2.1⟩
  grind [Mo.cl,XK,Z7]
end
end No
open No
structure BuI(b:Bu)(V:Int->L8):Prop where
 N4:b.ns.length<=4
 ml:b.m.length=b.l.length
 nw:∀(c:Nat)n,b.ns[c]? = B1 n->NW n c b.l.length
 mw:∀m∈b.fl,MW m b.ns.length b.l.length
 xs:∀(i:Nat)x,b.l[i]? = B1 x->XI x b.ns.length i
def Bu.put(b:Bu)(c:Nat)(r:No×List Mg):Bu:={b with ns:=b.ns.set c r.1,fl:=b.fl++r.2}
def Mv{b:Bu}{c:Nat}{n:No}(hn:b.ns[c]? = B1 n):b.put c (n,[])=b:=by
 have:b.ns.set c n=b.ns:=by
  apply yk
  grind
 simp_all[Bu.put]
namespace BuI
variable{b:Bu}{V V':Int->L8}
def entry(h:BuI b V){l:Int}(a:0<=l)(c:l<b.l.length):∃x w,b.l[l.toNat]? = B1 x/\b.m[l.toNat]? = B1 w/\XI x b.ns.length l:=by
 have e1:l.toNat<b.l.length:=by omega
 have e2:l.toNat<b.m.length:=by rw[h.ml];exact e1
 have:=h.xs l.toNat _ (xf e1);rw[MP a]at this;simp_all
def core(h:BuI b V){c:Int}(a:0<=c)(d:c<b.ns.length):∃n,b.ns[c.toNat]? = B1 n/\NW n c b.l.length:=by
 have e1:c.toNat<b.ns.length:=by omega
 have:=h.nw c.toNat _ (xf e1)
 grind
def node(h:BuI b V){c:Nat}{n:No}{r:No×List Mg}{f:List Mg}(hn:b.ns[c]? = B1 n)(k:r.1.NI)(p:Mo n r)(s:∀m∈f,m∈b.fl):BuI {b with ns:=b.ns.set c r.1,fl:=f++r.2} V':=by
 have j:=(qt.1 hn).1;have w:=h.nw c n hn;refine⟨by simp only[zg];exact h.N4,h.ml,λ d y g=>?_,λ m hm=>?_,λ i x t=>?_⟩
 .by_cases q:d=c
  .have g:(b.ns.set c r.1)[d]? = B1 y:=g;rw[q,zm j]at g;cases g;subst q;exact⟨k,p.core.trans w.core,p.lines.trans w.lines⟩
  .have g:(b.ns.set c r.1)[d]? = B1 y:=g;rw[zr (rS q)]at g;exact h.nw d y g
 .simp only[zg];rcases jq.1 hm with q|q
  .exact h.mw m (s m q)
  .have ⟨a,e,l0,l1⟩:=p.o m q;exact⟨.inl a,by rw[e,w.core];omega,l0,by rw[<-w.lines];exact l1⟩
 .simp only[zg];exact h.xs i x t
def call(h:BuI b V){c:Nat}{n:No}{r:No×List Mg}(hn:b.ns[c]? = B1 n)(a:r.1.NI)(d:Mo n r):BuI (b.put c r) V':=h.node hn a d λ _ q=>q
end BuI
end Go.Am
