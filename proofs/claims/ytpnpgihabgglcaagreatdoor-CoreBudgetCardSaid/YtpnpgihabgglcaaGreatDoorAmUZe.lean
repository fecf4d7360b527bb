import Derived.Test.YtpnpgihabgglcaaGreatDoorAmUZc
import Derived.Test.YtpnpgihabgglcaaGreatDoorAmUZd
import Derived.Carry
set_option linter.defProp false
set_option linter.unusedVariables false
set_option linter.unusedSimpArgs false
namespace Go.Am
open Go.RowKit
abbrev GL:=List (Nat×List AV)
def Good(W:World)(θ:Th)(n:Nat)(gl:GL):Prop :=
 ∀b l,(b,l)∈gl->b<n /\ ∃pre cs post e fz,W.heap[θ.bV b]? = some (.cells (pre++cs++post).toArray e fz)/\pre.length = θ.off b/\bL (Lt n) θ l cs
structure Step(W:World)(θ:Th)(n:Nat)(gl:GL)(θ':Th)(n':Nat)(gl':GL):Prop where
 le:n<=n'
 ag:Ag (Lt n) θ θ'
 cY:Good W θ' n' gl'
 ah:∀b,b<n->(Eb gl' .nil).get b=(Eb gl .nil).get b
def Step.refl{W:World}{θ:Th}{n:Nat}{a:GL}(h:Good W θ n a):Step W θ n a θ n a:=⟨qg n,Ag.refl _ _,h,λ _ _=>rfl⟩
def Step.trans{W:World}{θ θ' θ'':Th}{n n' e:Nat}{g d c:GL}(a:Step W θ n g θ' n' d)(b:Step W θ' n' d θ'' e c):Step W θ n g θ'' e c :=
 ⟨xu a.le b.le,a.ag.trans b.ag λ x f=>qj f a.le,b.cY,λ x f=>by rw[b.ah x (qj f a.le),a.ah x f]⟩
def Step.fr{W:World}{θ θ':Th}{n n':Nat}{d c:GL}(a:Step W θ n d θ' n' c):Fr Em (yx d n) (yx c n'):=⟨a.le,λ b hb _=>a.ah b hb⟩
def Step.row{W:World}{θ:Th}{n:Nat}{d:GL}(h:Good W θ n d){k off:Nat}{l:List AV}{pre cs post:List Value}{e:TypeId}{fz:Nat×Nat}(hk:W.heap[k]? = some (.cells (pre++cs++post).toArray e fz))(hp:pre.length=off)(p:bL (Lt n) θ l cs) :
 Step W θ n d (θ.add n k off 0) (n+1) ((n,l)::d):=by
 have a:Ag (Lt n) θ (θ.add n k off 0):=θ.gM n k off 0 (A9 n);have j:∀b,Lt n b->Lt (n+1) b:=λ b hb=>MA hb;refine⟨ku n,a,λ b q hm=>?_,λ b hb=>?_⟩
 .rcases jf.1 hm with hm|hm
  .injection hm with c f;subst c;subst f
   obtain⟨g,i,_⟩:=θ.eH b k off 0;exact⟨zp b,pre,cs,post,e,fz,by rw[g];exact hk,by rw[i];exact hp,p.up a j⟩
  .obtain ⟨c,pre,cs,post,e,fz,f,m,o⟩:=h b q hm;obtain⟨g,i,_⟩:=a b c;exact⟨MA c,pre,cs,post,e,fz,by rw[g];exact f,by rw[i];exact m,o.up a j⟩
 .rw [Eb,T.aI,qo (by omega)]
section
variable{P:Program}
def Iz(P:Program)(t:TypeId)(R:List AV->Prop):Prop :=
 ∀{H:Type}(enc:TypeId×Value->H)(W:World)(base:Nat)(sp:Nat->Bool)(held:Bool)(fuel:Nat)(cs:List Value)(d:DataW H)(ps:List MemPlace),
  DataW.trod enc P W base sp held fuel t cs=some (d,ps) -> ∃l,R l /\ ∀θ,bR θ l=cs
def p8(k:IntKind)(l:List AV):Prop:=∃n,l=[.int k n]/\(Lit.int k n).wf=true
def BO{t:TypeId}{k:IntKind}(h:P.underlying t=some (.int k)):Iz P t (p8 k):=by
 intro H enc W base sp held fuel cs d g a;cases fuel with
 |zero=>cases a
 |succ f =>
  simp only[DataW.trod,h]at a;split at a<;>first|(cases a;done)|skip
  all_goals first|(simp_all;done)|skip
  .rename_i e n2 c b;injection b with b;injection b with b;subst b
   split at a
   .rename_i hw;obtain⟨rfl,hw⟩:=hw;exact⟨_,⟨_,rfl,hw⟩,λ θ=>rfl⟩
   .cases a
def G6(P:Program):Nat->List Field->Bool
 |_,[]=>true
 |k,f::fs=>Nat.beq f.offset k && G6 P (k+P.cellsOf f.type) fs
def Bb{fs:List Field}:∀{k:Nat},G6 P k fs=true -> ∀(j:Nat)f,fs[j]? = some f->f.offset=k+((fs.take j).map λ f=>P.cellsOf f.type).sum:=by
 induction fs with
 |nil=>intro k _ j f h;simp at h
 |cons g fs ih =>
  intro k h j f a;simp only[G6,xt,jh]at h;cases j with
  |zero=>simp at a;subst a;simpa using h.1
  |succ j =>
   have:=ih h.2 j f (by simpa using a);simp only[List.take_succ_cons,ji,List.sum_cons];omega
end
end Go.Am
namespace Go.Am
open Go.RowKit
def Wd{W:World}{k o n:Nat}{cs:List Value}(hn:0<n)(h:W.cells? 0 ⟨k,o,none⟩ n=some cs):∃arr e fz,W.heap[k]? = some (.cells arr e fz)/\cs=(arr.toList.drop o).take n/\o+n<=arr.size:=by
 unfold World.cells? at h;rw[qr (xy _)]at h;have hlen:=mapM_some_length h;have a:=λ i(d:i<n)=>mapM_some_get h i i (by simp[d]);obtain⟨g,f⟩:∃c,W.cell? ⟨k,o,none⟩=some c:=by
  have:=a 0 hn;have hl:0<cs.length:=by rw[hlen];simpa using hn
  exact⟨cs[0],by simpa[Addr.add,hl]using this⟩
 obtain⟨arr,e,fz,b⟩:∃arr e fz,W.heap[k]? = some (.cells arr e fz):=by
  unfold World.cell? at f;split at f
  .rename_i arr e fz b;exact⟨arr,e,fz,b⟩
  .cases f
 refine⟨arr,e,fz,b,?_,?_⟩
 .refine jz λ i=>?_
  by_cases d:i<n
  .have:=a i d;rw[vV,Ov b]at this;rw[yf,qr d,yo];rw[<-j8]at this;exact this.symm
  .rw [zz (by rw[hlen];simp;omega),zz (by simp;omega)]
 .have:=a (n-1) (by omega);rw[vV,Ov b]at this;have hl:n-1<cs.length:=by rw[hlen];simp;omega
  rw[qt hl]at this;have:=(kw.1 this).1;omega
def Zt{α:Type}{L:List α}{size:Nat}:∀{cs:List (List α)}{o:Nat},(∀(i:Nat)c,cs[i]? = some c->c=(L.drop (o+i*size)).take size/\c.length=size)->cs.flatten=(L.drop o).take (cs.length*size)
 |[],o,_=>by simp
 |c::cs,o,h=>by
  obtain⟨a,f⟩:=h 0 c rfl;rw[wh,vf]at a;have e:=Zt (cs:=cs) (o:=o+size) λ i d b=>by
   have:=h (i+1) d (by simpa using b);rw[show o+size+i*size=o+(i+1)*size from by rw[wL];omega];exact this
  rw[Ps,e,z6,wL,Nat.add_comm (cs.length*size),List.take_add,Ib,<-a]
section
variable{P:Program}
def XL(R:List AV->Prop)(size:Nat)(H:ar)(u:AV):Prop:=∃ls:List (List AV),(∀l∈ls,R l/\l.length=size)/\Sl H size u ls.length ls.flatten
def XL.em{R:List AV->Prop}{size:Nat}{H H':ar}{u:AV}(h:XL R size H u)(f:Fr Em H H'):XL R size H' u:=by
 obtain⟨ls,a,b⟩:=h;exact⟨ls,a,b.em f⟩
def Step.bare{W:World}{θ:Th}{n:Nat}{c:GL}(h:Good W θ n c)(k off:Nat):Step W θ n c (θ.add n k off 0) (n+1) c:=by
 have a:Ag (Lt n) θ (θ.add n k off 0):=θ.gM n k off 0 (A9 n);have j:∀b,Lt n b->Lt (n+1) b:=λ b hb=>MA hb;refine⟨ku n,a,λ b l hm=>?_,λ b hb=>rfl⟩;obtain⟨d,pre,cs,post,e,fz,f,g,i⟩:=h b l hm;obtain⟨m,o,_⟩:=a b d;exact⟨MA d,pre,cs,post,e,fz,by rw[m];exact f,by rw[o];exact g,i.up a j⟩
end
end Go.Am
namespace Go.Am
open Go.RowKit Go.ChangeShapes Go.WideShapes Go.ChangeAt
section
variable{P:Program}
def GG{W:World}{r:Reach}{base:Nat}{t:TypeId}{v:Value}(a:(∃fs,P.underlying t=some (.struct fs)) \/ ∃n e,P.underlying t=some (.array n e))(h:Value.okWide P W r base t v):∃cs:Array Value,v=.agg cs:=by
 unfold Value.okWide at h;rcases a with⟨fs,a⟩|⟨n,e,a⟩
 .rw [a]at h;obtain⟨cs,h,_⟩:=h;exact⟨cs,h⟩
 .rw [a]at h;obtain⟨cs,h,_⟩:=h;exact⟨cs,h⟩
def q1q{W:World}{r:Reach}{base:Nat}{t e:TypeId}{v:Value}(a:P.underlying t=some (.slice e))(h:Value.okWide P W r base t v):v.cells.toList=[v]:=by
 unfold Value.okWide at h;rw[a]at h;cases v with
 |agg cs =>
  simp only[Cell.okWide,a]at h;unfold Cell.ok at h;rw[a]at h;exact h.elim
 |_=>rfl
def xbg{H:Type}{enc:TypeId×Value->H}{W:World}{b:Nat}{sp:Nat->Bool}{held:Bool}{t:TypeId}{ts:List TypeId}{vs:List Value}{ds:List (DataW H)}{g:List MemPlace}(h:DataW.TrodAll enc P W b sp held (t::ts) vs ds g) :
 ∃v c d a p q fuel,vs=v::c/\ds=d::a/\DataW.trod enc P W b sp held fuel t v.cells.toList=some (d,p)/\DataW.TrodAll enc P W b sp held ts c a q:=by
 cases vs with
 |nil=>exact h.elim
 |cons v vs =>
  cases ds with
  |nil=>exact h.elim
  |cons d ds=>obtain⟨p,q,⟨fuel,e⟩,f,_⟩:=h;exact⟨v,vs,d,ds,p,q,fuel,rfl,rfl,e,f⟩
def AO{H:Type}{enc:TypeId×Value->H}{W:World}{b:Nat}{sp:Nat->Bool}{held:Bool}{vs:List Value}{ds:List (DataW H)}{a:List MemPlace}(h:DataW.TrodAll enc P W b sp held [] vs ds a):vs=[]/\ds=[]:=by
 cases vs with
 |cons v vs=>exact h.elim
 |nil =>
  cases ds with
  |cons d ds=>exact h.elim
  |nil=>exact⟨rfl,rfl⟩
noncomputable def ak.plain(P:Program):ak:=⟨aV P,λ _ _ _ _=>none,λ _=>false,λ _ _ _ _ _=>rfl⟩
def xge(r:dL P){M:ak}(z:M.prog=aV P)(A:wx P 0 M.told)(p:pE M.told){W:World}{θ:Th}{n:Nat}{d:GL}(h:HR P 0 (Lt n) θ (yx d n) W){f:Nat}{vs:List AV}{args:Array Value}(B:bL (Lt n) θ vs args.toList){H':ar}
 (i:CALL M f vs (yx d n) (.ret (.bool true)) H'):Calls P f args W λ e w'=>e=.returned (.bool true)/\Below W.heap.size W w':=by
 obtain⟨m,hr⟩:=i.Av;simp only[ak.call,z]at hr;intro cs;obtain⟨_,θ',w',cs',fr,e',s,u,v,w,a,C,x,D,y,t⟩ :=
  XT r (λ rt g i l j o=>hK r g i l j o) A p m (Lt n) θ (yx d n) W f vs args none H' (.ret (.bool true)) none .normal cs h B rfl hr
   (λ b q E hb=>by have q:n<=b:=q;have hb:b<n:=hb;omega)
 have k:cs'=cs:=y;subst k;cases e' with
 |returned c =>
  have a:VR _ θ' (.bool true) c:=a;exact⟨.returned c,w',fr,⟨by rw[<-a.now];rfl,x.below (MY _ _)⟩,s,v,SI w u⟩
 |panicked _=>exact a.elim
 |outgrown=>exact a.elim
def qu3{H:Type}{enc:TypeId×Value->H}(hl:laidOutB P=true){W W':World}{sp:Nat->Bool}:∀{ts:List TypeId}{vs:List Value}{ds:List (DataW H)}{b:List MemPlace},
 (∀t∈ts,P.readableRec t=true/\t<P.types.size)->DataW.TrodAll enc P W 0 (λ _=>true) true ts vs ds b->Below W.heap.size W W'->(∀x∈b,x.block<W.heap.size)->(∀x∈b,sp x.block=true) ->
 DataW.TrodAll enc P W' 0 sp true ts vs ds b
 |[],[],[],b,_,h,_,_,_=>h
 |t::ts,v::vs,d::ds,b,ht,⟨p,q,h1,h2,e⟩,hb,hlt,hs=>by
  subst e;exact⟨p,q,WideElems.Trod_stays hl (ht t (by simp)).1 (ht t (by simp)).2 h1 (λ x a=>hb.same (hlt x (by simp[a]))) (λ x a=>hs x (by simp[a])),
   qu3 hl (λ t h=>ht t (by simp[h])) h2 hb (λ x a=>hlt x (by simp[a])) (λ x a=>hs x (by simp[a])),rfl⟩
 |[],_::_,_,_,_,h,_,_,_=>h.elim
 |[],[],_::_,_,_,h,_,_,_=>h.elim
 |_::_,[],_,_,_,h,_,_,_=>h.elim
 |_::_,_::_,[],_,_,h,_,_,_=>h.elim
def q8f{H:Type}{enc:TypeId×Value->H}{f:Nat}{fn:Func}{s:ChangeSpec}{u:TypeId}(hl:laidOutB P=true)(b:∀t∈fn.params.toList,P.readableRec t=true/\t<P.types.size)(i:s.vars=[])
 (a:∀ds:List (DataW H),ds.length=fn.params.size->s.fn H ds = {results:=[.lit (.bool true)],args:=ds}) (c:fn.resultTypes = #[u]) (j:P.underlying u=some .bool)
 {W:World} {args:Array Value} {ds gs:List (DataW H)} {before:List MemPlace} {apart fresh handsOn again:Bool}
 (k:DataW.Whole enc P fn.params.toList s.vars apart W args.toList ds gs before) (g:Calls P f args W λ e w'=>e=.returned (.bool true)/\Below W.heap.size W w') :
 Calls P f args W λ e W'=>∃v,e=.returned v/\s.post enc P fn apart fresh handsOn again W args v W':=by
 have m:∀p∈before,p.block<W.heap.size:=k.lt;have l:=k;obtain⟨p,q,r,hV,rfl,y,z⟩:=k;rw[i]at hV;obtain⟨rfl,rfl⟩:=trodVars_none hV;have hlen:ds.length=fn.params.size:=by
  have:∀{ts:List TypeId}{vs:List Value}{ds:List (DataW H)}{o:List MemPlace},DataW.TrodAll enc P W 0 (λ _=>true) true ts vs ds o->ds.length=ts.length:=by
   intro ts
   induction ts with
   |nil=>intro vs ds o h;cases vs<;>cases ds<;>first|rfl|exact h.elim
   |cons t ts ih =>
    intro vs ds o h;cases vs with
    |nil=>exact h.elim
    |cons v vs =>
     cases ds with
     |nil=>exact h.elim
     |cons d ds=>obtain⟨p,q,_,w,_⟩:=h;simp[ih w]
  rw[this r];simp
 refine g.mono λ e W'⟨he,hg⟩=>?_;subst he;refine⟨_,rfl,q8g (pa:=p) (pv:=[]) l (λ _ _ _=>?_) (λ sp hs=>?_) (λ _ _=>?_) rfl hg ?_⟩
 .rw [c,ze,a ds hlen];exact trodAll_cons_mk (shut_bool j _) trodAll_mk0
 .rw [ze,a ds hlen];exact qu3 hl b r hg (λ x n=>m x (by simp[n])) (λ x n=>hs x (by simp[n]))
 .rw [i,ze,a ds hlen];rfl
 .exact ok_one c rfl (okWide_bool_mk j _)
end
end Go.Am
namespace Go.Am
open Go.RowKit
section
variable{P:Program}
def VW(P:Program)(t:TypeId)(R:ar->List AV->Prop):Prop :=
 (∀H H' l,R H l->Fr Em H H'->R H' l) /\ ∀{Hh:Type}(enc:TypeId×Value->Hh)(W:World)(held:Bool)(fuel:Nat)(cs:List Value)(d:DataW Hh)(ps:List MemPlace),
  DataW.trod enc P W 0 (λ _=>true) held fuel t cs=some (d,ps) -> ∀(θ:Th)(n:Nat)(gl:GL),Good W θ n gl -> ∃θ' n' gl' l,Step W θ n gl θ' n' gl'/\bL (Lt n') θ' l cs/\R (yx gl' n') l
def GO{t:TypeId}{R:List AV->Prop}(h:Iz P t R):VW P t λ _ l=>R l :=
 ⟨λ _ _ _ h _=>h,λ enc W held fuel cs d f e θ n a hg=>by
  obtain⟨l,b,c⟩:=h enc W 0 _ held fuel cs d f e;exact⟨θ,n,a,l,Step.refl hg,λ θ' _=>c θ',b⟩⟩
def NR(R:ar->List AV->Prop)(size:Nat)(H:ar)(u:AV):Prop:=∃ls:List (List AV),(∀l∈ls,R H l/\l.length=size)/\Sl H size u ls.length ls.flatten/\(u=.nils\/aH u<H.au)
def NR.em{R:ar->List AV->Prop}(hm:∀H H' l,R H l->Fr Em H H'->R H' l){size:Nat}{H H':ar}{u:AV}(h:NR R size H u)(f:Fr Em H H'):NR R size H' u:=by
 obtain⟨ls,a,b,c⟩:=h;exact⟨ls,λ l hl=>⟨hm _ _ _ (a l hl).1 f,(a l hl).2⟩,b.em f,c.imp id λ q=>qj q f.au⟩
def sA:Option Nat->Nat
 |none=>0
 |some z=>z+1
def BI(s:Option Nat):zK (sA s)=s:=by cases s<;>rfl
def Step.NX{W:World}{θ:Th}{n:Nat}{c:GL}(h:Good W θ n c)(k off ext:Nat):Step W θ n c (θ.add n k off ext) (n+1) c:=by
 have a:Ag (Lt n) θ (θ.add n k off ext):=θ.gM n k off ext (A9 n);have j:∀b,Lt n b->Lt (n+1) b:=λ b hb=>MA hb;refine⟨ku n,a,λ b l hm=>?_,λ b hb=>rfl⟩;obtain⟨d,pre,cs,post,e,fz,f,g,i⟩:=h b l hm;obtain⟨m,o,_⟩:=a b d;exact⟨MA d,pre,cs,post,e,fz,by rw[m];exact f,by rw[o];exact g,i.up a j⟩
def tN{W:World}{a:Addr}{n:Nat}{cs:List Value}(hn:0<n)(h:W.cells? 0 a n=some cs):a.spot=none:=by
 unfold World.cells? at h;rw[qr (xy _)]at h;have:=mapM_some_get h 0 0 (by simp[hn]);have hl:0<cs.length:=by rw[mapM_some_length h];simpa using hn
 rw[qt hl]at this;exact World.cell?_spot (by simpa[Addr.add]using this)
end
end Go.Am
namespace Go.Am
open Go.RowKit
section
variable{P:Program}
def T5{α:Type}{enc:α->List AV}{R:ar->List AV->Prop}{Q:α->Prop}{size:Nat}{H:ar}{u:AV}(hR:∀l,R H l -> ∃x,l=enc x/\Q x)(h:NR R size H u):∃xs:List α,dU enc size H u xs /\ ∀x∈xs,Q x:=by
 obtain⟨ls,g,f,_⟩:=h;have:∀ls:List (List AV),(∀l∈ls,R H l) -> ∃xs:List α,ls=xs.map enc /\ ∀x∈xs,Q x:=by
  intro ls
  induction ls with
  |nil=>exact λ _=>⟨[],rfl,by simp⟩
  |cons l ls ih =>
   intro h;obtain⟨xs,b,d⟩:=ih λ l hl=>h l (by simp[hl]);obtain⟨x,i,j⟩:=hR l (h l (by simp));refine⟨x::xs,by rw[i,b];rfl,λ c a=>?_⟩;rcases jf.1 a with rfl|a
   .exact j
   .exact d c a
 obtain⟨xs,b,d⟩:=this ls λ l hl=>(g l hl).1;refine⟨xs,?_,d⟩;subst b;rw[xp]at f;unfold dU;have e:(xs.map enc).flatten=xs.flatMap enc:=by rw[List.flatMap_def]
 rw[<-e];exact f
end
end Go.Am
namespace Go.Am
variable{P:Program}
end Go.Am
namespace Go.Am
open Go.RowKit
variable{P:Program}
def HU{tp:TypeId}{w:World}{laid:List (String×DataW Unit)}(hn:uE laid=true)(h:laidMet P laid w) :
 ∃θ:Th,(∀g,g<P.globals.size -> θ.bV g=g /\ θ.off g=0)/\Good w θ (P.globals.size+laid.length) (rowsOf P tp P.globals.size laid):=tt h (λ x b=>⟨default,λ g t s c d a=>by
  have:=wq.1 hn x b;rw[a]at this;cases this⟩)
def xf0{W:World}{θL θ:Th}{n0 n:Nat}{ry b:GL}(hn:P.globals.size<=n0)(hg:∀g,g<P.globals.size -> θL.bV g=g /\ θL.off g=0)(h:Step W θL n0 ry θ n b):HR P 0 (Lt n) θ (yx b n) W :=
 HR.ux (xy _) (xu hn h.le) (λ g a=>by obtain⟨c,d,_⟩:=h.ag g (qj a hn);obtain⟨e,f⟩:=hg g a;exact⟨c.trans e,d.trans f⟩) h.cY
def CP(L:List fA):List Nat:=L.map λ e=>e.f
def q51{a:List (Nat×List AV)}{H:ar}{f:Nat}{vs:List AV}:∀{L:List fA},bC f (CP L)=false->oA a H f vs L=none
 |[],_=>rfl
 |e::L,h=>by
  have h:cond (Nat.beq e.f f) true (bC f (CP L))=false:=h;cases hb:Nat.beq e.f f with
  |true=>rw[hb]at h;cases h
  |false =>
   rw[hb]at h;have:Nat.beq f e.f=false:=by
    cases b:Nat.beq f e.f with
    |false=>rfl
    |true=>rw[wg b]at hb;simp at hb
   simp only[oA,this,Bool.false_and,zj];exact q51 h
noncomputable def ak.tell(P:Program)(gl:List (Nat×List AV))(L:List fA):ak:=⟨aV P,my gl L,λ f=>bC f (CP L),λ f vs up H h=>by
 cases up with
 |none=>exact q51 h
 |some _=>rfl⟩
def ak.xG{a:List (Nat×List AV)}{L:List fA}{n:Nat}(h:bC n (CP L)=false):(ak.tell P a L).func n=(aV P).func n:=by
 show cond (bC n (CP L)) none _=_;rw[h];rfl
def xia{a:List (Nat×List AV)}{f:Nat}{v:AV}{H:ar}(hr:eG H a=true):za (ak.tell P a [⟨f,[],v⟩]) f [] H λ w H'=>w=v/\H'=H:=by
 have h:my a [⟨f,[],v⟩] f [] none H=some (.ret v,none,H):=by
  show oA a H f [] [⟨f,[],v⟩]=_;have e:Nat.beq f f=true:=by simp
  simp only[oA,e,hr,kS,jk,xm]
 refine za.intro (v:=v) (H':=H) ⟨0,λ n _=>?_⟩ ⟨rfl,rfl⟩;cases n with
 |zero=>exact h
 |succ n =>
  show(match my a [⟨f,[],v⟩] f [] none H with|some r=>some r|none=>_)=_;rw[h]
def YW{n:Nat}{H H':ar}:∀{a:List (Nat×List AV)},iN n a=true->(∀b,b<n->H'.get b=H.get b)->eG H a=true->eG H' a=true
 |[],_,_,_=>rfl
 |(b,l)::r,hok,hk,h=>by
  simp only[iN,xt,sX]at hok;simp only[eG,xt]at h⊢;rw[hk b hok.1.1];exact⟨h.1,YW hok.2 hk h.2⟩
def Dd(g:dL P){ry:List (Nat×List AV)}{n0:Nat}{L:List fA}(hn:P.globals.size<=n0)(b:iN n0 ry=true)(d:∀e∈L,DC 0 e.args=true/\rJ P ry n0 e)
 {W:World} {θ:Th} {n:Nat} {c:GL} (h:HR P 0 (Lt n) θ (yx c n) W) {f:Nat} {vs:List AV} {args:Array Value} (i:bL (Lt n) θ vs args.toList)
 (a:za (ak.tell P ry L) f vs (yx c n) λ v _=>v=.bool true):Calls P f args W λ e w'=>e=.returned (.bool true)/\Below W.heap.size W w':=by
 obtain⟨v,H',a,rfl⟩:=a.elim;exact xge g (M:=ak.tell P ry L) rfl (qxn hn b d) q4k h i a
end Go.Am
namespace Go.Am
structure L8 where
 l:List Int
 h:l.length=8
namespace L8
def eq{a b:L8}(h:a.l=b.l):a=b:=by cases a;cases b;simp only at h;subst h;rfl
instance:DecidableEq L8:=λ a b=>if h:a.l=b.l then isTrue (L8.eq h)else isFalse λ q=>h (by rw[q])
def zero:L8:=⟨[0,0,0,0,0,0,0,0],rfl⟩
def put(x:L8)(i:Nat)(y:Int):L8:=⟨x.l.set i y,by rw[xg];exact x.h⟩
def get(x:L8)(i:Nat):Int:=x.l[i]?.getD 0
end L8
structure En where
 line:Int
 st:Int
 r:Bool
 w:Bool
 d:L8
 o:L8
 u:Int
def En.zero:En:=⟨0,0,false,false,.zero,.zero,0⟩
def dq(p:Nat->Bool):Nat->Option Nat
 |0=>none
 |n+1=>match dq p n with
  |some i=>some i
  |none=>if p n then some n else none
def Mp{p:Nat->Bool}:∀{n:Nat},(∀j,j<n->p j=false)->dq p n=none
 |0,_=>rfl
 |n+1,h=>by rw[dq,Mp λ j a=>h j (by omega),h n (by omega)];rfl
def L3{p:Nat->Bool}{i:Nat}:∀{n:Nat},i<n->p i=true->(∀j,j<i->p j=false)->dq p n=some i
 |0,h,_,_=>by omega
 |n+1,h,hp,hl=>by
  rw[dq];rcases xq i n with q|q
  .rw [L3 q hp hl]
  .have:i=n:=by omega
   subst this;rw[Mp hl,hp];rfl
def Lf{p:Nat->Bool}{i:Nat}:∀{n:Nat},dq p n=some i->i<n/\p i=true /\ ∀j,j<i->p j=false
 |0,h=>by cases h
 |n+1,h=>by
  rw[dq]at h;cases d:dq p n with
  |some k =>
   rw[d]at h;injection h with h;subst h
   obtain⟨a,b,c⟩:=Lf d;exact⟨by omega,b,c⟩
  |none =>
   rw[d]at h;simp only at h;split at h
   .rename_i hp;injection h with h;subst h
    refine⟨by omega,hp,λ j e=>?_⟩;cases f:p j with
    |false=>rfl
    |true =>
     exfalso;exact firstN_not (n:=n) d j e f
   .cases h
where
 firstN_not {p:Nat->Bool}:∀{n:Nat},dq p n=none -> ∀j,j<n->p j=true->False
 |0,_,j,hj,_=>by omega
 |n+1,h,j,hj,hp=>by
  rw[dq]at h;cases hf:dq p n with
  |some k=>rw[hf]at h;cases h
  |none =>
   rw[hf]at h;simp only at h;split at h
   .cases h
   .rename_i hq;rcases xq j n with q|q
    .exact firstN_not hf j q hp
    .exact hq (by rw[<-show j=n by omega];exact hp)
def Yf{p:Nat->Bool}{n:Nat}(h:dq p n=none):∀j,j<n->p j=false:=λ j a=>by
 cases b:p j with
 |false=>rfl
 |true=>exact(Lf.firstN_not h j a b).elim
structure Ca where
 fE:Nat
 ways:Nat
 sl:List En
 us:Int
namespace Ca
def fr(c:Ca)(line:Int):Nat:=(line.toNat % c.fE)*c.ways
def en(c:Ca)(i:Nat):En:=c.sl[i]?.getD .zero
def ny(c:Ca)(line:Int)(i:Nat):Bool:=(c.en (c.fr line+i)).st != 0 && (c.en (c.fr line+i)).line == line
def pos(c:Ca)(line:Int):Option Nat:=if line<0 then none else(dq (c.ny line) c.ways).map (c.fr line + ·)
def set(c:Ca)(i:Nat)(e:En):Ca:={c with sl:=c.sl.set i e}
def find(c:Ca)(line:Int):Option En:=(c.pos line).map c.en
def use(c:Ca)(i:Nat):Ca:={c with us:=c.us+1,sl:=c.sl.set i {c.en i with u:=c.us+1}}
def word(c:Ca)(a:Nat):Ca×Option Int:=match c.pos ((a / 8:Nat):Int)with
 |none=>(c,none)
 |some i=>(c.use i,some ((c.en i).d.get (a % 8)))
def kM(c:Ca)(line st:Int):Option Nat:=match c.pos line with
 |none=>none
 |some i=>if st≠0/\(c.en i).st≠st then none else some i
def put(c:Ca)(a:Nat)(y:Int):Ca:=match c.kM ((a / 8:Nat):Int) 2 with
 |none=>c
 |some i=>{c with us:=c.us+1,sl:=c.sl.set i {c.en i with u:=c.us+1,d:=(c.en i).d.put (a % 8) y}}
def mark(c:Ca)(line:Int)(wr:Bool):Ca:=if wr then
 match c.kM line 2 with
 |none=>c
 |some i=>if(c.en i).w then c else c.set i {c.en i with w:=true,o:=(c.en i).d}
 else match c.kM line 0 with
  |none=>c
  |some i=>c.set i {c.en i with r:=true}
def cO(c:Ca)(line:Int):Ca×L8:=match c.kM line 2 with
 |none=>(c,.zero)
 |some i=>(c.set i {c.en i with st:=1},(c.en i).d)
def cH(c:Ca)(line:Int)(d:L8):Ca:=match c.kM line 1 with
 |none=>c
 |some i=>c.set i {c.en i with st:=2,d:=d}
def drop(c:Ca)(line:Int):Ca×En:=match c.kM line 0 with
 |none=>(c,.zero)
 |some i=>(c.set i .zero,c.en i)
def pQ(e:En):En:=if e.st=0 then e else{e with r:=false,w:=false,o:=.zero}
def back(e:En):En:=if e.st=0 then e else{e with r:=false,w:=false,o:=.zero,d:=if e.w then e.o else e.d}
def bw(c:Ca):Ca:={c with sl:=c.sl.map pQ}
def discard(c:Ca):Ca:={c with sl:=c.sl.map back}
def iz(c:Ca)(line:Int):Nat->Option Nat
 |0=>none
 |n+1=>if(c.en (c.fr line+n)).r ||(c.en (c.fr line+n)).w then c.iz line n else match c.iz line n with
  |none=>some n
  |some j=>if(c.en (c.fr line+n)).u<(c.en (c.fr line+j)).u then some n else some j
def free(c:Ca)(line:Int)(i:Nat):Bool:=(c.en (c.fr line+i)).st == 0
def room(c:Ca)(line:Int):Option Nat:=match dq (c.free line) c.ways with
 |some i=>some (c.fr line+i)
 |none=>(c.iz line c.ways).map (c.fr line + ·)
def fill(c:Ca)(line st:Int)(d:L8):Ca×En×Int :=
 match c.pos line with
 |some _=>(c,.zero,21)
 |none=>match c.room line with
  |none=>(c,.zero,22)
  |some i=>({c with us:=c.us+1,sl:=c.sl.set i ⟨line,st,false,false,d,.zero,c.us+1⟩},c.en i,0)
end Ca
end Go.Am
namespace Go.Am
structure Mg where
 k:Int
 core:Int
 line:Int
 d:L8
 deriving DecidableEq
structure No where
 core:Int
 lines:Int
 c:Ca
 out:Mg
 aK:List Int
 live:Bool
 code:Int
namespace No
def may(n:No)(a:Int):Prop:=0<=a/\a<n.lines*8
instance(n:No)(a:Int):Decidable (n.may a):=inferInstanceAs (Decidable (_/\_))
def msg(n:No)(k line:Int):Mg:=⟨k,n.core,line,.zero⟩
def ask(n:No)(k line:Int):No×List Mg:=if n.out.k≠0\/line∈n.aK then(n,[])else({n with out:=n.msg k line},[n.msg k line])
def ln(a:Int):Int:=((a.toNat / 8:Nat):Int)
def load(n:No)(a:Int):No×Int×Bool×List Mg×Int :=
 if n.may a then match n.c.find (ln a)with
  |none=>((n.ask 1 (ln a)).1,0,false,(n.ask 1 (ln a)).2,0)
  |some _=>({n with c:=((if n.live then n.c.mark (ln a) false else n.c).word a.toNat).1},((if n.live then n.c.mark (ln a) false else n.c).word a.toNat).2.getD 0,true,[],0)
 else(n,0,false,[],2)
def owned(n:No)(line:Int):Bool:=match n.c.find line with
 |none=>false
 |some x=>x.st == 2
def store(n:No)(a y:Int):No×Bool×List Mg×Int :=
 if n.may a then if n.owned (ln a)then({n with c:=(if n.live then n.c.mark (ln a) true else n.c).put a.toNat y},true,[],0)
  else((n.ask 2 (ln a)).1,false,(n.ask 2 (ln a)).2,0)
 else(n,false,[],2)
def lP(n:No)(a old y:Int):No×List Mg :=
 if n.may a then if n.live then(n,[])else if n.owned (ln a)then
  ({n with c:=if(n.c.word a.toNat).2.getD 0=old then(n.c.word a.toNat).1.put a.toNat y else(n.c.word a.toNat).1},[])
  else n.ask 2 (ln a)
 else(n,[])
def begin(n:No):No:=if n.live then n else{n with live:=true,code:=0}
def bw(n:No):No:=if n.live then{n with c:=n.c.bw,live:=false}else n
def iG(n:No)(code:Int):No:={n with c:=n.c.discard,live:=false,code:=code}
def abort(n:No)(code:Int):No×Int:=if n.live then if code<1\/7<code then(n,2)else(n.iG code,0)else(n,40)
def lost(n:No)(x:En)(too:Bool):No:=if x.w ||(x.r && too)then if x.line=0 then n.iG 2 else n.iG 1 else n
def jG(n:No)(m:Mg)(x:En):Prop :=
 m.k=11/\x.st≠2\/(m.k=12\/m.k=13)/\x.st≠1\/m.k=14/\n.out=n.msg 1 m.line\/m.k=15/\n.out=n.msg 2 m.line\/m.k=16/\m.line∈n.aK
instance(n:No)(m:Mg)(x:En):Decidable (n.jG m x):=inferInstanceAs (Decidable (_\/_))
def gone(n:No)(x:En):No×List Mg:=if x.st=2 then({n with aK:=n.aK ++ [x.line]},[⟨3,n.core,x.line,x.d⟩])else(n,[])
def dM(n:No)(m:Mg)(st:Int):No×List Mg :=
 if(n.c.fill m.line st m.d).2.2=0/\(n.c.fill m.line st m.d).2.1.st≠0 then gone {n with c:=(n.c.fill m.line st m.d).1} (n.c.fill m.line st m.d).2.1
 else({n with c:=(n.c.fill m.line st m.d).1},[])
def lV(n:No)(m:Mg)(st:Int):No×List Mg:=if(n.c.fill m.line st m.d).2.2=22 then(n.iG 3).dM m st else n.dM m st
def fill(n:No)(m:Mg):No×List Mg:=n.lV m (if m.k=15 then 2 else 1)
end No
end Go.Am
namespace Go.Am
namespace Ca
structure CI(lines:Int)(c:Ca):Prop where
 len:c.sl.length=c.fE*c.ways
 s0:0<c.fE
 w0:0<c.ways
 ok:∀i,i<c.sl.length->(c.en i).st≠0->((c.en i).st=1\/(c.en i).st=2)/\0<=(c.en i).line/\(c.en i).line<lines/\i / c.ways=(c.en i).line.toNat % c.fE/\((c.en i).w=true->(c.en i).st=2)
 uq:∀i j,i<c.sl.length->j<c.sl.length->(c.en i).st≠0->(c.en j).st≠0->(c.en i).line=(c.en j).line->i=j
def Er{c:Ca}{i:Nat}(h:i<c.sl.length):c.sl[i]? = some (c.en i):=by
 unfold en;rw[qt h];rfl
def zQ{c:Ca}{i j:Nat}{e:En}(h:i<c.sl.length):(c.set i e).en j=if i=j then e else c.en j:=by
 unfold en set
 by_cases q:i=j
 .subst q;rw[qr rfl];simp[xr h]
 .rw [qo q];simp only;rw[xw q]
def Vk{c:Ca}{i:Nat}(h:c.sl.length<=i):c.en i=.zero:=by
 unfold en;rw[zz h];rfl
section
variable{lines:Int}{c:Ca}
def CI.lf(h:CI lines c)(line:Int){k:Nat}(hk:k<c.ways):c.fr line+k<c.sl.length:=by
 have a:line.toNat % c.fE<c.fE:=Nat.mod_lt _ h.s0;have b:(line.toNat % c.fE+1)*c.ways<=c.fE*c.ways:=jv _ a;rw[yd,Nat.one_mul]at b;unfold fr;rw[h.len];omega
def CI.JL(h:CI lines c)(line:Int){k:Nat}(hk:k<c.ways):(c.fr line+k) / c.ways=line.toNat % c.fE:=by
 unfold fr;rw[Nat.add_comm,Nat.add_mul_div_right _ _ h.w0,Nat.div_eq_of_lt hk,jy]
def CI.bt(h:CI lines c){line:Int}{i:Nat}(hp:c.pos line=some i):0<=line/\i<c.sl.length/\(c.en i).st≠0/\(c.en i).line=line /\ ∃k,k<c.ways/\i=c.fr line+k/\dq (c.ny line) c.ways=some k:=by
 unfold pos at hp;split at hp
 .cases hp
 .rename_i hl;rw[xl]at hp;obtain⟨k,hk,rfl⟩:=hp;obtain⟨a,b,-⟩:=Lf hk;unfold ny at b;simp only[xt,bne_iff_ne,ne_eq,EO]at b;exact⟨by omega,h.lf line a,b.1,b.2,k,a,rfl,hk⟩
def CI.Ld(h:CI lines c){i:Nat}(g:i<c.sl.length)(f:(c.en i).st≠0):c.pos (c.en i).line=some i:=by
 obtain⟨-,a,-,b,-⟩:=h.ok i g f;have hk:i % c.ways<c.ways:=Nat.mod_lt _ h.w0;have d:c.fr (c.en i).line+i % c.ways=i:=by
  unfold fr;rw[<-b];exact Nat.div_add_mod' i c.ways
 unfold pos;rw[qo (by omega),L3 (i:=i % c.ways) hk]
 .show some (c.fr (c.en i).line+i % c.ways)=some i;rw[d]
 .unfold ny;rw[d];simp[f]
 .intro j k;cases e:c.ny (c.en i).line j with
  |false=>rfl
  |true =>
   unfold ny at e;simp only[xt,bne_iff_ne,ne_eq,EO]at e;have:=h.uq _ _ (h.lf (c.en i).line (show j<c.ways by omega)) g e.1 f e.2;omega
def CI.BX(h:CI lines c){line:Int}(hp:c.pos line=none):∀i,i<c.sl.length->(c.en i).st≠0->(c.en i).line≠line:=λ i a b q=>by
 have:=h.Ld a b;rw[q,hp]at this;cases this
def CI.Es(h:CI lines c){i:Nat}(m:i<c.sl.length){e:En}(p:(c.en i).st≠0)(hl:e.line=(c.en i).line)(hs:e.st=1\/e.st=2)(hw:e.w=true->e.st=2):CI lines (c.set i e):=by
 have hlen:(c.set i e).sl.length=c.sl.length:=by show(c.sl.set i e).length=_;rw[xg]
 have r:e.st≠0:=by omega
 obtain⟨-,a,b,d,-⟩:=h.ok i m p;refine⟨by rw[hlen];exact h.len,h.s0,h.w0,λ j n f=>?_,λ j k n hk f g q=>?_⟩
 .rw [hlen]at n;rw[zQ m]at f⊢
  by_cases q:i=j
  .subst q;rw[qr rfl,hl];exact⟨hs,a,b,d,hw⟩
  .rw [qo q]at f⊢;exact h.ok j n f
 .rw [hlen]at n hk;rw[zQ m]at f q;rw[zQ m]at g q
  by_cases o:i=j
  .by_cases l:i=k
   .omega
   .rw [qr o,qo l,hl]at q;rw[qo l]at g;rw[<-o];exact h.uq i k m hk p g q
  .by_cases l:i=k
   .rw [qo o,qr l,hl]at q;rw[qo o]at f;rw[<-l];exact h.uq j i n m f p q
   .rw [qo o,qo l]at q;rw[qo o]at f;rw[qo l]at g;exact h.uq j k n hk f g q
def CI.off(h:CI lines c){i:Nat}(l:i<c.sl.length):CI lines (c.set i .zero):=by
 have hlen:(c.set i .zero).sl.length=c.sl.length:=by show(c.sl.set i .zero).length=_;rw[xg]
 have e:∀j,((c.set i .zero).en j).st≠0->i≠j/\(c.set i .zero).en j=c.en j:=λ j b=>by
  rw[zQ l]at b⊢
  by_cases q:i=j
  .rw [qr q]at b;exact absurd rfl b
  .rw [qo q];exact⟨q,rfl⟩
 refine⟨by rw[hlen];exact h.len,h.s0,h.w0,λ j b a=>?_,λ j k b hk a d q=>?_⟩
 .rw [hlen]at b;have:=(e j a).2;rw[this]at a⊢;exact h.ok j b a
 .rw [hlen]at b hk;have f:=(e j a).2;have g:=(e k d).2;rw[f]at a q;rw[g]at d q;exact h.uq j k b hk a d q
def CI.KO(h:CI lines c){i k:Nat}{line:Int}{e:En}(hk:k<c.ways)(o:i=c.fr line+k)(hn:c.pos line=none)(hl:e.line=line)(p:0<=line)(r:line<lines)(hs:e.st=1\/e.st=2)(hw:e.w=false):CI lines (c.set i e):=by
 have d:i<c.sl.length:=by rw[o];exact h.lf line hk
 have hlen:(c.set i e).sl.length=c.sl.length:=by show(c.sl.set i e).length=_;rw[xg]
 have l:=h.BX hn;refine⟨by rw[hlen];exact h.len,h.s0,h.w0,λ j f a=>?_,λ j m f hm a b q=>?_⟩
 .rw [hlen]at f;rw[zQ d]at a⊢
  by_cases q:i=j
  .rw [qr q,hl];exact⟨hs,p,r,by rw[<-q,o];exact h.JL line hk,λ q=>by rw[hw]at q;cases q⟩
  .rw [qo q]at a⊢;exact h.ok j f a
 .rw [hlen]at f hm;rw[zQ d]at a q;rw[zQ d]at b q
  by_cases n:i=j
  .by_cases g:i=m
   .omega
   .rw [qr n,qo g,hl]at q;rw[qo g]at b;exact(l m hm b q.symm).elim
  .by_cases g:i=m
   .rw [qo n,qr g,hl]at q;rw[qo n]at a;exact(l j f a q).elim
   .rw [qo n,qo g]at q;rw[qo n]at a;rw[qo g]at b;exact h.uq j m f hm a b q
def CI.map(h:CI lines c){g:En->En}(hl:∀e,(g e).line=e.line)(hs:∀e,(g e).st=e.st)(hw:∀e,e.st≠0->(g e).w=true->e.w=true)(us:Int):CI lines {c with sl:=c.sl.map g,us:=us}:=by
 have hlen:(c.sl.map g).length=c.sl.length:=xp _;have he:∀j,j<c.sl.length->Ca.en {c with sl:=c.sl.map g,us:=us} j=g (c.en j):=λ j l=>by
  unfold en;simp only[xj];rw[qt l];rfl
 refine⟨by show(c.sl.map g).length=_;rw[hlen];exact h.len,h.s0,h.w0,λ j l i=>?_,λ j k l hk i m q=>?_⟩
 .have l:j<c.sl.length:=by rw[<-hlen];exact l
  rw[he j l]at i⊢;rw[hs]at i;obtain⟨a,b,d,e,f⟩:=h.ok j l i;rw[hl,hs];exact⟨a,b,d,e,λ q=>f (hw _ i q)⟩
 .have l:j<c.sl.length:=by rw[<-hlen];exact l
  have hk:k<c.sl.length:=by rw[<-hlen];exact hk
  rw[he j l]at i q;rw[he k hk]at m q;rw[hs]at i m;rw[hl,hl]at q;exact h.uq j k l hk i m q
def CI.us(h:CI lines c)(u:Int):CI lines {c with us:=u}:=⟨h.len,h.s0,h.w0,h.ok,h.uq⟩
end
end Ca
end Go.Am
namespace Go.Am
namespace No
def bQ(n:No)(m:Mg):No×List Mg :=
 if m.core≠n.core\/m.line<0\/n.lines<=m.line \/ ¬n.jG m ((n.c.find m.line).getD .zero)then(n,[])
 else if m.k=11 then({n.lost ((n.c.find m.line).getD .zero) true with c:=((n.lost ((n.c.find m.line).getD .zero) true).c.drop m.line).1},[n.msg 4 m.line])
 else if m.k=12\/m.k=13 then match n.c.find m.line with
  |none=>(n,[n.msg 6 m.line])
  |some x =>
   if m.k=12 then({n.lost x false with c:=((n.lost x false).c.cO m.line).1},[⟨5,n.core,m.line,((n.lost x false).c.cO m.line).2⟩])
   else({n.lost x true with c:=((n.lost x true).c.drop m.line).1},[⟨5,n.core,m.line,((n.lost x true).c.drop m.line).2.d⟩])
 else if m.k=16 then({n with aK:=n.aK.filter (· ≠m.line)},[])
 else match n.c.find m.line with
  |some _=>({n with out:=⟨0,0,0,.zero⟩,c:=n.c.cH m.line m.d},[n.msg 7 m.line])
  |none=>((fill {n with out:=⟨0,0,0,.zero⟩} m).1,(fill {n with out:=⟨0,0,0,.zero⟩} m).2 ++ [n.msg 7 m.line])
def cT(n:No)(line:Int):No×List Mg :=
 if line<0\/n.lines<=line then(n,[])else match n.c.find line with
  |none=>(n,[])
  |some x =>
   gone {(if x.r ||x.w then n.iG 4 else n)with c:=((if x.r ||x.w then n.iG 4 else n).c.drop line).1} ((if x.r ||x.w then n.iG 4 else n).c.drop line).2
end No
structure Sp where
 k:Int
 n:Int
 v:Int
 o:Int
 m:Mg
def No.NH(n:No)(x:Sp):No×List Mg :=
 if x.k=0 then((n.load x.n).1,(n.load x.n).2.2.2.1)
 else if x.k=1 then((n.store x.n x.v).1,(n.store x.n x.v).2.2.1)
 else if x.k=2 then n.lP x.n x.o x.v
 else if x.k=3 then(n.begin,[])
 else if x.k=4 then(n.bw,[])
 else if x.k=5 then((n.abort x.n).1,[])
 else if x.k=6 then n.bQ x.m
 else if x.k=7 then n.cT x.n
 else(n,[])
namespace Ca
section
variable{lines:Int}{c:Ca}
def GN{g:En->En}(hl:∀e,(g e).line=e.line)(hs:∀e,(g e).st=e.st)(line:Int)(i:Nat):Ca.ny {c with sl:=c.sl.map g} line i=c.ny line i:=by
 have he:∀j,(Ca.en {c with sl:=c.sl.map g} j).st=(c.en j).st/\((Ca.en {c with sl:=c.sl.map g} j).st≠0->(Ca.en {c with sl:=c.sl.map g} j).line=(c.en j).line):=λ j=>by
  unfold en;simp only[xj];cases f:c.sl[j]? with
  |none=>exact⟨rfl,λ q=>absurd rfl q⟩
  |some e=>exact⟨hs e,λ _=>hl e⟩
 have d:Ca.fr {c with sl:=c.sl.map g} line=c.fr line:=rfl;unfold ny;rw[d];obtain⟨a,b⟩:=he (c.fr line+i);rw[a]at b⊢
 by_cases q:(c.en (c.fr line+i)).st=0
 .rw [q];rfl
 .rw [b q]
def ZR{g:En->En}(hl:∀e,(g e).line=e.line)(hs:∀e,(g e).st=e.st)(line:Int):Ca.pos {c with sl:=c.sl.map g} line=c.pos line:=by
 have:Ca.ny {c with sl:=c.sl.map g} line=c.ny line:=funext λ i=>GN hl hs line i;unfold pos;rw[this];rfl
def QK{g:En->En}{i:Nat}(a:i<c.sl.length):Ca.en {c with sl:=c.sl.map g} i=g (c.en i):=by
 unfold en;simp only[xj];rw[qt a];rfl
def R8(e:En):(back e).line=e.line:=by unfold back;split<;>rfl
def Sb(e:En):(back e).st=e.st:=by unfold back;split<;>rfl
def C0(e:En):(pQ e).line=e.line:=by unfold pQ;split<;>rfl
def Tp(e:En):(pQ e).st=e.st:=by unfold pQ;split<;>rfl
def QG{e:En}(h:e.st≠0):(back e).r=false/\(back e).w=false/\(back e).d=if e.w then e.o else e.d:=by unfold back;rw[qo h];exact⟨rfl,rfl,rfl⟩
def Ws{e:En}(h:e.st≠0):(pQ e).r=false/\(pQ e).w=false/\(pQ e).d=e.d:=by unfold pQ;rw[qo h];exact⟨rfl,rfl,rfl⟩
def plain(c:Ca):Prop:=∀i,i<c.sl.length->(c.en i).st≠0->(c.en i).r=false/\(c.en i).w=false
def CI.discard(h:CI lines c):CI lines c.discard:=by
 refine(h.map (g:=back) R8 Sb (λ e he q=>?_) c.us);rw[(QG he).2.1]at q;cases q
def CI.bw(h:CI lines c):CI lines c.bw:=by
 refine(h.map (g:=pQ) C0 Tp (λ e he q=>?_) c.us);rw[(Ws he).2.1]at q;cases q
def CI.FL(h:CI lines c):c.discard.plain:=λ i b a=>by
 have b:i<c.sl.length:=by have:c.discard.sl.length=c.sl.length:=xp _;omega
 have e:c.discard.en i=back (c.en i):=QK b;rw[e]at a⊢;rw[Sb]at a;exact⟨(QG a).1,(QG a).2.1⟩
def CI.GK(h:CI lines c):c.bw.plain:=λ i b a=>by
 have b:i<c.sl.length:=by have:c.bw.sl.length=c.sl.length:=xp _;omega
 have e:c.bw.en i=pQ (c.en i):=QK b;rw[e]at a⊢;rw[Tp]at a;exact⟨(Ws a).1,(Ws a).2.1⟩
def plain.set(h:c.plain){i:Nat}(f:i<c.sl.length){e:En}(hr:e.st≠0->e.r=false/\e.w=false)(us:Int):Ca.plain {c.set i e with us:=us}:=λ j b a=>by
 have b:j<c.sl.length:=by have:(c.sl.set i e).length=c.sl.length:=xg;have b:j<(c.sl.set i e).length:=b;omega
 have d:Ca.en {c.set i e with us:=us} j=(c.set i e).en j:=rfl;rw[d,zQ f]at a⊢
 by_cases q:i=j
 .rw [qr q]at a⊢;exact hr a
 .rw [qo q]at a⊢;exact h j b a
def SK{line:Int}{x:En}(h:c.find line=some x):∃i,c.pos line=some i/\x=c.en i:=by
 unfold find at h;rw[xl]at h;obtain⟨i,a,b⟩:=h;exact⟨i,a,b.symm⟩
def vM{line st:Int}{i:Nat}(h:c.kM line st=some i):c.pos line=some i/\(st≠0->(c.en i).st=st):=by
 unfold kM at h;cases hp:c.pos line with
 |none=>rw[hp]at h;cases h
 |some k =>
  rw[hp]at h;simp only at h;split at h
  .cases h
  .rename_i a;injection h with h;subst h
   exact⟨rfl,λ q=>GA.1 λ w=>a ⟨q,w⟩⟩
def rE{line:Int}:c.kM line 0=c.pos line:=by
 unfold kM;cases c.pos line with
 |none=>rfl
 |some k=>simp only;rw[qo (λ q=>q.1 rfl)]
def CI.use(h:CI lines c){i:Nat}(d:i<c.sl.length)(f:(c.en i).st≠0):CI lines (c.use i):=by
 obtain⟨a,-,-,-,b⟩:=h.ok i d f;exact(h.Es d (e:={c.en i with u:=c.us+1}) f rfl a b).us (c.us+1)
def CI.word(h:CI lines c)(a:Nat):CI lines (c.word a).1:=by
 unfold Ca.word;cases hp:c.pos ((a / 8:Nat):Int)with
 |none=>exact h
 |some i=>obtain⟨-,b,d,-⟩:=h.bt hp;exact h.use b d
def CI.put(h:CI lines c)(a:Nat)(y:Int):CI lines (c.put a y):=by
 unfold Ca.put;cases hp:c.kM ((a / 8:Nat):Int) 2 with
 |none=>exact h
 |some i =>
  obtain⟨q,-⟩:=vM hp;obtain⟨-,b,d,-⟩:=h.bt q;obtain⟨k,-,-,-,l⟩:=h.ok i b d;exact(h.Es b (e:={c.en i with u:=c.us+1,d:=(c.en i).d.put (a % 8) y}) d rfl k l).us (c.us+1)
def CI.mark(h:CI lines c)(line:Int)(wr:Bool):CI lines (c.mark line wr):=by
 unfold Ca.mark;cases wr with
 |true =>
  rw[qr rfl];cases hp:c.kM line 2 with
  |none=>exact h
  |some i =>
   obtain⟨q,s⟩:=vM hp;obtain⟨-,b,d,-⟩:=h.bt q;show CI lines (if(c.en i).w then c else c.set i {c.en i with w:=true,o:=(c.en i).d});split
   .exact h
   .exact h.Es b d rfl (.inr (s (by decide))) λ _=>s (by decide)
 |false =>
  rw[qo (by decide)];cases hp:c.kM line 0 with
  |none=>exact h
  |some i =>
   obtain⟨q,-⟩:=vM hp;obtain⟨-,b,d,-⟩:=h.bt q;obtain⟨k,-,-,-,l⟩:=h.ok i b d;exact h.Es b (e:={c.en i with r:=true}) d rfl k l
def CI.drop(h:CI lines c)(line:Int):CI lines (c.drop line).1:=by
 unfold Ca.drop;rw[rE];cases hp:c.pos line with
 |none=>exact h
 |some i=>obtain⟨-,b,-⟩:=h.bt hp;exact h.off b
def CI.cO(h:CI lines c)(line:Int)(hu:∀i,c.pos line=some i->(c.en i).w=false):CI lines (c.cO line).1:=by
 unfold Ca.cO;cases hp:c.kM line 2 with
 |none=>exact h
 |some i =>
  obtain⟨q,-⟩:=vM hp;obtain⟨-,b,d,-⟩:=h.bt q;have hw:=hu i q;exact h.Es b (e:={c.en i with st:=1}) d rfl (.inl rfl) λ w=>by rw[hw]at w;cases w
def CI.cH(h:CI lines c)(line:Int)(x:L8):CI lines (c.cH line x):=by
 unfold Ca.cH;cases hp:c.kM line 1 with
 |none=>exact h
 |some i =>
  obtain⟨q,-⟩:=vM hp;obtain⟨-,b,d,-⟩:=h.bt q;exact h.Es b (e:={c.en i with st:=2,d:=x}) d rfl (.inr rfl) λ _=>rfl
def QY{line:Int}:∀{n i:Nat},c.iz line n=some i->i<n/\(c.en (c.fr line+i)).r=false/\(c.en (c.fr line+i)).w=false
 |0,i,h=>by cases h
 |n+1,i,h=>by
  rw[iz]at h;split at h
  .obtain ⟨a,b⟩:=QY h;exact⟨by omega,b⟩
  .rename_i hm;have hm:(c.en (c.fr line+n)).r=false/\(c.en (c.fr line+n)).w=false:=by simpa using hm
   cases hb:c.iz line n with
   |none=>rw[hb]at h;injection h with h;subst h;exact⟨by omega,hm⟩
   |some j =>
    rw[hb]at h;simp only at h;obtain⟨a,b⟩:=QY hb;split at h<;>(injection h with h;subst h)
    .exact ⟨by omega,hm⟩
    .exact ⟨by omega,b⟩
def SL{line:Int}{i:Nat}(h:c.room line=some i):∃k,k<c.ways/\i=c.fr line+k/\((c.en i).st=0\/(c.en i).r=false/\(c.en i).w=false):=by
 unfold room at h;cases d:dq (c.free line) c.ways with
 |some k =>
  rw[d]at h;injection h with h;subst h
  obtain⟨a,b,-⟩:=Lf d;exact⟨k,a,rfl,.inl (by unfold free at b;simpa using b)⟩
 |none =>
  rw[d]at h;simp only[xl]at h;obtain⟨k,hk,rfl⟩:=h;obtain⟨a,b⟩:=QY hk;exact⟨k,a,rfl,.inr b⟩
def CI.fill(h:CI lines c){line st:Int}{x:L8}(d:0<=line)(f:line<lines)(hs:st=1\/st=2):CI lines (c.fill line st x).1:=by
 unfold Ca.fill;cases hp:c.pos line with
 |some _=>exact h
 |none =>
  show CI lines (match c.room line with|none=>(c,En.zero,(22:Int))|some i=>({c with us:=c.us+1,sl:=c.sl.set i ⟨line,st,false,false,x,.zero,c.us+1⟩},c.en i,0)).1;cases hr:c.room line with
  |none=>exact h
  |some i =>
   obtain⟨k,a,b,-⟩:=SL hr;exact(h.KO (e:=⟨line,st,false,false,x,.zero,c.us+1⟩) a b hp rfl d f hs rfl).us (c.us+1)
end
end Ca
end Go.Am
namespace Go.Am
namespace Ca
section
variable{lines:Int}{c:Ca}
def plain.word(h:c.plain)(f:CI lines c)(a:Nat):(c.word a).1.plain:=by
 unfold Ca.word;cases hp:c.pos ((a / 8:Nat):Int)with
 |none=>exact h
 |some i=>obtain⟨-,b,d,-⟩:=f.bt hp;exact h.set b (e:={c.en i with u:=c.us+1}) (λ _=>h i b d) (c.us+1)
def plain.put(h:c.plain)(f:CI lines c)(a:Nat)(y:Int):(c.put a y).plain:=by
 unfold Ca.put;cases hp:c.kM ((a / 8:Nat):Int) 2 with
 |none=>exact h
 |some i =>
  obtain⟨q,-⟩:=vM hp;obtain⟨-,b,d,-⟩:=f.bt q;exact h.set b (e:={c.en i with u:=c.us+1,d:=(c.en i).d.put (a % 8) y}) (λ _=>h i b d) (c.us+1)
def plain.drop(h:c.plain)(a:CI lines c)(line:Int):(c.drop line).1.plain:=by
 unfold Ca.drop;rw[rE];cases hp:c.pos line with
 |none=>exact h
 |some i=>obtain⟨-,b,-⟩:=a.bt hp;exact h.set b (e:=.zero) (λ q=>absurd rfl q) c.us
def plain.cO(h:c.plain)(a:CI lines c)(line:Int):(c.cO line).1.plain:=by
 unfold Ca.cO;cases hp:c.kM line 2 with
 |none=>exact h
 |some i =>
  obtain⟨q,-⟩:=vM hp;obtain⟨-,b,d,-⟩:=a.bt q;exact h.set b (e:={c.en i with st:=1}) (λ _=>h i b d) c.us
def plain.cH(h:c.plain)(a:CI lines c)(line:Int)(x:L8):(c.cH line x).plain:=by
 unfold Ca.cH;cases hp:c.kM line 1 with
 |none=>exact h
 |some i =>
  obtain⟨q,-⟩:=vM hp;obtain⟨-,b,d,-⟩:=a.bt q;exact h.set b (e:={c.en i with st:=2,d:=x}) (λ _=>h i b d) c.us
def plain.fill(h:c.plain)(d:CI lines c){line st:Int}{x:L8}:(c.fill line st x).1.plain:=by
 unfold Ca.fill;cases hp:c.pos line with
 |some _=>exact h
 |none =>
  show Ca.plain (match c.room line with|none=>(c,En.zero,(22:Int))|some i=>({c with us:=c.us+1,sl:=c.sl.set i ⟨line,st,false,false,x,.zero,c.us+1⟩},c.en i,0)).1;cases hr:c.room line with
  |none=>exact h
  |some i =>
   obtain⟨k,a,b,-⟩:=SL hr;exact h.set (by rw[b];exact d.lf line a) (e:=⟨line,st,false,false,x,.zero,c.us+1⟩) (λ _=>⟨rfl,rfl⟩) (c.us+1)
def Dh{line st:Int}{x:L8}:(c.fill line st x).2.2=21/\(c.fill line st x).1=c/\(c.fill line st x).2.1=.zero\/(c.fill line st x).2.2=22/\(c.fill line st x).1=c/\(c.fill line st x).2.1=.zero \/
 (c.fill line st x).2.2=0 /\ ∃i,c.room line=some i/\(c.fill line st x).2.1=c.en i:=by
 unfold Ca.fill;cases c.pos line with
 |some _=>exact .inl ⟨rfl,rfl,rfl⟩
 |none =>
  cases hr:c.room line with
  |none=>exact .inr (.inl ⟨rfl,rfl,rfl⟩)
  |some i=>exact .inr (.inr ⟨rfl,i,rfl,rfl⟩)
end
end Ca
open Ca
namespace No
structure NI(n:No):Prop where
 ci:CI n.lines n.c
 pl:n.live=false->n.c.plain
section
variable{n:No}
def NI.iG(h:n.NI)(k:Int):(n.iG k).NI:=⟨h.ci.discard,λ _=>h.ci.FL⟩
def NI.lost(h:n.NI)(x:En)(too:Bool):(n.lost x too).NI:=by
 unfold No.lost;split
 .split
  .exact h.iG 2
  .exact h.iG 1
 .exact h
def NI.ask(h:n.NI)(k line:Int):(n.ask k line).1.NI:=by
 unfold No.ask;split
 .exact h
 .exact ⟨h.ci,h.pl⟩
def NI.kW(h:n.NI){c:Ca}(a:CI n.lines c)(hp:n.live=false->c.plain):NI {n with c:=c}:=⟨a,hp⟩
def NI.gone(h:n.NI)(x:En):(n.gone x).1.NI:=by
 unfold No.gone;split
 .exact ⟨h.ci,h.pl⟩
 .exact h
def NI.dM(h:n.NI){m:Mg}{st:Int}(hs:st=1\/st=2)(a:0<=m.line)(b:m.line<n.lines):(n.dM m st).1.NI:=by
 have hb:NI {n with c:=(n.c.fill m.line st m.d).1}:=h.kW (h.ci.fill a b hs) λ w=>(h.pl w).fill h.ci;unfold No.dM;split
 .exact NI.gone (n:={n with c:=(n.c.fill m.line st m.d).1}) hb _
 .exact hb
def NI.fill(h:n.NI){m:Mg}(a:0<=m.line)(b:m.line<n.lines):(n.fill m).1.NI:=by
 have hs:(if m.k=15 then(2:Int)else 1)=1\/(if m.k=15 then(2:Int)else 1)=2:=by split<;>simp
 unfold No.fill No.lV;generalize(if m.k=15 then(2:Int)else 1)=st at hs;split
 .exact (h.iG 3).dM hs a b
 .exact h.dM hs a b
def NI.load(h:n.NI)(a:Int):(n.load a).1.NI:=by
 unfold No.load;split
 .cases b:n.c.find (ln a)with
  |none=>exact h.ask _ _
  |some x =>
   refine h.kW (CI.word ?_ _) λ q=>?_
   .split
    .exact h.ci.mark _ _
    .exact h.ci
   .rw [qo (by rw[q];decide)];exact(h.pl q).word h.ci _
 .exact h
def NI.store(h:n.NI)(a y:Int):(n.store a y).1.NI:=by
 unfold No.store;split
 .split
  .refine h.kW (CI.put ?_ _ _) λ q=>?_
   .split
    .exact h.ci.mark _ _
    .exact h.ci
   .rw [qo (by rw[q];decide)];exact(h.pl q).put h.ci _ _
  .exact h.ask _ _
 .exact h
def NI.lP(h:n.NI)(a o y:Int):(n.lP a o y).1.NI:=by
 unfold No.lP;split
 .split
  .exact h
  .split
   .simp only;split
    .exact h.kW ((h.ci.word _).put _ _) λ q=>((h.pl q).word h.ci _).put (h.ci.word _) _ _
    .exact h.kW (h.ci.word _) λ q=>(h.pl q).word h.ci _
   .exact h.ask _ _
 .exact h
def DA{x:En}{too:Bool}{i:Nat}(h:n.NI)(a:i<n.c.sl.length)(b:(n.c.en i).st≠0)(d:x=n.c.en i):((n.lost x too).c.en i).w=false:=by
 unfold No.lost;split
 .have e:(n.c.discard).en i=back (n.c.en i):=QK a;split<;>(show(n.c.discard.en i).w=false;rw[e];exact(QG b).2.1)
 .rename_i q;rw[wc]at q;cases hw:(n.c.en i).w with
  |false=>rfl
  |true=>exact(q (.inl (by rw[d];exact hw))).elim
def Cc(x:En)(too:Bool)(line:Int):(n.lost x too).c.pos line=n.c.pos line:=by
 unfold No.lost;split
 .split<;>exact ZR R8 Sb line
 .rfl
def NI.bQ(h:n.NI)(m:Mg):(n.bQ m).1.NI:=by
 unfold No.bQ;split
 .exact h
 rename_i hg;have g:0<=m.line:=by have:=not_or.1 (not_or.1 hg).2;omega
 have k:m.line<n.lines:=by have:=not_or.1 (not_or.1 (not_or.1 hg).2).2;omega
 have e:∀x too,NI {n.lost x too with c:=((n.lost x too).c.drop m.line).1}:=λ x too =>
  (h.lost x too).kW ((h.lost x too).ci.drop m.line) λ q=>((h.lost x too).pl q).drop (h.lost x too).ci m.line
 split
 .exact e _ _
 split
 .cases f:n.c.find m.line with
  |none=>exact h
  |some x =>
   simp only;split
   .refine (h.lost x false).kW ((h.lost x false).ci.cO m.line λ i d=>?_) λ q=>((h.lost x false).pl q).cO (h.lost x false).ci m.line;obtain⟨j,a,b⟩:=SK f;rw[Cc,a]at d;injection d with d;subst d
    obtain⟨-,hl,l,-⟩:=h.ci.bt a;exact DA h hl l b
   .exact e _ _
 split
 .exact ⟨h.ci,h.pl⟩
 .cases f:n.c.find m.line with
  |some x=>exact⟨h.ci.cH _ _,λ q=>(h.pl q).cH h.ci _ _⟩
  |none=>exact NI.fill (n:={n with out:=⟨0,0,0,.zero⟩}) ⟨h.ci,h.pl⟩ g k
def NI.cT(h:n.NI)(line:Int):(n.cT line).1.NI:=by
 unfold No.cT;split
 .exact h
 .cases a:n.c.find line with
  |none=>exact h
  |some x =>
   simp only;have hb:NI (if(x.r ||x.w)=true then n.iG 4 else n):=by
    split
    .exact h.iG 4
    .exact h
   generalize(if(x.r ||x.w)=true then n.iG 4 else n)=n1 at hb;exact NI.gone (n:={n1 with c:=(n1.c.drop line).1}) (hb.kW (hb.ci.drop line) λ q=>(hb.pl q).drop hb.ci line) _
def Nc(n:No)(n':No)(l:List Mg):Prop:=n.live=true -> ∀m∈l,m.k=3\/m.k=5 -> ∀i,i<n.c.sl.length->(n.c.en i).st≠0->(n.c.en i).line=m.line->(n.c.en i).w=true->m.d=(n.c.en i).o/\n'.live=false
def Nc.k{n n':No}{l:List Mg}(h:∀m∈l,m.k≠3/\m.k≠5):Nc n n' l:=λ _ m hm q=>by have:=h m hm;omega
def Kl{k:Int}{i:Nat}(a:i<n.c.sl.length):(n.iG k).c.en i=back (n.c.en i):=QK a
def S5{c:Ca}{line:Int}{i:Nat}(hp:c.pos line=some i):(c.drop line).2=c.en i:=by
 unfold Ca.drop;rw[rE,hp]
end
end No
end Go.Am
namespace Go.Am
namespace Ca
section
variable{lines:Int}{c:Ca}
structure D8(c c':Ca):Prop where
 fE:c'.fE=c.fE
 ways:c'.ways=c.ways
 len:c'.sl.length=c.sl.length
 st:∀i,(c'.en i).st=(c.en i).st
 line:∀i,(c'.en i).line=(c.en i).line
def D8.trans{a b d:Ca}(h:D8 a b)(e:D8 b d):D8 a d:=⟨e.fE.trans h.fE,e.ways.trans h.ways,e.len.trans h.len,λ i=>(e.st i).trans (h.st i),λ i=>(e.line i).trans (h.line i)⟩
def D8.set{c:Ca}{i:Nat}{e:En}(us:Int)(hl:e.line=(c.en i).line)(hs:e.st=(c.en i).st):D8 c {c.set i e with us:=us}:=by
 have he:∀j,Ca.en {c.set i e with us:=us} j=(c.set i e).en j:=λ j=>rfl;have hlen:(c.set i e).sl.length=c.sl.length:=xg;rcases xq i c.sl.length with a|a
 .refine ⟨rfl,rfl,hlen,λ j=>?_,λ j=>?_⟩<;>(rw[he,zQ a];by_cases q:i=j)
  .subst q;rw[qr rfl,hs]
  .rw [qo q]
  .subst q;rw[qr rfl,hl]
  .rw [qo q]
 .have:(c.set i e)=c:=by
   unfold Ca.set;rw[List.set_eq_of_length_le a]
  rw[this];exact⟨rfl,rfl,rfl,λ _=>rfl,λ _=>rfl⟩
def D8.pos{c a:Ca}(h:D8 c a)(line:Int):a.pos line=c.pos line:=by
 have b:∀line,a.fr line=c.fr line:=λ line=>by unfold fr;rw[h.fE,h.ways]
 have d:a.ny line=c.ny line:=funext λ i=>by unfold ny;rw[b,h.st,h.line]
 unfold Ca.pos;rw[d,h.ways,b]
end
end Ca
end Go.Am
namespace Go.Am
structure pD{α:Type}(enc:α->List AV)(e size:Nat)(H:ar)(v:AV)(xs:List α)(b i alt r:Nat):Prop where
 eq:v=.gslice b i (i+xs.length+r) size alt xs.length
 lt:b<H.au
 cells:∃P R,P.length=i*size/\R.length=r*size/\H.get b=some (.grown (i+xs.length+r) size (P++(xs.flatMap enc++R)) e (0,0))
def Sk{α:Type}(enc:α->List AV)(e size:Nat)(H:ar)(v:AV)(xs:List α):Prop:=(v=.nils/\xs=[]) \/ ∃b i alt r,pD enc e size H v xs b i alt r
section
variable{α:Type}{enc:α->List AV}{e size:Nat}{H H':ar}{v:AV}{xs ys:List α}{b i alt r:Nat}
def Sk.nil(H:ar):Sk enc e size H .nils ([]:List α):=.inl ⟨rfl,rfl⟩
def pD.fr{W:Nat->Prop}(h:pD enc e size H v xs b i alt r)(f:Fr W H H')(hw:¬W b):pD enc e size H' v xs b i alt r:=by
 obtain⟨P,R,a,c,d⟩:=h.cells;exact⟨h.eq,qj h.lt f.au,P,R,a,c,by rw[f.ah b h.lt hw];exact d⟩
def pD.on(h:pD enc e size H v xs b i alt r):aW v b:=⟨by rw[h.eq];simp,by rw[h.eq];rfl⟩
def pD.RJ(h:pD enc e size H v xs b i alt r){x:Nat}(a:aW v x):x=b:=by rw[a.2,h.eq];rfl
def Sk.fr{W:Nat->Prop}(h:Sk enc e size H v xs)(f:Fr W H H')(hw:∀x,aW v x -> ¬W x):Sk enc e size H' v xs:=by
 rcases h with q|⟨b,i,alt,r,h⟩
 .exact .inl q
 .exact .inr ⟨b,i,alt,r,h.fr f (hw b h.on)⟩
def Sk.em(h:Sk enc e size H v xs)(f:Fr Em H H'):Sk enc e size H' v xs:=h.fr f λ _ _ q=>q
def Sk.lt(h:Sk enc e size H v xs):∀x,aW v x->x<H.au:=by
 intro x a;rcases h with⟨rfl,-⟩|⟨b,i,alt,r,h⟩
 .exact (a.1 rfl).elim
 .rw [h.RJ a];exact h.lt
def yZ(hs:∀x,(enc x).length=size):∀(l:List α),(l.flatMap enc).length=l.length*size
 |[]=>by simp
 |a::l=>by rw[ju,qv,hs,yZ hs l,z6,yd];omega
def pD.sl(hs:∀x,(enc x).length=size)(h:pD enc e size H v xs b i alt r):dU enc size H v xs:=by
 obtain⟨P,R,a,c,d⟩:=h.cells;rw[h.eq];refine⟨yZ hs xs,rfl,rfl,by omega,.inr ⟨h.lt,_,UH d,?_⟩⟩;have hl:=yZ hs xs;rw[u4,qr (by simp only[qv];omega),<-a,List.drop_left,<-hl,List.take_left]
def Sk.sl(hs:∀x,(enc x).length=size)(h:Sk enc e size H v xs):dU enc size H v xs:=by
 rcases h with⟨rfl,rfl⟩|⟨b,i,alt,r,h⟩
 .exact ⟨by simp,rfl⟩
 .exact h.sl hs
def Sk.len(hs:∀x,(enc x).length=size)(h:Sk enc e size H v xs):Op.dc [v]=some (.int .i64 xs.length):=(h.sl hs).len
def pD.DK(hs:∀x,(enc x).length=size)(E:0<size)(h:pD enc e size H v xs b i alt r){x:AV}{k:Nat}{new:List AV}(hk:k<=r)(hl:k=ys.length)(hn:new=ys.flatMap enc)(q:eY x=some k)(p:firstCells H size k x=some new)(f:aJ new=true)(bytes:Nat) :
 ∃C H',Op.append e size bytes [v,x] H=some (C,H')/\pD enc e size H' C (xs++ys) b i alt (r-k)/\Fr (On b) H H':=by
 obtain⟨P,R,a,c,d⟩:=h.cells;have D:∀n,Nat.beq n n=true:=λ n=>by simp
 have hle:=y9 (show i+xs.length<=i+xs.length+r by omega);have y:=yZ hs xs;have z:=yZ hs ys;rw[h.eq];have hm:i+xs.length+r=i+(xs++ys).length+(r-k):=by rw[qv];omega
 by_cases g:k=0
 .subst g;have I:ys=[]:=jt.1 hl.symm;subst I;refine⟨.gslice b i (i+xs.length+r) size alt xs.length,H,?_,?_,Fr.refl H⟩
  .simp only[Op.append,q,p,qm,f,xm,cV,Nat.beq,hle]
  .rw [ze,HA,<-h.eq];exact h
 .have s:Nat.beq k 0=false:=by cases B:Nat.beq k 0 with|false=>rfl|true=>rw[jh]at B;exact absurd B g
  have t:Nat.blt 0 size=true:=Ei E;have j:=y9 (show i+xs.length+k<=i+xs.length+r by omega);have o:new.length=k*size:=by rw[hn,z,hl]
  have hmul:k*size<=r*size:=jv _ hk;have u:H.store b ((i+xs.length)*size) new=some (H.set b (.grown (i+xs.length+r) size (P++((xs++ys).flatMap enc++R.drop (k*size))) e (0,0))):=by
   have G:dY (0,0) ((i+xs.length)*size) (cQ new)=true:=by simp[dY]
   have A:(i+xs.length)*size=(P++xs.flatMap enc).length:=by rw[qv,a,y,yd]
   have F:(P++(xs.flatMap enc++R)).take ((i+xs.length)*size)++new++(P++(xs.flatMap enc++R)).drop ((i+xs.length)*size+new.length)=P++((xs++ys).flatMap enc++R.drop (k*size)):=by
    rw[A,<-zm P,List.take_left,wv,o,je (by omega),zw,show(P++xs.flatMap enc).length+k*size-(P++xs.flatMap enc).length=k*size by omega,kq,hn];simp only[zm]
   simp only[ar.store,f,xm,d,G,Ep];rw[qr (by rw[o,A];simp only[qv];omega),qm,F]
  refine⟨.gslice b i (i+xs.length+r) size alt (xs.length+k),H.set b (.grown (i+xs.length+r) size (P++((xs++ys).flatMap enc++R.drop (k*size))) e (0,0)),?_,⟨?_,?_,P,R.drop (k*size),a,?_,?_⟩,(Fr.refl H).set (W:=On b) (.inl rfl) _⟩
  .simp only[Op.append,q,p,qm,f,xm,cV,s,zj,D,hle,t,jk,j,u]
  .rw [<-hm,qv,hl]
  .exact h.lt
  .rw [kr,c,Nat.sub_mul]
  .rw [<-hm];exact xc ..
def Sk.app(hs:∀x,(enc x).length=size)(L:0<size)(h:Sk enc e size H v xs){x:AV}{k:Nat}{new:List AV}(hl:k=ys.length)(hn:new=ys.flatMap enc)(o:eY x=some k)(j:firstCells H size k x=some new)(f:aJ new=true){bytes:Nat}
 (S:(xs.length+k)*bytes<=140737488355328) (G:xs.length+k<=140737488355328) :
 ∃D H',Op.append e size bytes [v,x] H=some (D,H')/\Sk enc e size H' D (xs++ys)/\Fr (aW v) H H' /\ ∀z,aW D z->aW v z\/H.au<=z:=by
 have K:∀n,Nat.beq n n=true:=λ n=>by simp
 have g:=Q9 S G;have t:Nat.blt 0 size=true:=Ei L;have W:=yZ hs ys
 by_cases y:k=0
 .subst y;have U:ys=[]:=jt.1 hl.symm;subst U;refine⟨v,H,?_,by rw[ze];exact h,Fr.refl H,λ z q=>.inl q⟩;rcases h with⟨rfl,rfl⟩|⟨b,i,alt,r,h⟩
  .simp only[Op.append,o,j,qm,f,xm,cV,Nat.beq]
  .rw [h.eq];have hle:=y9 (show i+xs.length<=i+xs.length+r by omega);simp only[Op.append,o,j,qm,f,xm,cV,Nat.beq,hle]
 .have p:Nat.beq k 0=false:=by cases u:Nat.beq k 0 with|false=>rfl|true=>rw[jh]at u;exact absurd u y
  rcases h with⟨rfl,rfl⟩|⟨b,i,alt,r,h⟩
  .have g:fits k bytes=true:=by simpa using g
   refine⟨.gslice H.au 0 k size 0 k,H.alloc (.grown k size new e (0,0)),?_,.inr ⟨H.au,0,0,0,?_,?_,[],[],?_,?_,?_⟩,(Fr.refl H).alloc _,λ z q=>.inr ?_⟩
   .simp only[Op.append,o,j,qm,f,xm,cV,p,zj,g,t,jk,dk]
   .rw [zw,hl,jy,vf]
   .rw [xx];omega
   .simp
   .simp
   .rw [xf,zw,zw,ze,hn,hl,jy,vf]
   .rw [q.2];exact qg _
  .by_cases hr:k<=r
   .obtain ⟨D,H',O,M,E⟩:=h.DK hs L hr hl hn o j f bytes;exact⟨D,H',O,.inr ⟨_,_,_,_,M⟩,E.mono λ z hz(q:z=b)=>by rw[q];exact h.on,λ z q=>.inl (by rw[M.RJ q];exact h.on)⟩
   .obtain ⟨P,R,a,c,d⟩:=h.cells;have I:=yZ hs xs;have B:=h.on;rw[h.eq]at B⊢;have hle:=y9 (show i+xs.length<=i+xs.length+r by omega);have E:Nat.ble (i+xs.length+k) (i+xs.length+r)=false:=by cases u:Nat.ble (i+xs.length+k) (i+xs.length+r)with|false=>rfl|true=>rw[ww]at u;omega
    have C:=y9 (xy ((i+xs.length+r)*size));have J:=y9 (xy (i*size));have A:Fr (aW (.gslice b i (i+xs.length+r) size alt xs.length)) H (H.kill b):=Fr.kill (Fr.refl H) (.inl B);have fin:∀cs,cs=xs.flatMap enc->Sk enc e size ((H.kill b).alloc (.grown (xs.length+k) size (cs++new) e (0,0))) (.gslice (H.kill b).au 0 (xs.length+k) size 0 (xs.length+k)) (xs++ys):=λ cs F=>by
     refine .inr ⟨H.au,0,0,0,?_,?_,[],[],?_,?_,?_⟩
     .rw [FK,qv,hl,jy,vf]
     .rw [xx,FK];omega
     .simp
     .simp
     .have:=xf (H.kill b) (.grown (xs.length+k) size (cs++new) e (0,0));rw[FK]at this;rw[this,zw,ze,kq,F,hn,qv,hl,jy,vf]
    by_cases hw:i=0/\r=0
    .obtain ⟨rfl,rfl⟩:=hw;have Q:P=[]:=jt.1 (by simpa using a);have hR:R=[]:=jt.1 (by simpa using c);subst Q hR;have s:Nat.beq xs.length (0+xs.length+0)=true:=by simp
     refine⟨_,_,?_,fin (xs.flatMap enc) rfl,A.alloc _,λ z q=>.inr (by rw[q.2];exact qg _)⟩;simp only[Op.append,o,j,qm,f,xm,cV,p,zj,K,hle,t,jk,E,g,d,C,s,dk,Nat.beq,oJ,zw,ze]
    .have s:(Nat.beq i 0 && Nat.beq xs.length (i+xs.length+r))=false:=by
      cases u:(Nat.beq i 0 && Nat.beq xs.length (i+xs.length+r))with
      |false=>rfl
      |true =>
       rw[xt,jh,jh]at u;exact absurd ⟨u.1,by omega⟩ hw
     have T:fG (P++(xs.flatMap enc++R)) (i*size) (xs.length*size)=some (xs.flatMap enc):=by
      rw[u4,qr (by simp only[qv];omega),<-a,List.drop_left,<-I,List.take_left]
     refine⟨_,_,?_,fin (xs.flatMap enc) rfl,A.alloc _,λ z q=>.inr (by rw[q.2];exact qg _)⟩;simp only[Op.append,o,j,qm,f,xm,cV,p,zj,K,hle,t,jk,E,g,d,C,s,Bool.false_and,J,T,dk,Nat.beq,oJ]
def pD.off(h:pD enc e size H v xs b i alt r)(hs:∀x,(enc x).length=size){k:Nat}(hk:k<=xs.length)(kk:IntKind):∃j f,Op.aL size [some 0,none,none] [v,.int kk (k:Int)]=some j/\pD enc e size H j (xs.drop k) b (i+k) f r/\(f=cond (Nat.beq k 0) alt (i*size)):=by
 obtain⟨P,R,a,c,d⟩:=h.cells;have o:∀n,Nat.beq n n=true:=λ n=>by simp
 have g:∀d m,bound none d m=some d:=λ _ _=>rfl;have hlen:i+k+(xs.drop k).length+r=i+xs.length+r:=by rw[kr];omega
 rw[h.eq];refine⟨.gslice b (i+k) (i+xs.length+r) size (cond (Nat.beq k 0) alt (i*size)) (xs.length-k),_,?_,⟨?_,h.lt,P++(xs.take k).flatMap enc,R,?_,c,?_⟩,rfl⟩
 .simp only[Op.aL,arg,lR,jm,qm,eN,g,wA (z:=(k:Int)) (k:=k) rfl hk kk,o,y9 (show xs.length<=i+xs.length+r-i by omega),y9 (show i<=i+xs.length+r by omega),jk,xm]
 .rw [hlen,kr]
 .rw [qv,a,yZ hs,j6,Nat.min_eq_left hk,yd]
 .rw [hlen,d];congr 2;rw[zm,<-zm (List.flatMap enc (List.take k xs)),<-kq,ve]
def pD.upto(h:pD enc e size H v xs b i alt r)(hs:∀x,(enc x).length=size){k:Nat}(hk:k<=xs.length)(kk:IntKind):∃j,Op.aL size [none,some 0,none] [v,.int kk (k:Int)]=some j/\pD enc e size H j (xs.take k) b i alt (r+(xs.length-k)):=by
 obtain⟨P,R,a,c,d⟩:=h.cells;have o:∀n,Nat.beq n n=true:=λ n=>by simp
 have g:∀d m,bound none d m=some d:=λ _ _=>rfl;have f:(xs.take k).length=k:=by rw[j6];omega
 have hlen:i+(xs.take k).length+(r+(xs.length-k))=i+xs.length+r:=by rw[f];omega
 rw[h.eq];refine⟨.gslice b (i+0) (i+xs.length+r) size (cond (Nat.beq 0 0) alt (i*size)) (k-0),?_,⟨?_,h.lt,P,(xs.drop k).flatMap enc++R,a,?_,?_⟩⟩
 .simp only[Op.aL,arg,lR,jm,qm,eN,g,wA (z:=(k:Int)) (k:=k) rfl (show k<=i+xs.length+r-i by omega) kk,o,y9 (show k<=i+xs.length+r-i by omega),y9 (show i<=i+xs.length+r by omega),jk,xm]
 .rw [hlen,f];rfl
 .rw [qv,yZ hs,kr,c,<-yd];congr 1;omega
 .rw [hlen,d,<-zm (List.flatMap enc (List.take k xs)),<-kq,ve]
def pD.WH(h:pD enc e size H v xs b i alt (r+1))(hs:∀x,(enc x).length=size)(F:0<size){zero:List AV}(g:zero.length=size)(s:aJ zero=true)(kk:IntKind) :
 ∃A H',Op.aL size [some 0,some 1,none] [v,.int kk (xs.length:Int),.int kk ((xs.length+1:Nat):Int)]=some A/\Op.bS zero [A] H=some (.tuple [],H')/\pD enc e size H' v xs b i alt (r+1)/\Fr (On b) H H':=by
 obtain⟨P,R,a,c,d⟩:=h.cells;have u:∀n,Nat.beq n n=true:=λ n=>by simp
 have q:=yZ hs xs;have he:=h.eq;refine⟨.gslice b (i+xs.length) (i+xs.length+(r+1)) size (cond (Nat.beq xs.length 0) alt (i*size)) (xs.length+1-xs.length),H.set b (.grown (i+xs.length+(r+1)) size (P++(xs.flatMap enc++(zero++R.drop size))) e (0,0)),?_,?_,⟨h.eq,h.lt,P,zero++R.drop size,a,?_,xc ..⟩,(Fr.refl H).set (W:=On b) (.inl rfl) _⟩
 .rw [he];simp only[Op.aL,arg,lR,jm,zq,qm,eN,wA (z:=((xs.length+1:Nat):Int)) (k:=xs.length+1) rfl (show xs.length+1<=i+xs.length+(r+1)-i by omega) kk,wA (z:=(xs.length:Int)) (k:=xs.length) rfl (show xs.length<=xs.length+1 by omega) kk,u,y9 (show xs.length+1<=i+xs.length+(r+1)-i by omega),y9 (show i<=i+xs.length+(r+1)by omega),jk,xm]
 .rw [show xs.length+1-xs.length=1 by omega];have o:Nat.blt 0 1=true:=rfl;have f:Nat.blt (i+xs.length+0) (i+xs.length+(r+1))=true:=Ei (by omega);have y:(i+xs.length)*size+0*size=(P++xs.flatMap enc).length:=by rw[qv,a,q,yd,wh,vf]
  have D:R.length=r*size+size:=by rw[c,yd,Nat.one_mul]
  have C:(P++(xs.flatMap enc++R)).take ((i+xs.length)*size+0*size)++fq 1 zero++(P++(xs.flatMap enc++R)).drop ((i+xs.length)*size+0*size+(fq 1 zero).length)=P++(xs.flatMap enc++(zero++R.drop size)):=by
   have hr:fq 1 zero=zero:=by simp[fq,oJ]
   rw[y,<-zm P,List.take_left,wv,hr,g,je (by omega),zw,show(P++xs.flatMap enc).length+size-(P++xs.flatMap enc).length=size by omega];simp only[zm]
  have hr:fq 1 zero=zero:=by simp[fq,oJ]
  have E:dY (0,0) ((i+xs.length)*size+0*size) (cQ (fq 1 zero))=true:=by simp[dY]
  have p:H.store b ((i+xs.length)*size+0*size) (fq 1 zero)=some (H.set b (.grown (i+xs.length+(r+1)) size (P++(xs.flatMap enc++(zero++R.drop size))) e (0,0))):=by
   have B:aJ (fq 1 zero)=true:=by rw[hr];exact s
   simp only[ar.store,B,xm,d,E,Ep];rw[qr (by rw[hr,g,y];simp only[qv];omega),qm,C]
  have j:Nat.beq 1 0=false:=rfl;have t:zero.length=size:=g;simp only[Op.bS,eY,qm,j,zj,t,elemAt,o,u,f,jk,xm,p]
 .rw [qv,g,kr,c,yd,Nat.one_mul];omega
def pD.del(h:pD enc e size H v xs b i alt r)(hs:∀x,(enc x).length=size)(J:∀x,aJ (enc x)=true)(u:0<size){n:Nat}(hn:n<xs.length){zero:List AV}(L:zero.length=size)(p:aJ zero=true)(bytes:Nat) :
 ∃v0 v1 v2 c H1 v4 d,Op.aL size [some 0,some 1,some 2] [v,.int .i64 (n:Int),.int .i64 ((n+1:Nat):Int),.int .i64 (xs.length:Int)]=some v0/\Op.aL size [none,some 0,none] [v,.int .i64 (n:Int)]=some v1/\Op.aL size [some 0,none,none] [v,.int .i64 ((n+1:Nat):Int)]=some v2 /\
  Op.append e size bytes [v1,v2] H=some (c,H1)/\Op.dc [c]=some (.int .i64 ((xs.length-1:Nat):Int))/\Op.aL size [some 0,some 1,none] [c,.int .i64 ((xs.length-1:Nat):Int),.int .i64 (xs.length:Int)]=some v4/\Op.bS zero [v4] H1=some (.tuple [],d) /\
  pD enc e size d c (xs.eraseIdx n) b i alt (r+1)/\Fr (On b) H d:=by
 obtain⟨v1,y,D⟩:=h.upto hs (k:=n) (by omega) .i64;obtain⟨v2,t,A,E,-⟩:=h.off hs (k:=n+1) (by omega) .i64;have s2:=E.sl hs;have f:∀l:List α,aJ (l.flatMap enc)=true:=λ l=>by
  rw[yj,List.all_flatMap,wq];intro x _;have:=J x;rw[yj]at this;exact this
 obtain⟨c,H1,B,j,G⟩:=D.DK hs u (ys:=xs.drop (n+1)) (x:=v2) (k:=(xs.drop (n+1)).length) (by rw[kr];omega) rfl rfl (Sl.eY s2) (Sl.first s2) (f _) bytes;have a:r+(xs.length-n)-(xs.drop (n+1)).length=r+1:=by rw[kr];omega
 rw[a,<-List.eraseIdx_eq_take_drop_succ]at j;have hlen:(xs.eraseIdx n).length=xs.length-1:=by rw[List.length_eraseIdx,qr hn]
 obtain⟨v4,d,g,C,b5,I⟩:=j.WH hs u L p .i64;have s:=(j.sl hs).len;rw[hlen]at g s;rw[show xs.length-1+1=xs.length by omega]at g;obtain⟨v0,a0⟩:∃v0,Op.aL size [some 0,some 1,some 2] [v,.int .i64 (n:Int),.int .i64 ((n+1:Nat):Int),.int .i64 (xs.length:Int)]=some v0:=by
  have F:∀n,Nat.beq n n=true:=λ n=>by simp
  have o:Nat.beq xs.length n=false:=by cases K:Nat.beq xs.length n with|false=>rfl|true=>rw[jh]at K;omega
  rw[h.eq];refine⟨.slice b ((i+n)*size) (n+1-n) (xs.length-n),?_⟩;simp only[Op.aL,arg,lR,jm,zq,qm,eN,wA (z:=(xs.length:Int)) (k:=xs.length) rfl (show xs.length<=i+xs.length+r-i by omega) .i64,wA (z:=((n+1:Nat):Int)) (k:=n+1) rfl (show n+1<=xs.length by omega) .i64,wA (z:=(n:Int)) (k:=n) rfl (show n<=n+1 by omega) .i64,F,o,y9 (show i<=i+xs.length+r by omega),jk,xm,zj]
 exact⟨v0,v1,v2,c,H1,v4,d,a0,y,A,B,s,g,C,b5,G.trans I λ _ q=>.inl q⟩
end
end Go.Am
namespace Go.Am
structure De where
 ow:Int
 sh:Nat
 un:Mg
 ph:Int
 ask:Nat
 wt:List Mg
def hb(s:Nat)(c:Int):Nat:=s / 2 ^ c.toNat % 2
def pS(s:Nat)(c:Int):Nat:=if hb s c=1 then s else s+2 ^ c.toNat
def cF(s:Nat)(c:Int):Nat:=if hb s c=1 then s-2 ^ c.toNat else s
def uP(s:Nat):List Int:=([0,1,2,3]:List Int).filter λ c=>hb s c == 1
def Il(s:Nat)(c:Int):hb s c<=1:=by unfold hb;omega
def xja(c:Int):hb 0 c=0:=by unfold hb;simp
def four{c:Int}(a:0<=c)(d:c<4):c=0\/c=1\/c=2\/c=3:=by omega
def Nv{s:Nat}(hs:s<16){c d:Int}(a:0<=c)(f:c<4)(d0:0<=d)(d1:d<4):pS s c<16/\hb (pS s c) d=if d=c then 1 else hb s d:=by
 rcases four a f with rfl|rfl|rfl|rfl<;>rcases four d0 d1 with rfl|rfl|rfl|rfl<;>(revert s;decide)
def LJ{s:Nat}(hs:s<16){c d:Int}(a:0<=c)(f:c<4)(d0:0<=d)(d1:d<4):cF s c<16/\hb (cF s c) d=if d=c then 0 else hb s d:=by
 rcases four a f with rfl|rfl|rfl|rfl<;>rcases four d0 d1 with rfl|rfl|rfl|rfl<;>(revert s;decide)
def JM{c d:Int}(a:0<=c)(f:c<4)(d0:0<=d)(d1:d<4):2 ^ c.toNat<16/\hb (2 ^ c.toNat) d=if d=c then 1 else 0:=by
 rcases four a f with rfl|rfl|rfl|rfl<;>rcases four d0 d1 with rfl|rfl|rfl|rfl<;>decide
def D2{s:Nat}{c:Int}:c∈uP s↔0<=c/\c<4/\hb s c=1:=by
 unfold uP;simp only[List.mem_filter,jf,P1,or_false,EO];constructor
 .rintro ⟨a,b⟩;exact⟨by omega,by omega,b⟩
 .rintro ⟨a,b,c⟩;exact⟨by omega,c⟩
namespace De
def own(x:De)(m:Mg):Prop:=∃w∈x.wt,w.core=m.core
instance(x:De)(m:Mg):Decidable (x.own m):=inferInstanceAs (Decidable (∃w∈x.wt,_))
def may(x:De)(m:Mg):Prop :=
 if m.k=1\/m.k=2 then¬(x.ph≠0/\x.ph≠4/\x.un.core=m.core)/\(x.ow≠m.core\/x.ph=2) /\ ¬x.own m
 else if m.k=4 then x.ph=1/\hb x.ask m.core=1
 else if m.k=5 then x.ph=2/\x.ow=m.core
 else if m.k=6 then x.ph=2/\hb x.ask m.core=1
 else if m.k=3 then x.ow=m.core
 else m.k=7/\x.ph=4/\x.un.core=m.core
instance(x:De)(m:Mg):Decidable (x.may m):=by unfold may;infer_instance
def dO(x:De)(w:L8):De×Mg :=
 if x.un.k=1 then({x with ph:=4,ask:=0,sh:=pS x.sh x.un.core},⟨14,x.un.core,x.un.line,w⟩)
 else({x with ph:=4,ask:=0,ow:=x.un.core,sh:=0},⟨15,x.un.core,x.un.line,w⟩)
def begin(x:De)(m:Mg)(w:L8):De×List Mg :=
 if 0<=x.ow then({x with un:=m,ph:=2,ask:=2 ^ x.ow.toNat},[⟨if m.k=2 then 13 else 12,x.ow,m.line,.zero⟩])
 else if m.k=1\/cF x.sh m.core=0 then((dO {x with un:=m,ask:=cF x.sh m.core} w).1,[(dO {x with un:=m,ask:=cF x.sh m.core} w).2])
 else({x with un:=m,ask:=cF x.sh m.core,ph:=1},(uP (cF x.sh m.core)).map λ c=>⟨11,c,m.line,.zero⟩)
def tQ(x:De)(w:L8)(q:Prop)[Decidable q](o:List Mg):De×L8×List Mg :=
 if q then((x.dO w).1,w,o ++ [(x.dO w).2])else(x,w,o)
def bQ(x:De)(w:L8)(m:Mg):De×L8×List Mg :=
 if¬x.may m then(x,w,[])
 else if m.k=1\/m.k=2 then if x.ph≠0 then({x with wt:=x.wt ++ [{m with d:=.zero}]},w,[])else((x.begin {m with d:=.zero} w).1,w,(x.begin {m with d:=.zero} w).2)
 else if m.k=4 then tQ {x with sh:=cF x.sh m.core,ask:=cF x.ask m.core} w (cF x.ask m.core=0) []
 else if m.k=5 then tQ {x with ow:=-1,sh:=if x.un.k=1 then pS x.sh m.core else x.sh} m.d True []
 else if m.k=6 then tQ {x with ph:=3} w (x.ow<0) []
 else if m.k=3 then tQ {x with ow:=-1} m.d (x.ph=3) [⟨16,m.core,m.line,.zero⟩]
 else match x.wt with
  |[]=>({x with ph:=0,un:=⟨0,0,0,.zero⟩},w,[])
  |n::r=>((begin {x with ph:=0,un:=⟨0,0,0,.zero⟩,wt:=r} n w).1,w,(begin {x with ph:=0,un:=⟨0,0,0,.zero⟩,wt:=r} n w).2)
end De
end Go.Am
namespace Go.Am
open Ca
structure Bu where
 m:List L8
 l:List De
 ns:List No
 fl:List Mg
structure XP(x:De)(N l:Int):Prop where
 N4:N<=4
 ow:-1<=x.ow/\x.ow<N
 sb:x.sh<16
 ab:x.ask<16
 xQ:∀c,0<=c->c<4->hb x.sh c=1->c<N
 wt:∀w∈x.wt,(w.k=1\/w.k=2)/\0<=w.core/\w.core<N/\w.line=l
def MR(m:Mg)(N l:Int):Prop:=(m.k=1\/m.k=2)/\0<=m.core/\m.core<N/\m.line=l
structure XI(x:De)(N l:Int):Prop extends XP x N l where
 un:x.ph≠0->(x.un.k=1\/x.un.k=2)/\0<=x.un.core/\x.un.core<N/\x.un.line=l
structure OW(o:Mg)(N l:Int):Prop where
 k:11<=o.k/\o.k<=16
 c:0<=o.core/\o.core<N
 l:o.line=l
section
variable{x:De}{m:Mg}{w:L8}{N l:Int}
def ZW(h:XP x N l)(hu:MR x.un N l):XI (x.dO w).1 N l/\OW (x.dO w).2 N l:=by
 obtain⟨hk,a,d,ul⟩:=hu;have g:=h.N4;unfold De.dO;split
 .refine ⟨⟨⟨h.N4,h.ow,(Nv h.sb a (by omega) (ya 0) (by decide)).1,Nat.zero_lt_succ _,λ c f c4 q=>?_,h.wt⟩,λ _=>⟨hk,a,d,ul⟩⟩,⟨by show(11:Int)<=14/\(14:Int)<=16;decide,⟨a,d⟩,ul⟩⟩;have q:hb (pS x.sh x.un.core) c=1:=q;rw[(Nv h.sb a (by omega) f c4).2]at q;split at q
  .omega
  .exact h.xQ c f c4 q
 .exact ⟨⟨⟨h.N4,⟨by show -1<=x.un.core;omega,d⟩,Nat.zero_lt_succ _,Nat.zero_lt_succ _,λ c f c4 q=>(by have q:hb 0 c=1:=q;rw[xja]at q;cases q),h.wt⟩,λ _=>⟨hk,a,d,ul⟩⟩,⟨by show(11:Int)<=15/\(15:Int)<=16;decide,⟨a,d⟩,ul⟩⟩
def W2(h:XP x N l)(hm:MR m N l):XI (x.begin m w).1 N l /\ ∀o∈(x.begin m w).2,OW o N l:=by
 obtain⟨hk,f,g,ul⟩:=hm;have p:=h.N4;have ow:=h.ow;have ds:cF x.sh m.core<16:=(LJ h.sb f (by omega) (ya 0) (by decide)).1;unfold De.begin;split
 .rename_i q;refine⟨⟨⟨h.N4,h.ow,h.sb,(JM q (by omega) (ya 0) (by decide)).1,h.xQ,h.wt⟩,λ _=>⟨hk,f,g,ul⟩⟩,λ o ho=>?_⟩;rw[ja.1 ho];exact⟨by show 11<=(if m.k=2 then(13:Int)else 12)/\(if m.k=2 then(13:Int)else 12)<=16;split<;>decide,⟨q,h.ow.2⟩,ul⟩
 .split
  .obtain ⟨a,b⟩:=ZW (x:={x with un:=m,ask:=cF x.sh m.core}) (w:=w) ⟨h.N4,h.ow,h.sb,ds,h.xQ,h.wt⟩ ⟨hk,f,g,ul⟩;exact⟨a,λ o ho=>by rw[ja.1 ho];exact b⟩
  .refine ⟨⟨⟨h.N4,h.ow,h.sb,ds,h.xQ,h.wt⟩,λ _=>⟨hk,f,g,ul⟩⟩,λ o ho=>?_⟩;obtain⟨d,c,rfl⟩:=FE.1 ho;obtain⟨d0,j,c⟩:=D2.1 c;refine⟨by show(11:Int)<=11/\(11:Int)<=16;decide,⟨d0,h.xQ d d0 j ?_⟩,ul⟩;rw[(LJ h.sb f (by omega) d0 j).2]at c;split at c
   .cases c
   .exact c
def R3{q:Prop}[Decidable q]{r:List Mg}(h:XI x N l)(hu:q->x.ph≠0)(hr:∀o∈r,OW o N l):XI (x.tQ w q r).1 N l /\ ∀o∈(x.tQ w q r).2.2,OW o N l:=by
 unfold De.tQ;split
 .rename_i p;obtain⟨a,b⟩:=ZW (w:=w) h.toXP (h.un (hu p));exact⟨a,λ o ho=>(zt.1 ho).elim (hr o) λ ho=>by rw[ja.1 ho];exact b⟩
 .exact ⟨h,hr⟩
def F0(h:XI x N l)(a:0<=m.core/\m.core<N)(hl:m.line=l):XI (x.bQ w m).1 N l /\ ∀o∈(x.bQ w m).2.2,OW o N l:=by
 have z:=h.N4;have no:∀o∈([]:List Mg),OW o N l:=λ _ q=>by cases q
 have dl:∀{s:Nat},s<16->cF s m.core<16:=λ hs=>(LJ hs a.1 (by omega) (ya 0) (by decide)).1;have u:∀c,0<=c->c<4->hb (cF x.sh m.core) c=1->c<N:=λ c f c4 q=>by
  rw[(LJ h.sb a.1 (by omega) f c4).2]at q;split at q
  .cases q
  .exact h.xQ c f c4 q
 unfold De.bQ;split
 .exact ⟨h,no⟩
 rename_i hm;have hm:x.may m:=GA.1 hm;unfold De.may at hm;split
 .rename_i hk;split
  .exact ⟨⟨⟨h.N4,h.ow,h.sb,h.ab,h.xQ,λ v g=>(zt.1 g).elim (h.wt v) λ g=>by rw[ja.1 g];exact⟨hk,a.1,a.2,hl⟩⟩,h.un⟩,no⟩
  .exact W2 (m:={m with d:=.zero}) h.toXP ⟨hk,a.1,a.2,hl⟩
 rename_i y;rw[qo y]at hm;split
 .rename_i j;rw[qr j]at hm;exact R3 (x:={x with sh:=cF x.sh m.core,ask:=cF x.ask m.core}) ⟨⟨h.N4,h.ow,dl h.sb,dl h.ab,u,h.wt⟩,h.un⟩ (λ _=>by show x.ph≠0;omega) no
 rename_i j;rw[qo j]at hm;split
 .rename_i p;rw[qr p]at hm;refine R3 (x:={x with ow:=-1,sh:=if x.un.k=1 then pS x.sh m.core else x.sh}) ⟨⟨h.N4,⟨ya _,by show(-1:Int)<N;omega⟩,?_,h.ab,λ c f c4 q=>?_,h.wt⟩,h.un⟩ (λ _=>by show x.ph≠0;omega) no
  .show (if x.un.k=1 then pS x.sh m.core else x.sh)<16;split
   .exact (Nv h.sb a.1 (by omega) (ya 0) (by decide)).1
   .exact h.sb
  .have q:hb (if x.un.k=1 then pS x.sh m.core else x.sh) c=1:=q;split at q
   .rw [(Nv h.sb a.1 (by omega) f c4).2]at q;split at q
    .omega
    .exact h.xQ c f c4 q
   .exact h.xQ c f c4 q
 rename_i p;rw[qo p]at hm;split
 .rename_i t;rw[qr t]at hm;exact R3 (x:={x with ph:=3}) ⟨⟨h.N4,h.ow,h.sb,h.ab,h.xQ,h.wt⟩,λ _=>h.un (by omega)⟩ (λ _=>by show(3:Int)≠0;decide) no
 rename_i t;rw[qo t]at hm;split
 .refine R3 (x:={x with ow:=-1}) ⟨⟨h.N4,⟨ya _,by show(-1:Int)<N;omega⟩,h.sb,h.ab,h.xQ,h.wt⟩,h.un⟩ (λ q=>by have q:x.ph=3:=q;show x.ph≠0;omega) λ o q=>?_;rw[ja.1 q];exact⟨by show(11:Int)<=16/\(16:Int)<=16;decide,a,hl⟩
 split
 .exact ⟨⟨⟨h.N4,h.ow,h.sb,h.ab,h.xQ,h.wt⟩,λ q=>(q rfl).elim⟩,no⟩
 .rename_i n r hw;exact W2 (x:={x with ph:=0,un:=⟨0,0,0,.zero⟩,wt:=r}) ⟨h.N4,h.ow,h.sb,h.ab,h.xQ,λ v g=>h.wt v (by rw[hw];simp[g])⟩ (h.wt n (by rw[hw];simp))
end
structure MW(m:Mg)(N L:Int):Prop where
 k:1<=m.k/\m.k<=7\/11<=m.k/\m.k<=16
 c:0<=m.core/\m.core<N
 l:0<=m.line/\m.line<L
structure NW(n:No)(c L:Int):Prop where
 ni:n.NI
 core:n.core=c
 lines:n.lines=L
structure Mo(n:No)(r:No×List Mg):Prop where
 core:r.1.core=n.core
 lines:r.1.lines=n.lines
 o:∀m∈r.2,(1<=m.k/\m.k<=7)/\m.core=n.core/\0<=m.line/\m.line<n.lines
def Mo.cl{n n2:No}{r:No×List Mg}(h:Mo n2 r)(a:n2.core=n.core)(c:n2.lines=n.lines):Mo n r:=⟨h.core.trans a,h.lines.trans c,λ m q=>by have:=h.o m q;rw[a,c]at this;exact this⟩
namespace No
section
variable{n:No}
def sW{n':No}(h:n'.core=n.core)(a:n'.lines=n.lines):Mo n (n',[]):=⟨h,a,λ _ q=>by cases q⟩
def Ww{a:Int}(hm:n.may a):0<=ln a/\ln a<n.lines:=by unfold No.may at hm;unfold ln;omega
def W4{k l:Int}(hk:k=1\/k=2)(a:0<=l)(c:l<n.lines):Mo n (n.ask k l):=by
 unfold ask;split
 .exact sW rfl rfl
 .exact ⟨rfl,rfl,λ m q=>by rw[ja.1 q];exact⟨by show 1<=k/\k<=7;omega,rfl,a,c⟩⟩
def ES(a:Int):Mo n ((n.load a).1,(n.load a).2.2.2.1):=by
 unfold load;split
 .rename_i hm;have:=Ww hm;split
  .exact W4 (.inl rfl) this.1 this.2
  .exact sW rfl rfl
 .exact sW rfl rfl
def DI(a y:Int):Mo n ((n.store a y).1,(n.store a y).2.2.1):=by
 unfold store;split
 .rename_i hm;have:=Ww hm;split
  .exact sW rfl rfl
  .exact W4 (.inr rfl) this.1 this.2
 .exact sW rfl rfl
def Ji(a o y:Int):Mo n (n.lP a o y):=by
 unfold lP;split
 .rename_i hm;have:=Ww hm;split
  .exact sW rfl rfl
  .split
   .exact sW rfl rfl
   .exact W4 (.inr rfl) this.1 this.2
 .exact sW rfl rfl
def Ai:Mo n (n.begin,[]):=by unfold begin;split<;>exact sW rfl rfl
def xE:Mo n (n.bw,[]):=by unfold bw;split<;>exact sW rfl rfl
def BA(k:Int):Mo n ((n.abort k).1,[]):=by
 unfold abort
 repeat' split
 all_goals exact sW rfl rfl
def T2{x:En}(a:x.st≠0->0<=x.line/\x.line<n.lines):Mo n (n.gone x):=by
 unfold gone;split
 .rename_i q;have:=a (by omega);exact⟨rfl,rfl,λ m q=>by rw[ja.1 q];exact⟨by show(1:Int)<=3/\(3:Int)<=7;decide,rfl,this⟩⟩
 .exact sW rfl rfl
def Y3(h:n.NI)(m:Mg)(st:Int):Mo n (n.dM m st):=by
 unfold dM;split
 .rename_i q;refine Mo.cl (T2 λ _=>?_) rfl rfl;rcases Dh (c:=n.c) (line:=m.line) (st:=st) (x:=m.d)with⟨f,-⟩|⟨f,-⟩|⟨f,j,g,o⟩
  .rw [f]at q;exact absurd q.1 (by decide)
  .rw [f]at q;exact absurd q.1 (by decide)
  .rw [o]at q⊢;obtain⟨k,a,b,-⟩:=SL g;have:=h.ci.ok j (by rw[b];exact h.ci.lf m.line a) q.2;exact⟨this.2.1,this.2.2.1⟩
 .exact sW rfl rfl
def F1(h:n.NI)(m:Mg):Mo n (n.fill m):=by
 unfold fill;generalize(if m.k=15 then(2:Int)else 1)=st;unfold lV;split
 .exact (Y3 (h.iG 3) m st).cl rfl rfl
 .exact Y3 h m st
def Fc(x:En)(too:Bool):(n.lost x too).core=n.core/\(n.lost x too).lines=n.lines:=by
 unfold lost
 repeat' split
 all_goals exact⟨rfl,rfl⟩
def Gu(h:n.NI)(m:Mg):Mo n (n.bQ m):=by
 unfold bQ;split
 .exact sW rfl rfl
 rename_i q;have hl:0<=m.line/\m.line<n.lines:=⟨zd λ w=>q (.inr (.inl (by omega))),zd λ w=>q (.inr (.inr (.inl (by omega))))⟩
 have one:∀{n':No}{k:Int}{d:L8},n'.core=n.core->n'.lines=n.lines->1<=k/\k<=7->Mo n (n',[⟨k,n.core,m.line,d⟩]):=λ a c f=>⟨a,c,λ y q=>by rw[ja.1 q];exact⟨f,rfl,hl⟩⟩
 have lc:=λ x too=>(Fc (n:=n) x too)
 split
 .exact one (lc _ _).1 (lc _ _).2 (by decide)
 split
 .split
  .exact one rfl rfl (by decide)
  .split
   .exact one (lc _ _).1 (lc _ _).2 (by decide)
   .exact one (lc _ _).1 (lc _ _).2 (by decide)
 split
 .exact sW rfl rfl
 split
 .exact one rfl rfl (by decide)
 .have g:=F1 (n:={n with out:=⟨0,0,0,.zero⟩}) ⟨h.ci,h.pl⟩ m;exact⟨g.core,g.lines,λ y q=>(zt.1 q).elim (g.o y) λ q=>by rw[ja.1 q];exact⟨by show(1:Int)<=7/\(7:Int)<=7;decide,rfl,hl⟩⟩
def Hi(h:n.NI)(line:Int):Mo n (n.cT line):=by
 unfold cT;split
 .exact sW rfl rfl
 split
 .exact sW rfl rfl
 .rename_i x k;obtain⟨j,a,b⟩:=SK k;obtain⟨-,g,f,o,-⟩:=h.ci.bt a;have d:=h.ci.ok j g f;split
  .refine Mo.cl (T2 λ _=>?_) rfl rfl;have hp:(n.iG 4).c.pos line=some j:=(ZR R8 Sb line).trans a;rw[S5 hp,Kl g,R8];exact⟨d.2.1,d.2.2.1⟩
  .refine Mo.cl (T2 λ _=>?_) rfl rfl;rw[S5 a];exact⟨d.2.1,d.2.2.1⟩
end
end No
open No
structure BuI(b:Bu)(V:Int->L8):Prop where
 N4:b.ns.length<=4
 ml:b.m.length=b.l.length
 nw:∀(c:Nat)n,b.ns[c]? = some n->NW n c b.l.length
 mw:∀m∈b.fl,MW m b.ns.length b.l.length
 xs:∀(i:Nat)x,b.l[i]? = some x->XI x b.ns.length i
def Bu.put(b:Bu)(c:Nat)(r:No×List Mg):Bu:={b with ns:=b.ns.set c r.1,fl:=b.fl++r.2}
def Jr{b:Bu}{c:Nat}{n:No}(hn:b.ns[c]? = some n):b.put c (n,[])=b:=by
 have:b.ns.set c n=b.ns:=by
  apply jz;intro i
  by_cases q:i=c
  .rw [q,xr (qk.1 hn).1,hn]
  .rw [xw (mO q)]
 unfold Bu.put;simp only[this,ze]
namespace BuI
variable{b:Bu}{V V':Int->L8}
def entry(h:BuI b V){l:Int}(d:0<=l)(f:l<b.l.length):∃x w,b.l[l.toNat]? = some x/\b.m[l.toNat]? = some w/\XI x b.ns.length l:=by
 have a:l.toNat<b.l.length:=by omega
 have c:l.toNat<b.m.length:=by rw[h.ml];exact a
 have:=h.xs l.toNat _ (qt a);rw[Lx d]at this;exact⟨_,_,qt a,qt c,this⟩
def core(h:BuI b V){c:Int}(d:0<=c)(f:c<b.ns.length):∃n,b.ns[c.toNat]? = some n/\NW n c b.l.length:=by
 have a:c.toNat<b.ns.length:=by omega
 have:=h.nw c.toNat _ (qt a);rw[Lx d]at this;exact⟨_,qt a,this⟩
def node(h:BuI b V){c:Nat}{n:No}{r:No×List Mg}{f:List Mg}(hn:b.ns[c]? = some n)(k:r.1.NI)(p:Mo n r)(s:∀m∈f,m∈b.fl):BuI {b with ns:=b.ns.set c r.1,fl:=f++r.2} V':=by
 have j:=(qk.1 hn).1;have w:=h.nw c n hn;refine⟨by simp only[xg];exact h.N4,h.ml,λ d y g=>?_,λ m hm=>?_,λ i x t=>?_⟩
 .by_cases q:d=c
  .have g:(b.ns.set c r.1)[d]? = some y:=g;rw[q,xr j]at g;injection g with g;subst g;subst q
   exact⟨k,p.core.trans w.core,p.lines.trans w.lines⟩
  .have g:(b.ns.set c r.1)[d]? = some y:=g;rw[xw (mO q)]at g;exact h.nw d y g
 .simp only[xg];rcases zt.1 hm with q|q
  .exact h.mw m (s m q)
  .obtain ⟨a,e,l0,l1⟩:=p.o m q;exact⟨.inl a,by rw[e,w.core];omega,l0,by rw[<-w.lines];exact l1⟩
 .simp only[xg];exact h.xs i x t
def call(h:BuI b V){c:Nat}{n:No}{r:No×List Mg}(hn:b.ns[c]? = some n)(a:r.1.NI)(d:Mo n r):BuI (b.put c r) V':=h.node hn a d λ _ q=>q
end BuI
end Go.Am
