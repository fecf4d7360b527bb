import Derived.Test.YtlepagkkolnmoaaGreatDoorAmVZc
import Derived.Test.YtlepagkkolnmoaaGreatDoorAmVZd
import Derived.Carry
set_option linter.defProp false
set_option linter.unusedVariables false
set_option linter.unusedSimpArgs false
open Bool renaming false→B2,true→B4
open Go renaming DataW→Ry,IntKind→PD,MemPlace→B7,Program→Jy,TypeId→LP,Value→K8,World→NJ
open Go.DataW renaming TrodAll→Be,trod→Om
open Go.Value renaming okWide→BO
open List renaming range→N7,replicate→Jv,take_left→CP
open Nat renaming beq→J8,ble→OZ,blt→Pk
open Option renaming none→B5,some→B1
namespace Go.Am
open Go.RowKit
abbrev GL:=List (Nat×List AV)
def Good(W:NJ)(θ:Th)(n:Nat)(gl:GL):Prop :=
 ∀b l,(b,l)∈gl->b<n /\ ∃pre cs post e fz,W.heap[θ.cq b]? = B1 (.cells (pre++cs++post).toArray e fz)/\pre.length = θ.off b/\bN (Lt n) θ l cs
structure Step(W:NJ)(θ:Th)(n:Nat)(gl:GL)(θ':Th)(n':Nat)(gl':GL):Prop where
 le:n<=n'
 ag:Ag (Lt n) θ θ'
 de:Good W θ' n' gl'
 ai:∀b,b<n->(Fw gl' .nil).get b=(Fw gl .nil).get b
def Step.refl{W:NJ}{θ:Th}{n:Nat}{a:GL}(h:Good W θ n a):Step W θ n a θ n a:=⟨qm n,Ag.refl _ _,h,λ _ _=>rfl⟩
def Step.trans{W:NJ}{θ θ' θ'':Th}{n n' e:Nat}{g d c:GL}(a:Step W θ n g θ' n' d)(b:Step W θ' n' d θ'' e c):Step W θ n g θ'' e c :=
 ⟨zd a.le b.le,a.ag.trans b.ag λ x f=>qn f a.le,b.de,λ x f=>by rw[b.ai x (qn f a.le),a.ai x f]⟩
def Step.fr{W:NJ}{θ θ':Th}{n n':Nat}{d c:GL}(a:Step W θ n d θ' n' c):Fr Em (vm d n) (vm c n'):=⟨a.le,λ b hb _=>a.ai b hb⟩
def Step.row{W:NJ}{θ:Th}{n:Nat}{d:GL}(h:Good W θ n d){k off:Nat}{l:List AV}{pre cs post:List K8}{e:LP}{fz:Nat×Nat}(hk:W.heap[k]? = B1 (.cells (pre++cs++post).toArray e fz))(hp:pre.length=off)(p:bN (Lt n) θ l cs) :
 Step W θ n d (θ.add n k off 0) (n+1) ((n,l)::d):=by
 have a:Ag (Lt n) θ (θ.add n k off 0):=θ.hJ n k off 0 (FE n);have j:∀b,Lt n b->Lt (n+1) b:=λ b hb=>Nc hb;refine⟨ke n,a,λ b q hm=>?_,λ b hb=>?_⟩
 .rcases jj.1 hm with hm|hm
  .injection hm with c f;subst c;subst f
   obtain⟨g,i,_⟩:=θ.eO b k off 0;exact⟨zy b,pre,cs,post,e,fz,by rw[g];exact hk,by rw[i];exact hp,p.up a j⟩
  .obtain ⟨c,pre,cs,post,e,fz,f,m,o⟩:=h b q hm;obtain⟨g,i,_⟩:=a b c;exact⟨Nc c,pre,cs,post,e,fz,by rw[g];exact f,by rw[i];exact m,o.up a j⟩
 .rw [Fw,T.aK,qv (by omega)]
section
variable{P:Jy}
def yE(P:Jy)(t:LP)(R:List AV->Prop):Prop :=
 ∀{H:Type}(enc:LP×K8->H)(W:NJ)(base:Nat)(sp:Nat->Bool)(held:Bool)(fuel:Nat)(cs:List K8)(d:Ry H)(ps:List B7),
  Om enc P W base sp held fuel t cs=B1 (d,ps) -> ∃l,R l /\ ∀θ,bW θ l=cs
def tP(k:PD)(l:List AV):Prop:=∃n,l=[.int k n]/\(Lit.int k n).wf=B4
def tq:List (List AV->Prop)->List AV->Prop
 |[],l=>l=[]
 |R::Rs,l=>∃a b,l=a++b/\R a/\tq Rs b
def YD{t:LP}{k:PD}(h:P.underlying t=B1 (.int k)):yE P t (tP k):=by
 intro H enc W base sp held fuel cs d c a;cases fuel with
 |zero=>cases a
 |succ f =>
  simp only[Om,h]at a;split at a<;>first|(cases a;done)|skip
  all_goals first|(simp_all;done)|skip
  .rename_i b n2 e1 e2;injection e2 with e2;cases e2
   split at a
   .rename_i hw;obtain⟨rfl,hw⟩:=hw;exact⟨_,⟨_,rfl,hw⟩,λ θ=>rfl⟩
   .cases a
def Ka(P:Jy):Nat->List Field->Bool
 |_,[]=>B4
 |k,f::fs=>J8 f.offset k && Ka P (k+P.cellsOf f.type) fs
def DU{fs:List Field}:∀{k:Nat},Ka P k fs=B4 -> ∀(j:Nat)f,fs[j]? = B1 f->f.offset=k+((fs.take j).map λ f=>P.cellsOf f.type).sum:=by
 induction fs with
 |nil=>intro k _ j f h;simp at h
 |cons g fs ih =>
  intro k h j f a;simp only[Ka,zf,kc]at h;cases j with
  |zero=>simp at a;subst a;simpa using h.1
  |succ j =>
   have:=ih h.2 j f (by simpa using a);simp only[List.take_succ_cons,j7,List.sum_cons];omega
end
end Go.Am
namespace Go.Am
open Go.RowKit
def XY{W:NJ}{k o n:Nat}{cs:List K8}(hn:0<n)(h:W.cells? 0 ⟨k,o,B5⟩ n=B1 cs):∃arr e fz,W.heap[k]? = B1 (.cells arr e fz)/\cs=(arr.toList.drop o).take n/\o+n<=arr.size:=by
 unfold NJ.cells? at h;rw[xb (x9 _)]at h;have hlen:=mapM_some_length h;have a:=λ i(d:i<n)=>mapM_some_get h i i (by simp[d]);obtain⟨g,f⟩:∃c,W.cell? ⟨k,o,B5⟩=B1 c:=by
  have:=a 0 hn;have hl:0<cs.length:=by rw[hlen];simpa using hn
  exact⟨cs[0],by simpa[Addr.add,hl]using this⟩
 obtain⟨arr,e,fz,b⟩:∃arr e fz,W.heap[k]? = B1 (.cells arr e fz):=by
  unfold World.cell? at f;split at f
  .rename_i arr e fz b;exact⟨arr,e,fz,b⟩
  .cases f
 refine⟨arr,e,fz,b,?_,?_⟩
 .refine yr λ i=>?_
  by_cases d:i<n
  .have:=a i d;rw[zI,QS b]at this;rw[yv,xb d,yu];rw[<-kh]at this;exact this.symm
  .rw [z4 (by rw[hlen];simp;omega),z4 (by simp;omega)]
 .have:=a (n-1) (by omega);rw[zI,QS b]at this;have hl:n-1<cs.length:=by rw[hlen];simp;omega
  rw[qy hl]at this;have:=(Np.1 this).1;omega
def tN{α:Type}{L:List α}{size:Nat}:∀{cs:List (List α)}{o:Nat},(∀(i:Nat)c,cs[i]? = B1 c->c=(L.drop (o+i*size)).take size/\c.length=size)->cs.flatten=(L.drop o).take (cs.length*size)
 |[],o,_=>by simp
 |c::cs,o,h=>by
  obtain⟨a,f⟩:=h 0 c rfl;rw[wh,vc]at a;have e:=tN (cs:=cs) (o:=o+size) λ i d b=>by
   have:=h (i+1) d (by simpa using b);rw[show o+size+i*size=o+(i+1)*size from by rw[vO];omega];exact this
  rw[Qe,e,zr,vO,Nat.add_comm (cs.length*size),List.take_add,AF,<-a]
section
variable{P:Jy}
def Vg(R:List AV->Prop)(size:Nat)(H:ar)(u:AV):Prop:=∃ls:List (List AV),(∀l∈ls,R l/\l.length=size)/\Sl H size u ls.length ls.flatten
def Vg.em{R:List AV->Prop}{size:Nat}{H H':ar}{u:AV}(h:Vg R size H u)(f:Fr Em H H'):Vg R size H' u:=by
 obtain⟨ls,a,b⟩:=h;exact⟨ls,a,b.em f⟩
def Step.bare{W:NJ}{θ:Th}{n:Nat}{c:GL}(h:Good W θ n c)(k off:Nat):Step W θ n c (θ.add n k off 0) (n+1) c:=by
 have a:Ag (Lt n) θ (θ.add n k off 0):=θ.hJ n k off 0 (FE n);have j:∀b,Lt n b->Lt (n+1) b:=λ b hb=>Nc hb;refine⟨ke n,a,λ b l hm=>?_,λ b hb=>rfl⟩;obtain⟨d,pre,cs,post,e,fz,f,g,i⟩:=h b l hm;obtain⟨m,o,_⟩:=a b d;exact⟨Nc d,pre,cs,post,e,fz,by rw[m];exact f,by rw[o];exact g,i.up a j⟩
end
end Go.Am
namespace Go.Am
open Go.RowKit Go.ChangeShapes Go.WideShapes Go.ChangeAt
section
variable{P:Jy}
def IB{W:NJ}{r:Reach}{base:Nat}{t:LP}{v:K8}(a:(∃fs,P.underlying t=B1 (.struct fs)) \/ ∃n e,P.underlying t=B1 (.array n e))(h:BO P W r base t v):∃cs:Array K8,v=.agg cs:=by
 unfold BO at h;rcases a with⟨fs,a⟩|⟨n,e,a⟩
 .rw [a]at h;obtain⟨cs,h,_⟩:=h;exact⟨cs,h⟩
 .rw [a]at h;obtain⟨cs,h,_⟩:=h;exact⟨cs,h⟩
def yc{W:NJ}{r:Reach}{base:Nat}{t e:LP}{v:K8}(a:P.underlying t=B1 (.slice e))(h:BO P W r base t v):v.cells.toList=[v]:=by
 unfold BO at h;rw[a]at h;cases v with
 |agg cs =>
  simp only[Cell.okWide,a]at h;unfold Cell.ok at h;rw[a]at h;exact h.elim
 |_=>rfl
def VG{H:Type}{enc:LP×K8->H}{W:NJ}{b:Nat}{sp:Nat->Bool}{held:Bool}{t:LP}{ts:List LP}{vs:List K8}{ds:List (Ry H)}{g:List B7}(h:Be enc P W b sp held (t::ts) vs ds g) :
 ∃v c d a p q fuel,vs=v::c/\ds=d::a/\Om enc P W b sp held fuel t v.cells.toList=B1 (d,p)/\Be enc P W b sp held ts c a q:=by
 cases vs with
 |nil=>exact h.elim
 |cons v vs =>
  cases ds with
  |nil=>exact h.elim
  |cons d ds=>obtain⟨p,q,⟨fuel,e⟩,f,_⟩:=h;exact⟨v,vs,d,ds,p,q,fuel,rfl,rfl,e,f⟩
def ag3{H:Type}{enc:LP×K8->H}{W:NJ}{b:Nat}{sp:Nat->Bool}{held:Bool}{vs:List K8}{ds:List (Ry H)}{a:List B7}(h:Be enc P W b sp held [] vs ds a):vs=[]/\ds=[]:=by
 cases vs with
 |cons v vs=>exact h.elim
 |nil =>
  cases ds with
  |cons d ds=>exact h.elim
  |nil=>exact⟨rfl,rfl⟩
noncomputable def ao.plain(P:Jy):ao:=⟨aY P,λ _ _ _ _=>B5,λ _=>B2,λ _ _ _ _ _=>rfl⟩
def xi4(r:dY P){M:ao}(z:M.prog=aY P)(A:rR P 0 M.told)(p:pW M.told){W:NJ}{θ:Th}{n:Nat}{d:GL}(h:HR P 0 (Lt n) θ (vm d n) W){f:Nat}{vs:List AV}{args:Array K8}(B:bN (Lt n) θ vs args.toList){H':ar}
 (i:CALL M f vs (vm d n) (.ret (.bool B4)) H'):Calls P f args W λ e w'=>e=.returned (.bool B4)/\Below W.heap.size W w':=by
 obtain⟨m,hr⟩:=i.Dm;simp only[ao.call,z]at hr;intro cs;obtain⟨_,θ',w',cs',fr,e',s,u,v,w,a,C,x,D,y,t⟩ :=
  UR r (λ rt g i l j o=>q74 r g i l j o) A p m (Lt n) θ (vm d n) W f vs args B5 H' (.ret (.bool B4)) B5 .normal cs h B rfl hr
   (λ b q E hb=>by have q:n<=b:=q;have hb:b<n:=hb;omega)
 have k:cs'=cs:=y;subst k;cases e' with
 |returned c =>
  have a:VR _ θ' (.bool B4) c:=a;exact⟨.returned c,w',fr,⟨by rw[<-a.now];rfl,x.below (Nb _ _)⟩,s,v,Tk w u⟩
 |panicked _=>exact a.elim
 |outgrown=>exact a.elim
def j_{H:Type}{enc:LP×K8->H}(hl:laidOutB P=B4){W W':NJ}{sp:Nat->Bool}:∀{ts:List LP}{vs:List K8}{ds:List (Ry H)}{b:List B7},
 (∀t∈ts,P.readableRec t=B4/\t<P.types.size)->Be enc P W 0 (λ _=>B4) B4 ts vs ds b->Below W.heap.size W W'->(∀x∈b,x.block<W.heap.size)->(∀x∈b,sp x.block=B4) ->
 Be enc P W' 0 sp B4 ts vs ds b
 |[],[],[],b,_,h,_,_,_=>h
 |t::ts,v::vs,d::ds,b,ht,⟨p,q,h1,h2,e⟩,hb,hlt,hs=>by
  subst e;exact⟨p,q,WideElems.Trod_stays hl (ht t (by simp)).1 (ht t (by simp)).2 h1 (λ x a=>hb.same (hlt x (by simp[a]))) (λ x a=>hs x (by simp[a])),
   j_ hl (λ t h=>ht t (by simp[h])) h2 hb (λ x a=>hlt x (by simp[a])) (λ x a=>hs x (by simp[a])),rfl⟩
 |[],_::_,_,_,_,h,_,_,_=>h.elim
 |[],[],_::_,_,_,h,_,_,_=>h.elim
 |_::_,[],_,_,_,h,_,_,_=>h.elim
 |_::_,_::_,[],_,_,h,_,_,_=>h.elim
def xas{H:Type}{enc:LP×K8->H}{f:Nat}{fn:Func}{s:ChangeSpec}{u:LP}(hl:laidOutB P=B4)(b:∀t∈fn.params.toList,P.readableRec t=B4/\t<P.types.size)(i:s.vars=[])
 (a:∀ds:List (Ry H),ds.length=fn.params.size->s.fn H ds = {results:=[.lit (.bool B4)],args:=ds}) (c:fn.resultTypes = #[u]) (j:P.underlying u=B1 .bool)
 {W:NJ} {args:Array K8} {ds gs:List (Ry H)} {before:List B7} {apart fresh handsOn again:Bool}
 (k:Ry.Whole enc P fn.params.toList s.vars apart W args.toList ds gs before) (g:Calls P f args W λ e w'=>e=.returned (.bool B4)/\Below W.heap.size W w') :
 Calls P f args W λ e W'=>∃v,e=.returned v/\s.post enc P fn apart fresh handsOn again W args v W':=by
 have m:∀p∈before,p.block<W.heap.size:=k.lt;have l:=k;obtain⟨p,q,r,hV,rfl,y,z⟩:=k;rw[i]at hV;obtain⟨rfl,rfl⟩:=trodVars_none hV;have hlen:ds.length=fn.params.size:=by
  have:∀{ts:List LP}{vs:List K8}{ds:List (Ry H)}{o:List B7},Be enc P W 0 (λ _=>B4) B4 ts vs ds o->ds.length=ts.length:=by
   intro ts
   induction ts with
   |nil=>intro vs ds o h;cases vs<;>cases ds<;>first|rfl|exact h.elim
   |cons t ts ih =>
    intro vs ds o h;cases vs with
    |nil=>exact h.elim
    |cons v vs =>
     cases ds with
     |nil=>exact h.elim
     |cons d ds=>obtain⟨p,q,_,w,_⟩:=h;simp[ih w]
  rw[this r];simp
 refine g.mono λ e W'⟨he,hg⟩=>?_;subst he;refine⟨_,rfl,xau (pa:=p) (pv:=[]) l (λ _ _ _=>?_) (λ sp hs=>?_) (λ _ _=>?_) rfl hg ?_⟩
 .rw [c,zn,a ds hlen];exact trodAll_cons_mk (shut_bool j _) trodAll_mk0
 .rw [zn,a ds hlen];exact j_ hl b r hg (λ x n=>m x (by simp[n])) (λ x n=>hs x (by simp[n]))
 .rw [i,zn,a ds hlen];rfl
 .exact ok_one c rfl (okWide_bool_mk j _)
end
end Go.Am
namespace Go.Am
open Go.RowKit
section
variable{P:Jy}
def Yc(P:Jy)(t:LP)(R:ar->List AV->Prop):Prop :=
 (∀H H' l,R H l->Fr Em H H'->R H' l) /\ ∀{Hh:Type}(enc:LP×K8->Hh)(W:NJ)(held:Bool)(fuel:Nat)(cs:List K8)(d:Ry Hh)(ps:List B7),
  Om enc P W 0 (λ _=>B4) held fuel t cs=B1 (d,ps) -> ∀(θ:Th)(n:Nat)(gl:GL),Good W θ n gl -> ∃θ' n' gl' l,Step W θ n gl θ' n' gl'/\bN (Lt n') θ' l cs/\R (vm gl' n') l
def Y4{t:LP}{R:List AV->Prop}(h:yE P t R):Yc P t λ _ l=>R l :=
 ⟨λ _ _ _ h _=>h,λ enc W held fuel cs d f e θ n a hg=>by
  have⟨l,b,c⟩:=h enc W 0 _ held fuel cs d f e;exact⟨θ,n,a,l,Step.refl hg,λ θ' _=>c θ',b⟩⟩
def G6(R:ar->List AV->Prop)(size:Nat)(H:ar)(u:AV):Prop:=∃ls:List (List AV),(∀l∈ls,R H l/\l.length=size)/\Sl H size u ls.length ls.flatten/\(u=.nils\/aD u<H.au)
def G6.em{R:ar->List AV->Prop}(hm:∀H H' l,R H l->Fr Em H H'->R H' l){size:Nat}{H H':ar}{u:AV}(h:G6 R size H u)(f:Fr Em H H'):G6 R size H' u:=by
 have⟨ls,a,b,c⟩:=h;exact⟨ls,λ l hl=>⟨hm _ _ _ (a l hl).1 f,(a l hl).2⟩,b.em f,c.imp id λ q=>qn q f.au⟩
def tO:Option Nat->Nat
 |none=>0
 |some z=>z+1
def DM(s:Option Nat):EJ (tO s)=s:=by cases s<;>rfl
def Step.PM{W:NJ}{θ:Th}{n:Nat}{c:GL}(h:Good W θ n c)(k off ext:Nat):Step W θ n c (θ.add n k off ext) (n+1) c:=by
 have a:Ag (Lt n) θ (θ.add n k off ext):=θ.hJ n k off ext (FE n);have j:∀b,Lt n b->Lt (n+1) b:=λ b hb=>Nc hb;refine⟨ke n,a,λ b l hm=>?_,λ b hb=>rfl⟩;have⟨d,pre,cs,post,e,fz,f,g,i⟩:=h b l hm;have⟨m,o,_⟩:=a b d;exact⟨Nc d,pre,cs,post,e,fz,by rw[m];exact f,by rw[o];exact g,i.up a j⟩
def u_{W:NJ}{a:Addr}{n:Nat}{cs:List K8}(hn:0<n)(h:W.cells? 0 a n=B1 cs):a.spot=none:=by
 unfold NJ.cells? at h;rw[xb (x9 _)]at h;have:=mapM_some_get h 0 0 (by simp[hn]);have hl:0<cs.length:=by rw[mapM_some_length h];simpa using hn
 rw[qy hl]at this;exact NJ.cell?_spot (by simpa[Addr.add]using this)
end
end Go.Am
namespace Go.Am
open Go.RowKit
section
variable{P:Jy}
def xim{t e:LP}{n:Nat}{R:List AV->Prop}(h:P.underlying t=B1 (.array n e))(hR:yE P e R)(u:n*P.cellsOf e=P.cellsOf t):yE P t (tq (Jv n R)):=by
 intro H enc W base sp held fuel cs d w c;cases fuel with
 |zero=>cases c
 |succ f =>
  have hlen:cs.length=P.cellsOf t /\ ∃xs,(N7 n).mapM (λ i=>Om enc P W base sp held f e ((cs.drop (i*P.cellsOf e)).take (P.cellsOf e)))=B1 xs:=by
   simp only[Om,h]at c;split at c
   .rename_i hl;obtain⟨xs,hm,_⟩:=xk.1 c;exact⟨hl,xs,hm⟩
   .cases c
  obtain⟨hl,xs,hm⟩:=hlen;have o:∀i,i<n -> ∃x,Om enc P W base sp held f e ((cs.drop (i*P.cellsOf e)).take (P.cellsOf e))=B1 x:=λ i q=>by
   have hl:=mapM_some_length hm;have:=mapM_some_get hm i i (by rw[js q]);have p:i<xs.length:=by rw[hl];simpa using q
   rw[qy p]at this;exact⟨_,this⟩
  have key:∀(m k:Nat),k+m=n -> ∃l,tq (Jv m R) l /\ ∀θ,bW θ l=cs.drop (k*P.cellsOf e):=by
   intro m
   induction m with
   |zero =>
    intro k hk;refine⟨[],rfl,λ θ=>?_⟩;rw[jo (by rw[hl,<-u,show k=n by omega];exact qm _)];simp[bW]
   |succ m ih =>
    intro k hk;obtain⟨x,v⟩:=o k (by omega);obtain⟨a,ha,g⟩:=hR enc W base sp held f _ x.1 x.2 v;obtain⟨b,hb,j⟩:=ih (k+1) (by omega);refine⟨a++b,⟨a,b,rfl,ha,hb⟩,λ θ=>?_⟩;rw[ui,I9,<-ui,<-ui,g,j,vO,<-AF,yx]
  obtain⟨l,r,s⟩:=key n 0 (by omega);exact⟨l,r,λ θ=>by rw[s θ,wh,yt]⟩
def Yp{α:Type}{enc:α->List AV}{R:ar->List AV->Prop}{Q:α->Prop}{size:Nat}{H:ar}{u:AV}(hR:∀l,R H l -> ∃x,l=enc x/\Q x)(h:G6 R size H u):∃xs:List α,bM enc size H u xs /\ ∀x∈xs,Q x:=by
 obtain⟨ls,g,f,_⟩:=h;have:∀ls:List (List AV),(∀l∈ls,R H l) -> ∃xs:List α,ls=xs.map enc /\ ∀x∈xs,Q x:=by
  intro ls
  induction ls with
  |nil=>exact λ _=>⟨[],rfl,by simp⟩
  |cons l ls ih =>
   intro h;obtain⟨xs,b,d⟩:=ih λ l hl=>h l (by simp[hl]);obtain⟨x,i,j⟩:=hR l (h l (by simp));refine⟨x::xs,by rw[i,b];rfl,λ c a=>?_⟩;rcases jj.1 a with rfl|a
   .exact j
   .exact d c a
 obtain⟨xs,b,d⟩:=this ls λ l hl=>(g l hl).1;refine⟨xs,?_,d⟩;subst b;rw[xu]at f;unfold bM;have e:(xs.map enc).flatten=xs.flatMap enc:=by rw[List.flatMap_def]
 rw[<-e];exact f
end
end Go.Am
namespace Go.Am
variable{P:Jy}
end Go.Am
namespace Go.Am
open Go.RowKit
variable{P:Jy}
def Kd{tp:LP}{w:NJ}{laid:List (String×Ry Unit)}(hn:wZ laid=B4)(h:laidMet P laid w) :
 ∃θ:Th,(∀g,g<P.globals.size -> θ.cq g=g /\ θ.off g=0)/\Good w θ (P.globals.size+laid.length) (rowsOf P tp P.globals.size laid):=vB h (λ x b=>⟨default,λ g t s c d a=>by
  have:=B6.1 hn x b;rw[a]at this;cases this⟩)
def xip{W:NJ}{θL θ:Th}{n0 n:Nat}{si b:GL}(hn:P.globals.size<=n0)(hg:∀g,g<P.globals.size -> θL.cq g=g /\ θL.off g=0)(h:Step W θL n0 si θ n b):HR P 0 (Lt n) θ (vm b n) W :=
 HR.xB (x9 _) (zd hn h.le) (λ g a=>by obtain⟨c,d,_⟩:=h.ag g (qn a hn);obtain⟨e,f⟩:=hg g a;exact⟨c.trans e,d.trans f⟩) h.de
def Es(L:List fK):List Nat:=L.map λ e=>e.f
def A0{a:List (Nat×List AV)}{H:ar}{f:Nat}{vs:List AV}:∀{L:List fK},bG f (Es L)=B2->pE a H f vs L=B5
 |[],_=>rfl
 |e::L,h=>by
  have h:cond (J8 e.f f) B4 (bG f (Es L))=false:=h;cases hb:J8 e.f f with
  |true=>rw[hb]at h;cases h
  |false =>
   rw[hb]at h;have:J8 f e.f=false:=by
    cases b:J8 f e.f with
    |false=>rfl
    |true=>rw[I6 b]at hb;simp at hb
   simp only[pE,this,Bool.false_and,zo];exact A0 h
noncomputable def ao.tell(P:Jy)(gl:List (Nat×List AV))(L:List fK):ao:=⟨aY P,nq gl L,λ f=>bG f (Es L),λ f vs up H h=>by
 cases up with
 |none=>exact A0 h
 |some _=>rfl⟩
def ao.Ai{a:List (Nat×List AV)}{L:List fK}{n:Nat}(h:bG n (Es L)=B2):(ao.tell P a L).func n=(aY P).func n:=by
 show cond (bG n (Es L)) B5 _=_;rw[h];rfl
def xk0{a:List (Nat×List AV)}{f:Nat}{v:AV}{H:ar}(hr:eQ H a=B4):zj (ao.tell P a [⟨f,[],v⟩]) f [] H λ w H'=>w=v/\H'=H:=by
 have h:nq a [⟨f,[],v⟩] f [] B5 H=B1 (.ret v,B5,H):=by
  show pE a H f [] [⟨f,[],v⟩]=_;have e:J8 f f=true:=by simp
  simp only[pE,e,hr,mf,jp,xv]
 refine zj.intro (v:=v) (H':=H) ⟨0,λ n _=>?_⟩ ⟨rfl,rfl⟩;cases n with
 |zero=>exact h
 |succ n =>
  show(match nq a [⟨f,[],v⟩] f [] B5 H with|some r=>B1 r|none=>_)=_;rw[h]
def q79{n:Nat}{H H':ar}:∀{a:List (Nat×List AV)},jM n a=B4->(∀b,b<n->H'.get b=H.get b)->eQ H a=B4->eQ H' a=B4
 |[],_,_,_=>rfl
 |(b,l)::r,hok,hk,h=>by
  simp only[jM,zf,vX]at hok;simp only[eQ,zf]at h⊢;rw[hk b hok.1.1];exact⟨h.1,q79 hok.2 hk h.2⟩
def ac9(g:dY P){si:List (Nat×List AV)}{n0:Nat}{L:List fK}(hn:P.globals.size<=n0)(b:jM n0 si=B4)(d:∀e∈L,CF 0 e.args=B4/\sK P si n0 e)
 {W:NJ} {θ:Th} {n:Nat} {c:GL} (h:HR P 0 (Lt n) θ (vm c n) W) {f:Nat} {vs:List AV} {args:Array K8} (i:bN (Lt n) θ vs args.toList)
 (a:zj (ao.tell P si L) f vs (vm c n) λ v _=>v=.bool B4):Calls P f args W λ e w'=>e=.returned (.bool B4)/\Below W.heap.size W w':=by
 obtain⟨v,H',a,rfl⟩:=a.elim;exact xi4 g (M:=ao.tell P si L) rfl (M_ hn b d) φ h i a
end Go.Am
namespace Go.Am
structure L8 where
 l:List Int
 h:l.length=8
namespace L8
def eq{a b:L8}(h:a.l=b.l):a=b:=by cases a;cases b;simp only at h;subst h;rfl
instance:DecidableEq L8:=λ a b=>if h:a.l=b.l then isTrue (L8.eq h)else isFalse λ q=>h (by rw[q])
def zero:L8:=⟨[0,0,0,0,0,0,0,0],rfl⟩
def put(x:L8)(i:Nat)(y:Int):L8:=⟨x.l.set i y,by rw[xq];exact x.h⟩
def get(x:L8)(i:Nat):Int:=x.l[i]?.getD 0
end L8
structure En where
 line:Int
 st:Int
 r:Bool
 w:Bool
 d:L8
 o:L8
 u:Int
def En.zero:En:=⟨0,0,B2,B2,.zero,.zero,0⟩
def dH(p:Nat->Bool):Nat->Option Nat
 |0=>B5
 |n+1=>match dH p n with
  |some i=>B1 i
  |none=>if p n then B1 n else B5
def Ni{p:Nat->Bool}:∀{n:Nat},(∀j,j<n->p j=B2)->dH p n=B5
 |0,_=>rfl
 |n+1,h=>by rw[dH,Ni λ j a=>h j (by omega),h n (by omega)];rfl
def N1{p:Nat->Bool}{i:Nat}:∀{n:Nat},i<n->p i=B4->(∀j,j<i->p j=B2)->dH p n=B1 i
 |0,h,_,_=>by omega
 |n+1,h,hp,hl=>by
  rw[dH];rcases xw i n with q|q
  .rw [N1 q hp hl]
  .have:i=n:=by omega
   subst this;rw[Ni hl,hp];rfl
def Lg{p:Nat->Bool}{i:Nat}:∀{n:Nat},dH p n=B1 i->i<n/\p i=B4 /\ ∀j,j<i->p j=B2
 |0,h=>by cases h
 |n+1,h=>by
  rw[dH]at h;cases d:dH p n with
  |some k =>
   rw[d]at h;injection h with h;subst h
   obtain⟨a,b,c⟩:=Lg d;exact⟨by omega,b,c⟩
  |none =>
   rw[d]at h;simp only at h;split at h
   .rename_i hp;injection h with h;subst h
    refine⟨by omega,hp,λ j e=>?_⟩;cases f:p j with
    |false=>rfl
    |true =>
     exfalso;exact firstN_not (n:=n) d j e f
   .cases h
where
 firstN_not {p:Nat->Bool}:∀{n:Nat},dH p n=B5 -> ∀j,j<n->p j=B4->False
 |0,_,j,hj,_=>by omega
 |n+1,h,j,hj,hp=>by
  rw[dH]at h;cases hf:dH p n with
  |some k=>rw[hf]at h;cases h
  |none =>
   rw[hf]at h;simp only at h;split at h
   .cases h
   .rename_i hq;rcases xw j n with q|q
    .exact firstN_not hf j q hp
    .exact hq (by rw[<-show j=n by omega];exact hp)
def xcg{p:Nat->Bool}{n:Nat}(h:dH p n=B5):∀j,j<n->p j=false:=λ j a=>by
 cases b:p j with
 |false=>rfl
 |true=>exact(Lg.firstN_not h j a b).elim
structure Ca where
 fO:Nat
 ways:Nat
 sl:List En
 us:Int
namespace Ca
def fr(c:Ca)(line:Int):Nat:=(line.toNat % c.fO)*c.ways
def en(c:Ca)(i:Nat):En:=c.sl[i]?.getD .zero
def mK(c:Ca)(line:Int)(i:Nat):Bool:=(c.en (c.fr line+i)).st != 0 && (c.en (c.fr line+i)).line == line
def pos(c:Ca)(line:Int):Option Nat:=if line<0 then B5 else(dH (c.mK line) c.ways).map (c.fr line + ·)
def set(c:Ca)(i:Nat)(e:En):Ca:={c with sl:=c.sl.set i e}
def find(c:Ca)(line:Int):Option En:=(c.pos line).map c.en
def use(c:Ca)(i:Nat):Ca:={c with us:=c.us+1,sl:=c.sl.set i {c.en i with u:=c.us+1}}
def word(c:Ca)(a:Nat):Ca×Option Int:=match c.pos ((a / 8:Nat):Int)with
 |none=>(c,B5)
 |some i=>(c.use i,B1 ((c.en i).d.get (a % 8)))
def lI(c:Ca)(line st:Int):Option Nat:=match c.pos line with
 |none=>B5
 |some i=>if st≠0/\(c.en i).st≠st then B5 else B1 i
def put(c:Ca)(a:Nat)(y:Int):Ca:=match c.lI ((a / 8:Nat):Int) 2 with
 |none=>c
 |some i=>{c with us:=c.us+1,sl:=c.sl.set i {c.en i with u:=c.us+1,d:=(c.en i).d.put (a % 8) y}}
def mark(c:Ca)(line:Int)(wr:Bool):Ca:=if wr then
 match c.lI line 2 with
 |none=>c
 |some i=>if(c.en i).w then c else c.set i {c.en i with w:=B4,o:=(c.en i).d}
 else match c.lI line 0 with
  |none=>c
  |some i=>c.set i {c.en i with r:=B4}
def cV(c:Ca)(line:Int):Ca×L8:=match c.lI line 2 with
 |none=>(c,.zero)
 |some i=>(c.set i {c.en i with st:=1},(c.en i).d)
def cN(c:Ca)(line:Int)(d:L8):Ca:=match c.lI line 1 with
 |none=>c
 |some i=>c.set i {c.en i with st:=2,d:=d}
def drop(c:Ca)(line:Int):Ca×En:=match c.lI line 0 with
 |none=>(c,.zero)
 |some i=>(c.set i .zero,c.en i)
def rM(e:En):En:=if e.st=0 then e else{e with r:=B2,w:=B2,o:=.zero}
def back(e:En):En:=if e.st=0 then e else{e with r:=B2,w:=B2,o:=.zero,d:=if e.w then e.o else e.d}
def bt(c:Ca):Ca:={c with sl:=c.sl.map rM}
def discard(c:Ca):Ca:={c with sl:=c.sl.map back}
def iN(c:Ca)(line:Int):Nat->Option Nat
 |0=>B5
 |n+1=>if(c.en (c.fr line+n)).r ||(c.en (c.fr line+n)).w then c.iN line n else match c.iN line n with
  |none=>B1 n
  |some j=>if(c.en (c.fr line+n)).u<(c.en (c.fr line+j)).u then B1 n else B1 j
def free(c:Ca)(line:Int)(i:Nat):Bool:=(c.en (c.fr line+i)).st == 0
def room(c:Ca)(line:Int):Option Nat:=match dH (c.free line) c.ways with
 |some i=>B1 (c.fr line+i)
 |none=>(c.iN line c.ways).map (c.fr line + ·)
def fill(c:Ca)(line st:Int)(d:L8):Ca×En×Int :=
 match c.pos line with
 |some _=>(c,.zero,21)
 |none=>match c.room line with
  |none=>(c,.zero,22)
  |some i=>({c with us:=c.us+1,sl:=c.sl.set i ⟨line,st,B2,B2,d,.zero,c.us+1⟩},c.en i,0)
end Ca
end Go.Am
namespace Go.Am
structure Mg where
 k:Int
 core:Int
 line:Int
 d:L8
 deriving DecidableEq
structure No where
 core:Int
 lines:Int
 c:Ca
 out:Mg
 aN:List Int
 live:Bool
 code:Int
namespace No
def may(n:No)(a:Int):Prop:=0<=a/\a<n.lines*8
instance(n:No)(a:Int):Decidable (n.may a):=inferInstanceAs (Decidable (_/\_))
def msg(n:No)(k line:Int):Mg:=⟨k,n.core,line,.zero⟩
def ask(n:No)(k line:Int):No×List Mg:=if n.out.k≠0\/line∈n.aN then(n,[])else({n with out:=n.msg k line},[n.msg k line])
def ln(a:Int):Int:=((a.toNat / 8:Nat):Int)
def load(n:No)(a:Int):No×Int×Bool×List Mg×Int :=
 if n.may a then match n.c.find (ln a)with
  |none=>((n.ask 1 (ln a)).1,0,B2,(n.ask 1 (ln a)).2,0)
  |some _=>({n with c:=((if n.live then n.c.mark (ln a) B2 else n.c).word a.toNat).1},((if n.live then n.c.mark (ln a) B2 else n.c).word a.toNat).2.getD 0,B4,[],0)
 else(n,0,B2,[],2)
def owned(n:No)(line:Int):Bool:=match n.c.find line with
 |none=>B2
 |some x=>x.st == 2
def store(n:No)(a y:Int):No×Bool×List Mg×Int :=
 if n.may a then if n.owned (ln a)then({n with c:=(if n.live then n.c.mark (ln a) B4 else n.c).put a.toNat y},B4,[],0)
  else((n.ask 2 (ln a)).1,B2,(n.ask 2 (ln a)).2,0)
 else(n,B2,[],2)
def nD(n:No)(a old y:Int):No×List Mg :=
 if n.may a then if n.live then(n,[])else if n.owned (ln a)then
  ({n with c:=if(n.c.word a.toNat).2.getD 0=old then(n.c.word a.toNat).1.put a.toNat y else(n.c.word a.toNat).1},[])
  else n.ask 2 (ln a)
 else(n,[])
def begin(n:No):No:=if n.live then n else{n with live:=B4,code:=0}
def bt(n:No):No:=if n.live then{n with c:=n.c.bt,live:=B2}else n
def iT(n:No)(code:Int):No:={n with c:=n.c.discard,live:=B2,code:=code}
def abort(n:No)(code:Int):No×Int:=if n.live then if code<1\/7<code then(n,2)else(n.iT code,0)else(n,40)
def lost(n:No)(x:En)(too:Bool):No:=if x.w ||(x.r && too)then if x.line=0 then n.iT 2 else n.iT 1 else n
def jY(n:No)(m:Mg)(x:En):Prop :=
 m.k=11/\x.st≠2\/(m.k=12\/m.k=13)/\x.st≠1\/m.k=14/\n.out=n.msg 1 m.line\/m.k=15/\n.out=n.msg 2 m.line\/m.k=16/\m.line∈n.aN
instance(n:No)(m:Mg)(x:En):Decidable (n.jY m x):=inferInstanceAs (Decidable (_\/_))
def gone(n:No)(x:En):No×List Mg:=if x.st=2 then({n with aN:=n.aN ++ [x.line]},[⟨3,n.core,x.line,x.d⟩])else(n,[])
def dR(n:No)(m:Mg)(st:Int):No×List Mg :=
 if(n.c.fill m.line st m.d).2.2=0/\(n.c.fill m.line st m.d).2.1.st≠0 then gone {n with c:=(n.c.fill m.line st m.d).1} (n.c.fill m.line st m.d).2.1
 else({n with c:=(n.c.fill m.line st m.d).1},[])
def lf(n:No)(m:Mg)(st:Int):No×List Mg:=if(n.c.fill m.line st m.d).2.2=22 then(n.iT 3).dR m st else n.dR m st
def fill(n:No)(m:Mg):No×List Mg:=n.lf m (if m.k=15 then 2 else 1)
end No
end Go.Am
namespace Go.Am
namespace Ca
structure CI(lines:Int)(c:Ca):Prop where
 len:c.sl.length=c.fO*c.ways
 s0:0<c.fO
 w0:0<c.ways
 ok:∀i,i<c.sl.length->(c.en i).st≠0->((c.en i).st=1\/(c.en i).st=2)/\0<=(c.en i).line/\(c.en i).line<lines/\i / c.ways=(c.en i).line.toNat % c.fO/\((c.en i).w=B4->(c.en i).st=2)
 uq:∀i j,i<c.sl.length->j<c.sl.length->(c.en i).st≠0->(c.en j).st≠0->(c.en i).line=(c.en j).line->i=j
def FA{c:Ca}{i:Nat}(h:i<c.sl.length):c.sl[i]? = B1 (c.en i):=by
 unfold en;rw[qy h];rfl
def BN{c:Ca}{i j:Nat}{e:En}(h:i<c.sl.length):(c.set i e).en j=if i=j then e else c.en j:=by
 unfold en set
 by_cases q:i=j
 .subst q;rw[xb rfl];simp[xx h]
 .rw [qv q];simp only;rw[xy q]
def WQ{c:Ca}{i:Nat}(h:c.sl.length<=i):c.en i=.zero:=by
 unfold en;rw[z4 h];rfl
section
variable{lines:Int}{c:Ca}
def CI.lS(h:CI lines c)(line:Int){k:Nat}(hk:k<c.ways):c.fr line+k<c.sl.length:=by
 have a:line.toNat % c.fO<c.fO:=Nat.mod_lt _ h.s0;have b:(line.toNat % c.fO+1)*c.ways<=c.fO*c.ways:=jk _ a;rw[ye,Nat.one_mul]at b;unfold fr;rw[h.len];omega
def CI.Li(h:CI lines c)(line:Int){k:Nat}(hk:k<c.ways):(c.fr line+k) / c.ways=line.toNat % c.fO:=by
 unfold fr;rw[Nat.add_comm,Nat.add_mul_div_right _ _ h.w0,Nat.div_eq_of_lt hk,yf]
def CI.bC(h:CI lines c){line:Int}{i:Nat}(hp:c.pos line=B1 i):0<=line/\i<c.sl.length/\(c.en i).st≠0/\(c.en i).line=line /\ ∃k,k<c.ways/\i=c.fr line+k/\dH (c.mK line) c.ways=B1 k:=by
 unfold pos at hp;split at hp
 .cases hp
 .rename_i hl;rw[xk]at hp;obtain⟨k,hk,rfl⟩:=hp;obtain⟨a,b,-⟩:=Lg hk;unfold mK at b;simp only[zf,bne_iff_ne,ne_eq,beq_iff_eq]at b;exact⟨by omega,h.lS line a,b.1,b.2,k,a,rfl,hk⟩
def CI.Lp(h:CI lines c){i:Nat}(g:i<c.sl.length)(f:(c.en i).st≠0):c.pos (c.en i).line=B1 i:=by
 obtain⟨-,a,-,b,-⟩:=h.ok i g f;have hk:i % c.ways<c.ways:=Nat.mod_lt _ h.w0;have d:c.fr (c.en i).line+i % c.ways=i:=by
  unfold fr;rw[<-b];exact Nat.div_add_mod' i c.ways
 unfold pos;rw[qv (by omega),N1 (i:=i % c.ways) hk]
 .show B1 (c.fr (c.en i).line+i % c.ways)=B1 i;rw[d]
 .unfold mK;rw[d];simp[f]
 .intro j k;cases e:c.mK (c.en i).line j with
  |false=>rfl
  |true =>
   unfold mK at e;simp only[zf,bne_iff_ne,ne_eq,beq_iff_eq]at e;have:=h.uq _ _ (h.lS (c.en i).line (show j<c.ways by omega)) g e.1 f e.2;omega
def CI.Cx(h:CI lines c){line:Int}(hp:c.pos line=B5):∀i,i<c.sl.length->(c.en i).st≠0->(c.en i).line≠line:=λ i a b q=>by
 have:=h.Lp a b;rw[q,hp]at this;cases this
def CI.Fx(h:CI lines c){i:Nat}(m:i<c.sl.length){e:En}(p:(c.en i).st≠0)(hl:e.line=(c.en i).line)(hs:e.st=1\/e.st=2)(hw:e.w=B4->e.st=2):CI lines (c.set i e):=by
 have hlen:(c.set i e).sl.length=c.sl.length:=by show(c.sl.set i e).length=_;rw[xq]
 have r:e.st≠0:=by omega
 obtain⟨-,a,b,d,-⟩:=h.ok i m p;refine⟨by rw[hlen];exact h.len,h.s0,h.w0,λ j n f=>?_,λ j k n hk f g q=>?_⟩
 .rw [hlen]at n;rw[BN m]at f⊢
  by_cases q:i=j
  .subst q;rw[xb rfl,hl];exact⟨hs,a,b,d,hw⟩
  .rw [qv q]at f⊢;exact h.ok j n f
 .rw [hlen]at n hk;rw[BN m]at f q;rw[BN m]at g q
  by_cases o:i=j
  .by_cases l:i=k
   .omega
   .rw [xb o,qv l,hl]at q;rw[qv l]at g;rw[<-o];exact h.uq i k m hk p g q
  .by_cases l:i=k
   .rw [qv o,xb l,hl]at q;rw[qv o]at f;rw[<-l];exact h.uq j i n m f p q
   .rw [qv o,qv l]at q;rw[qv o]at f;rw[qv l]at g;exact h.uq j k n hk f g q
def CI.off(h:CI lines c){i:Nat}(f:i<c.sl.length):CI lines (c.set i .zero):=by
 have hlen:(c.set i .zero).sl.length=c.sl.length:=by show(c.sl.set i .zero).length=_;rw[xq]
 have e:∀j,((c.set i .zero).en j).st≠0->i≠j/\(c.set i .zero).en j=c.en j:=λ j b=>by
  rw[BN f]at b⊢
  by_cases q:i=j
  .rw [xb q]at b;exact absurd rfl b
  .rw [qv q];exact⟨q,rfl⟩
 refine⟨by rw[hlen];exact h.len,h.s0,h.w0,λ j b a=>?_,λ j k b hk a d q=>?_⟩
 .rw [hlen]at b;have:=(e j a).2;rw[this]at a⊢;exact h.ok j b a
 .rw [hlen]at b hk;have e1:=(e j a).2;have e2:=(e k d).2;rw[e1]at a q;rw[e2]at d q;exact h.uq j k b hk a d q
def CI.K5(h:CI lines c){i k:Nat}{line:Int}{e:En}(hk:k<c.ways)(o:i=c.fr line+k)(hn:c.pos line=B5)(hl:e.line=line)(p:0<=line)(r:line<lines)(hs:e.st=1\/e.st=2)(hw:e.w=B2):CI lines (c.set i e):=by
 have d:i<c.sl.length:=by rw[o];exact h.lS line hk
 have hlen:(c.set i e).sl.length=c.sl.length:=by show(c.sl.set i e).length=_;rw[xq]
 have l:=h.Cx hn;refine⟨by rw[hlen];exact h.len,h.s0,h.w0,λ j f a=>?_,λ j m f hm a b q=>?_⟩
 .rw [hlen]at f;rw[BN d]at a⊢
  by_cases q:i=j
  .rw [xb q,hl];exact⟨hs,p,r,by rw[<-q,o];exact h.Li line hk,λ q=>by rw[hw]at q;cases q⟩
  .rw [qv q]at a⊢;exact h.ok j f a
 .rw [hlen]at f hm;rw[BN d]at a q;rw[BN d]at b q
  by_cases n:i=j
  .by_cases g:i=m
   .omega
   .rw [xb n,qv g,hl]at q;rw[qv g]at b;exact(l m hm b q.symm).elim
  .by_cases g:i=m
   .rw [qv n,xb g,hl]at q;rw[qv n]at a;exact(l j f a q).elim
   .rw [qv n,qv g]at q;rw[qv n]at a;rw[qv g]at b;exact h.uq j m f hm a b q
theorem CI.map(h:CI lines c){g:En->En}(hl:∀e,(g e).line=e.line)(hs:∀e,(g e).st=e.st)(hw:∀e,e.st≠0->(g e).w=B4->e.w=B4)(us:Int):CI lines {c with sl:=c.sl.map g,us:=us}:=by
 have hlen:(c.sl.map g).length=c.sl.length:=xu _;have he:∀j,j<c.sl.length->Ca.en {c with sl:=c.sl.map g,us:=us} j=g (c.en j):=λ j l=>by
  unfold en;simp only[xj];rw[qy l];rfl
 refine⟨by show(c.sl.map g).length=_;rw[hlen];exact h.len,h.s0,h.w0,λ j l i=>?_,λ j k l hk i m q=>?_⟩
 .have l:j<c.sl.length:=by rw[<-hlen];exact l
  rw[he j l]at i⊢;rw[hs]at i;obtain⟨a,b,d,e,f⟩:=h.ok j l i;rw[hl,hs];exact⟨a,b,d,e,λ q=>f (hw _ i q)⟩
 .have l:j<c.sl.length:=by rw[<-hlen];exact l
  have hk:k<c.sl.length:=by rw[<-hlen];exact hk
  rw[he j l]at i q;rw[he k hk]at m q;rw[hs]at i m;rw[hl,hl]at q;exact h.uq j k l hk i m q
def CI.us(h:CI lines c)(u:Int):CI lines {c with us:=u}:=⟨h.len,h.s0,h.w0,h.ok,h.uq⟩
end
end Ca
end Go.Am
namespace Go.Am
namespace No
def bS(n:No)(m:Mg):No×List Mg :=
 if m.core≠n.core\/m.line<0\/n.lines<=m.line \/ ¬n.jY m ((n.c.find m.line).getD .zero)then(n,[])
 else if m.k=11 then({n.lost ((n.c.find m.line).getD .zero) B4 with c:=((n.lost ((n.c.find m.line).getD .zero) B4).c.drop m.line).1},[n.msg 4 m.line])
 else if m.k=12\/m.k=13 then match n.c.find m.line with
  |none=>(n,[n.msg 6 m.line])
  |some x =>
   if m.k=12 then({n.lost x B2 with c:=((n.lost x B2).c.cV m.line).1},[⟨5,n.core,m.line,((n.lost x B2).c.cV m.line).2⟩])
   else({n.lost x B4 with c:=((n.lost x B4).c.drop m.line).1},[⟨5,n.core,m.line,((n.lost x B4).c.drop m.line).2.d⟩])
 else if m.k=16 then({n with aN:=n.aN.filter (· ≠m.line)},[])
 else match n.c.find m.line with
  |some _=>({n with out:=⟨0,0,0,.zero⟩,c:=n.c.cN m.line m.d},[n.msg 7 m.line])
  |none=>((fill {n with out:=⟨0,0,0,.zero⟩} m).1,(fill {n with out:=⟨0,0,0,.zero⟩} m).2 ++ [n.msg 7 m.line])
def da(n:No)(line:Int):No×List Mg :=
 if line<0\/n.lines<=line then(n,[])else match n.c.find line with
  |none=>(n,[])
  |some x =>
   gone {(if x.r ||x.w then n.iT 4 else n)with c:=((if x.r ||x.w then n.iT 4 else n).c.drop line).1} ((if x.r ||x.w then n.iT 4 else n).c.drop line).2
end No
structure ac8 where
 k:Int
 n:Int
 v:Int
 o:Int
 m:Mg
namespace Ca
section
variable{lines:Int}{c:Ca}
def ID{g:En->En}(hl:∀e,(g e).line=e.line)(hs:∀e,(g e).st=e.st)(line:Int)(i:Nat):Ca.mK {c with sl:=c.sl.map g} line i=c.mK line i:=by
 have he:∀j,(Ca.en {c with sl:=c.sl.map g} j).st=(c.en j).st/\((Ca.en {c with sl:=c.sl.map g} j).st≠0->(Ca.en {c with sl:=c.sl.map g} j).line=(c.en j).line):=λ j=>by
  unfold en;simp only[xj];cases f:c.sl[j]? with
  |none=>exact⟨rfl,λ q=>absurd rfl q⟩
  |some e=>exact⟨hs e,λ _=>hl e⟩
 have d:Ca.fr {c with sl:=c.sl.map g} line=c.fr line:=rfl;unfold mK;rw[d];have⟨a,b⟩:=he (c.fr line+i);rw[a]at b⊢
 by_cases q:(c.en (c.fr line+i)).st=0
 .rw [q];rfl
 .rw [b q]
def xmu{g:En->En}(hl:∀e,(g e).line=e.line)(hs:∀e,(g e).st=e.st)(line:Int):Ca.pos {c with sl:=c.sl.map g} line=c.pos line:=by
 have:Ca.mK {c with sl:=c.sl.map g} line=c.mK line:=funext λ i=>ID hl hs line i;unfold pos;rw[this];rfl
def Sy{g:En->En}{i:Nat}(a:i<c.sl.length):Ca.en {c with sl:=c.sl.map g} i=g (c.en i):=by
 unfold en;simp only[xj];rw[qy a];rfl
def TF(e:En):(back e).line=e.line:=by unfold back;split<;>rfl
def UF(e:En):(back e).st=e.st:=by unfold back;split<;>rfl
def EY(e:En):(rM e).line=e.line:=by unfold rM;split<;>rfl
def Vu(e:En):(rM e).st=e.st:=by unfold rM;split<;>rfl
def Te{e:En}(h:e.st≠0):(back e).r=B2/\(back e).w=B2/\(back e).d=if e.w then e.o else e.d:=by unfold back;rw[qv h];exact⟨rfl,rfl,rfl⟩
def fS{e:En}(h:e.st≠0):(rM e).r=B2/\(rM e).w=B2/\(rM e).d=e.d:=by unfold rM;rw[qv h];exact⟨rfl,rfl,rfl⟩
def plain(c:Ca):Prop:=∀i,i<c.sl.length->(c.en i).st≠0->(c.en i).r=B2/\(c.en i).w=B2
def CI.discard(h:CI lines c):CI lines c.discard:=by
 refine(h.map (g:=back) TF UF (λ e he q=>?_) c.us);rw[(Te he).2.1]at q;cases q
def CI.bt(h:CI lines c):CI lines c.bt:=by
 refine(h.map (g:=rM) EY Vu (λ e he q=>?_) c.us);rw[(fS he).2.1]at q;cases q
def CI.HS(h:CI lines c):c.discard.plain:=λ i b a=>by
 have b:i<c.sl.length:=by have:c.discard.sl.length=c.sl.length:=xu _;omega
 have e:c.discard.en i=back (c.en i):=Sy b;rw[e]at a⊢;rw[UF]at a;exact⟨(Te a).1,(Te a).2.1⟩
def CI.GM(h:CI lines c):c.bt.plain:=λ i b a=>by
 have b:i<c.sl.length:=by have:c.bt.sl.length=c.sl.length:=xu _;omega
 have e:c.bt.en i=rM (c.en i):=Sy b;rw[e]at a⊢;rw[Vu]at a;exact⟨(fS a).1,(fS a).2.1⟩
def plain.set(h:c.plain){i:Nat}(d:i<c.sl.length){e:En}(hr:e.st≠0->e.r=B2/\e.w=B2)(us:Int):Ca.plain {c.set i e with us:=us}:=λ j b a=>by
 have b:j<c.sl.length:=by have:(c.sl.set i e).length=c.sl.length:=xq;have b:j<(c.sl.set i e).length:=b;omega
 have e1:Ca.en {c.set i e with us:=us} j=(c.set i e).en j:=rfl;rw[e1,BN d]at a⊢
 by_cases q:i=j
 .rw [xb q]at a⊢;exact hr a
 .rw [qv q]at a⊢;exact h j b a
def T8{line:Int}{x:En}(h:c.find line=B1 x):∃i,c.pos line=B1 i/\x=c.en i:=by
 unfold find at h;rw[xk]at h;have⟨i,a,b⟩:=h;exact⟨i,a,b.symm⟩
def yO{line st:Int}{i:Nat}(h:c.lI line st=B1 i):c.pos line=B1 i/\(st≠0->(c.en i).st=st):=by
 unfold lI at h;cases hp:c.pos line with
 |none=>rw[hp]at h;cases h
 |some k =>
  rw[hp]at h;simp only at h;split at h
  .cases h
  .rename_i a;cases h;exact⟨rfl,λ q=>kj.1 λ w=>a ⟨q,w⟩⟩
def sH{line:Int}:c.lI line 0=c.pos line:=by
 unfold lI;cases c.pos line with
 |none=>rfl
 |some k=>simp only;rw[qv (λ q=>q.1 rfl)]
def CI.use(h:CI lines c){i:Nat}(d:i<c.sl.length)(f:(c.en i).st≠0):CI lines (c.use i):=by
 obtain⟨a,-,-,-,b⟩:=h.ok i d f;exact(h.Fx d (e:={c.en i with u:=c.us+1}) f rfl a b).us (c.us+1)
def CI.word(h:CI lines c)(a:Nat):CI lines (c.word a).1:=by
 unfold Ca.word;cases hp:c.pos ((a / 8:Nat):Int)with
 |none=>exact h
 |some i=>obtain⟨-,b,d,-⟩:=h.bC hp;exact h.use b d
def CI.put(h:CI lines c)(a:Nat)(y:Int):CI lines (c.put a y):=by
 unfold Ca.put;cases hp:c.lI ((a / 8:Nat):Int) 2 with
 |none=>exact h
 |some i =>
  obtain⟨q,-⟩:=yO hp;obtain⟨-,b,d,-⟩:=h.bC q;obtain⟨k,-,-,-,l⟩:=h.ok i b d;exact(h.Fx b (e:={c.en i with u:=c.us+1,d:=(c.en i).d.put (a % 8) y}) d rfl k l).us (c.us+1)
def CI.mark(h:CI lines c)(line:Int)(wr:Bool):CI lines (c.mark line wr):=by
 unfold Ca.mark;cases wr with
 |true =>
  rw[xb rfl];cases hp:c.lI line 2 with
  |none=>exact h
  |some i =>
   have⟨q,s⟩:=yO hp;obtain⟨-,b,d,-⟩:=h.bC q;show CI lines (if(c.en i).w then c else c.set i {c.en i with w:=B4,o:=(c.en i).d});split
   .exact h
   .exact h.Fx b d rfl (.inr (s (by decide))) λ _=>s (by decide)
 |false =>
  rw[qv (by decide)];cases hp:c.lI line 0 with
  |none=>exact h
  |some i =>
   obtain⟨q,-⟩:=yO hp;obtain⟨-,b,d,-⟩:=h.bC q;obtain⟨k,-,-,-,l⟩:=h.ok i b d;exact h.Fx b (e:={c.en i with r:=B4}) d rfl k l
def CI.drop(h:CI lines c)(line:Int):CI lines (c.drop line).1:=by
 unfold Ca.drop;rw[sH];cases hp:c.pos line with
 |none=>exact h
 |some i=>obtain⟨-,b,-⟩:=h.bC hp;exact h.off b
def CI.cV(h:CI lines c)(line:Int)(hu:∀i,c.pos line=B1 i->(c.en i).w=B2):CI lines (c.cV line).1:=by
 unfold Ca.cV;cases hp:c.lI line 2 with
 |none=>exact h
 |some i =>
  obtain⟨q,-⟩:=yO hp;obtain⟨-,b,d,-⟩:=h.bC q;have hw:=hu i q;exact h.Fx b (e:={c.en i with st:=1}) d rfl (.inl rfl) λ w=>by rw[hw]at w;cases w
def CI.cN(h:CI lines c)(line:Int)(x:L8):CI lines (c.cN line x):=by
 unfold Ca.cN;cases hp:c.lI line 1 with
 |none=>exact h
 |some i =>
  obtain⟨q,-⟩:=yO hp;obtain⟨-,b,d,-⟩:=h.bC q;exact h.Fx b (e:={c.en i with st:=2,d:=x}) d rfl (.inr rfl) λ _=>rfl
def Tn{line:Int}:∀{n i:Nat},c.iN line n=B1 i->i<n/\(c.en (c.fr line+i)).r=B2/\(c.en (c.fr line+i)).w=B2
 |0,i,h=>by cases h
 |n+1,i,h=>by
  rw[iN]at h;split at h
  .have ⟨a,b⟩:=Tn h;exact⟨by omega,b⟩
  .rename_i hm;have hm:(c.en (c.fr line+n)).r=B2/\(c.en (c.fr line+n)).w=false:=by simpa using hm
   cases hb:c.iN line n with
   |none=>rw[hb]at h;cases h;exact⟨by omega,hm⟩
   |some j =>
    rw[hb]at h;simp only at h;have⟨a,b⟩:=Tn hb;split at h<;>(cases h)
    .exact ⟨by omega,hm⟩
    .exact ⟨by omega,b⟩
def UE{line:Int}{i:Nat}(h:c.room line=B1 i):∃k,k<c.ways/\i=c.fr line+k/\((c.en i).st=0\/(c.en i).r=B2/\(c.en i).w=B2):=by
 unfold room at h;cases d:dH (c.free line) c.ways with
 |some k =>
  rw[d]at h;cases h;obtain⟨a,b,-⟩:=Lg d;exact⟨k,a,rfl,.inl (by unfold free at b;simpa using b)⟩
 |none =>
  rw[d]at h;simp only[xk]at h;obtain⟨k,hk,rfl⟩:=h;have⟨a,b⟩:=Tn hk;exact⟨k,a,rfl,.inr b⟩
def CI.fill(h:CI lines c){line st:Int}{x:L8}(d:0<=line)(f:line<lines)(hs:st=1\/st=2):CI lines (c.fill line st x).1:=by
 unfold Ca.fill;cases hp:c.pos line with
 |some _=>exact h
 |none =>
  show CI lines (match c.room line with|none=>(c,En.zero,(22:Int))|some i=>({c with us:=c.us+1,sl:=c.sl.set i ⟨line,st,B2,B2,x,.zero,c.us+1⟩},c.en i,0)).1;cases hr:c.room line with
  |none=>exact h
  |some i =>
   obtain⟨k,a,b,-⟩:=UE hr;exact(h.K5 (e:=⟨line,st,B2,B2,x,.zero,c.us+1⟩) a b hp rfl d f hs rfl).us (c.us+1)
end
end Ca
end Go.Am
namespace Go.Am
namespace Ca
section
variable{lines:Int}{c:Ca}
def plain.word(h:c.plain)(f:CI lines c)(a:Nat):(c.word a).1.plain:=by
 unfold Ca.word;cases hp:c.pos ((a / 8:Nat):Int)with
 |none=>exact h
 |some i=>obtain⟨-,b,d,-⟩:=f.bC hp;exact h.set b (e:={c.en i with u:=c.us+1}) (λ _=>h i b d) (c.us+1)
def plain.put(h:c.plain)(f:CI lines c)(a:Nat)(y:Int):(c.put a y).plain:=by
 unfold Ca.put;cases hp:c.lI ((a / 8:Nat):Int) 2 with
 |none=>exact h
 |some i =>
  obtain⟨q,-⟩:=yO hp;obtain⟨-,b,d,-⟩:=f.bC q;exact h.set b (e:={c.en i with u:=c.us+1,d:=(c.en i).d.put (a % 8) y}) (λ _=>h i b d) (c.us+1)
def plain.drop(h:c.plain)(a:CI lines c)(line:Int):(c.drop line).1.plain:=by
 unfold Ca.drop;rw[sH];cases hp:c.pos line with
 |none=>exact h
 |some i=>obtain⟨-,b,-⟩:=a.bC hp;exact h.set b (e:=.zero) (λ q=>absurd rfl q) c.us
def plain.cV(h:c.plain)(a:CI lines c)(line:Int):(c.cV line).1.plain:=by
 unfold Ca.cV;cases hp:c.lI line 2 with
 |none=>exact h
 |some i =>
  obtain⟨q,-⟩:=yO hp;obtain⟨-,b,d,-⟩:=a.bC q;exact h.set b (e:={c.en i with st:=1}) (λ _=>h i b d) c.us
def plain.cN(h:c.plain)(a:CI lines c)(line:Int)(x:L8):(c.cN line x).plain:=by
 unfold Ca.cN;cases hp:c.lI line 1 with
 |none=>exact h
 |some i =>
  obtain⟨q,-⟩:=yO hp;obtain⟨-,b,d,-⟩:=a.bC q;exact h.set b (e:={c.en i with st:=2,d:=x}) (λ _=>h i b d) c.us
def plain.fill(h:c.plain)(d:CI lines c){line st:Int}{x:L8}:(c.fill line st x).1.plain:=by
 unfold Ca.fill;cases hp:c.pos line with
 |some _=>exact h
 |none =>
  show Ca.plain (match c.room line with|none=>(c,En.zero,(22:Int))|some i=>({c with us:=c.us+1,sl:=c.sl.set i ⟨line,st,B2,B2,x,.zero,c.us+1⟩},c.en i,0)).1;cases hr:c.room line with
  |none=>exact h
  |some i =>
   obtain⟨k,a,b,-⟩:=UE hr;exact h.set (by rw[b];exact d.lS line a) (e:=⟨line,st,B2,B2,x,.zero,c.us+1⟩) (λ _=>⟨rfl,rfl⟩) (c.us+1)
def ae8{line st:Int}{x:L8}:(c.fill line st x).2.2=21/\(c.fill line st x).1=c/\(c.fill line st x).2.1=.zero\/(c.fill line st x).2.2=22/\(c.fill line st x).1=c/\(c.fill line st x).2.1=.zero \/
 (c.fill line st x).2.2=0 /\ ∃i,c.room line=B1 i/\(c.fill line st x).2.1=c.en i:=by
 unfold Ca.fill;cases c.pos line with
 |some _=>exact .inl ⟨rfl,rfl,rfl⟩
 |none =>
  cases hr:c.room line with
  |none=>exact .inr (.inl ⟨rfl,rfl,rfl⟩)
  |some i=>exact .inr (.inr ⟨rfl,i,rfl,rfl⟩)
end
end Ca
open Ca
namespace No
structure NI(n:No):Prop where
 ci:CI n.lines n.c
 pl:n.live=B2->n.c.plain
section
variable{n:No}
def NI.iT(h:n.NI)(k:Int):(n.iT k).NI:=⟨h.ci.discard,λ _=>h.ci.HS⟩
def NI.lost(h:n.NI)(x:En)(too:Bool):(n.lost x too).NI:=by
 unfold No.lost;split
 .split
  .exact h.iT 2
  .exact h.iT 1
 .exact h
def NI.ask(h:n.NI)(k line:Int):(n.ask k line).1.NI:=by
 unfold No.ask;split
 .exact h
 .exact ⟨h.ci,h.pl⟩
def NI.mj(h:n.NI){c:Ca}(a:CI n.lines c)(hp:n.live=B2->c.plain):NI {n with c:=c}:=⟨a,hp⟩
def NI.gone(h:n.NI)(x:En):(n.gone x).1.NI:=by
 unfold No.gone;split
 .exact ⟨h.ci,h.pl⟩
 .exact h
def NI.dR(h:n.NI){m:Mg}{st:Int}(hs:st=1\/st=2)(a:0<=m.line)(b:m.line<n.lines):(n.dR m st).1.NI:=by
 have hb:NI {n with c:=(n.c.fill m.line st m.d).1}:=h.mj (h.ci.fill a b hs) λ w=>(h.pl w).fill h.ci;unfold No.dR;split
 .exact NI.gone (n:={n with c:=(n.c.fill m.line st m.d).1}) hb _
 .exact hb
def NI.fill(h:n.NI){m:Mg}(a:0<=m.line)(b:m.line<n.lines):(n.fill m).1.NI:=by
 have hs:(if m.k=15 then(2:Int)else 1)=1\/(if m.k=15 then(2:Int)else 1)=2:=by split<;>simp
 unfold No.fill No.lf;generalize(if m.k=15 then(2:Int)else 1)=st at hs;split
 .exact (h.iT 3).dR hs a b
 .exact h.dR hs a b
def NI.load(h:n.NI)(a:Int):(n.load a).1.NI:=by
 unfold No.load;split
 .cases b:n.c.find (ln a)with
  |none=>exact h.ask _ _
  |some x =>
   refine h.mj (CI.word ?_ _) λ q=>?_
   .split
    .exact h.ci.mark _ _
    .exact h.ci
   .rw [qv (by rw[q];decide)];exact(h.pl q).word h.ci _
 .exact h
def NI.store(h:n.NI)(a y:Int):(n.store a y).1.NI:=by
 unfold No.store;split
 .split
  .refine h.mj (CI.put ?_ _ _) λ q=>?_
   .split
    .exact h.ci.mark _ _
    .exact h.ci
   .rw [qv (by rw[q];decide)];exact(h.pl q).put h.ci _ _
  .exact h.ask _ _
 .exact h
def NI.nD(h:n.NI)(a o y:Int):(n.nD a o y).1.NI:=by
 unfold No.nD;split
 .split
  .exact h
  .split
   .simp only;split
    .exact h.mj ((h.ci.word _).put _ _) λ q=>((h.pl q).word h.ci _).put (h.ci.word _) _ _
    .exact h.mj (h.ci.word _) λ q=>(h.pl q).word h.ci _
   .exact h.ask _ _
 .exact h
def Dg{x:En}{too:Bool}{i:Nat}(h:n.NI)(a:i<n.c.sl.length)(b:(n.c.en i).st≠0)(d:x=n.c.en i):((n.lost x too).c.en i).w=false:=by
 unfold No.lost;split
 .have e:(n.c.discard).en i=back (n.c.en i):=Sy a;split<;>(show(n.c.discard.en i).w=B2;rw[e];exact(Te b).2.1)
 .rename_i q;rw[AK]at q;cases hw:(n.c.en i).w with
  |false=>rfl
  |true=>exact(q (.inl (by rw[d];exact hw))).elim
def ET(x:En)(too:Bool)(line:Int):(n.lost x too).c.pos line=n.c.pos line:=by
 unfold No.lost;split
 .split<;>exact xmu TF UF line
 .rfl
def NI.bS(h:n.NI)(m:Mg):(n.bS m).1.NI:=by
 unfold No.bS;split
 .exact h
 rename_i hg;have g:0<=m.line:=by have:=not_or.1 (not_or.1 hg).2;omega
 have k:m.line<n.lines:=by have:=not_or.1 (not_or.1 (not_or.1 hg).2).2;omega
 have d:∀x too,NI {n.lost x too with c:=((n.lost x too).c.drop m.line).1}:=λ x too =>
  (h.lost x too).mj ((h.lost x too).ci.drop m.line) λ q=>((h.lost x too).pl q).drop (h.lost x too).ci m.line
 split
 .exact d _ _
 split
 .cases e:n.c.find m.line with
  |none=>exact h
  |some x =>
   simp only;split
   .refine (h.lost x B2).mj ((h.lost x B2).ci.cV m.line λ i f=>?_) λ q=>((h.lost x B2).pl q).cV (h.lost x B2).ci m.line;have⟨j,a,b⟩:=T8 e;rw[ET,a]at f;cases f;obtain⟨-,hl,l,-⟩:=h.ci.bC a;exact Dg h hl l b
   .exact d _ _
 split
 .exact ⟨h.ci,h.pl⟩
 .cases e:n.c.find m.line with
  |some x=>exact⟨h.ci.cN _ _,λ q=>(h.pl q).cN h.ci _ _⟩
  |none=>exact NI.fill (n:={n with out:=⟨0,0,0,.zero⟩}) ⟨h.ci,h.pl⟩ g k
def NI.da(h:n.NI)(line:Int):(n.da line).1.NI:=by
 unfold No.da;split
 .exact h
 .cases a:n.c.find line with
  |none=>exact h
  |some x =>
   simp only;have hb:NI (if(x.r ||x.w)=B4 then n.iT 4 else n):=by
    split
    .exact h.iT 4
    .exact h
   generalize(if(x.r ||x.w)=B4 then n.iT 4 else n)=n1 at hb;exact NI.gone (n:={n1 with c:=(n1.c.drop line).1}) (hb.mj (hb.ci.drop line) λ q=>(hb.pl q).drop hb.ci line) _
def Qa(n:No)(n':No)(l:List Mg):Prop:=n.live=B4 -> ∀m∈l,m.k=3\/m.k=5 -> ∀i,i<n.c.sl.length->(n.c.en i).st≠0->(n.c.en i).line=m.line->(n.c.en i).w=B4->m.d=(n.c.en i).o/\n'.live=B2
def Qa.k{n n':No}{l:List Mg}(h:∀m∈l,m.k≠3/\m.k≠5):Qa n n' l:=λ _ m hm q=>by have:=h m hm;omega
def L5{k:Int}{i:Nat}(a:i<n.c.sl.length):(n.iT k).c.en i=back (n.c.en i):=Sy a
def iw{c:Ca}{line:Int}{i:Nat}(hp:c.pos line=B1 i):(c.drop line).2=c.en i:=by
 unfold Ca.drop;rw[sH,hp]
end
end No
end Go.Am
namespace Go.Am
namespace Ca
section
variable{lines:Int}{c:Ca}
structure FY(c c':Ca):Prop where
 fO:c'.fO=c.fO
 ways:c'.ways=c.ways
 len:c'.sl.length=c.sl.length
 st:∀i,(c'.en i).st=(c.en i).st
 line:∀i,(c'.en i).line=(c.en i).line
def FY.trans{a b d:Ca}(h:FY a b)(e:FY b d):FY a d:=⟨e.fO.trans h.fO,e.ways.trans h.ways,e.len.trans h.len,λ i=>(e.st i).trans (h.st i),λ i=>(e.line i).trans (h.line i)⟩
def FY.set{c:Ca}{i:Nat}{e:En}(us:Int)(hl:e.line=(c.en i).line)(hs:e.st=(c.en i).st):FY c {c.set i e with us:=us}:=by
 have he:∀j,Ca.en {c.set i e with us:=us} j=(c.set i e).en j:=λ j=>rfl;have hlen:(c.set i e).sl.length=c.sl.length:=xq;rcases xw i c.sl.length with a|a
 .refine ⟨rfl,rfl,hlen,λ j=>?_,λ j=>?_⟩<;>(rw[he,BN a];by_cases q:i=j)
  .subst q;rw[xb rfl,hs]
  .rw [qv q]
  .subst q;rw[xb rfl,hl]
  .rw [qv q]
 .have:(c.set i e)=c:=by
   unfold Ca.set;rw[List.set_eq_of_length_le a]
  rw[this];exact⟨rfl,rfl,rfl,λ _=>rfl,λ _=>rfl⟩
def FY.pos{c a:Ca}(h:FY c a)(line:Int):a.pos line=c.pos line:=by
 have b:∀line,a.fr line=c.fr line:=λ line=>by unfold fr;rw[h.fO,h.ways]
 have d:a.mK line=c.mK line:=funext λ i=>by unfold mK;rw[b,h.st,h.line]
 unfold Ca.pos;rw[d,h.ways,b]
end
end Ca
end Go.Am
namespace Go.Am
structure qB{α:Type}(enc:α->List AV)(e size:Nat)(H:ar)(v:AV)(xs:List α)(b i alt r:Nat):Prop where
 eq:v=.gslice b i (i+xs.length+r) size alt xs.length
 lt:b<H.au
 cells:∃P R,P.length=i*size/\R.length=r*size/\H.get b=B1 (.grown (i+xs.length+r) size (P++(xs.flatMap enc++R)) e (0,0))
def Sk{α:Type}(enc:α->List AV)(e size:Nat)(H:ar)(v:AV)(xs:List α):Prop:=(v=.nils/\xs=[]) \/ ∃b i alt r,qB enc e size H v xs b i alt r
section
variable{α:Type}{enc:α->List AV}{e size:Nat}{H H':ar}{v:AV}{xs ys:List α}{b i alt r:Nat}
def Sk.nil(H:ar):Sk enc e size H .nils ([]:List α):=.inl ⟨rfl,rfl⟩
def qB.fr{W:Nat->Prop}(h:qB enc e size H v xs b i alt r)(f:Fr W H H')(hw:¬W b):qB enc e size H' v xs b i alt r:=by
 obtain⟨P,R,a,c,d⟩:=h.cells;exact⟨h.eq,qn h.lt f.au,P,R,a,c,by rw[f.ai b h.lt hw];exact d⟩
def qB.on(h:qB enc e size H v xs b i alt r):aM v b:=⟨by rw[h.eq];simp,by rw[h.eq];rfl⟩
def qB.T5(h:qB enc e size H v xs b i alt r){x:Nat}(a:aM v x):x=b:=by rw[a.2,h.eq];rfl
def Sk.fr{W:Nat->Prop}(h:Sk enc e size H v xs)(f:Fr W H H')(hw:∀x,aM v x -> ¬W x):Sk enc e size H' v xs:=by
 rcases h with q|⟨b,i,alt,r,h⟩
 .exact .inl q
 .exact .inr ⟨b,i,alt,r,h.fr f (hw b h.on)⟩
def Sk.em(h:Sk enc e size H v xs)(f:Fr Em H H'):Sk enc e size H' v xs:=h.fr f λ _ _ q=>q
def Sk.lt(h:Sk enc e size H v xs):∀x,aM v x->x<H.au:=by
 intro x a;rcases h with⟨rfl,-⟩|⟨b,i,alt,r,h⟩
 .exact (a.1 rfl).elim
 .rw [h.T5 a];exact h.lt
def AG(hs:∀x,(enc x).length=size):∀(l:List α),(l.flatMap enc).length=l.length*size
 |[]=>by simp
 |a::l=>by rw[j0,xc,hs,AG hs l,zr,ye];omega
def qB.sl(hs:∀x,(enc x).length=size)(h:qB enc e size H v xs b i alt r):bM enc size H v xs:=by
 obtain⟨P,R,a,c,d⟩:=h.cells;rw[h.eq];refine⟨AG hs xs,rfl,rfl,by omega,.inr ⟨h.lt,_,UW d,?_⟩⟩;have hl:=AG hs xs;rw[sV,xb (by simp only[xc];omega),<-a,List.drop_left,<-hl,CP]
def Sk.sl(hs:∀x,(enc x).length=size)(h:Sk enc e size H v xs):bM enc size H v xs:=by
 rcases h with⟨rfl,rfl⟩|⟨b,i,alt,r,h⟩
 .exact ⟨by simp,rfl⟩
 .exact h.sl hs
def Sk.len(hs:∀x,(enc x).length=size)(h:Sk enc e size H v xs):Op.dp [v]=B1 (.int .i64 xs.length):=(h.sl hs).len
def qB.Ef(hs:∀x,(enc x).length=size)(C:0<size)(h:qB enc e size H v xs b i alt r){x:AV}{k:Nat}{new:List AV}(hk:k<=r)(hl:k=ys.length)(hn:new=ys.flatMap enc)(q:fI x=B1 k)(p:firstCells H size k x=B1 new)(f:aS new=B4)(bytes:Nat) :
 ∃B H',Op.append e size bytes [v,x] H=B1 (B,H')/\qB enc e size H' B (xs++ys) b i alt (r-k)/\Fr (On b) H H':=by
 obtain⟨P,R,a,c,d⟩:=h.cells;have e1:∀n,J8 n n=true:=λ n=>by simp
 have hle:=y8 (show i+xs.length<=i+xs.length+r by omega);have y:=AG hs xs;have z:=AG hs ys;rw[h.eq];have hm:i+xs.length+r=i+(xs++ys).length+(r-k):=by rw[xc];omega
 by_cases g:k=0
 .subst g;have F:ys=[]:=jf.1 hl.symm;subst F;refine⟨.gslice b i (i+xs.length+r) size alt xs.length,H,?_,?_,Fr.refl H⟩
  .simp only[Op.append,q,p,qr,f,xv,df,J8,hle]
  .rw [zn,Kv,<-h.eq];exact h
 .have s:J8 k 0=false:=by cases A:J8 k 0 with|false=>rfl|true=>rw[kc]at A;exact absurd A g
  have t:Pk 0 size=true:=Fz C;have j:=y8 (show i+xs.length+k<=i+xs.length+r by omega);have o:new.length=k*size:=by rw[hn,z,hl]
  have hmul:k*size<=r*size:=jk _ hk;have u:H.store b ((i+xs.length)*size) new=B1 (H.set b (.grown (i+xs.length+r) size (P++((xs++ys).flatMap enc++R.drop (k*size))) e (0,0))):=by
   have E:eI (0,0) ((i+xs.length)*size) (cW new)=true:=by simp[eI]
   have e2:(i+xs.length)*size=(P++xs.flatMap enc).length:=by rw[xc,a,y,ye]
   have D:(P++(xs.flatMap enc++R)).take ((i+xs.length)*size)++new++(P++(xs.flatMap enc++R)).drop ((i+xs.length)*size+new.length)=P++((xs++ys).flatMap enc++R.drop (k*size)):=by
    rw[e2,<-jb P,CP,I3,o,jo (by omega),z7,show(P++xs.flatMap enc).length+k*size-(P++xs.flatMap enc).length=k*size by omega,kq,hn];simp only[jb]
   simp only[ar.store,f,xv,d,E,Fy];rw[xb (by rw[o,e2];simp only[xc];omega),qr,D]
  refine⟨.gslice b i (i+xs.length+r) size alt (xs.length+k),H.set b (.grown (i+xs.length+r) size (P++((xs++ys).flatMap enc++R.drop (k*size))) e (0,0)),?_,⟨?_,?_,P,R.drop (k*size),a,?_,?_⟩,(Fr.refl H).set (W:=On b) (.inl rfl) _⟩
  .simp only[Op.append,q,p,qr,f,xv,df,s,zo,e1,hle,t,jp,j,u]
  .rw [<-hm,xc,hl]
  .exact h.lt
  .rw [jg,c,Mw]
  .rw [<-hm];exact xg ..
def Sk.app(hs:∀x,(enc x).length=size)(K:0<size)(h:Sk enc e size H v xs){x:AV}{k:Nat}{new:List AV}(hl:k=ys.length)(hn:new=ys.flatMap enc)(o:fI x=B1 k)(j:firstCells H size k x=B1 new)(f:aS new=B4){bytes:Nat}
 (Q:(xs.length+k)*bytes<=140737488355328) (G:xs.length+k<=140737488355328) :
 ∃D H',Op.append e size bytes [v,x] H=B1 (D,H')/\Sk enc e size H' D (xs++ys)/\Fr (aM v) H H' /\ ∀z,aM D z->aM v z\/H.au<=z:=by
 have e1:∀n,J8 n n=true:=λ n=>by simp
 have g:=S7 Q G;have t:Pk 0 size=true:=Fz K;have U:=AG hs ys
 by_cases y:k=0
 .subst y;have T:ys=[]:=jf.1 hl.symm;subst T;refine⟨v,H,?_,by rw[zn];exact h,Fr.refl H,λ z q=>.inl q⟩;rcases h with⟨rfl,rfl⟩|⟨b,i,alt,r,h⟩
  .simp only[Op.append,o,j,qr,f,xv,df,J8]
  .rw [h.eq];have hle:=y8 (show i+xs.length<=i+xs.length+r by omega);simp only[Op.append,o,j,qr,f,xv,df,J8,hle]
 .have p:J8 k 0=false:=by cases u:J8 k 0 with|false=>rfl|true=>rw[kc]at u;exact absurd u y
  rcases h with⟨rfl,rfl⟩|⟨b,i,alt,r,h⟩
  .have g:fits k bytes=true:=by simpa using g
   refine⟨.gslice H.au 0 k size 0 k,H.alloc (.grown k size new e (0,0)),?_,.inr ⟨H.au,0,0,0,?_,?_,[],[],?_,?_,?_⟩,(Fr.refl H).alloc _,λ z q=>.inr ?_⟩
   .simp only[Op.append,o,j,qr,f,xv,df,p,zo,g,t,jp,dD]
   .rw [z7,hl,yf,vc]
   .rw [xz];omega
   .simp
   .simp
   .rw [xr,z7,z7,zn,hn,hl,yf,vc]
   .rw [q.2];exact qm _
  .by_cases hr:k<=r
   .obtain ⟨D,H',M,L,E⟩:=h.Ef hs K hr hl hn o j f bytes;exact⟨D,H',M,.inr ⟨_,_,_,_,L⟩,E.mono λ z hz(q:z=b)=>by rw[q];exact h.on,λ z q=>.inl (by rw[L.T5 q];exact h.on)⟩
   .obtain ⟨P,R,a,c,d⟩:=h.cells;have I:=AG hs xs;have B:=h.on;rw[h.eq]at B⊢;have hle:=y8 (show i+xs.length<=i+xs.length+r by omega);have E:OZ (i+xs.length+k) (i+xs.length+r)=false:=by cases u:OZ (i+xs.length+k) (i+xs.length+r)with|false=>rfl|true=>rw[uh]at u;omega
    have C:=y8 (x9 ((i+xs.length+r)*size));have J:=y8 (x9 (i*size));have A:Fr (aM (.gslice b i (i+xs.length+r) size alt xs.length)) H (H.kill b):=Fr.kill (Fr.refl H) (.inl B);have fin:∀cs,cs=xs.flatMap enc->Sk enc e size ((H.kill b).alloc (.grown (xs.length+k) size (cs++new) e (0,0))) (.gslice (H.kill b).au 0 (xs.length+k) size 0 (xs.length+k)) (xs++ys):=λ cs F=>by
     refine .inr ⟨H.au,0,0,0,?_,?_,[],[],?_,?_,?_⟩
     .rw [Iv,xc,hl,yf,vc]
     .rw [xz,Iv];omega
     .simp
     .simp
     .have:=xr (H.kill b) (.grown (xs.length+k) size (cs++new) e (0,0));rw[Iv]at this;rw[this,z7,zn,kq,F,hn,xc,hl,yf,vc]
    by_cases hw:i=0/\r=0
    .obtain ⟨rfl,rfl⟩:=hw;have O:P=[]:=jf.1 (by simpa using a);have hR:R=[]:=jf.1 (by simpa using c);subst O hR;have s:J8 xs.length (0+xs.length+0)=true:=by simp
     refine⟨_,_,?_,fin (xs.flatMap enc) rfl,A.alloc _,λ z q=>.inr (by rw[q.2];exact qm _)⟩;simp only[Op.append,o,j,qr,f,xv,df,p,zo,e1,hle,t,jp,E,g,d,C,s,dD,J8,py,z7,zn]
    .have s:(J8 i 0 && J8 xs.length (i+xs.length+r))=false:=by
      cases u:(J8 i 0 && J8 xs.length (i+xs.length+r))with
      |false=>rfl
      |true =>
       rw[zf,kc,kc]at u;exact absurd ⟨u.1,by omega⟩ hw
     have S:fP (P++(xs.flatMap enc++R)) (i*size) (xs.length*size)=B1 (xs.flatMap enc):=by
      rw[sV,xb (by simp only[xc];omega),<-a,List.drop_left,<-I,CP]
     refine⟨_,_,?_,fin (xs.flatMap enc) rfl,A.alloc _,λ z q=>.inr (by rw[q.2];exact qm _)⟩;simp only[Op.append,o,j,qr,f,xv,df,p,zo,e1,hle,t,jp,E,g,d,C,s,Bool.false_and,J,S,dD,J8,py]
def qB.off(h:qB enc e size H v xs b i alt r)(hs:∀x,(enc x).length=size){k:Nat}(hk:k<=xs.length)(kk:PD):∃j f,Op.aC size [B1 0,B5,B5] [v,.int kk (k:Int)]=B1 j/\qB enc e size H j (xs.drop k) b (i+k) f r/\(f=cond (J8 k 0) alt (i*size)):=by
 obtain⟨P,R,a,c,d⟩:=h.cells;have e1:∀n,J8 n n=true:=λ n=>by simp
 have g:∀d m,bound B5 d m=B1 d:=λ _ _=>rfl;have hlen:i+k+(xs.drop k).length+r=i+xs.length+r:=by rw[jg];omega
 rw[h.eq];refine⟨.gslice b (i+k) (i+xs.length+r) size (cond (J8 k 0) alt (i*size)) (xs.length-k),_,?_,⟨?_,h.lt,P++(xs.take k).flatMap enc,R,?_,c,?_⟩,rfl⟩
 .simp only[Op.aC,arg,kD,ja,qr,dC,g,wv (z:=(k:Int)) (k:=k) rfl hk kk,e1,y8 (show xs.length<=i+xs.length+r-i by omega),y8 (show i<=i+xs.length+r by omega),jp,xv]
 .rw [hlen,jg]
 .rw [xc,a,AG hs,zx,LH hk,ye]
 .rw [hlen,d];congr 2;rw[jb,<-jb (List.flatMap enc (List.take k xs)),<-kq,yx]
def qB.upto(h:qB enc e size H v xs b i alt r)(hs:∀x,(enc x).length=size){k:Nat}(hk:k<=xs.length)(kk:PD):∃j,Op.aC size [B5,B1 0,B5] [v,.int kk (k:Int)]=B1 j/\qB enc e size H j (xs.take k) b i alt (r+(xs.length-k)):=by
 obtain⟨P,R,a,c,d⟩:=h.cells;have e1:∀n,J8 n n=true:=λ n=>by simp
 have g:∀d m,bound B5 d m=B1 d:=λ _ _=>rfl;have f:(xs.take k).length=k:=by rw[zx];omega
 have hlen:i+(xs.take k).length+(r+(xs.length-k))=i+xs.length+r:=by rw[f];omega
 rw[h.eq];refine⟨.gslice b (i+0) (i+xs.length+r) size (cond (J8 0 0) alt (i*size)) (k-0),?_,⟨?_,h.lt,P,(xs.drop k).flatMap enc++R,a,?_,?_⟩⟩
 .simp only[Op.aC,arg,kD,ja,qr,dC,g,wv (z:=(k:Int)) (k:=k) rfl (show k<=i+xs.length+r-i by omega) kk,e1,y8 (show k<=i+xs.length+r-i by omega),y8 (show i<=i+xs.length+r by omega),jp,xv]
 .rw [hlen,f];rfl
 .rw [xc,AG hs,jg,c,<-ye];congr 1;omega
 .rw [hlen,d,<-jb (List.flatMap enc (List.take k xs)),<-kq,yx]
def qB.YU(h:qB enc e size H v xs b i alt (r+1))(hs:∀x,(enc x).length=size)(D:0<size){zero:List AV}(g:zero.length=size)(s:aS zero=B4)(kk:PD) :
 ∃u H',Op.aC size [B1 0,B1 1,B5] [v,.int kk (xs.length:Int),.int kk ((xs.length+1:Nat):Int)]=B1 u/\Op.cj zero [u] H=B1 (.tuple [],H')/\qB enc e size H' v xs b i alt (r+1)/\Fr (On b) H H':=by
 obtain⟨P,R,a,c,d⟩:=h.cells;have e1:∀n,J8 n n=true:=λ n=>by simp
 have q:=AG hs xs;have he:=h.eq;refine⟨.gslice b (i+xs.length) (i+xs.length+(r+1)) size (cond (J8 xs.length 0) alt (i*size)) (xs.length+1-xs.length),H.set b (.grown (i+xs.length+(r+1)) size (P++(xs.flatMap enc++(zero++R.drop size))) e (0,0)),?_,?_,⟨h.eq,h.lt,P,zero++R.drop size,a,?_,xg ..⟩,(Fr.refl H).set (W:=On b) (.inl rfl) _⟩
 .rw [he];simp only[Op.aC,arg,kD,ja,zp,qr,dC,wv (z:=((xs.length+1:Nat):Int)) (k:=xs.length+1) rfl (show xs.length+1<=i+xs.length+(r+1)-i by omega) kk,wv (z:=(xs.length:Int)) (k:=xs.length) rfl (show xs.length<=xs.length+1 by omega) kk,e1,y8 (show xs.length+1<=i+xs.length+(r+1)-i by omega),y8 (show i<=i+xs.length+(r+1)by omega),jp,xv]
 .rw [show xs.length+1-xs.length=1 by omega];have o:Pk 0 1=true:=rfl;have f:Pk (i+xs.length+0) (i+xs.length+(r+1))=true:=Fz (by omega);have e2:(i+xs.length)*size+0*size=(P++xs.flatMap enc).length:=by rw[xc,a,q,ye,wh,vc]
  have B:R.length=r*size+size:=by rw[c,ye,Nat.one_mul]
  have A:(P++(xs.flatMap enc++R)).take ((i+xs.length)*size+0*size)++gf 1 zero++(P++(xs.flatMap enc++R)).drop ((i+xs.length)*size+0*size+(gf 1 zero).length)=P++(xs.flatMap enc++(zero++R.drop size)):=by
   have hr:gf 1 zero=zero:=by simp[gf,py]
   rw[e2,<-jb P,CP,I3,hr,g,jo (by omega),z7,show(P++xs.flatMap enc).length+size-(P++xs.flatMap enc).length=size by omega];simp only[jb]
  have hr:gf 1 zero=zero:=by simp[gf,py]
  have C:eI (0,0) ((i+xs.length)*size+0*size) (cW (gf 1 zero))=true:=by simp[eI]
  have p:H.store b ((i+xs.length)*size+0*size) (gf 1 zero)=B1 (H.set b (.grown (i+xs.length+(r+1)) size (P++(xs.flatMap enc++(zero++R.drop size))) e (0,0))):=by
   have y:aS (gf 1 zero)=true:=by rw[hr];exact s
   simp only[ar.store,y,xv,d,C,Fy];rw[xb (by rw[hr,g,e2];simp only[xc];omega),qr,A]
  have j:J8 1 0=false:=rfl;have t:zero.length=size:=g;simp only[Op.cj,fI,qr,j,zo,t,elemAt,o,e1,f,jp,xv,p]
 .rw [xc,g,jg,c,ye,Nat.one_mul];omega
def qB.del(h:qB enc e size H v xs b i alt r)(hs:∀x,(enc x).length=size)(I:∀x,aS (enc x)=B4)(u:0<size){n:Nat}(hn:n<xs.length){zero:List AV}(K:zero.length=size)(p:aS zero=B4)(bytes:Nat) :
 ∃v0 v1 v2 c H1 v4 d,Op.aC size [B1 0,B1 1,B1 2] [v,.int .i64 (n:Int),.int .i64 ((n+1:Nat):Int),.int .i64 (xs.length:Int)]=B1 v0/\Op.aC size [B5,B1 0,B5] [v,.int .i64 (n:Int)]=B1 v1/\Op.aC size [B1 0,B5,B5] [v,.int .i64 ((n+1:Nat):Int)]=B1 v2 /\
  Op.append e size bytes [v1,v2] H=B1 (c,H1)/\Op.dp [c]=B1 (.int .i64 ((xs.length-1:Nat):Int))/\Op.aC size [B1 0,B1 1,B5] [c,.int .i64 ((xs.length-1:Nat):Int),.int .i64 (xs.length:Int)]=B1 v4/\Op.cj zero [v4] H1=B1 (.tuple [],d) /\
  qB enc e size d c (xs.eraseIdx n) b i alt (r+1)/\Fr (On b) H d:=by
 obtain⟨v1,y,D⟩:=h.upto hs (k:=n) (by omega) .i64;obtain⟨v2,t,A,E,-⟩:=h.off hs (k:=n+1) (by omega) .i64;have s2:=E.sl hs;have f:∀l:List α,aS (l.flatMap enc)=true:=λ l=>by
  rw[vk,List.all_flatMap,B6];intro x _;have:=I x;rw[vk]at this;exact this
 obtain⟨c,H1,B,j,F⟩:=D.Ef hs u (ys:=xs.drop (n+1)) (x:=v2) (k:=(xs.drop (n+1)).length) (by rw[jg];omega) rfl rfl (Sl.fI s2) (Sl.first s2) (f _) bytes;have a:r+(xs.length-n)-(xs.drop (n+1)).length=r+1:=by rw[jg];omega
 rw[a,<-List.eraseIdx_eq_take_drop_succ]at j;have hlen:(xs.eraseIdx n).length=xs.length-1:=by rw[List.length_eraseIdx,xb hn]
 obtain⟨v4,d,g,C,b5,G⟩:=j.YU hs u K p .i64;have s:=(j.sl hs).len;rw[hlen]at g s;rw[show xs.length-1+1=xs.length by omega]at g;obtain⟨v0,a0⟩:∃v0,Op.aC size [B1 0,B1 1,B1 2] [v,.int .i64 (n:Int),.int .i64 ((n+1:Nat):Int),.int .i64 (xs.length:Int)]=B1 v0:=by
  have e1:∀n,J8 n n=true:=λ n=>by simp
  have o:J8 xs.length n=false:=by cases J:J8 xs.length n with|false=>rfl|true=>rw[kc]at J;omega
  rw[h.eq];refine⟨.slice b ((i+n)*size) (n+1-n) (xs.length-n),?_⟩;simp only[Op.aC,arg,kD,ja,zp,qr,dC,wv (z:=(xs.length:Int)) (k:=xs.length) rfl (show xs.length<=i+xs.length+r-i by omega) .i64,wv (z:=((n+1:Nat):Int)) (k:=n+1) rfl (show n+1<=xs.length by omega) .i64,wv (z:=(n:Int)) (k:=n) rfl (show n<=n+1 by omega) .i64,e1,o,y8 (show i<=i+xs.length+r by omega),jp,xv,zo]
 exact⟨v0,v1,v2,c,H1,v4,d,a0,y,A,B,s,g,C,b5,F.trans G λ _ q=>.inl q⟩
end
end Go.Am
namespace Go.Am
structure De where
 ow:Int
 sh:Nat
 un:Mg
 ph:Int
 ask:Nat
 wt:List Mg
def hb(s:Nat)(c:Int):Nat:=s / 2 ^ c.toNat % 2
def rH(s:Nat)(c:Int):Nat:=if hb s c=1 then s else s+2 ^ c.toNat
def cK(s:Nat)(c:Int):Nat:=if hb s c=1 then s-2 ^ c.toNat else s
def xN(s:Nat):List Int:=([0,1,2,3]:List Int).filter λ c=>hb s c == 1
def JX(s:Nat)(c:Int):hb s c<=1:=by unfold hb;omega
def I'(c:Int):hb 0 c=0:=by unfold hb;simp
def four{c:Int}(a:0<=c)(d:c<4):c=0\/c=1\/c=2\/c=3:=by omega
def Pp{s:Nat}(hs:s<16){c d:Int}(a:0<=c)(f:c<4)(d0:0<=d)(d1:d<4):rH s c<16/\hb (rH s c) d=if d=c then 1 else hb s d:=by
 rcases four a f with rfl|rfl|rfl|rfl<;>rcases four d0 d1 with rfl|rfl|rfl|rfl<;>(revert s;decide)
def Oy{s:Nat}(hs:s<16){c d:Int}(a:0<=c)(f:c<4)(d0:0<=d)(d1:d<4):cK s c<16/\hb (cK s c) d=if d=c then 0 else hb s d:=by
 rcases four a f with rfl|rfl|rfl|rfl<;>rcases four d0 d1 with rfl|rfl|rfl|rfl<;>(revert s;decide)
def M1{c d:Int}(a:0<=c)(f:c<4)(d0:0<=d)(d1:d<4):2 ^ c.toNat<16/\hb (2 ^ c.toNat) d=if d=c then 1 else 0:=by
 rcases four a f with rfl|rfl|rfl|rfl<;>rcases four d0 d1 with rfl|rfl|rfl|rfl<;>decide
def DE{s:Nat}{c:Int}:c∈xN s↔0<=c/\c<4/\hb s c=1:=by
 unfold xN;simp only[List.mem_filter,jj,OC,or_false,beq_iff_eq];constructor
 .rintro ⟨a,b⟩;exact⟨by omega,by omega,b⟩
 .rintro ⟨a,b,c⟩;exact⟨by omega,c⟩
namespace De
def own(x:De)(m:Mg):Prop:=∃w∈x.wt,w.core=m.core
instance(x:De)(m:Mg):Decidable (x.own m):=inferInstanceAs (Decidable (∃w∈x.wt,_))
def may(x:De)(m:Mg):Prop :=
 if m.k=1\/m.k=2 then¬(x.ph≠0/\x.ph≠4/\x.un.core=m.core)/\(x.ow≠m.core\/x.ph=2) /\ ¬x.own m
 else if m.k=4 then x.ph=1/\hb x.ask m.core=1
 else if m.k=5 then x.ph=2/\x.ow=m.core
 else if m.k=6 then x.ph=2/\hb x.ask m.core=1
 else if m.k=3 then x.ow=m.core
 else m.k=7/\x.ph=4/\x.un.core=m.core
instance(x:De)(m:Mg):Decidable (x.may m):=by unfold may;infer_instance
def dX(x:De)(w:L8):De×Mg :=
 if x.un.k=1 then({x with ph:=4,ask:=0,sh:=rH x.sh x.un.core},⟨14,x.un.core,x.un.line,w⟩)
 else({x with ph:=4,ask:=0,ow:=x.un.core,sh:=0},⟨15,x.un.core,x.un.line,w⟩)
def begin(x:De)(m:Mg)(w:L8):De×List Mg :=
 if 0<=x.ow then({x with un:=m,ph:=2,ask:=2 ^ x.ow.toNat},[⟨if m.k=2 then 13 else 12,x.ow,m.line,.zero⟩])
 else if m.k=1\/cK x.sh m.core=0 then((dX {x with un:=m,ask:=cK x.sh m.core} w).1,[(dX {x with un:=m,ask:=cK x.sh m.core} w).2])
 else({x with un:=m,ask:=cK x.sh m.core,ph:=1},(xN (cK x.sh m.core)).map λ c=>⟨11,c,m.line,.zero⟩)
def vL(x:De)(w:L8)(q:Prop)[Decidable q](o:List Mg):De×L8×List Mg :=
 if q then((x.dX w).1,w,o ++ [(x.dX w).2])else(x,w,o)
def bS(x:De)(w:L8)(m:Mg):De×L8×List Mg :=
 if¬x.may m then(x,w,[])
 else if m.k=1\/m.k=2 then if x.ph≠0 then({x with wt:=x.wt ++ [{m with d:=.zero}]},w,[])else((x.begin {m with d:=.zero} w).1,w,(x.begin {m with d:=.zero} w).2)
 else if m.k=4 then vL {x with sh:=cK x.sh m.core,ask:=cK x.ask m.core} w (cK x.ask m.core=0) []
 else if m.k=5 then vL {x with ow:=-1,sh:=if x.un.k=1 then rH x.sh m.core else x.sh} m.d True []
 else if m.k=6 then vL {x with ph:=3} w (x.ow<0) []
 else if m.k=3 then vL {x with ow:=-1} m.d (x.ph=3) [⟨16,m.core,m.line,.zero⟩]
 else match x.wt with
  |[]=>({x with ph:=0,un:=⟨0,0,0,.zero⟩},w,[])
  |n::r=>((begin {x with ph:=0,un:=⟨0,0,0,.zero⟩,wt:=r} n w).1,w,(begin {x with ph:=0,un:=⟨0,0,0,.zero⟩,wt:=r} n w).2)
end De
end Go.Am
namespace Go.Am
open Ca
structure Bu where
 m:List L8
 l:List De
 ns:List No
 fl:List Mg
structure XP(x:De)(N l:Int):Prop where
 N4:N<=4
 ow:-1<=x.ow/\x.ow<N
 sb:x.sh<16
 ab:x.ask<16
 AD:∀c,0<=c->c<4->hb x.sh c=1->c<N
 wt:∀w∈x.wt,(w.k=1\/w.k=2)/\0<=w.core/\w.core<N/\w.line=l
def MR(m:Mg)(N l:Int):Prop:=(m.k=1\/m.k=2)/\0<=m.core/\m.core<N/\m.line=l
structure XI(x:De)(N l:Int):Prop extends XP x N l where
 un:x.ph≠0->(x.un.k=1\/x.un.k=2)/\0<=x.un.core/\x.un.core<N/\x.un.line=l
structure OW(o:Mg)(N l:Int):Prop where
 k:11<=o.k/\o.k<=16
 c:0<=o.core/\o.core<N
 l:o.line=l
section
variable{x:De}{m:Mg}{w:L8}{N l:Int}
def xgy(h:XP x N l)(hu:MR x.un N l):XI (x.dX w).1 N l/\OW (x.dX w).2 N l:=by
 have⟨hk,a,d,ul⟩:=hu;have j:=h.N4;unfold De.dX;split
 .refine ⟨⟨⟨h.N4,h.ow,(Pp h.sb a (by omega) (uj 0) (by decide)).1,Nat.zero_lt_succ _,λ c f g q=>?_,h.wt⟩,λ _=>⟨hk,a,d,ul⟩⟩,⟨by show(11:Int)<=14/\(14:Int)<=16;decide,⟨a,d⟩,ul⟩⟩;have q:hb (rH x.sh x.un.core) c=1:=q;rw[(Pp h.sb a (by omega) f g).2]at q;split at q
  .omega
  .exact h.AD c f g q
 .exact ⟨⟨⟨h.N4,⟨by show -1<=x.un.core;omega,d⟩,Nat.zero_lt_succ _,Nat.zero_lt_succ _,λ c f g q=>(by have q:hb 0 c=1:=q;rw[I']at q;cases q),h.wt⟩,λ _=>⟨hk,a,d,ul⟩⟩,⟨by show(11:Int)<=15/\(15:Int)<=16;decide,⟨a,d⟩,ul⟩⟩
def _u(h:XP x N l)(hm:MR m N l):XI (x.begin m w).1 N l /\ ∀o∈(x.begin m w).2,OW o N l:=by
 have⟨hk,f,g,ul⟩:=hm;have p:=h.N4;have ow:=h.ow;have ds:cK x.sh m.core<16:=(Oy h.sb f (by omega) (uj 0) (by decide)).1;unfold De.begin;split
 .rename_i q;refine⟨⟨⟨h.N4,h.ow,h.sb,(M1 q (by omega) (uj 0) (by decide)).1,h.AD,h.wt⟩,λ _=>⟨hk,f,g,ul⟩⟩,λ o ho=>?_⟩;rw[jz.1 ho];exact⟨by show 11<=(if m.k=2 then(13:Int)else 12)/\(if m.k=2 then(13:Int)else 12)<=16;split<;>decide,⟨q,h.ow.2⟩,ul⟩
 .split
  .have ⟨a,b⟩:=xgy (x:={x with un:=m,ask:=cK x.sh m.core}) (w:=w) ⟨h.N4,h.ow,h.sb,ds,h.AD,h.wt⟩ ⟨hk,f,g,ul⟩;exact⟨a,λ o ho=>by rw[jz.1 ho];exact b⟩
  .refine ⟨⟨⟨h.N4,h.ow,h.sb,ds,h.AD,h.wt⟩,λ _=>⟨hk,f,g,ul⟩⟩,λ o ho=>?_⟩;obtain⟨d,c,rfl⟩:=CN.1 ho;have⟨d0,j,c⟩:=DE.1 c;refine⟨by show(11:Int)<=11/\(11:Int)<=16;decide,⟨d0,h.AD d d0 j ?_⟩,ul⟩;rw[(Oy h.sb f (by omega) d0 j).2]at c;split at c
   .cases c
   .exact c
def SV{q:Prop}[Decidable q]{r:List Mg}(h:XI x N l)(hu:q->x.ph≠0)(hr:∀o∈r,OW o N l):XI (x.vL w q r).1 N l /\ ∀o∈(x.vL w q r).2.2,OW o N l:=by
 unfold De.vL;split
 .rename_i p;have⟨a,b⟩:=xgy (w:=w) h.toXP (h.un (hu p));exact⟨a,λ o ho=>(zt.1 ho).elim (hr o) λ ho=>by rw[jz.1 ho];exact b⟩
 .exact ⟨h,hr⟩
def HX(h:XI x N l)(a:0<=m.core/\m.core<N)(hl:m.line=l):XI (x.bS w m).1 N l /\ ∀o∈(x.bS w m).2.2,OW o N l:=by
 have A:=h.N4;have no:∀o∈([]:List Mg),OW o N l:=λ _ q=>by cases q
 have dl:∀{s:Nat},s<16->cK s m.core<16:=λ hs=>(Oy hs a.1 (by omega) (uj 0) (by decide)).1;have y:∀c,0<=c->c<4->hb (cK x.sh m.core) c=1->c<N:=λ c f g q=>by
  rw[(Oy h.sb a.1 (by omega) f g).2]at q;split at q
  .cases q
  .exact h.AD c f g q
 unfold De.bS;split
 .exact ⟨h,no⟩
 rename_i hm;have hm:x.may m:=kj.1 hm;unfold De.may at hm;split
 .rename_i hk;split
  .exact ⟨⟨⟨h.N4,h.ow,h.sb,h.ab,h.AD,λ v j=>(zt.1 j).elim (h.wt v) λ j=>by rw[jz.1 j];exact⟨hk,a.1,a.2,hl⟩⟩,h.un⟩,no⟩
  .exact _u (m:={m with d:=.zero}) h.toXP ⟨hk,a.1,a.2,hl⟩
 rename_i z;rw[qv z]at hm;split
 .rename_i p;rw[xb p]at hm;exact SV (x:={x with sh:=cK x.sh m.core,ask:=cK x.ask m.core}) ⟨⟨h.N4,h.ow,dl h.sb,dl h.ab,y,h.wt⟩,h.un⟩ (λ _=>by show x.ph≠0;omega) no
 rename_i p;rw[qv p]at hm;split
 .rename_i t;rw[xb t]at hm;refine SV (x:={x with ow:=-1,sh:=if x.un.k=1 then rH x.sh m.core else x.sh}) ⟨⟨h.N4,⟨uj _,by show(-1:Int)<N;omega⟩,?_,h.ab,λ c f g q=>?_,h.wt⟩,h.un⟩ (λ _=>by show x.ph≠0;omega) no
  .show (if x.un.k=1 then rH x.sh m.core else x.sh)<16;split
   .exact (Pp h.sb a.1 (by omega) (uj 0) (by decide)).1
   .exact h.sb
  .have q:hb (if x.un.k=1 then rH x.sh m.core else x.sh) c=1:=q;split at q
   .rw [(Pp h.sb a.1 (by omega) f g).2]at q;split at q
    .omega
    .exact h.AD c f g q
   .exact h.AD c f g q
 rename_i t;rw[qv t]at hm;split
 .rename_i u;rw[xb u]at hm;exact SV (x:={x with ph:=3}) ⟨⟨h.N4,h.ow,h.sb,h.ab,h.AD,h.wt⟩,λ _=>h.un (by omega)⟩ (λ _=>by show(3:Int)≠0;decide) no
 rename_i u;rw[qv u]at hm;split
 .refine SV (x:={x with ow:=-1}) ⟨⟨h.N4,⟨uj _,by show(-1:Int)<N;omega⟩,h.sb,h.ab,h.AD,h.wt⟩,h.un⟩ (λ q=>by have q:x.ph=3:=q;show x.ph≠0;omega) λ o q=>?_;rw[jz.1 q];exact⟨by show(11:Int)<=16/\(16:Int)<=16;decide,a,hl⟩
 split
 .exact ⟨⟨⟨h.N4,h.ow,h.sb,h.ab,h.AD,h.wt⟩,λ q=>(q rfl).elim⟩,no⟩
 .rename_i n r hw;exact _u (x:={x with ph:=0,un:=⟨0,0,0,.zero⟩,wt:=r}) ⟨h.N4,h.ow,h.sb,h.ab,h.AD,λ v j=>h.wt v (by rw[hw];simp[j])⟩ (h.wt n (by rw[hw];simp))
end
structure MW(m:Mg)(N L:Int):Prop where
 k:1<=m.k/\m.k<=7\/11<=m.k/\m.k<=16
 c:0<=m.core/\m.core<N
 l:0<=m.line/\m.line<L
structure NW(n:No)(c L:Int):Prop where
 ni:n.NI
 core:n.core=c
 lines:n.lines=L
structure Mo(n:No)(r:No×List Mg):Prop where
 core:r.1.core=n.core
 lines:r.1.lines=n.lines
 o:∀m∈r.2,(1<=m.k/\m.k<=7)/\m.core=n.core/\0<=m.line/\m.line<n.lines
def Mo.cl{n n2:No}{r:No×List Mg}(h:Mo n2 r)(e1:n2.core=n.core)(e2:n2.lines=n.lines):Mo n r:=⟨h.core.trans e1,h.lines.trans e2,λ m q=>by have:=h.o m q;rw[e1,e2]at this;exact this⟩
namespace No
section
variable{n:No}
def uD{n':No}(h:n'.core=n.core)(a:n'.lines=n.lines):Mo n (n',[]):=⟨h,a,λ _ q=>by cases q⟩
def YF{a:Int}(hm:n.may a):0<=ln a/\ln a<n.lines:=by unfold No.may at hm;unfold ln;omega
def U1{k l:Int}(hk:k=1\/k=2)(a:0<=l)(c:l<n.lines):Mo n (n.ask k l):=by
 unfold ask;split
 .exact uD rfl rfl
 .exact ⟨rfl,rfl,λ m q=>by rw[jz.1 q];exact⟨by show 1<=k/\k<=7;omega,rfl,a,c⟩⟩
def I4(a:Int):Mo n ((n.load a).1,(n.load a).2.2.2.1):=by
 unfold load;split
 .rename_i hm;have:=YF hm;split
  .exact U1 (.inl rfl) this.1 this.2
  .exact uD rfl rfl
 .exact uD rfl rfl
def Ds(a y:Int):Mo n ((n.store a y).1,(n.store a y).2.2.1):=by
 unfold store;split
 .rename_i hm;have:=YF hm;split
  .exact uD rfl rfl
  .exact U1 (.inr rfl) this.1 this.2
 .exact uD rfl rfl
def M0(a o y:Int):Mo n (n.nD a o y):=by
 unfold nD;split
 .rename_i hm;have:=YF hm;split
  .exact uD rfl rfl
  .split
   .exact uD rfl rfl
   .exact U1 (.inr rfl) this.1 this.2
 .exact uD rfl rfl
def Ey:Mo n (n.begin,[]):=by unfold begin;split<;>exact uD rfl rfl
def Aq:Mo n (n.bt,[]):=by unfold bt;split<;>exact uD rfl rfl
def BA(k:Int):Mo n ((n.abort k).1,[]):=by
 unfold abort
 repeat' split
 all_goals exact uD rfl rfl
def VL{x:En}(a:x.st≠0->0<=x.line/\x.line<n.lines):Mo n (n.gone x):=by
 unfold gone;split
 .rename_i q;have:=a (by omega);exact⟨rfl,rfl,λ m q=>by rw[jz.1 q];exact⟨by show(1:Int)<=3/\(3:Int)<=7;decide,rfl,this⟩⟩
 .exact uD rfl rfl
def xhb(h:n.NI)(m:Mg)(st:Int):Mo n (n.dR m st):=by
 unfold dR;split
 .rename_i q;refine Mo.cl (VL λ _=>?_) rfl rfl;rcases ae8 (c:=n.c) (line:=m.line) (st:=st) (x:=m.d)with⟨e1,-⟩|⟨e1,-⟩|⟨e1,j,e2,f⟩
  .rw [e1]at q;exact absurd q.1 (by decide)
  .rw [e1]at q;exact absurd q.1 (by decide)
  .rw [f]at q⊢;obtain⟨k,a,b,-⟩:=UE e2;have:=h.ci.ok j (by rw[b];exact h.ci.lS m.line a) q.2;exact⟨this.2.1,this.2.2.1⟩
 .exact uD rfl rfl
def It(h:n.NI)(m:Mg):Mo n (n.fill m):=by
 unfold fill;generalize(if m.k=15 then(2:Int)else 1)=st;unfold lf;split
 .exact (xhb (h.iT 3) m st).cl rfl rfl
 .exact xhb h m st
def Hn(x:En)(too:Bool):(n.lost x too).core=n.core/\(n.lost x too).lines=n.lines:=by
 unfold lost
 repeat' split
 all_goals exact⟨rfl,rfl⟩
def HW(h:n.NI)(m:Mg):Mo n (n.bS m):=by
 unfold bS;split
 .exact uD rfl rfl
 rename_i q;have hl:0<=m.line/\m.line<n.lines:=⟨zi λ w=>q (.inr (.inl (by omega))),zi λ w=>q (.inr (.inr (.inl (by omega))))⟩
 have one:∀{n':No}{k:Int}{d:L8},n'.core=n.core->n'.lines=n.lines->1<=k/\k<=7->Mo n (n',[⟨k,n.core,m.line,d⟩]):=λ a c f=>⟨a,c,λ y q=>by rw[jz.1 q];exact⟨f,rfl,hl⟩⟩
 have lc:=λ x too=>(Hn (n:=n) x too)
 split
 .exact one (lc _ _).1 (lc _ _).2 (by decide)
 split
 .split
  .exact one rfl rfl (by decide)
  .split
   .exact one (lc _ _).1 (lc _ _).2 (by decide)
   .exact one (lc _ _).1 (lc _ _).2 (by decide)
 split
 .exact uD rfl rfl
 split
 .exact one rfl rfl (by decide)
 .have g:=It (n:={n with out:=⟨0,0,0,.zero⟩}) ⟨h.ci,h.pl⟩ m;exact⟨g.core,g.lines,λ y q=>(zt.1 q).elim (g.o y) λ q=>by rw[jz.1 q];exact⟨by show(1:Int)<=7/\(7:Int)<=7;decide,rfl,hl⟩⟩
def G5(h:n.NI)(line:Int):Mo n (n.da line):=by
 unfold da;split
 .exact uD rfl rfl
 split
 .exact uD rfl rfl
 .rename_i x k;have⟨j,a,b⟩:=T8 k;obtain⟨-,g,f,o,-⟩:=h.ci.bC a;have d:=h.ci.ok j g f;split
  .refine Mo.cl (VL λ _=>?_) rfl rfl;have hp:(n.iT 4).c.pos line=B1 j:=(xmu TF UF line).trans a;rw[iw hp,L5 g,TF];exact⟨d.2.1,d.2.2.1⟩
  .refine Mo.cl (VL λ _=>?_) rfl rfl;rw[iw a];exact⟨d.2.1,d.2.2.1⟩
end
end No
open No
structure BuI(b:Bu)(V:Int->L8):Prop where
 N4:b.ns.length<=4
 ml:b.m.length=b.l.length
 nw:∀(c:Nat)n,b.ns[c]? = B1 n->NW n c b.l.length
 mw:∀m∈b.fl,MW m b.ns.length b.l.length
 xs:∀(i:Nat)x,b.l[i]? = B1 x->XI x b.ns.length i
def Bu.put(b:Bu)(c:Nat)(r:No×List Mg):Bu:={b with ns:=b.ns.set c r.1,fl:=b.fl++r.2}
def Ls{b:Bu}{c:Nat}{n:No}(hn:b.ns[c]? = B1 n):b.put c (n,[])=b:=by
 have:b.ns.set c n=b.ns:=by
  apply yr;intro i
  by_cases q:i=c
  .rw [q,xx (qo.1 hn).1,hn]
  .rw [xy (mM q)]
 unfold Bu.put;simp only[this,zn]
namespace BuI
variable{b:Bu}{V V':Int->L8}
def entry(h:BuI b V){l:Int}(a:0<=l)(c:l<b.l.length):∃x w,b.l[l.toNat]? = B1 x/\b.m[l.toNat]? = B1 w/\XI x b.ns.length l:=by
 have e1:l.toNat<b.l.length:=by omega
 have e2:l.toNat<b.m.length:=by rw[h.ml];exact e1
 have:=h.xs l.toNat _ (qy e1);rw[KC a]at this;exact⟨_,_,qy e1,qy e2,this⟩
def core(h:BuI b V){c:Int}(a:0<=c)(d:c<b.ns.length):∃n,b.ns[c.toNat]? = B1 n/\NW n c b.l.length:=by
 have e1:c.toNat<b.ns.length:=by omega
 have:=h.nw c.toNat _ (qy e1);rw[KC a]at this;exact⟨_,qy e1,this⟩
def node(h:BuI b V){c:Nat}{n:No}{r:No×List Mg}{f:List Mg}(hn:b.ns[c]? = B1 n)(k:r.1.NI)(p:Mo n r)(s:∀m∈f,m∈b.fl):BuI {b with ns:=b.ns.set c r.1,fl:=f++r.2} V':=by
 have j:=(qo.1 hn).1;have w:=h.nw c n hn;refine⟨by simp only[xq];exact h.N4,h.ml,λ d y g=>?_,λ m hm=>?_,λ i x t=>?_⟩
 .by_cases q:d=c
  .have g:(b.ns.set c r.1)[d]? = B1 y:=g;rw[q,xx j]at g;cases g;subst q;exact⟨k,p.core.trans w.core,p.lines.trans w.lines⟩
  .have g:(b.ns.set c r.1)[d]? = B1 y:=g;rw[xy (mM q)]at g;exact h.nw d y g
 .simp only[xq];rcases zt.1 hm with q|q
  .exact h.mw m (s m q)
  .have ⟨a,e,l0,l1⟩:=p.o m q;exact⟨.inl a,by rw[e,w.core];omega,l0,by rw[<-w.lines];exact l1⟩
 .simp only[xq];exact h.xs i x t
def call(h:BuI b V){c:Nat}{n:No}{r:No×List Mg}(hn:b.ns[c]? = B1 n)(a:r.1.NI)(d:Mo n r):BuI (b.put c r) V':=h.node hn a d λ _ q=>q
end BuI
end Go.Am
