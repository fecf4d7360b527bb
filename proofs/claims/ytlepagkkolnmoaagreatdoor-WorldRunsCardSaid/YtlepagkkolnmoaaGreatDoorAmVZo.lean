import Derived.Test.YtlepagkkolnmoaaGreatDoorAmVZe
import Derived.Test.YtlepagkkolnmoaaGreatDoorAmVZn
import Derived.Test.YtlepagkkolnmoaaGreatDoorAmVZf
import Derived.Test.YtlepagkkolnmoaaGreatDoorAmVZm
set_option linter.defProp false
set_option linter.unusedVariables false
set_option linter.unusedSimpArgs false
set_option linter.unusedSectionVars false
set_option maxRecDepth 100000
open Bool renaming false→B2,true→B4
open False renaming elim→NT
open Go renaming DataW→Ry,IntKind→PD,MemPlace→B7,Program→Jy,TypeId→LP,Value→K8,World→NJ
open Go.DataW renaming trod→Om,weights→Bf,weightsEach→Bo
open List renaming range→N7,replicate→Jv
open Option renaming none→B5,some→B1
open Prod renaming snd→Bk
open Nat renaming reduceEqDiff→bc
namespace Go.Am
open Go.RowKit
section
variable{P:Jy}
def Wt(P:Jy)(t:LP){Hh:Type}(d:Ry Hh):Prop:=∀x∈Bf P t d,x<=reachBytes
def _S{a:Type}{e:LP}{x:Nat}{d:Ry a}:∀{l:List (Ry a)},d∈l->x∈Bf P e d->x∈Ry.weightsAll P e l
 |y::l,h,hx=>by
  rw[Ry.weightsAll,zt];rcases jj.1 h with rfl|h
  .exact .inl hx
  .exact .inr (_S h hx)
def t9(P:Jy)(t:LP)(R:ar->List AV->Prop):Prop :=
 (∀H H' l,R H l->Fr Em H H'->R H' l) /\ ∀{Hh:Type}(enc:LP×K8->Hh)(W:NJ)(held:Bool)(fuel:Nat)(cs:List K8)(d:Ry Hh)(ps:List B7),
  Om enc P W 0 (λ _=>B4) held fuel t cs=B1 (d,ps)->Wt P t d -> ∀(θ:Th)(n:Nat)(gl:GL),Good W θ n gl -> ∃θ' n' gl' l,Step W θ n gl θ' n' gl'/\bN (Lt n') θ' l cs/\R (vm gl' n') l
def Yc.Ym{t:LP}{R:ar->List AV->Prop}(h:Yc P t R):t9 P t R:=⟨h.1,λ enc W held fuel cs d b a _=>h.2 enc W held fuel cs d b a⟩
def _O{e:LP}{R:ar->List AV->Prop}(hR:t9 P e R){p:Type}(enc:LP×K8->p)(W:NJ)(held:Bool)(fuel:Nat):∀(a:List (List K8)),(∀cs∈a,∃x,Om enc P W 0 (λ _=>B4) held fuel e cs=B1 x/\Wt P e x.1) ->
 ∀(θ:Th)(n:Nat)(d:GL),Good W θ n d -> ∃(θ':Th)(n':Nat)(f:GL)(ls:List (List AV)),Step W θ n d θ' n' f/\bN (Lt n') θ' ls.flatten a.flatten/\ls.length=a.length /\ ∀(i:Nat)l cs,ls[i]? = B1 l->a[i]? = B1 cs->R (vm f n') l/\l.length=cs.length
 |[],_,θ,n,d,hg=>⟨θ,n,d,[],Step.refl hg,.nil,rfl,λ i l cs h=>by simp at h⟩
 |cs::a,h,θ,n,d,hg=>by
  have⟨x,r,hw⟩:=h cs (by simp);have⟨θ1,n1,g,l,s1,v1,v⟩:=hR.2 enc W held fuel cs x.1 x.2 r hw θ n d hg;have⟨θ2,n2,j,ls,s2,v2,t,u⟩:=_O hR enc W held fuel a (λ c q=>h c (by simp[q])) θ1 n1 g s1.de;refine⟨θ2,n2,j,l::ls,s1.trans s2,?_,by simp[t],λ i s cs' m o=>?_⟩
  .rw [Qe,Qe];exact(v1.up s2.ag λ b hb=>qn hb s2.le).app v2
  .cases i with
   |zero =>
    simp at m o;subst m;subst o;exact⟨hR.1 _ _ _ v s2.fr,v1.length.symm⟩
   |succ i=>exact u i s cs' (by simpa using m) (by simpa using o)
def SlW(P:Jy)(e:LP)(R:ar->List AV->Prop)(size:Nat)(H:ar)(u:AV):Prop:=G6 R size H u /\ ∀k,fI u=B1 k->k*P.bytesOf e<=reachBytes
def Zw{t e:LP}{R:ar->List AV->Prop}(ht:P.underlying t=B1 (.slice e))(hR:t9 P e R)(hs:0<P.cellsOf e):t9 P t λ H l=>∃u,l=[u]/\SlW P e R (P.cellsOf e) H u:=by
 refine⟨λ H H' l⟨u,z,h2,h3⟩f=>⟨u,z,h2.em hR.1 f,h3⟩,?_⟩;intro Hh enc W held fuel kR d ps h X θ n gl hg;cases fuel with
 |zero=>cases h
 |succ f =>
  have key:kR=[.slice B5 0 0] \/ ∃a len cap,kR=[.slice (B1 a) len cap]/\len<=cap/\(∀i,i<len -> ∃cs x,W.cells? 0 (a.add (i*P.cellsOf e)) (P.cellsOf e)=B1 cs/\Om enc P W 0 (λ _=>B4) held f e cs=B1 x/\Wt P e x.1)/\len*P.bytesOf e<=reachBytes/\(len<cap -> ∃cs,W.cells? 0 (a.add (len*P.cellsOf e)) (P.cellsOf e)=B1 cs):=by
   simp only[Om,ht]at h;split at h<;>first|(cases h;done)|skip
   all_goals first|(rename_i z;cases z;done)|skip
   .left;rfl
   .right;rename_i e' a len cap z;injection z with z;cases z
    split at h
    .rename_i hb;simp only[qj,rN,xk]at h;have⟨elems,he,rest,C,A⟩:=h;injection A with A _
     have hw1:=X ((elems.length+rest.length)*P.bytesOf e) (by rw[<-A,Bf,ht];simp);have hel0:elems.length=len:=by have:=mapM_some_length he;simpa using this
     refine⟨a,len,cap,rfl,hb.2.1,λ i m=>?_,zd (jk _ (by omega)) hw1,λ hlt=>?_⟩
     .have hl:=mapM_some_length he;have:=mapM_some_get he i i (by simp[m]);have q:i<elems.length:=by rw[hl];simpa using m
      rw[qy q]at this;have⟨cs,p,v⟩:=qj.1 this;refine⟨cs,_,p,v,λ x hx=>X x ?_⟩;rw[<-A,Bf,ht];exact wg _ (zt.2 (.inl (_S (List.mem_map_of_mem (List.getElem_mem q)) hx)))
     .have hl:=mapM_some_length C;have:=mapM_some_get C 0 0 (by rw[js (by omega)]);have q:0<rest.length:=by rw[hl];simp;omega
      rw[qy q,vc]at this;have⟨cs,p,v⟩:=qj.1 this;exact⟨cs,p⟩
    .cases h
  rcases key with rfl|⟨a,len,cap,rfl,hlc,U,N,C⟩
  .exact ⟨θ,n,gl,[.nils],Step.refl hg,λ _ _=>rfl,.nils,rfl,⟨[],by simp,⟨by simp,rfl⟩,.inl rfl⟩,(λ k hk=>by cases hk;simp)⟩
  .have ⟨k,o,s⟩:=a
   by_cases h0:cap=0
   .subst h0;have:len=0:=by omega
    subst this;have hst:=Step.PM hg k o (tO s);refine⟨_,_,_,[.eslice n],hst,.one ?_,.eslice n,rfl,⟨[],by simp,⟨by simp,rfl,zy n⟩,.inr (zy n)⟩,(λ k hk=>by cases hk;simp)⟩;intro θ' hθ;have⟨p,v,q3⟩:=θ.eO n k o (tO s);have⟨r1,r2,r3⟩:=hθ n (zy n);simp only[az,r1,r2,r3,p,v,q3,DM]
   .have hsp:s=none:=by
     by_cases K:len=0
     .subst K;have⟨cs,r⟩:=C (by omega);rw[wh]at r;exact u_ hs (by simpa[Addr.add]using r)
     .have ⟨cs,x,r,_,_⟩:=U 0 (by omega);rw[wh]at r;exact u_ hs (by simpa[Addr.add]using r)
    subst hsp
    by_cases K:len=0
    .subst K;refine⟨_,_,_,[.slice n 0 0 cap],Step.bare hg k o,.one ?_,.slice n 0 0 cap,rfl,⟨[],by simp,⟨by simp,rfl,x9 _,.inl rfl⟩,.inr (zy n)⟩,(λ k hk=>by cases hk;simp)⟩;have:=VR.slice (D:=Lt (n+1)) (θ:=θ.add n k o 0) (b:=n) (o:=0) (n:=0) (c:=cap) (zy n:Lt (n+1) n);have⟨p,v,_⟩:=θ.eO n k o 0
     simpa[az,p,v]using this
    .have hex:∀i:Nat,∃cs,i<len->W.cells? 0 ⟨k,o+i*P.cellsOf e,B5⟩ (P.cellsOf e)=B1 cs /\ ∃x,Om enc P W 0 (λ _=>B4) held f e cs=B1 x/\Wt P e x.1:=λ i=>by
      by_cases m:i<len
      .have ⟨cs,x,z,h2⟩:=U i m;rw[zI]at z;exact⟨cs,λ _=>⟨z,x,h2⟩⟩
      .exact ⟨[],λ h=>(m h).elim⟩
     have⟨F,Y⟩:=Classical.axiomOfChoice hex
     let css:=(N7 len).map F
     have S:css.length=len:=by simp[css]
     have Q:∀(i:Nat)c,css[i]? = B1 c->i<len/\c=F i:=λ i c r=>by
      simp only[css,xj,xk]at r;obtain⟨j,hj,rfl⟩:=r;have m:i<len:=by have:=Fv hj;simpa using this
      rw[js m]at hj;cases hj;exact⟨m,rfl⟩
     have⟨arr,e',fz,hh,_,_⟩:=XY hs (Y 0 (by omega)).1;have⟨L,e2,Z,g,_,hle⟩:=XY hs (Y (len-1) (by omega)).1;rw[hh]at g;injection g with g;injection g with p v q3;subst p
     have hmul:(len-1)*P.cellsOf e+P.cellsOf e=len*P.cellsOf e:=by rw[<-vO];congr 1;omega
     have E:∀(i:Nat)c,css[i]? = B1 c->c=(arr.toList.drop (o+i*P.cellsOf e)).take (P.cellsOf e)/\c.length=P.cellsOf e:=λ i c r=>by
      obtain⟨m,rfl⟩:=Q i c r;have⟨L,e2,Z,g,h6,h7⟩:=XY hs (Y i m).1;rw[hh]at g;injection g with g;injection g with p v q3;subst p
      exact⟨h6,by rw[h6];simp;omega⟩
     have O:css.flatten=(arr.toList.drop o).take (len*P.cellsOf e):=by rw[tN E,S]
     have⟨θ1,n1,gl1,ls,s1,v1,l1,r1⟩:=_O hR enc W held f css (λ c r=>by
      have⟨i,m⟩:=Qt.1 r;obtain⟨q,rfl⟩:=Q i c m;exact(Y i q).2) θ n gl hg
     rw[O]at v1;have hsz:o+len*P.cellsOf e<=arr.size:=by omega
     have B:ls.length=len:=by rw[l1,S]
     have J:ls.flatten.length=len*P.cellsOf e:=by rw[<-v1.length,zx,jg,O2];omega
     have I:=Step.row (l:=ls.flatten) (k:=k) (off:=o) (pre:=arr.toList.take o) (cs:=(arr.toList.drop o).take (len*P.cellsOf e)) (post:=arr.toList.drop (o+len*P.cellsOf e)) (e:=e') (fz:=fz) s1.de (by
      rw[hh];congr 2;have hq:arr.toList.take o++(arr.toList.drop o).take (len*P.cellsOf e)++arr.toList.drop (o+len*P.cellsOf e)=arr.toList:=by
       rw[jb,<-AF,yx,yx]
      rw[hq]) (by simp;omega) v1
     refine⟨_,_,_,[.slice n1 0 len cap],s1.trans I,.one ?_,.slice n1 0 len cap,rfl,⟨ls,λ l hl=>?_,⟨by rw[J,B],B.symm,by rw[B];exact hlc,.inr ⟨zy n1,ls.flatten,xe (fz:=(0,0)) (e:=0) (ow:=B2) ?_,?_⟩⟩,.inr (zy n1)⟩,λ k hk=>by cases hk;exact N⟩
     .have:=VR.slice (D:=Lt (n1+1)) (θ:=θ1.add n1 k o 0) (b:=n1) (o:=0) (n:=len) (c:=cap) (zy n1:Lt (n1+1) n1);have⟨p,v,_⟩:=θ1.eO n1 k o 0
      simpa[az,p,v]using this
     .have ⟨i,m⟩:=Qt.1 hl;have V:i<css.length:=by rw[<-l1];exact Fv m
      have⟨p,v⟩:=r1 i l css[i] m (by simp[V]);exact⟨hR.1 _ _ _ p I.fr,by rw[v];exact(E i _ (by simp[V])).2⟩
     .show (Fw ((n1,ls.flatten)::gl1) .nil).get n1=_;rw[Fw,T.aK,xb rfl]
     .rw [B,sV,xb (by omega),yt,zq (by omega)]
def C2:List (ar->List AV->Prop)->ar->List AV->Prop
 |[],_,l=>l=[]
 |R::Rs,H,l=>∃a b,l=a++b/\R H a/\C2 Rs H b
def C2.em:∀{Rs:List (ar->List AV->Prop)},(∀R∈Rs,∀H H' l,R H l->Fr Em H H'->R H' l) -> ∀H H' l,C2 Rs H l->Fr Em H H'->C2 Rs H' l
 |[],_,_,_,_,h,_=>h
 |R::Rs,hm,H,H',l,⟨a,b,h1,h2,h3⟩,f=>⟨a,b,h1,hm R (by simp) _ _ _ h2 f,C2.em (λ S c=>hm S (by simp[c])) _ _ _ h3 f⟩
def P'{o:Type}(enc:LP×K8->o)(W:NJ)(held:Bool)(fuel:Nat){cs:List K8}:∀{fs:List (LP×Nat×(ar->List AV->Prop))}{k:Nat}{xs:List (Ry o×List B7)},
 (∀f∈fs,t9 P f.1 f.2.2)->(∀(j:Nat)f,fs[j]? = B1 f->f.2.1=k+((fs.take j).map λ f=>P.cellsOf f.1).sum) ->
 fs.mapM (λ f=>Om enc P W 0 (λ _=>B4) held fuel f.1 ((cs.drop f.2.1).take (P.cellsOf f.1)))=B1 xs->(∀x∈Bo P (fs.map (·.1)) (xs.map (·.1)),x<=reachBytes) ->
 k+(fs.map λ f=>P.cellsOf f.1).sum<=cs.length -> ∀(θ:Th)(n:Nat)(c:GL),Good W θ n c ->
 ∃θ' n' d l,Step W θ n c θ' n' d/\bN (Lt n') θ' l ((cs.drop k).take ((fs.map λ f=>P.cellsOf f.1).sum))/\C2 (fs.map (·.2.2)) (vm d n') l
 |[],k,xs,_,_,_,_,_,θ,n,c,hg=>⟨θ,n,c,[],Step.refl hg,by simpa using bN.nil,rfl⟩
 |f::fs,k,xs,hf,ho,hm,hw,hl,θ,n,c,hg=>by
  simp only[List.mapM_cons,Option.bind_eq_bind,qj,Option.pure_def,qk]at hm;obtain⟨y,q,ys,m,rfl⟩:=hm;simp only[j7,Bo,zt]at hw;have p:f.2.1=k:=by have:=ho 0 f rfl;simpa using this
  have⟨θ1,n1,e,a,s1,v1,r⟩:=(hf f (by simp)).2 enc W held fuel _ y.1 y.2 q (λ x i=>hw x (.inl i)) θ n c hg;simp only[j7,List.sum_cons]at hl;have⟨θ2,n2,h,b,s2,v2,s⟩:=P' enc W held fuel (cs:=cs) (fs:=fs) (k:=k+P.cellsOf f.1) (λ g hg=>hf g (by simp[hg])) (λ j g hg=>by
   have:=ho (j+1) g (by simpa using hg);simp only[List.take_succ_cons,j7,List.sum_cons]at this;omega) m (λ x i=>hw x (.inr i)) (by omega) θ1 n1 e s1.de
  refine⟨θ2,n2,h,a++b,s1.trans s2,?_,a,b,rfl,(hf f (by simp)).1 _ _ _ r s2.fr,s⟩;rw[p]at v1;rw[j7,List.sum_cons,List.take_add,AF];exact(v1.up s2.ag λ b hb=>qn hb s2.le).app v2
def γ{H:Type}{g:LP->List K8->Option (Ry H×List B7)}{cs:List K8}:∀{fs:List Field}{Rs:List (ar->List AV->Prop)},fs.length=Rs.length ->
 fs.mapM (λ f=>g f.type ((cs.drop f.offset).take (P.cellsOf f.type)))=((fs.zip Rs).map λ x=>(x.1.type,x.1.offset,x.2)).mapM (λ f=>g f.1 ((cs.drop f.2.1).take (P.cellsOf f.1)))
 |[],[],_=>rfl
 |f::fs,R::Rs,h=>by simp only[List.zip_cons_cons,j7,List.mapM_cons,γ (fs:=fs) (Rs:=Rs) (by simpa using h)]
def z'{t:LP}{fs:Array Field}{Rs:List (ar->List AV->Prop)}(h:P.underlying t=B1 (.struct fs))(hn:fs.toList.length=Rs.length)(hR:∀x∈fs.toList.zip Rs,t9 P x.1.type x.2)
 (ho:Ka P 0 fs.toList=B4) (u:(fs.toList.map λ f=>P.cellsOf f.type).sum=P.cellsOf t):t9 P t λ H l=>C2 Rs H l:=by
 refine⟨C2.em λ R e=>?_,?_⟩
 .have ⟨i,z⟩:=Qt.1 e;have m:i<fs.toList.length:=by rw[hn];exact Fv z
  have D:(fs.toList.zip Rs)[i]? = B1 (fs.toList[i],R):=by rw[List.getElem?_zip_eq_some];exact⟨by simp[qy m],z⟩
  exact(hR _ (zh D)).1
 intro E enc W held fuel cs d I b o θ n B hg;cases fuel with
 |zero=>cases b
 |succ f =>
  have hlen:cs.length=P.cellsOf t /\ ∃xs,fs.toList.mapM (λ g=>Om enc P W 0 (λ _=>B4) held f g.type ((cs.drop g.offset).take (P.cellsOf g.type)))=B1 xs /\ ∀x∈Bo P (fs.toList.map (·.type)) (xs.map (·.1)),x<=reachBytes:=by
   simp only[Om,h]at b;split at b
   .rename_i hl;have⟨xs,hm,a⟩:=xk.1 b;injection a with a _
    exact⟨hl,xs,hm,λ x p=>o x (by rw[<-a,Bf,h];exact p)⟩
   .cases b
  have⟨hl,xs,hm,hw⟩:=hlen;rw[γ (Rs:=Rs) hn]at hm;have e1:((fs.toList.zip Rs).map λ x=>(x.1.type,x.1.offset,x.2)).map (λ f=>P.cellsOf f.1)=fs.toList.map λ f=>P.cellsOf f.type:=by
   rw[zD];have:((fs.toList.zip Rs).map λ x=>P.cellsOf x.1.type)=(fs.toList.zip Rs |>.map Prod.fst).map λ f=>P.cellsOf f.type:=by rw[zD];rfl
   rw[List.map_fst_zip (by omega)]at this;exact this
  have A:((fs.toList.zip Rs).map λ x=>(x.1.type,x.1.offset,x.2)).map (·.1)=fs.toList.map (·.type):=by
   rw[zD];have:((fs.toList.zip Rs).map λ x=>x.1.type)=(fs.toList.zip Rs |>.map Prod.fst).map (·.type):=by rw[zD];rfl
   rw[List.map_fst_zip (by omega)]at this;exact this
  have e2:((fs.toList.zip Rs).map λ x=>(x.1.type,x.1.offset,x.2)).map (·.2.2)=Rs:=by
   rw[zD];have:((fs.toList.zip Rs).map λ x=>x.2)=Rs:=by rw[List.map_snd_zip (by omega)]
   exact this
  have⟨θ',n',c,l,s,v,r⟩:=P' enc W held f (cs:=cs) (k:=0) (fs:=(fs.toList.zip Rs).map λ x=>(x.1.type,x.1.offset,x.2)) (λ g hg=>by
   obtain⟨x,p,rfl⟩:=CN.1 hg;exact hR x p) (λ j g hg=>by
   simp only[xj,xk,List.getElem?_zip_eq_some]at hg;obtain⟨x,⟨q,C⟩,rfl⟩:=hg;have:=DU ho j x.1 q;rw[List.map_take,e1,<-List.map_take];exact this) hm (by rw[A];exact hw) (by rw[e1,u,hl];omega) θ n B hg
  rw[e2]at r;rw[e1,u,yt,zq (by omega)]at v;exact⟨θ',n',c,l,s,v,r⟩
end
end Go.Am
namespace Go.Am
open Go.RowKit
section
variable{P:Jy}
def t9.imp{t:LP}{R a:ar->List AV->Prop}(h:t9 P t R)(hm:∀H H' l,a H l->Fr Em H H'->a H' l)(e:∀H l,R H l->a H l):t9 P t a :=
 ⟨hm,λ enc W held fuel cs d g f hw θ n c hg=>by
  obtain⟨θ',n',b,l,s,v,r⟩:=h.2 enc W held fuel cs d g f hw θ n c hg;exact⟨θ',n',b,l,s,v,e _ _ r⟩⟩
def UQ{α β:Type}{f:α->LP}{Q:LP -> β->Prop}:∀(l:List α)(R:List β),(∀x∈(l.map f).zip R,Q x.1 x.2) -> ∀x∈l.zip R,Q (f x.1) x.2
 |[],_,_,x,h=>by simp at h
 |_::_,[],_,x,h=>by simp at h
 |a::l,b::R,hq,x,h=>by
  rcases jj.1 h with rfl|h
  .exact hq (f a,b) (by simp)
  .exact UQ l R (λ y c=>hq y (by simp[c])) x h
def Er{tS c:LP}{fs:Array Field}{n:Nat}(uS:P.underlying tS=B1 (.struct fs))(a:fs.toList.map (·.type)=Jv n c)(uN:P.underlying c=B1 (.int .i64))(g:Ka P 0 fs.toList=B4)(h:(fs.toList.map λ f=>P.cellsOf f.type).sum=P.cellsOf tS) :
 t9 P tS λ H l=>C2 (Jv n λ _ l=>tP .i64 l) H l:=by
 have hn:fs.toList.length=n:=by have:=congrArg List.length a;simpa using this
 refine z' uS (by rw[hn];simp) (UQ (f:=Field.type) (Q:=t9 P) _ _ ?_) g h;rw[a];intro x b;have d:=(List.of_mem_zip b).1;have e:=(List.of_mem_zip b).2;rw[ww d,ww e];exact(Y4 (YD uN)).Ym
end
end Go.Am
namespace Go.Am
open Go.RowKit Lang
section
variable{P:Jy}
def C6(l c s w:Int)(pv:AV)(f so sf:Int)(fv:AV):List AV:=[.int .i64 l,.int .i64 c,.int .i64 s,.int .i64 w,pv,.int .i64 f,.int .i64 so,.int .i64 sf,fv]
def tg(H:ar)(u:AV):Prop:=u=.nils\/aD u<H.au
def tg.em{H H':ar}{u:AV}(h:tg H u)(f:H.au<=H'.au):tg H' u:=h.imp id λ q=>qn q f
def tg.lt{α:Type}{enc:α->List AV}{size:Nat}{H:ar}{u:AV}{xs:List α}(h:tg H u)(hs:bM enc size H u xs)(a:xs≠[]):aD u<H.au:=by
 rcases h with rfl|h
 .exact (a (jf.1 hs.2)).elim
 .exact h
def G6.ltB{R:ar->List AV->Prop}{size:Nat}{H:ar}{u:AV}(h:G6 R size H u):tg H u:=by
 have⟨_,_,_,q⟩:=h;exact q
def xS(H:ar)(u:List AV):Prop:=∃l c s w f so sf pv fv ps fs,u=C6 l c s w pv f so sf fv/\bM lP 1 H pv ps/\(∀p∈ps,bM bZ 1 H p.1 p.2/\Bytes p.2/\tg H p.1)/\bM dE 8 H fv fs/\(∀x∈fs,x.u)/\tg H fv
def wf_u8{a:Int}(h:(Lit.int .u8 a).wf=B4):0<=a/\a<256:=by
 simp[Lit.wf,PD.min,PD.max,IntKind.bits,IntKind.signed]at h;omega
def wf_u64{a:Int}(h:(Lit.int .u64 a).wf=B4):fJ a:=by
 simp[Lit.wf,PD.min,PD.max,IntKind.bits,IntKind.signed]at h;unfold fJ;omega
def kx{tC tB:LP}(e:P.underlying tC=B1 (.slice tB))(uY:P.underlying tB=B1 (.int .u8))(g:P.cellsOf tB=1):t9 P tC λ H l=>∃u,l=[u] /\ ∃bs:List Int,bM bZ 1 H u bs/\Bytes bs/\tg H u:=by
 refine(Zw e (Y4 (YD uY)).Ym (by rw[g];decide)).imp ?_ λ H l h=>?_
 .rintro H H' l ⟨u,b,xs,i,c,d⟩ f;exact⟨u,b,xs,i.em f,c,d.em f.au⟩
 .obtain ⟨u,rfl,b,i⟩:=h;have lt:=G6.ltB b;rw[g]at b;have⟨xs,c,d⟩:=Yp (enc:=bZ) (Q:=λ x=>0<=x/\x<256) (λ l h=>by
   obtain⟨a,rfl,j⟩:=h;exact⟨a,rfl,by have:=wf_u8 j;omega⟩) b
  exact⟨u,rfl,xs,c,d,lt⟩
def xmz{tM tS tK tC tY tB tF tL v tU:LP}{ms ss bs:Array Field}(uM:P.underlying tM=B1 (.struct ms))(I:ms.toList.map (·.type)=[tS,tK,tB,tF])(uS:P.underlying tS=B1 (.struct ss))(R:ss.toList.map (·.type)=[v,v,v,v])
 (Y:P.underlying tK=B1 (.slice tC)) (C:P.underlying tC=B1 (.slice tY)) (uY:P.underlying tY=B1 (.int .u8)) (uB:P.underlying tB=B1 (.struct bs)) (N:bs.toList.map (·.type)=[v,v,v]) (X:P.underlying tF=B1 (.slice tL)) (Z:P.underlying tL=B1 (.array 8 tU)) (uU:P.underlying tU=B1 (.int .u64)) (uN:P.underlying v=B1 (.int .i64))
 (D:P.cellsOf tC=1) (K:P.cellsOf tY=1) (E:P.cellsOf tL=8) (J:8*P.cellsOf tU=P.cellsOf tL) (S:Ka P 0 ms.toList=B4) (V:(ms.toList.map λ f=>P.cellsOf f.type).sum=P.cellsOf tM) (T:Ka P 0 ss.toList=B4) (W:(ss.toList.map λ f=>P.cellsOf f.type).sum=P.cellsOf tS)
 (oB:Ka P 0 bs.toList=B4) (U:(bs.toList.map λ f=>P.cellsOf f.type).sum=P.cellsOf tB):t9 P tM xS:=by
 have hm:ms.toList.length=4:=by have:=congrArg List.length I;simpa using this
 have B:t9 P tK λ H l=>∃u,l=[u] /\ ∃t:List (AV×List Int),bM lP 1 H u t /\ ∀p∈t,bM bZ 1 H p.1 p.2/\Bytes p.2/\tg H p.1:=by
  refine(Zw Y (kx C uY K) (by rw[D];decide)).imp ?_ λ H l h=>?_
  .rintro H H' l ⟨u,m,xs,o,j⟩ f;exact⟨u,m,xs,o.em f,λ p q=>⟨(j p q).1.em f,(j p q).2.1,(j p q).2.2.em f.au⟩⟩
  .obtain ⟨u,rfl,m,o⟩:=h;rw[D]at m;have⟨xs,j,r⟩:=Yp (enc:=lP) (Q:=λ p=>bM bZ 1 H p.1 p.2/\Bytes p.2/\tg H p.1) (λ l h=>by
    obtain⟨u,rfl,b,h⟩:=h;exact⟨(u,b),rfl,h⟩) m
   exact⟨u,rfl,xs,j,r⟩
 have O:t9 P tF λ H l=>∃u,l=[u] /\ ∃fs:List L8,bM dE 8 H u fs/\(∀x∈fs,x.u)/\tg H u:=by
  refine(Zw X (Y4 (xim Z (YD uU) J)).Ym (by rw[E];decide)).imp ?_ λ H l h=>?_
  .rintro H H' l ⟨u,m,xs,o,j,r⟩ f;exact⟨u,m,xs,o.em f,j,r.em f.au⟩
  .obtain ⟨u,rfl,m,o⟩:=h;have lt:=G6.ltB m;rw[E]at m;have⟨xs,j,r⟩:=Yp (enc:=dE) (Q:=λ x=>x.u) (λ l h=>by
    obtain⟨_,_,rfl,⟨a,rfl,qa⟩,_,_,rfl,⟨b,rfl,qb⟩,_,_,rfl,⟨c,rfl,qc⟩,_,_,rfl,⟨d,rfl,qd⟩,_,_,rfl,⟨e,rfl,qe⟩,_,_,rfl,⟨f,rfl,qf⟩,_,_,rfl,⟨g,rfl,qg⟩,_,_,rfl,⟨i,rfl,qi⟩,rfl⟩:=h;refine⟨⟨[a,b,c,d,e,f,g,i],rfl⟩,rfl,?_⟩;intro x z;have z:x∈[a,b,c,d,e,f,g,i]:=z;simp only[jj,OC,or_false]at z;rcases z with rfl|rfl|rfl|rfl|rfl|rfl|rfl|rfl<;>(refine wf_u64 ?_;assumption)) m
   exact⟨u,rfl,xs,j,r,lt⟩
 refine(z' (Rs:=[λ H l=>C2 (Jv 4 λ _ l=>tP .i64 l) H l,λ H l=>∃u,l=[u] /\ ∃t:List (AV×List Int),bM lP 1 H u t /\ ∀p∈t,bM bZ 1 H p.1 p.2/\Bytes p.2/\tg H p.1,λ H l=>C2 (Jv 3 λ _ l=>tP .i64 l) H l,λ H l=>∃u,l=[u] /\ ∃fs:List L8,bM dE 8 H u fs/\(∀x∈fs,x.u)/\tg H u]) uM (by rw[hm];rfl)
  (UQ (f:=Field.type) (Q:=t9 P) _ _ (by
   rw[I];intro x z;simp only[List.zip_cons_cons,List.zip_nil_right,jj,OC,or_false]at z;rcases z with rfl|rfl|rfl|rfl
   .exact Er (n:=4) uS R uN T W
   .exact B
   .exact Er (n:=3) uB N uN oB U
   .exact O)) S V).imp ?_ λ H l h=>?_
 .rintro H H' u ⟨l,c,s,w,f,so,sf,pv,fv,t,fs,m,o,j,r,A,L⟩ fr;exact⟨l,c,s,w,f,so,sf,pv,fv,t,fs,m,o.em fr,λ p q=>⟨(j p q).1.em fr,(j p q).2.1,(j p q).2.2.em fr.au⟩,r.em fr,A,L.em fr.au⟩
 .obtain ⟨_,_,rfl,⟨_,_,rfl,⟨a,rfl,_⟩,_,_,rfl,⟨b,rfl,_⟩,_,_,rfl,⟨c,rfl,_⟩,_,_,rfl,⟨d,rfl,_⟩,rfl⟩,_,_,rfl,⟨pv,rfl,t,m,o⟩,_,_,rfl,⟨_,_,rfl,⟨e,rfl,_⟩,_,_,rfl,⟨f,rfl,_⟩,_,_,rfl,⟨g,rfl,_⟩,rfl⟩,_,_,rfl,⟨fv,rfl,fs,j,r,A⟩,rfl⟩:=h;exact⟨a,b,c,d,e,f,g,pv,fv,t,fs,rfl,m,o,j,r,A⟩
end
end Go.Am
namespace Go.Am
open Lang Go.Proofs
variable{M:ao}[MK M]
def pQ.at{H H':ar}(h:pQ H)(n:H.au<=H'.au)(e:H'.get jq=H.get jq):pQ H':=⟨by unfold ar.bQ;rw[e];exact h.1,qn h.2 n⟩
def bM.low{α:Type}{enc:α->List AV}{size:Nat}{H H':ar}{u:AV}{xs:List α}(h:bM enc size H u xs)(n:H.au<=H'.au)(hl:xs≠[]->aD u<H.au)(e:xs≠[]->H'.get (aD u)=H.get (aD u)):bM enc size H' u xs:=by
 by_cases q:xs=[]
 .exact Sl.fr h (W:=λ _=>True) ⟨n,λ z _ t=>(t trivial).elim⟩ (.inl (by rw[q];rfl))
 .exact Sl.fr h (W:=λ z=>z≠aD u) ⟨n,λ z _ t=>by have t:=kj.1 t;rw[t];exact e q⟩ (.inr λ t=>t rfl)
def W1(nb:Nat)(H:ar)(w k:Nat)(x:Wo)(F:Nat->Prop):Prop:=∃Hb B cvs hv bs own ks V,Hb.au=nb/\fh Hb H w B cvs hv bs own ks V k x /\ ∀z,F z->fU H w B cvs hv bs ks z
section
variable{H H':ar}{nb w k:Nat}{x y:Wo}{F G:Nat->Prop}
def W1.lt(h:W1 nb H w k x F){z:Nat}(q:F z):z<H.au:=by
 have⟨Hb,B,a,b,bs,own,ks,V,e,r,f⟩:=h;exact(f z q).lt
def W1.sub(h:W1 nb H w k x F)(g:∀z,G z->F z):W1 nb H w k x G:=by
 have⟨Hb,B,a,b,bs,own,ks,V,e,r,f⟩:=h;exact⟨Hb,B,a,b,bs,own,ks,V,e,r,λ z q=>f z (g z q)⟩
def W1.low(h:W1 nb H w k x F):nb<=H.au:=by
 have⟨Hb,B,a,c,bs,own,ks,V,e,r,f⟩:=h;have:=r.b.lo B (.inl rfl);have:=r.b.lt;omega
def W1.below(h:W1 nb H w k x F):W1 nb H w k x (λ z=>F z\/z<nb):=by
 have nl:=h.low;have⟨Hb,B,a,c,bs,own,ks,V,e,r,f⟩:=h;refine⟨Hb,B,a,c,bs,own,ks,V,e,r,λ z q=>q.elim (f z) λ q=>⟨by omega,λ t=>by have:=r.b.lo z t;omega,λ t=>by have:=(r.wb z t).2;omega,λ i A t=>zi λ d=>by have:=r.lo i A t z (by omega) d;omega⟩⟩
def W1.xT(h:W1 nb H w k x F)(n:H.au<=H'.au)(f:∀z,z<H.au -> ¬F z->H'.get z=H.get z):W1 nb H' w k x (λ z=>F z\/(H.au<=z/\z<H'.au)):=by
 have⟨Hb,B,a,b,bs,own,ks,V,e,r,g⟩:=h;refine⟨H'.low Hb.au,B,a,b,bs,own,_,V,e,r.xT n λ z i q=>f z i λ t=>q (g z t),λ z q=>?_⟩;rcases q with q|⟨c,d⟩
 .exact (g z q).wide n (λ q=>.inl q) λ q=>.inl q
 .exact r.new c d
def W1.em(h:W1 nb H w k x F)(f:Fr Em H H'):W1 nb H' w k x (λ z=>F z\/(H.au<=z/\z<H'.au)):=h.xT f.au λ z a _=>f.ai z a id
structure QZ(nb:Nat)(H:ar)(w k:Nat)(y:Wo)(F:Nat->Prop)(H':ar)(N:Nat->Prop):Prop where
 w:W1 nb H' w k y (λ z=>F z\/N z)
 n:H.au<=H'.au
 kp:∀z,F z->H'.get z=H.get z
 nw:∀z,N z->H.au<=z
def OE(h:W1 nb H w k x F)(hk:k+1<=90000)(i:pQ H)(m:jq<nb)(j:x.h.length<=100000)(n0:0<=x.n)(n1:x.n<=1000000)(a:Act) :
 zj M Zj [.ptr w 0,.agg a.enc] H λ v H'=>v=.agg (ei (x.act a).2)/\QZ nb H w (k+2) (x.act a).1 F H' Em:=by
 have⟨Hb,B,b,o,bs,own,ks,V,e,r,f⟩:=h;refine(_c r hk i (by omega) j n0 n1 a).mono λ v H' q=>?_;have⟨c,hv',bs',aP,d,g,l,n',kp⟩:=q;exact⟨c,⟨⟨Hb,B,b,hv',bs',aP,d,g,e,l,λ z q=>q.elim (λ q=>(kp z (f z q)).1) NT⟩,n',λ z q=>(kp z (f z q)).2,λ z q=>q.elim⟩⟩
def QZ.other{b w' k':Nat}{d:Wo}{c N:Nat->Prop}(p:QZ nb H w k y F H' N)(h:W1 b H w' k' d c)(a:∀z,z<H.au->F z\/c z):W1 b H' w' k' d (λ z=>c z\/(H.au<=z/\z<H'.au)) :=
 h.xT p.n λ z f q=>p.kp z ((a z f).elim id λ e=>(q e).elim)
def ud(H:ar)(nw nv w w' k k':Nat)(x x':Wo)(L:Nat->Prop):Prop:=∃F F',W1 nw H w k x F/\W1 nv H w' k' x' F'/\(∀z,z<H.au->F z\/F' z) /\ ∀z,L z->F z/\F' z
def ud.swap{nw nv w' k':Nat}{c:Wo}{L:Nat->Prop}(h:ud H nw nv w w' k k' x c L):ud H nv nw w' w k' k c x L:=by
 have⟨F,d,a,b,ap,hl⟩:=h;exact⟨d,F,b,a,λ z q=>(ap z q).symm,λ z q=>(hl z q).symm⟩
def ud.em{nw nv w' k':Nat}{c:Wo}{L:Nat->Prop}(h:ud H nw nv w w' k k' x c L)(f:Fr Em H H'):ud H' nw nv w w' k k' x c (λ z=>L z\/(H.au<=z/\z<H'.au)):=by
 have⟨F,d,a,b,ap,hl⟩:=h;refine⟨_,_,a.em f,b.em f,λ z q=>?_,λ z q=>?_⟩
 .rcases xw z H.au with e|e
  .exact (ap z e).imp .inl .inl
  .exact .inl (.inr ⟨e,q⟩)
 .rcases q with q|q
  .exact ⟨.inl (hl z q).1,.inl (hl z q).2⟩
  .exact ⟨.inr q,.inr q⟩
def ud.loc{nw nv w' k':Nat}{d:Wo}{L U:Nat->Prop}(h:ud H nw nv w w' k k' x d L)(f:Fr U H H')(hu:∀z,U z->L z):ud H' nw nv w w' k k' x d (λ z=>L z\/(H.au<=z/\z<H'.au)):=by
 have⟨F,g,a,b,ap,hl⟩:=h;refine⟨_,_,a.xT f.au λ z c q=>f.ai z c λ e=>q (hl z (hu z e)).1,b.xT f.au λ z c q=>f.ai z c λ e=>q (hl z (hu z e)).2,λ z q=>?_,λ z q=>?_⟩
 .rcases xw z H.au with e|e
  .exact (ap z e).imp .inl .inl
  .exact .inl (.inr ⟨e,q⟩)
 .rcases q with q|q
  .exact ⟨.inl (hl z q).1,.inl (hl z q).2⟩
  .exact ⟨.inr q,.inr q⟩
def ud.fst{nw nv w' k' d:Nat}{f:Wo}{c L N:Nat->Prop}(a:W1 nw H w k x F)(b:W1 nv H w' k' f c)(ap:∀z,z<H.au->F z\/c z)(hl:∀z,L z->F z/\c z)(p:QZ nw H w d y F H' N) :
 ud H' nw nv w w' d k' y f (λ z=>L z\/N z) /\ ∀z,L z->H'.get z=H.get z:=by
 refine⟨⟨_,_,p.w,p.other b ap,λ z q=>?_,λ z q=>?_⟩,λ z q=>p.kp z (hl z q).1⟩
 .rcases xw z H.au with e|e
  .exact (ap z e).imp .inl .inl
  .exact .inr (.inr ⟨e,q⟩)
 .rcases q with q|q
  .exact ⟨.inl (hl z q).1,.inl (hl z q).2⟩
  .exact ⟨.inr q,.inr ⟨p.nw z q,p.w.lt (.inr q)⟩⟩
def W1.core(h:W1 nb H w k x F){i:Nat}{c:Co}(b:x.cs[i]? = B1 c):∃p o f l sp cv rv,(∀K,C3 M B4 (.func TN) [.ptr w 0,.int .i64 (i:Int)] H K=K B4 (.ptr p 0) H)/\dW H o p f l sp cv rv .nils .nili c [] k:=by
 have⟨Hb,B,d,j,bs,own,ks,V,e,r,f⟩:=h;have g:=(qo.1 b).1;have hk:=r.kl;obtain⟨A,a⟩:∃A,ks[i]? = B1 A:=⟨_,qy (by omega)⟩
 exact⟨A.p,A.o,A.f,A.l,A.sp,A.cv,A.rv,P0 r (by omega) (by rw[show((i:Int)).toNat=i by omega];exact a),(r.co i c A b a).1⟩
end
end Go.Am
namespace Go.Am
open Lang Go.Proofs
variable{M:ao}[MK M]
section
variable{H H':ar}{nb w k:Nat}{x y:Wo}{F G:Nat->Prop}
def CR(h:W1 nb H w k x F){sv:AV}{a:List Int}(hs:bM bZ 1 H sv a)(d:Bytes a)(hl:a.length<=3000)(g:a≠[]->F (aD sv))(hk:k+2*(aO a).length<=80000)(l:pQ H)(p:jq<nb)(m:x.h.length<=50000)(n0:0<=x.n)(n1:x.n<=100000) :
 zj M Oc [.ptr w 0,sv] H λ v H'=>aL ei ku 14 H' v (x.run (aO a)).2/\QZ nb H w (k+2*(aO a).length) (x.run (aO a)).1 F H' (aM v):=by
 have⟨Hb,B,c,s,bs,own,ks,V,e,r,f⟩:=h;refine(xki r hs d hl (λ q=>f _ (g q)) hk l (by omega) m n0 (by omega)).mono λ v H' q=>?_;have⟨b,hv',bs',aP,i,j,e',o,n',kp,ow,nw⟩:=q;exact⟨ow,⟨⟨b,B,c,hv',bs',aP,i,j,e'.trans e,o,λ z q=>q.elim (λ q=>(kp z (f z q)).1) λ q=>(nw z q).1⟩,n',λ z q=>(kp z (f z q)).2,λ z q=>(nw z q).2⟩⟩
end
end Go.Am
namespace Go.Am
open Lang Go.Proofs
variable{M:ao}[MK M]
def tQ{α:Type}{enc:α->List AV}(h:∀x,aS (enc x)=B4)(l:List α):aS (l.flatMap enc)=true:=by
 rw[vk,List.all_flatMap,B6];intro x _;have:=h x;rw[vk]at this;exact this
def xem{H:ar}{a:AV}{l:List eF}(ha:bM eF.enc 9 H a l)(hl:l.length<=100000):zj M qg5 [a] H λ v H'=>bM eF.enc 9 H' v l/\Fr Em H H':=by
 refine qn6 ?_
 by_cases hn:a=.nils
 .subst hn;simp only[ae,bc,S',j'];exact⟨ha,Fr.refl _⟩
 .have b:Fr Em H (H.alloc (.row [] j9 (0,0) B4)):=(Fr.refl H).alloc _;simp only[ae,bc,S',xgo ha hn,QC];refine QY (e:=j9) (n:=0) (cells:=[]) ⟨rfl,.inl ⟨rfl,.inr ⟨H.au,rfl,by rw[xz];omega⟩⟩⟩ (Sl.em ha b) (tQ (λ x=>rfl) _) (by omega) (by omega) (by omega) λ h g hv' c d=>?_;simp only[ae,bc];rw[yf,z7]at hv';exact⟨hv'.sl,b.trans c λ x f=>.inr (by rw[f.2];exact qm _)⟩
def S5{H:ar}{nb w k:Nat}{x:Wo}{F:Nat->Prop}(h:W1 nb H w k x F)(hl:x.h.length<=100000):zj M pn [.ptr w 0] H λ v H'=>bM eF.enc 9 H' v x.h/\Fr Em H H':=by
 have⟨Hb,B,b,i,bs,own,ks,V,e,r,f⟩:=h;refine qr0 ?_;have d:Op.eq .ptr B2 [.ptr w 0,.nilp] H=B1 (.bool B2):=rfl;simp only[ae,bc,qr1,aB,d,r.bq];refine C3.q (xem (aL.sl r.hl) hl) λ v g⟨a,c⟩=>?_;simp only[ae,bc];exact⟨a,c⟩
end Go.Am
namespace Go.Am
open Lang Go.Proofs
variable{M:ao}[MK M]
def MP(ps:List (AV×List Int))(fs:List L8):Prop:=ps.length<=10/\fs.length<=100 /\ ∀p∈ps,p.2.length<=9000
def xin{H:ar}{l c s w f so sf:Int}{pv fv:AV}{a:List (AV×List Int)}{fs:List L8}(u:bM lP 1 H pv a)(m:∀p∈a,bM bZ 1 H p.1 p.2)(D:bM dE 8 H fv fs) :
 zj M qu8 [.agg (C6 l c s w pv f so sf fv)] H λ v H'=>∃b:Bool,v=.bool b/\Fr Em H H'/\(b=B2->MP a fs):=by
 refine q98 ?_;have⟨H1,e1,d,n1,t⟩:=cI H (OR (C6 l c s w pv f so sf fv) NF);have l4:Op.ah [.ptr H.au 4] H1=B1 pv:=vd t 4;have A:Op.ah [.ptr H.au 8] H1=B1 fv:=vd t 8;have pl:=(Sl.em u d).len;have fl:=(Sl.em D d).len
 by_cases j:(10:Int)<((a.length:Nat):Int)
 .simp only[ae,bc,Nv,<-e1,l4,pl,xf j];exact⟨B4,rfl,d,λ q=>nomatch q⟩
 by_cases o:(100:Int)<((fs.length:Nat):Int)
 .simp only[ae,bc,Nv,<-e1,l4,pl,j,A,fl,xf o];exact⟨B4,rfl,d,λ q=>nomatch q⟩
 simp only[ae,bc,Nv,<-e1,l4,pl,j,A,fl,o];refine dm.intro (λ n E g=>∃i:Nat,E=[(3,.int .i64 (i:Int)),(2,.bool B2),(1,.ptr H.au 0),(0,.agg (C6 l c s w pv f so sf fv))]/\g=H1/\n=a.length-i/\i<=a.length /\ ∀p∈a.take i,p.2.length<=9000) ?_ ?_
 .exact ⟨_,_,⟨0,rfl,rfl,rfl,x9 _,λ p q=>by rw[kz]at q;cases q⟩,by simp only[ae,bc]⟩
 rintro n E g ⟨i,rfl,rfl,rfl,J,ok⟩
 by_cases h:i<a.length
 .have q:(i:Int)<((a.length:Nat):Int):=by omega
  obtain⟨p,hp⟩:∃p,a[i]? = B1 p:=⟨_,qy h⟩
  have C:=Sl.em u d;have ix:=(show bM lP 1 g pv a from C).idx hp (z:=(i:Int)) rfl .i64;have ld:Op.ah [.ptr (aD pv) (cM 1 pv i)] g=B1 p.1:=(show bM lP 1 g pv a from C).jA xca hp (by decide);have B:=(Sl.em (m p (zh hp)) d).len;have I:ak .i64 ((i:Int)+1)=((i+1:Nat):Int):=by rw[ju (by omega) (by omega)];omega
  by_cases r:(9000:Int)<((p.2.length:Nat):Int)
  .simp only[ae,bc,Nv,l4,pl,xf q,ix,ld,B,xf r];exact⟨B4,rfl,d,λ q=>nomatch q⟩
  .simp only[ae,bc,Nv,l4,pl,xf q,ix,ld,B,r,I];refine⟨_,_,⟨i+1,rfl,rfl,h,λ p' e=>?_⟩,by simp only[ae,bc],by omega⟩;rw[vg,hp]at e;rcases zt.1 e with e|e
   .exact ok p' e
   .rw [jz.1 (show p'∈[p]from e)];omega
 .have q:¬(i:Int)<((a.length:Nat):Int):=by omega
  simp only[ae,bc,Nv,l4,pl,q];refine⟨B2,rfl,d,λ _=>⟨by omega,by omega,λ p q=>ok p ?_⟩⟩;rw[zq (by omega)];exact q
abbrev ToT:aU:=(.part 0 B5 .int (.part 1 (B1 11) (.part 0 B5 .int (.part 1 B5 .int (.part 2 B5 .int (.part 3 (B1 8) (.part 0 B5 .int (.part 1 B5 .int (.part 2 B5 .int (.part 3 B5 .int (.part 4 B5 .int (.part 5 B5 .int (.part 6 B5 .int (.part 7 B5 .int .nil)))))))) .nil)))) (.part 12 B5 .int (.part 13 B5 .int .nil))))
def WJ(t:To):aX ToT (.agg (ei t)) (.agg (ei t))=B1 true:=by
 have⟨e,⟨k,co,ln,⟨d,a⟩⟩,cd,b⟩:=t
 match d,a with
 |[d0,d1,d2,d3,d4,d5,d6,d7],_=>simp[ei,aq,dE,uW,aX,partAt,sV,kD,rT,iY,PH]
def Ee(t:To)(H:ar):Op.eq (.agg (.part 0 B5 .int (.part 1 (B1 11) (.part 0 B5 .int (.part 1 B5 .int (.part 2 B5 .int (.part 3 (B1 8) (.part 0 B5 .int (.part 1 B5 .int (.part 2 B5 .int (.part 3 B5 .int (.part 4 B5 .int (.part 5 B5 .int (.part 6 B5 .int (.part 7 B5 .int .nil)))))))) .nil)))) (.part 12 B5 .int (.part 13 B5 .int .nil))))) B4 [.agg (ei t),.agg (ei t)] H=B1 (.bool B2) :=
 TI _ _ _ H B4 (WJ t)
def xil{H:ar}{a b:AV}{l:List To}(ha:bM ei 14 H a l)(hb:bM ei 14 H b l)(hl:l.length<=100000):zj M h_ [a,b] H λ v H'=>v=.bool B4/\H'=H:=by
 refine q97 ?_;have la:=ha.len;have lb:=hb.len;simp only[ae,bc,Yv,la,lb];refine dm.intro (λ n E g=>∃i:Nat,E=[(5,.int .i64 (i:Int)),(4,.bool B2),(0,a),(1,b)]/\g=H/\n=l.length-i/\i<=l.length) ?_ ?_
 .exact ⟨_,_,⟨0,rfl,rfl,rfl,x9 _⟩,by simp only[ae,bc]⟩
 rintro n E g ⟨i,rfl,rfl,rfl,j⟩
 by_cases c:i<l.length
 .have q:(i:Int)<((l.length:Nat):Int):=by omega
  obtain⟨t,d⟩:∃t,l[i]? = B1 t:=⟨_,qy c⟩
  have ix:=ha.idx d (z:=(i:Int)) rfl .i64;have ld:=ha.aw vD (by decide) d;have e:=hb.idx d (z:=(i:Int)) rfl .i64;have f:=hb.aw vD (by decide) d;have h:ak .i64 ((i:Int)+1)=((i+1:Nat):Int):=by rw[ju (by omega) (by omega)];omega
  simp only[ae,bc,Yv,la,xf q,ix,ld,e,f,Ee,h];exact⟨_,_,⟨i+1,rfl,rfl,c⟩,by simp only[ae,bc],by omega⟩
 .have q:¬(i:Int)<((l.length:Nat):Int):=by omega
  simp only[ae,bc,Yv,la,q]
end Go.Am
namespace Go.Am
namespace Wo
def G3(x:Wo):Prop:=0<=x.n/\(∀e∈x.h,e.time<x.n)/\x.h.Pairwise λ a b=>a.time<=b.time
def G3.act{x:Wo}(h:x.G3)(a:Act):(x.act a).1.G3:=by
 have⟨m,i,j⟩:=h;obtain⟨l,e,-⟩:=x.wH a;have en:(x.act a).1.n=x.n+1:=rfl;have g:(x.act a).1.h=x.h++l.map (λ e=>{e with time:=x.n}):=e;have tm:∀e∈l.map (λ e:eF=>{e with time:=x.n}),e.time=x.n:=λ e q=>by
  obtain⟨d,_,rfl⟩:=CN.1 q;rfl
 refine⟨by omega,λ e q=>?_,?_⟩
 .rw [g]at q;rw[en];rcases zt.1 q with q|q
  .have:=i e q;omega
  .have:=tm e q;omega
 .rw [g,List.pairwise_append];refine⟨j,?_,λ a c b f=>by have:=i a c;have:=tm b f;omega⟩;refine List.pairwise_of_forall_mem_list λ a c b f=>?_;rw[tm a c,tm b f];exact uj _
def G3.run:∀(l:List Act){x:Wo},x.G3->(x.run l).1.G3
 |[],x,h=>h
 |a::l,x,h=>G3.run l (h.act a)
end Wo
end Go.Am
namespace Go.Am
open Lang Go.Proofs
variable{M:ao}[MK M]
structure SK(xs:List Act)(t:Nat)(i:Nat)(V:Nat->Prop)(Hx:ar):Prop where
 vt:V t
 lt:t<Hx.au
 ls:∃lv,Hx.get t=B1 (OR [lv] yH)/\aL Act.enc tJ 3 Hx lv (xs.take i) /\ ∀a,aM lv a->V a/\t<a
def SK.loc{ys:List Act}{t i:Nat}{V:Nat->Prop}{a Hb:ar}(h:SK ys t i V a)(hs:∀x,V x->Hb.get x=a.get x)(hn:a.au<=Hb.au):SK ys t i V Hb:=by
 have⟨lv,l1,l2,l3⟩:=h.ls;refine⟨h.vt,qn h.lt hn,lv,by rw[hs _ h.vt];exact l1,?_,l3⟩;exact Own.fr l2 (⟨hn,λ b _ hw=>hs b (kj.1 hw)⟩:Fr (λ b=>¬V b) a Hb) λ x c w=>w (l3 x c).1
def xbq{H:ar}{sv:AV}{bs:List Int}(hs:bM bZ 1 H sv bs)(O:Bytes bs)(hb:bs≠[]->aD sv<H.au)(hl:bs.length<=100000) :
 zj M _Q [sv] H λ v H'=>aL Act.enc tJ 3 H' v (aO bs)/\(∀z,aM v z->H.au<=z)/\Fr Em H H':=by
 have one:aA sv=true:=Sl.one hs;have al:=MV bs;refine q7p ?_;have⟨H1,e1,f1,n1,g1⟩:=cI H (OR [sv] gD);have⟨H2,e2,A,n2,g2⟩:=cI H1 (OR [.nils] yH);have N:zj M Y2 [sv] H λ v H'=>v=.fn (.func FR) [] [.ptr H.au 0]/\H'=H1:=by
  refine qzo ?_;simp only[ae,bc,ε,zY one,<-e1];rfl
 simp only[ae,bc,q7q];refine C3.q N λ v X⟨hv,T⟩=>?_;subst hv;have T:=T.symm;subst T;have E:=f1.em A;have J:H2.get H.au=B1 (OR [sv] gD):=(A.ai _ (by omega) id).trans g1;have ap:zj M PA [.nils,.fn (.func FR) [] [.ptr H.au 0]] H1 λ v H'=>aL Act.enc tJ 3 H' v (aO bs)/\(∀z,aM v z->H.au<=z)/\Fr Em H H':=by
  refine ql7 ?_;simp only[ae,bc,VN,show AV.cells .nils=[.nils]from rfl,<-e2];refine iA.iter (fn:=Uv) (lp:=Rf) (pa:=Zf 0) (pb:=ZC 0) ql2 qfb.1 qfb.2 (by decide) qku qkv
   (q7w (Sl.em hs E) O hl J (by omega) λ q=>qn (hb q) E.au) (λ i V Hx=>SK (aO bs) H1.au i V Hx) (λ _ _ _=>False) (λ x=>x=H1.au) (qm _) ?_ ?_ ?_ ?_ ?_ ?_ ?_ ?_
  .rintro x ((q|⟨q,rfl⟩)|q)
   .exact ⟨by omega,rfl,λ w=>by omega⟩
   .have:=hb q;exact⟨by omega,rfl,λ w=>by omega⟩
   .exact q.elim
  .exact λ x U=>by omega
  .exact ⟨rfl,by omega,.nils,g2,Own.nil ..,λ x q=>(q.1 rfl).elim⟩
  .exact λ i V Ha Hb h hs hn=>h.loc hs hn
  .exact λ e V Ha Hb h _ _=>h
  .intro L i lr lb x U hL V p m hV R t K S;rw[xj,xk]at U;obtain⟨a,ha,rfl⟩:=U;have hia:=(qo.1 ha).1;refine⟨_,rfl,?_⟩;obtain⟨-,wa,wb,-⟩:=VN M ⟨B1 L,PA⟩;have⟨g,e7,I,m7,g7⟩:=cI p (OR a.enc tJ);have s7:Op.store 3 [.ptr p.au 0,.agg a.enc] (p.alloc (OR [.int .i64 0,.int .i64 0,.int .i64 0] tJ))=B1 (.undef,g):=by rw[ij (n:=3) (l:=[.int .i64 0,.int .i64 0,.int .i64 0]) (xr p _) rfl (Act.len a) (Act.one a),N2,e7]
   simp only[ae,bc,wa,s7,zT];refine⟨by rw[I.ai L K id];exact S,?_⟩;have f8:Fr (On L) g (g.set L lb):=(Fr.refl g).set (W:=On L) (.inl rfl) _;have g8:(g.set L lb).get p.au=B1 (OR a.enc tJ):=by rw[jv (by omega)];exact g7
   have gL:(g.set L lb).get L=B1 lb:=xg ..;have b:=m.loc (Hb:=g.set L lb) (λ y hy=>by rw[jv (λ q:L=y=>t (by rw[q];exact hy)),I.ai y (hV y hy).1 id]) (by rw[oO];omega);have n8:(g.set L lb).au=p.au+1:=by rw[oO,m7]
   have fx:Fr (On L) p (g.set L lb):=(I.mono λ _ _ q=>q.elim).trans f8 λ z q=>.inl q;have nf6:=R.au;generalize g.set L lb=H8 at *;have⟨c,l1,l2,l3⟩:=b.ls;have Y:Op.ah [.ptr H1.au 0] H8=B1 c:=zg (xe l1) 0;have la:=fC g8 (Act.len a);have mK:((aO bs).take i).length=i:=by rw[zx];omega
   have tk:(aO bs).take (i+1)=(aO bs).take i ++ [a]:=by rw[vg,ha];rfl
   simp only[ae,bc,wb,Y,la];refine aL.mO (bytes:=24) l2 (x:=.agg a.enc) (a:=a) rfl rfl (Act.len a) (Act.one a) (by decide) (by omega) (by omega) λ f D s o B=>?_;have q9:At D H1.au yH [c]:=⟨by rw[o.ai _ b.lt λ q=>by have:=(l3 _ q).2;omega];exact l1,qn b.lt o.au⟩
   have o1:aA f=true:=by have:=Sl.one (Own.sl s);exact this
   have st:=q9.st 0 o1 (by simp);obtain⟨u,j⟩:∃X,X=D.set H1.au (OR ([c].set 0 f) yH):=⟨_,rfl⟩
   rw[<-j]at st;have r:Fr (On H1.au) D u:=by rw[j];exact cm ..
   simp only[ae,bc,st];have C:∀y,aM f y->H1.au<y:=λ y q=>(B y q).elim (λ q=>(l3 y q).2) λ q=>by have:=b.lt;omega
   have nf:=o.au;have Z:u.au=D.au:=by rw[j];rfl
   refine⟨rfl,?_,λ y=>V y\/aM f y,?_,?_,.inl ⟨rfl,.inl m.vt,by have:=b.lt;omega,f,by rw[j,xg];rfl,?_,λ y q=>⟨.inr q,C y q⟩⟩⟩
   .rw [r.ai L (by omega) (λ(q:L=H1.au)=>t (by rw[q];exact m.vt)),o.ai L (by omega) λ q=>t (l3 _ q).1];exact gL
   .rintro y (q|q)
    .exact ⟨by have:=(hV y q).1;omega,.inl q⟩
    .refine ⟨by rw[Z];exact Own.lt s y q,?_⟩;rcases B y q with w|w
     .exact .inl (l3 y w).1
     .exact .inr (by omega)
   .exact (((fx.mono λ z _ q=>.inr q).trans o λ y q=>.inl (.inl (l3 y q).1)).trans r λ y(q:y=H1.au)=>.inl (.inl (by rw[q];exact m.vt)))
   .rw [tk];exact Own.fr s r λ y q(w:y=H1.au)=>by have:=C y q;omega
  .rintro d V H' hd Q hg o hV m;rw[xu]at m;have⟨c,l1,l2,l3⟩:=m.ls;rw[GJ]at l2;have fd:Fr (On d) H' (H'.set d (.deferred B5)):=(Fr.refl H').set (W:=On d) (.inl rfl) _;have Y:Op.ah [.ptr H1.au 0] H'=B1 c:=zg (xe l1) 0;simp only[ae,bc,VN,Y,Gg];refine⟨hg,Own.fr l2 fd λ z q(w:z=d)=>(hV z (l3 z q).1).2.2 w,λ z q=>by have:=(l3 z q).2;omega,?_⟩;have nf:=o.au;refine⟨by rw[oO];omega,λ z zl _=>?_⟩;rw[jv (by omega),o.ai z (by omega) (λ e=>e.elim (λ e=>by have e:z=H1.au:=e;omega) id),E.ai z zl id]
  .rintro e d V H' hj hd Q hg o hV m;exact m.elim
 refine C3.q (show zj M qg7 [.fn (.func FR) [] [.ptr H.au 0]] H1 λ v H'=>aL Act.enc tJ 3 H' v (aO bs)/\(∀z,aM v z->H.au<=z)/\Fr Em H H' from by
  refine qn8 ?_;simp only[ae,bc,qn9];refine C3.q ap λ v H3 h=>?_;simp only[ae,bc];exact h) λ v H3 h=>?_
 simp only[ae,bc];exact h
end Go.Am
namespace Go.Am
open Lang Go.Proofs
variable{M:ao}[MK M]
def _6(e:eF)(H:ar):Op.eq (.agg (.part 0 B5 .int (.part 1 B5 .int (.part 2 B5 .int (.part 3 B5 .int (.part 4 B5 .int (.part 5 B5 .int (.part 6 B5 .int (.part 7 B5 .int (.part 8 B5 .int .nil)))))))))) B4 [.agg e.enc,.agg e.enc] H=B1 (.bool B2):=by
 refine TI _ _ _ H B4 ?_;simp[eF.enc,aX,partAt,kD,rT,iY,PH]
def DJ{H:ar}{v1 v2 g v4:AV}{l:List To}{hs:List eF}{E:Env}(S:bM ei 14 H v1 l)(h2:bM ei 14 H v2 l)(m:bM eF.enc 9 H g hs)(D:bM eF.enc 9 H v4 hs)(hl:l.length<=10000)(hh:hs.length<=100000)
 (T:(∀e∈hs,e.time<(l.length:Int))/\hs.Pairwise λ a b=>a.time<=b.time) (p:lk E 13=B1 v1) (K:lk E 14=B1 v2) (r:lk E 17=B1 g) (s:lk E 18=B1 v4) (k7:lk E 7=B1 (.bool B4)) :
 W M ⟨B5,vi⟩ (OB vi 55) B4 (eU M [.tmp 6] (uI λ v _=>v=.bool B4)) E [] H:=by
 obtain⟨-,-,-,-,-,-,-,-,-,-,L,-,N,-,O,h,u,A⟩:=Z2 M ⟨B5,vi⟩;have l1:=S.len;have l3:=m.len;have l4:=D.len;simp only[ae,bc,L,p,K];refine C3.q (xil S h2 (by omega)) λ v X⟨hv,c⟩=>?_;subst hv;have c:=c.symm;subst c;simp only[ae,bc,r,s,l3,l4,N];refine dm.intro (λ n Q B=>∃i:Nat,Q=[(19,.int .i64 (i:Int)),(18,v4),(17,g),(13,v1),(7,.bool B4)]/\B=H/\n=hs.length-i/\i<=hs.length) ?_ ?_
 .exact ⟨_,_,⟨0,rfl,rfl,rfl,x9 _⟩,by simp only[ae,bc,s,r,p,k7]⟩
 rintro n Q B ⟨i,rfl,rfl,rfl,hi⟩
 by_cases f:i<hs.length
 .have q:(i:Int)<((hs.length:Nat):Int):=by omega
  obtain⟨e,he⟩:∃e,hs[i]? = B1 e:=⟨_,qy f⟩
  have ix:=m.idx he (z:=(i:Int)) rfl .i64;have ld:=m.aw (enc:=eF.enc) (size:=9) Tj (by decide) he;have o:=D.idx he (z:=(i:Int)) rfl .i64;have t:=D.aw (enc:=eF.enc) (size:=9) Tj (by decide) he;have U:Op.ah [.ptr (aD g) (cM 9 g i+1)] B=B1 (.int .i64 e.time):=(m.ah (enc:=eF.enc) (size:=9) Tj he (j:=1) (by decide)).trans rfl;have tm:=T.1 e (zh he);have R:¬((l.length:Nat):Int)<=e.time:=by omega
  have V:ak .i64 ((i:Int)+1)=((i+1:Nat):Int):=by rw[ju (by omega) (by omega)];omega
  by_cases i0:i=0
  .have C:¬(0:Int)<(i:Int):=by omega
   simp only[ae,bc,h,l3,xf q,u,ix,ld,o,t,_6,U,l1,R,C,A,V];exact⟨_,_,⟨i+1,rfl,rfl,f⟩,by simp only[ae,bc],by omega⟩
  .have C:(0:Int)<(i:Int):=by omega
   obtain⟨d,I⟩:∃d,hs[i-1]? = B1 d:=⟨_,qy (by omega)⟩
   have wj:ak .i64 ((i:Int)-1)=((i-1:Nat):Int):=by rw[ju (by omega) (by omega)];omega
   have J:=m.idx I (z:=((i-1:Nat):Int)) rfl .i64;have kd:Op.ah [.ptr (aD g) (cM 9 g (i-1)+1)] B=B1 (.int .i64 d.time):=(m.ah (enc:=eF.enc) (size:=9) Tj I (j:=1) (by decide)).trans rfl;have le:d.time<=e.time:=by
    have⟨Y,Z⟩:=qo.1 I;have⟨b1,b2⟩:=qo.1 he;have:=List.pairwise_iff_getElem.1 T.2 (i-1) i Y b1 (by omega);rw[Z,b2]at this;exact this
   have c3:¬e.time<d.time:=by omega
   simp only[ae,bc,h,l3,xf q,u,ix,ld,o,t,_6,U,l1,R,xf C,wj,J,kd,c3,A,V];exact⟨_,_,⟨i+1,rfl,rfl,f⟩,by simp only[ae,bc],by omega⟩
 .have q:¬(i:Int)<((hs.length:Nat):Int):=by omega
  simp only[ae,bc,h,l3,q,O]
def aL.on{α:Type}{enc:α->List AV}{e size:Nat}{H:ar}{v:AV}{xs:List α}(h:aL enc e size H v xs)(a:xs≠[]):aM v (aD v):=by
 refine⟨λ q=>a ?_,rfl⟩;subst q;exact jf.1 (aL.sl h).2
def xm7{H:ar}{nw nv w w' k k':Nat}{x c:Wo}{L:Nat->Prop}{d lv J:AV}{ls:List Act}{ts l0:List To}{Q:aJ}{E:Env}(B:ud H nw nv w w' k k' x c L)(hg:True/\jq<nv)(r:pQ H)(D:L jq)
 (hk:k'+2*ls.length<=20000) (hh:c.h.length+3*ls.length<=50000) (n0:0<=c.n) (n1:c.n+ls.length<=50000) (hl0:l0.length<=10000) (hll:ls.length<=10000)
 (I:aL ei ku 14 H d ts) (g:∀z,aM d z->L z) (hl:aL Act.enc tJ 3 H lv ls) (l:∀z,aM lv z->L z) (ho:aL ei ku 14 H J l0) (b:∀z,aM J z->L z /\ ¬aM d z /\ ¬aM lv z/\z≠jq)
 (S:lk E 15=B1 lv) (R:lk E 14=B1 J) (O:lk E 13=B1 d) (N:lk E 10=B1 (.ptr w' 0)) (k8:lk E 8=B1 (.ptr w 0)) (k7:lk E 7=B1 (.bool B4))
 (hQ:∀H' ov' f k2,ud H' nw nv w w' k k2 x (c.run ls).1 f->aL ei ku 14 H' d ts->aL ei ku 14 H' ov' (l0++(c.run ls).2)->(∀z,aM d z\/aM ov' z->f z) ->
  W M ⟨B5,vi⟩ (OB vi 51) B4 Q [(16,.int .i64 (ls.length:Int)),(15,lv),(14,ov'),(13,d),(10,.ptr w' 0),(8,.ptr w 0),(7,.bool B4)] [] H') :
 W M ⟨B5,vi⟩ (OB vi 36) B4 Q E [] H:=by
 obtain⟨-,-,-,-,-,-,-,U,-,C,-,V,-,X,-,-,-,-⟩:=Z2 M ⟨B5,vi⟩;simp only[ae,bc,U];refine dm.intro (λ n Z m=>∃(i:Nat)(ov':AV)(f:Nat->Prop),Z=[(16,.int .i64 (i:Int)),(15,lv),(14,ov'),(13,d),(10,.ptr w' 0),(8,.ptr w 0),(7,.bool B4)]/\n=ls.length-i/\i<=ls.length/\ud m nw nv w w' k (k'+2*i) x (c.run (ls.take i)).1 f/\pQ m/\f jq /\
  aL ei ku 14 m d ts/\(∀z,aM d z->f z)/\aL Act.enc tJ 3 m lv ls/\(∀z,aM lv z->f z)/\aL ei ku 14 m ov' (l0++(c.run (ls.take i)).2)/\(∀z,aM ov' z->f z /\ ¬aM d z /\ ¬aM lv z/\z≠jq)) ?_ ?_
 .exact ⟨_,_,⟨0,J,L,rfl,rfl,x9 _,by rw[kz];exact B,r,D,I,g,hl,l,by rw[kz];show aL _ _ _ _ _ (l0 ++ []);rw[zn];exact ho,b⟩,by simp only[ae,bc,S,R,O,N,k8,k7]⟩
 rintro n Z m ⟨i,ov',f,rfl,rfl,hi,B,r,D,I,g,hl,l,ho,b⟩;have ln:=(aL.sl hl).len
 by_cases u:i<ls.length
 .have q:(i:Int)<((ls.length:Nat):Int):=by omega
  obtain⟨a,ha⟩:∃a,ls[i]? = B1 a:=⟨_,qy u⟩
  have ix:=(aL.sl hl).idx ha (z:=(i:Int)) rfl .i64;have ld:=(aL.sl hl).aw Act.len (by decide) ha;have wi:ak .i64 ((i:Int)+1)=((i+1:Nat):Int):=by rw[ju (by omega) (by omega)];omega
  have tl:(ls.take i).length=i:=by rw[zx];omega
  have xn:=Wo.vE (ls.take i) c;have xh:=Wo.vI (ls.take i) c;have Y:=Wo.nJ (ls.take i) c;rw[tl]at xn xh Y;simp only[ae,bc,C,ln,xf q,V,ix,ld];have⟨F,F',hV,hW,ap,hL⟩:=B.swap;refine C3.q (OE hV (by omega) r hg.2 (by omega) (by omega) (by omega) a) λ v H1⟨j,T⟩=>?_;have⟨p,A⟩:=ud.fst hV hW ap hL T;have n1:=T.n;clear T hV hW ap hL;subst j;have o:Fr (λ z=>¬f z) m H1:=⟨n1,λ z zl q=>A z (kj.1 q)⟩
  have j:aL ei ku 14 H1 d ts:=Own.fr I o λ z q e=>e (g z q);have t:aL Act.enc tJ 3 H1 lv ls:=Own.fr hl o λ z q e=>e (l z q);have K:aL ei ku 14 H1 ov' (l0++(c.run (ls.take i)).2):=Own.fr ho o λ z q e=>e (b z q).1;have tk:ls.take (i+1)=ls.take i ++ [a]:=by rw[vg,ha];rfl
  have rk:=Wo.yR c (ls.take i) a;have p:=p.swap;generalize hx2:((c.run (ls.take i)).1.act a).1=x2 at *;generalize ht2:((c.run (ls.take i)).1.act a).2=t2 at *;simp only[ae,bc,J9];refine aL.mO (bytes:=112) K (x:=.agg (ei t2)) (a:=t2) rfl (vD _) (vD _) (ON _) (by decide) (by rw[xc,Y];omega) (by rw[xc,Y];omega) λ v' H2 o2 s hz=>?_;simp only[ae,bc,X,wi];refine⟨_,_,⟨i+1,v',λ z=>(f z\/Em z)\/(H1.au<=z/\z<H2.au),rfl,rfl,u,by rw[tk,rk,show k'+2*(i+1)=k'+2*i+2 by omega];exact p.loc s λ z q=>.inl (b z q).1,?_,.inl (.inl D),?_,λ z q=>.inl (.inl (g z q)),?_,λ z q=>.inl (.inl (l z q)),by rw[tk,rk,<-jb];exact o2,λ z q=>?_⟩,by simp only[ae,bc],by omega⟩
  .exact (r.at n1 (A _ D)).at s.au (s.ai _ (qn r.2 n1) λ e=>(b _ e).2.2.2 rfl)
  .exact Own.fr j s λ z q e=>(b z e).2.1 q
  .exact Own.fr t s λ z q e=>(b z e).2.2.1 q
  .rcases hz z q with e|e
   .have ⟨e1,e2,e3,e4⟩:=b z e;exact⟨.inl (.inl e1),e2,e3,e4⟩
   .refine ⟨.inr ⟨e,Own.lt o2 z q⟩,λ e2=>?_,λ e2=>?_,λ e2=>?_⟩
    .have:=Own.lt j z e2;omega
    .have:=Own.lt t z e2;omega
    .have:=r.2;omega
 .have q:¬(i:Int)<((ls.length:Nat):Int):=by omega
  have ie:i=ls.length:=by omega
  subst ie;rw[GJ]at B ho;simp only[ae,bc,C,ln,q];exact hQ _ _ _ _ B I ho λ z e=>e.elim (g z) λ e=>(b z e).1
end Go.Am
namespace Go.Am
open Lang Go.Proofs
variable{M:ao}[MK M]
def Io(l c s wy:Int)(fs:List L8)(qs:List (List Int))(f so sf:Int):(Qn l c s wy fs qs f so sf).G3:=⟨uj _,(λ e h=>absurd h List.not_mem_nil),List.Pairwise.nil⟩
def q86{H:ar}{l c s wy f so sf:Int}{pv fv sa sb:AV}{ps:List (AV×List Int)}{fs:List L8}{d bb:List Int}(hal:∀H1,Fr Em H H1->zj M q81 [] H1 λ v H'=>v=.bool B4/\H'=H1)(hS:pQ H)
 (hP:bM lP 1 H pv ps) (D:∀p∈ps,bM bZ 1 H p.1 p.2/\Bytes p.2/\tg H p.1) (S:bM dE 8 H fv fs) (U:∀x∈fs,x.u) (T:tg H fv) (hs:bM bZ 1 H sa d) (hby:Bytes d) (hsl:tg H sa) (Y:bM bZ 1 H sb bb) (K:Bytes bb) (hsl':tg H sb) :
 zj M vi [.agg (C6 l c s wy pv f so sf fv),sa,sb] H λ v _=>v=.bool true:=by
 refine qx0 ?_;obtain⟨w0,w4,w12,w16,w24,w28,w32,-,w51,-,-,-,-,-,-,-,-,-⟩:=Z2 M ⟨B5,vi⟩;have⟨H1,e1,f1,n1,g1⟩:=cI H (OR (C6 l c s wy pv f so sf fv) NF);simp only[ae,bc,w0,<-e1];refine C3.q (hal H1 f1) λ v X⟨hv,hh⟩=>?_;subst hv;have hh:=hh.symm;subst hh;have k9:Op.aw 9 [.ptr H.au 0] H1=B1 (.agg (C6 l c s wy pv f so sf fv)):=fC g1 rfl;simp only[ae,bc,w4,k9];refine C3.q (xin (Sl.em hP f1) (λ p q=>Sl.em (D p q).1 f1) (Sl.em S f1)) λ v H2⟨b,hv,f2,sm⟩=>?_;subst hv;have O:=f1.em f2;have sl:=(Sl.em hs O).len;have sl':=(Sl.em Y O).len;cases b with
 |true=>simp only[ae,bc]
 |false =>
 by_cases j:(600:Int)<((d.length:Nat):Int)
 .simp only[ae,bc,sl,xf j]
 by_cases I:(600:Int)<((bb.length:Nat):Int)
 .simp only[ae,bc,sl,j,sl',xf I]
 have⟨p10,f100,p9⟩:=sm rfl;have k4:∀{r:ar},r.get H.au=B1 (OR (C6 l c s wy pv f so sf fv) NF)->Op.aw 4 [.ptr H.au 0] r=B1 (.agg (eH l c s wy)):=λ g=>by rw[tD (xe g) (by show 0+4<=9;decide)];rfl
 have k3:∀{r:ar},r.get H.au=B1 (OR (C6 l c s wy pv f so sf fv) NF)->Op.aw 3 [.ptr H.au 5] r=B1 (.agg [.int .i64 f,.int .i64 so,.int .i64 sf]):=λ g=>by rw[tD (xe g) (by show 5+3<=9;decide)];rfl
 have g2:H2.get H.au=B1 (OR (C6 l c s wy pv f so sf fv) NF):=(f2.ai _ (by omega) id).trans g1;have j4:Op.ah [.ptr H.au 4] H2=B1 pv:=vd g2 4;have j8:Op.ah [.ptr H.au 8] H2=B1 fv:=vd g2 8;have m:∀{r:ar},Fr Em H r -> ∀p∈ps,bM bZ 1 r p.1 p.2/\(p.2≠[]->aD p.1<r.au)/\p.2.length<=100000:=λ{r}fx p q =>
  ⟨Sl.em (D p q).1 fx,λ ne=>qn ((D p q).2.2.lt (D p q).1 ne) fx.au,by have:=p9 p q;omega⟩
 simp only[ae,bc,sl,j,sl',I,w12,k4 g2,j4,k3 g2,j8];refine C3.q (hZ (Sl.em hP O) (m O) (Sl.em S O) (λ q=>qn (T.lt S q) O.au) U) λ v H3⟨f3,r3⟩=>?_;have A:=O.em f3;have g3:H3.get H.au=B1 (OR (C6 l c s wy pv f so sf fv) NF):=(f3.ai _ (by have:=f2.au;omega) id).trans g2;have j4':Op.ah [.ptr H.au 4] H3=B1 pv:=vd g3 4;have j8':Op.ah [.ptr H.au 8] H3=B1 fv:=vd g3 8;have nz:¬(2:Int)=0:=by decide
 have q0:¬ ¬(0:Int)=0:=λ q=>q rfl;rcases r3 with⟨no,rfl⟩|⟨ok,Hw,w,B,cvs,bs,own,ks,V,rfl,lw,r3⟩
 .simp only[ae,bc,aB,k4 g3,j4',k3 g3,j8'];refine C3.q (hZ (Sl.em hP A) (m A) (Sl.em S A) (λ q=>qn (T.lt S q) A.au) U) λ v i⟨f4,r4⟩=>?_;rcases r4 with⟨no,rfl⟩|⟨ok,_⟩
  .simp only[ae,bc,aB,w16,xf nz]
  .exact (no ok).elim
 simp only[ae,bc,aB,k4 g3,j4',k3 g3,j8'];have t:W1 Hw.au H3 w 0 (Qn l c s wy fs (ps.map Bk) f so sf) Em:=⟨Hw,B,cvs,.nils,bs,own,ks,V,rfl,r3,λ z q=>q.elim⟩
 refine C3.q (hZ (Sl.em hP A) (m A) (Sl.em S A) (λ q=>qn (T.lt S q) A.au) U) λ v i⟨f4,r4⟩=>?_;have F4:=A.em f4;rcases r4 with⟨no,rfl⟩|⟨-,Hv,w',B',cvs',bs',aP,ks',V',rfl,lw',r4⟩
 .exact (no ok).elim
 have n2:=f2.au;have n3:=f3.au;have n4:=f4.au;have hV:W1 Hv.au i w' 0 (Qn l c s wy fs (ps.map Bk) f so sf) (λ z=>Em z\/z<Hv.au):=(show W1 Hv.au i w' 0 _ Em from⟨Hv,B',cvs',.nils,bs',aP,ks',V',rfl,r4,λ z q=>q.elim⟩).below;have hW4:=(t.below.em f4)
 have hok0:=Io l c s wy fs (ps.map Bk) f so sf;generalize hx0:Qn l c s wy fs (ps.map Bk) f so sf=x0 at *;have xn:x0.n=0:=by rw[<-hx0];rfl
 have xh:x0.h.length=0:=by rw[<-hx0];rfl
 have gS:=hS.2;have hS4:=hS.em F4;have hs4:=Sl.em hs F4;have N:=Sl.em Y F4;have lo:d≠[]->aD sa<H.au:=λ q=>hsl.lt hs q;have o:bb≠[]->aD sb<H.au:=λ q=>hsl'.lt Y q;have pr4:ud i Hw.au Hv.au w w' 0 0 x0 x0 (λ z=>z<H1.au):=by
  refine⟨_,_,hW4,hV,λ z q=>?_,λ z q=>⟨.inl (.inr (by omega)),.inr (by omega)⟩⟩;rcases xw z Hv.au with e|e
  .exact .inr (.inr e)
  .exact .inl (.inr ⟨by omega,q⟩)
 -- the scripts
 have ln4:=hs4.len;have dv:ak .i64 (((d.length:Nat):Int).tdiv 3)=((d.length / 3:Nat):Int):=by rw[Int.tdiv_eq_ediv_of_nonneg (by omega),ju (by omega) (by omega)];omega
 have q3:Op.bin .quo [.int .i64 ((d.length:Nat):Int),.int .i64 3]=B1 (.int .i64 ((d.length / 3:Nat):Int)):=by rw[J6 (hb:=(by decide:(3:Int)≠0)),dv]
 have wm:ak .i64 (((d.length / 3:Nat):Int)*3)=((d.length / 3*3:Nat):Int):=by rw[ju (by omega) (by omega)];omega
 have⟨a',ha',E,oa4⟩:=bM.upto FM hs4 (k:=d.length / 3*3) (by omega) (z:=((d.length / 3*3:Nat):Int)) rfl .i64;obtain⟨a,C⟩:∃x,x=d.take (d.length / 3*3):=⟨_,rfl⟩
 rw[<-C]at E;have bl:a.length=d.length / 3*3:=by rw[C,zx];omega
 have L:Bytes a:=by rw[C];exact λ b q=>hby b (List.mem_of_mem_take q)
 have lo1:a≠[]->aD a'<H.au:=λ q=>by
  rcases oa4 with e|e
  .subst e;exact(q (jf.1 E.2)).elim
  .rw [e];exact lo λ e=>q (by rw[C,e];rfl)
 have f5:Fr Em i (i.alloc (.row [] Sh (0,0) B4)):=(Fr.refl i).alloc _;simp only[ae,bc,aB,w16,q0,w24,ln4,q3,wm,ha',QC];refine QY (e:=Sh) (n:=0) (cells:=[]) ⟨rfl,.inl ⟨rfl,.inr ⟨i.au,rfl,by rw[xz];omega⟩⟩⟩ (Sl.em E f5) (tQ (λ x=>rfl) _) (by decide) (by omega) (by omega) λ v1 H5 o1 f45 z1=>?_;have F5:Fr Em i H5:=f5.trans f45 λ x hx=>.inr (by rw[hx.2];exact qm _);have n5:=F5.au;have u1:∀z,aM v1 z->i.au<=z:=λ z q=>(z1 z q).elim (λ e=>by rw[e.2];exact qm _) λ e=>by have:=f5.au;omega
 have sb5:=Sl.em N F5;simp only[ae,bc,w28];refine QY o1 sb5 (tQ (λ x=>rfl) _) (by decide) (by omega) (by omega) λ v2 H6 o2 f56 z2=>?_;have F6:Fr Em i H6:=F5.trans f56 λ x hx=>.inr (u1 x hx);have n6:=F6.au;have u2:∀z,aM v2 z->i.au<=z:=λ z q=>(z2 z q).elim (u1 z) λ e=>by omega
 have ob:aL bZ Sh 1 H6 v2 (a++bb):=by
  show Own H6 Sh 1 v2 (a++bb).length ((a++bb).flatMap bZ);rw[xc,kq];rw[yf,z7]at o2;exact o2
 have hbb:Bytes (a++bb):=λ b q=>(zt.1 q).elim (L b) (K b);have pr6:=pr4.em F6;have hS6:=hS4.em F6;have al1:=MV (a++bb);have al2:=MV a;have al3:=MV bb;rw[xc]at al1;have aa:aO (a++bb)=aO a++aO bb:=q7x _ _ (by omega);have⟨F,F',t,hV,ap,J⟩:=pr6;simp only[ae,bc];refine C3.q (CR t (aL.sl ob) hbb (by rw[xc];omega) (λ q=>(J _ (.inr ⟨u2 _ (ob.on q),Own.lt ob _ (ob.on q)⟩)).1) (by omega) hS6 (by omega) (by omega) (by omega) (by omega)) λ va H7⟨oa,p7⟩=>?_;have⟨pr7,Z⟩:=ud.fst t hV ap J p7;have n7:=p7.n;have na7:=p7.nw;have hS7:=hS6.at n7 (Z _ (.inl (by omega)));have sa7:bM bZ 1 H7 a' a:=bM.low (enc:=bZ) (Sl.em E F6) n7 (λ q=>by have:=lo1 q;omega) λ q=>Z _ (.inl (by have:=lo1 q;omega));have sb7:bM bZ 1 H7 sb bb:=bM.low (enc:=bZ) (Sl.em N F6) n7 (λ q=>by have:=o q;omega) λ q=>Z _ (.inl (by have:=o q;omega));clear p7 t hV ap J;simp only[ae,bc,w32];have⟨F,F',hV,t,ap,J⟩:=pr7.swap;refine C3.q (CR hV sa7 L (by omega) (λ q=>(J _ (.inl (.inl (by have:=lo1 q;omega)))).1) (by omega) hS7 (by omega) (by omega) (by omega) (by omega)) λ vb H8⟨oc,p8⟩=>?_;have⟨pr8,kp8⟩:=ud.fst hV t ap J p8;have n8:=p8.n;have nb8:=p8.nw;have hS8:=hS7.at n8 (kp8 _ (.inl (.inl (by omega))));have sb8:bM bZ 1 H8 sb bb:=bM.low (enc:=bZ) sb7 n8 (λ q=>by have:=o q;omega) λ q=>kp8 _ (.inl (.inl (by have:=o q;omega)));have oa8:aL ei ku 14 H8 va (x0.run (aO (a++bb))).2:=Own.fr oa (W:=λ z=>¬aM va z) ⟨n8,λ z zl q=>kp8 z (.inr (kj.1 q))⟩ λ z q e=>e q;clear p8 t hV ap J;simp only[ae,bc];refine C3.q (xbq sb8 K (λ q=>by have:=o q;omega) (by omega)) λ lv H9⟨ol,zl,f9⟩=>?_;have n9:=f9.au;have pr9:=pr8.swap.em f9;have xn1:=Wo.vE (aO a) x0;have xh1:=Wo.vI (aO a) x0;have xl1:=Wo.nJ (aO a) x0;have xn2:=Wo.vE (aO (a++bb)) x0;have xh2:=Wo.vI (aO (a++bb)) x0;have xl2:=Wo.nJ (aO (a++bb)) x0;have hok:=Wo.G3.run (aO (a++bb)) hok0;have ra:=Wo.ti (aO a) (aO bb) x0;rw[<-aa]at ra;have r1:((x0.run (aO a)).1.run (aO bb)).1=(x0.run (aO (a++bb))).1:=by rw[ra]
 have r2:(x0.run (aO a)).2++((x0.run (aO a)).1.run (aO bb)).2=(x0.run (aO (a++bb))).2:=by rw[ra]
 have lta:=Own.lt oa8;have ltb:=Own.lt oc;refine xm7 pr9 ⟨trivial,by omega⟩ (hS8.em f9) (.inl (.inl (.inl (.inl (by omega))))) (by omega) (by omega) (by omega) (by omega) (by omega) (by omega) (Own.em oa8 f9) (λ z q=>.inl (.inl (.inr q))) ol (λ z q=>.inr ⟨zl z q,Own.lt ol z q⟩) (Own.em oc f9)
  (λ z q=>⟨.inl (.inr q),λ e=>by have:=nb8 z q;have:=Own.lt oa z e;omega,λ e=>by have:=zl z e;have:=ltb z q;omega,λ e=>by have:=nb8 z q;omega⟩) (by simp only[ae,bc]) (by simp only[ae,bc]) (by simp only[ae,bc]) (by simp only[ae,bc]) (by simp only[ae,bc]) (by simp only[ae,bc]) λ H' ov' L' k2 prE ova pG lE=>?_
 rw[r1]at prE;rw[r2]at pG;simp only[ae,bc,w51];have⟨F,F',t,hV,ap,J⟩:=prE;refine C3.q (S5 t (by omega)) λ v3 H10⟨s3,Q⟩=>?_;simp only[ae,bc];have hV':=hV.em Q;refine C3.q (S5 hV' (by omega)) λ v4 H11⟨s4,R⟩=>?_;simp only[ae,bc];refine DJ (aL.sl (Own.em (Own.em ova Q) R)) (aL.sl (Own.em (Own.em pG Q) R)) (Sl.em s3 R) s4 (by omega) (by omega) ⟨λ e q=>by have:=hok.2.1 e q;omega,hok.2.2⟩ (by simp only[ae,bc]) (by simp only[ae,bc]) (by simp only[ae,bc]) (by simp only[ae,bc]) (by simp only[ae,bc])
end Go.Am
