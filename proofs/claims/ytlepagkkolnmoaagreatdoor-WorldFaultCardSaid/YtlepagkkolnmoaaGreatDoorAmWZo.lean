import Derived.Test.YtlepagkkolnmoaaGreatDoorAmWZe
import Derived.Test.YtlepagkkolnmoaaGreatDoorAmWZn
import Derived.Test.YtlepagkkolnmoaaGreatDoorAmWZf
set_option linter.defProp false
set_option linter.unusedVariables false
set_option linter.unusedSimpArgs false
set_option linter.unusedSectionVars false
set_option maxRecDepth 100000
open Bool renaming false→B2,true→B4
open False renaming elim→OH
open Go renaming DataW→Rc,IntKind→Pl,MemPlace→B0,Program→Kc,TypeId→Ma,Value→Km,World→Nl
open Go.DataW renaming trod→Oy,weights→Bv,weightsEach→C5
open Go.IntKind renaming bits→Bj,signed→Bi
open List renaming range→N1,replicate→JV
open Option renaming none→B5,some→B1
open Prod renaming snd→CD
open Nat renaming reduceEqDiff→bc
namespace Go.Am
open Go.RowKit
section
variable{P:Kc}
def Wt(P:Kc)(t:Ma){Hh:Type}(d:Rc Hh):Prop:=∀x∈Bv P t d,x<=reachBytes
def xhk{a:Type}{e:Ma}{x:Nat}{d:Rc a}:∀{l:List (Rc a)},d∈l->x∈Bv P e d->x∈Rc.weightsAll P e l
 |y::l,h,hx=>by
  rw[Rc.weightsAll,z6];rcases ji.1 h with rfl|h
  .exact .inl hx
  .exact .inr (xhk h hx)
def tO(P:Kc)(t:Ma)(R:ar->List AV->Prop):Prop :=
 (∀H H' l,R H l->Fr Em H H'->R H' l) /\ ∀{Hh:Type}(enc:Ma×Km->Hh)(W:Nl)(held:Bool)(fuel:Nat)(cs:List Km)(d:Rc Hh)(ps:List B0),
  Oy enc P W 0 (λ _=>B4) held fuel t cs=B1 (d,ps)->Wt P t d -> ∀(θ:Th)(n:Nat)(gl:GL),Good W θ n gl -> ∃θ' n' gl' l,Step W θ n gl θ' n' gl'/\bL (Lt n') θ' l cs/\R (vr gl' n') l
def Yo.X6{t:Ma}{R:ar->List AV->Prop}(h:Yo P t R):tO P t R:=⟨h.1,λ enc W held fuel cs d b a _=>h.2 enc W held fuel cs d b a⟩
def Ω{e:Ma}{R:ar->List AV->Prop}(hR:tO P e R){p:Type}(enc:Ma×Km->p)(W:Nl)(held:Bool)(fuel:Nat):∀(a:List (List Km)),(∀cs∈a,∃x,Oy enc P W 0 (λ _=>B4) held fuel e cs=B1 x/\Wt P e x.1) ->
 ∀(θ:Th)(n:Nat)(d:GL),Good W θ n d -> ∃(θ':Th)(n':Nat)(f:GL)(ls:List (List AV)),Step W θ n d θ' n' f/\bL (Lt n') θ' ls.flatten a.flatten/\ls.length=a.length /\ ∀(i:Nat)l cs,ls[i]? = B1 l->a[i]? = B1 cs->R (vr f n') l/\l.length=cs.length
 |[],_,θ,n,d,hg=>⟨θ,n,d,[],Step.refl hg,.nil,rfl,λ i l cs h=>by simp at h⟩
 |cs::a,h,θ,n,d,hg=>by
  have⟨x,r,hw⟩:=h cs (by simp);have⟨θ1,n1,g,l,s1,v1,v⟩:=hR.2 enc W held fuel cs x.1 x.2 r hw θ n d hg;have⟨θ2,n2,j,ls,s2,v2,t,u⟩:=Ω hR enc W held fuel a (λ c q=>h c (by simp[q])) θ1 n1 g s1.df;refine⟨θ2,n2,j,l::ls,s1.trans s2,?_,by simp[t],λ i s cs' m o=>?_⟩
  .rw [Qy,Qy];exact(v1.up s2.ag λ b hb=>qn hb s2.le).app v2
  .cases i with
   |zero =>
    simp at m o;subst m;subst o;exact⟨hR.1 _ _ _ v s2.fr,v1.length.symm⟩
   |succ i=>exact u i s cs' (by simpa using m) (by simpa using o)
def SlW(P:Kc)(e:Ma)(R:ar->List AV->Prop)(size:Nat)(H:ar)(u:AV):Prop:=I8 R size H u /\ ∀k,fy u=B1 k->k*P.bytesOf e<=reachBytes
def Xd{t e:Ma}{R:ar->List AV->Prop}(ht:P.underlying t=B1 (.slice e))(hR:tO P e R)(hs:0<P.cellsOf e):tO P t λ H l=>∃u,l=[u]/\SlW P e R (P.cellsOf e) H u:=by
 refine⟨λ H H' l⟨u,z,h2,h3⟩f=>⟨u,z,h2.em hR.1 f,h3⟩,?_⟩;intro Hh enc W held fuel kC d ps h X θ n gl hg;cases fuel with
 |zero=>cases h
 |succ f =>
  have key:kC=[.slice B5 0 0] \/ ∃a len cap,kC=[.slice (B1 a) len cap]/\len<=cap/\(∀i,i<len -> ∃cs x,W.cells? 0 (a.add (i*P.cellsOf e)) (P.cellsOf e)=B1 cs/\Oy enc P W 0 (λ _=>B4) held f e cs=B1 x/\Wt P e x.1)/\len*P.bytesOf e<=reachBytes/\(len<cap -> ∃cs,W.cells? 0 (a.add (len*P.cellsOf e)) (P.cellsOf e)=B1 cs):=by
   simp only[Oy,ht]at h;split at h<;>first|(cases h;done)|skip
   all_goals first|(rename_i z;cases z;done)|skip
   .left;rfl
   .right;rename_i e' a len cap z;injection z with z;cases z
    split at h
    .rename_i hb;simp only[qj,oO,xm]at h;have⟨elems,he,rest,C,A⟩:=h;injection A with A _
     have hw1:=X ((elems.length+rest.length)*P.bytesOf e) (by rw[<-A,Bv,ht];simp);have hel0:elems.length=len:=by have:=mapM_some_length he;simpa using this
     refine⟨a,len,cap,rfl,hb.2.1,λ i m=>?_,ze (jo _ (by omega)) hw1,λ hlt=>?_⟩
     .have hl:=mapM_some_length he;have:=mapM_some_get he i i (by simp[m]);have q:i<elems.length:=by rw[hl];simpa using m
      rw[qy q]at this;have⟨cs,p,v⟩:=qj.1 this;refine⟨cs,_,p,v,λ x hx=>X x ?_⟩;rw[<-A,Bv,ht];exact ww _ (z6.2 (.inl (xhk (List.mem_map_of_mem (List.getElem_mem q)) hx)))
     .have hl:=mapM_some_length C;have:=mapM_some_get C 0 0 (by rw[jp (by omega)]);have q:0<rest.length:=by rw[hl];simp;omega
      rw[qy q,vj]at this;have⟨cs,p,v⟩:=qj.1 this;exact⟨cs,p⟩
    .cases h
  rcases key with rfl|⟨a,len,cap,rfl,hlc,U,N,C⟩
  .exact ⟨θ,n,gl,[.nils],Step.refl hg,λ _ _=>rfl,.nils,rfl,⟨[],by simp,⟨by simp,rfl⟩,.inl rfl⟩,(λ k hk=>by cases hk;simp)⟩
  .have ⟨k,o,s⟩:=a
   by_cases h0:cap=0
   .subst h0;have:len=0:=by omega
    subst this;have hst:=Step.Qt hg k o (tI s);refine⟨_,_,_,[.eslice n],hst,.one ?_,.eslice n,rfl,⟨[],by simp,⟨by simp,rfl,zz n⟩,.inr (zz n)⟩,(λ k hk=>by cases hk;simp)⟩;intro θ' hθ;have⟨p,v,q3⟩:=θ.eL n k o (tI s);have⟨r1,r2,r3⟩:=hθ n (zz n);simp only[aw,r1,r2,r3,p,v,q3,Dv]
   .have hsp:s=none:=by
     by_cases K:len=0
     .subst K;have⟨cs,r⟩:=C (by omega);rw[wx]at r;exact r_ hs (by simpa[Addr.add]using r)
     .have ⟨cs,x,r,_,_⟩:=U 0 (by omega);rw[wx]at r;exact r_ hs (by simpa[Addr.add]using r)
    subst hsp
    by_cases K:len=0
    .subst K;refine⟨_,_,_,[.slice n 0 0 cap],Step.bare hg k o,.one ?_,.slice n 0 0 cap,rfl,⟨[],by simp,⟨by simp,rfl,x9 _,.inl rfl⟩,.inr (zz n)⟩,(λ k hk=>by cases hk;simp)⟩;have:=VR.slice (D:=Lt (n+1)) (θ:=θ.add n k o 0) (b:=n) (o:=0) (n:=0) (c:=cap) (zz n:Lt (n+1) n);have⟨p,v,_⟩:=θ.eL n k o 0
     simpa[aw,p,v]using this
    .have hex:∀i:Nat,∃cs,i<len->W.cells? 0 ⟨k,o+i*P.cellsOf e,B5⟩ (P.cellsOf e)=B1 cs /\ ∃x,Oy enc P W 0 (λ _=>B4) held f e cs=B1 x/\Wt P e x.1:=λ i=>by
      by_cases m:i<len
      .have ⟨cs,x,z,h2⟩:=U i m;rw[zD]at z;exact⟨cs,λ _=>⟨z,x,h2⟩⟩
      .exact ⟨[],λ h=>(m h).elim⟩
     have⟨F,Y⟩:=Classical.axiomOfChoice hex
     let css:=(N1 len).map F
     have S:css.length=len:=by simp[css]
     have Q:∀(i:Nat)c,css[i]? = B1 c->i<len/\c=F i:=λ i c r=>by
      simp only[css,xk,xm]at r;obtain⟨j,hj,rfl⟩:=r;have m:i<len:=by have:=CK hj;simpa using this
      rw[jp m]at hj;cases hj;exact⟨m,rfl⟩
     have⟨arr,e',fz,hh,_,_⟩:=UU hs (Y 0 (by omega)).1;have⟨L,e2,Z,g,_,hle⟩:=UU hs (Y (len-1) (by omega)).1;rw[hh]at g;injection g with g;injection g with p v q3;subst p
     have hmul:(len-1)*P.cellsOf e+P.cellsOf e=len*P.cellsOf e:=by rw[<-vE];congr 1;omega
     have E:∀(i:Nat)c,css[i]? = B1 c->c=(arr.toList.drop (o+i*P.cellsOf e)).take (P.cellsOf e)/\c.length=P.cellsOf e:=λ i c r=>by
      obtain⟨m,rfl⟩:=Q i c r;have⟨L,e2,Z,g,h6,h7⟩:=UU hs (Y i m).1;rw[hh]at g;injection g with g;injection g with p v q3;subst p
      exact⟨h6,by rw[h6];simp;omega⟩
     have O:css.flatten=(arr.toList.drop o).take (len*P.cellsOf e):=by rw[qzf E,S]
     have⟨θ1,n1,gl1,ls,s1,v1,l1,r1⟩:=Ω hR enc W held f css (λ c r=>by
      have⟨i,m⟩:=Rm.1 r;obtain⟨q,rfl⟩:=Q i c m;exact(Y i q).2) θ n gl hg
     rw[O]at v1;have hsz:o+len*P.cellsOf e<=arr.size:=by omega
     have B:ls.length=len:=by rw[l1,S]
     have J:ls.flatten.length=len*P.cellsOf e:=by rw[<-v1.length,jd,jg,we];omega
     have I:=Step.row (l:=ls.flatten) (k:=k) (off:=o) (pre:=arr.toList.take o) (cs:=(arr.toList.drop o).take (len*P.cellsOf e)) (post:=arr.toList.drop (o+len*P.cellsOf e)) (e:=e') (fz:=fz) s1.df (by
      rw[hh];congr 2;have hq:arr.toList.take o++(arr.toList.drop o).take (len*P.cellsOf e)++arr.toList.drop (o+len*P.cellsOf e)=arr.toList:=by
       rw[zy,<-Ax,vd,vd]
      rw[hq]) (by simp;omega) v1
     refine⟨_,_,_,[.slice n1 0 len cap],s1.trans I,.one ?_,.slice n1 0 len cap,rfl,⟨ls,λ l hl=>?_,⟨by rw[J,B],B.symm,by rw[B];exact hlc,.inr ⟨zz n1,ls.flatten,xf (fz:=(0,0)) (e:=0) (ow:=B2) ?_,?_⟩⟩,.inr (zz n1)⟩,λ k hk=>by cases hk;exact N⟩
     .have:=VR.slice (D:=Lt (n1+1)) (θ:=θ1.add n1 k o 0) (b:=n1) (o:=0) (n:=len) (c:=cap) (zz n1:Lt (n1+1) n1);have⟨p,v,_⟩:=θ1.eL n1 k o 0
      simpa[aw,p,v]using this
     .have ⟨i,m⟩:=Rm.1 hl;have V:i<css.length:=by rw[<-l1];exact CK m
      have⟨p,v⟩:=r1 i l css[i] m (by simp[V]);exact⟨hR.1 _ _ _ p I.fr,by rw[v];exact(E i _ (by simp[V])).2⟩
     .show (FZ ((n1,ls.flatten)::gl1) .nil).get n1=_;rw[FZ,T.aJ,xb rfl]
     .rw [B,sO,xb (by omega),y8,zp (by omega)]
def CC:List (ar->List AV->Prop)->ar->List AV->Prop
 |[],_,l=>l=[]
 |R::Rs,H,l=>∃a b,l=a++b/\R H a/\CC Rs H b
def CC.em:∀{Rs:List (ar->List AV->Prop)},(∀R∈Rs,∀H H' l,R H l->Fr Em H H'->R H' l) -> ∀H H' l,CC Rs H l->Fr Em H H'->CC Rs H' l
 |[],_,_,_,_,h,_=>h
 |R::Rs,hm,H,H',l,⟨a,b,h1,h2,h3⟩,f=>⟨a,b,h1,hm R (by simp) _ _ _ h2 f,CC.em (λ S c=>hm S (by simp[c])) _ _ _ h3 f⟩
def xdf{o:Type}(enc:Ma×Km->o)(W:Nl)(held:Bool)(fuel:Nat){cs:List Km}:∀{fs:List (Ma×Nat×(ar->List AV->Prop))}{k:Nat}{xs:List (Rc o×List B0)},
 (∀f∈fs,tO P f.1 f.2.2)->(∀(j:Nat)f,fs[j]? = B1 f->f.2.1=k+((fs.take j).map λ f=>P.cellsOf f.1).sum) ->
 fs.mapM (λ f=>Oy enc P W 0 (λ _=>B4) held fuel f.1 ((cs.drop f.2.1).take (P.cellsOf f.1)))=B1 xs->(∀x∈C5 P (fs.map (·.1)) (xs.map (·.1)),x<=reachBytes) ->
 k+(fs.map λ f=>P.cellsOf f.1).sum<=cs.length -> ∀(θ:Th)(n:Nat)(c:GL),Good W θ n c ->
 ∃θ' n' d l,Step W θ n c θ' n' d/\bL (Lt n') θ' l ((cs.drop k).take ((fs.map λ f=>P.cellsOf f.1).sum))/\CC (fs.map (·.2.2)) (vr d n') l
 |[],k,xs,_,_,_,_,_,θ,n,c,hg=>⟨θ,n,c,[],Step.refl hg,by simpa using bL.nil,rfl⟩
 |f::fs,k,xs,hf,ho,hm,hw,hl,θ,n,c,hg=>by
  simp only[List.mapM_cons,Option.bind_eq_bind,qj,Option.pure_def,qk]at hm;obtain⟨y,q,ys,m,rfl⟩:=hm;simp only[jw,C5,z6]at hw;have p:f.2.1=k:=by have:=ho 0 f rfl;simpa using this
  have⟨θ1,n1,e,a,s1,v1,r⟩:=(hf f (by simp)).2 enc W held fuel _ y.1 y.2 q (λ x i=>hw x (.inl i)) θ n c hg;simp only[jw,List.sum_cons]at hl;have⟨θ2,n2,h,b,s2,v2,s⟩:=xdf enc W held fuel (cs:=cs) (fs:=fs) (k:=k+P.cellsOf f.1) (λ g hg=>hf g (by simp[hg])) (λ j g hg=>by
   have:=ho (j+1) g (by simpa using hg);simp only[List.take_succ_cons,jw,List.sum_cons]at this;omega) m (λ x i=>hw x (.inr i)) (by omega) θ1 n1 e s1.df
  refine⟨θ2,n2,h,a++b,s1.trans s2,?_,a,b,rfl,(hf f (by simp)).1 _ _ _ r s2.fr,s⟩;rw[p]at v1;rw[jw,List.sum_cons,List.take_add,Ax];exact(v1.up s2.ag λ b hb=>qn hb s2.le).app v2
def G_{H:Type}{g:Ma->List Km->Option (Rc H×List B0)}{cs:List Km}:∀{fs:List Field}{Rs:List (ar->List AV->Prop)},fs.length=Rs.length ->
 fs.mapM (λ f=>g f.type ((cs.drop f.offset).take (P.cellsOf f.type)))=((fs.zip Rs).map λ x=>(x.1.type,x.1.offset,x.2)).mapM (λ f=>g f.1 ((cs.drop f.2.1).take (P.cellsOf f.1)))
 |[],[],_=>rfl
 |f::fs,R::Rs,h=>by simp only[List.zip_cons_cons,jw,List.mapM_cons,G_ (fs:=fs) (Rs:=Rs) (by simpa using h)]
def q8j{t:Ma}{fs:Array Field}{Rs:List (ar->List AV->Prop)}(h:P.underlying t=B1 (.struct fs))(hn:fs.toList.length=Rs.length)(hR:∀x∈fs.toList.zip Rs,tO P x.1.type x.2)
 (ho:Jg P 0 fs.toList=B4) (u:(fs.toList.map λ f=>P.cellsOf f.type).sum=P.cellsOf t):tO P t λ H l=>CC Rs H l:=by
 refine⟨CC.em λ R e=>?_,?_⟩
 .have ⟨i,z⟩:=Rm.1 e;have m:i<fs.toList.length:=by rw[hn];exact CK z
  have D:(fs.toList.zip Rs)[i]? = B1 (fs.toList[i],R):=by rw[List.getElem?_zip_eq_some];exact⟨by simp[qy m],z⟩
  exact(hR _ (zj D)).1
 intro E enc W held fuel cs d I b o θ n B hg;cases fuel with
 |zero=>cases b
 |succ f =>
  have hlen:cs.length=P.cellsOf t /\ ∃xs,fs.toList.mapM (λ g=>Oy enc P W 0 (λ _=>B4) held f g.type ((cs.drop g.offset).take (P.cellsOf g.type)))=B1 xs /\ ∀x∈C5 P (fs.toList.map (·.type)) (xs.map (·.1)),x<=reachBytes:=by
   simp only[Oy,h]at b;split at b
   .rename_i hl;have⟨xs,hm,a⟩:=xm.1 b;injection a with a _
    exact⟨hl,xs,hm,λ x p=>o x (by rw[<-a,Bv,h];exact p)⟩
   .cases b
  have⟨hl,xs,hm,hw⟩:=hlen;rw[G_ (Rs:=Rs) hn]at hm;have e1:((fs.toList.zip Rs).map λ x=>(x.1.type,x.1.offset,x.2)).map (λ f=>P.cellsOf f.1)=fs.toList.map λ f=>P.cellsOf f.type:=by
   rw[wv];have:((fs.toList.zip Rs).map λ x=>P.cellsOf x.1.type)=(fs.toList.zip Rs |>.map Prod.fst).map λ f=>P.cellsOf f.type:=by rw[wv];rfl
   rw[List.map_fst_zip (by omega)]at this;exact this
  have A:((fs.toList.zip Rs).map λ x=>(x.1.type,x.1.offset,x.2)).map (·.1)=fs.toList.map (·.type):=by
   rw[wv];have:((fs.toList.zip Rs).map λ x=>x.1.type)=(fs.toList.zip Rs |>.map Prod.fst).map (·.type):=by rw[wv];rfl
   rw[List.map_fst_zip (by omega)]at this;exact this
  have e2:((fs.toList.zip Rs).map λ x=>(x.1.type,x.1.offset,x.2)).map (·.2.2)=Rs:=by
   rw[wv];have:((fs.toList.zip Rs).map λ x=>x.2)=Rs:=by rw[List.map_snd_zip (by omega)]
   exact this
  have⟨θ',n',c,l,s,v,r⟩:=xdf enc W held f (cs:=cs) (k:=0) (fs:=(fs.toList.zip Rs).map λ x=>(x.1.type,x.1.offset,x.2)) (λ g hg=>by
   obtain⟨x,p,rfl⟩:=FI.1 hg;exact hR x p) (λ j g hg=>by
   simp only[xk,xm,List.getElem?_zip_eq_some]at hg;obtain⟨x,⟨q,C⟩,rfl⟩:=hg;have:=Di ho j x.1 q;rw[List.map_take,e1,<-List.map_take];exact this) hm (by rw[A];exact hw) (by rw[e1,u,hl];omega) θ n B hg
  rw[e2]at r;rw[e1,u,y8,zp (by omega)]at v;exact⟨θ',n',c,l,s,v,r⟩
end
end Go.Am
namespace Go.Am
open Go.RowKit
section
variable{P:Kc}
def tO.imp{t:Ma}{R a:ar->List AV->Prop}(h:tO P t R)(hm:∀H H' l,a H l->Fr Em H H'->a H' l)(e:∀H l,R H l->a H l):tO P t a :=
 ⟨hm,λ enc W held fuel cs d g f hw θ n c hg=>by
  obtain⟨θ',n',b,l,s,v,r⟩:=h.2 enc W held fuel cs d g f hw θ n c hg;exact⟨θ',n',b,l,s,v,e _ _ r⟩⟩
def Z0{α β:Type}{f:α->Ma}{Q:Ma -> β->Prop}:∀(l:List α)(R:List β),(∀x∈(l.map f).zip R,Q x.1 x.2) -> ∀x∈l.zip R,Q (f x.1) x.2
 |[],_,_,x,h=>by simp at h
 |_::_,[],_,x,h=>by simp at h
 |a::l,b::R,hq,x,h=>by
  rcases ji.1 h with rfl|h
  .exact hq (f a,b) (by simp)
  .exact Z0 l R (λ y c=>hq y (by simp[c])) x h
def CA{tS c:Ma}{fs:Array Field}{n:Nat}(uS:P.underlying tS=B1 (.struct fs))(a:fs.toList.map (·.type)=JV n c)(uN:P.underlying c=B1 (.int .i64))(g:Jg P 0 fs.toList=B4)(h:(fs.toList.map λ f=>P.cellsOf f.type).sum=P.cellsOf tS) :
 tO P tS λ H l=>CC (JV n λ _ l=>tV .i64 l) H l:=by
 have hn:fs.toList.length=n:=by have:=congrArg List.length a;simpa using this
 refine q8j uS (by rw[hn];simp) (Z0 (f:=Field.type) (Q:=tO P) _ _ ?_) g h;rw[a];intro x b;have d:=(List.of_mem_zip b).1;have e:=(List.of_mem_zip b).2;rw[M0 d,M0 e];exact(ZP (VG uN)).X6
end
end Go.Am
namespace Go.Am
open Go.RowKit Lang
section
variable{P:Kc}
def AW(l c s w:Int)(pv:AV)(f so sf:Int)(fv:AV):List AV:=[.int .i64 l,.int .i64 c,.int .i64 s,.int .i64 w,pv,.int .i64 f,.int .i64 so,.int .i64 sf,fv]
def ug(H:ar)(u:AV):Prop:=u=.nils\/aC u<H.au
def ug.em{H H':ar}{u:AV}(h:ug H u)(f:H.au<=H'.au):ug H' u:=h.imp id λ q=>qn q f
def ug.lt{α:Type}{enc:α->List AV}{size:Nat}{H:ar}{u:AV}{xs:List α}(h:ug H u)(hs:bX enc size H u xs)(a:xs≠[]):aC u<H.au:=by
 rcases h with rfl|h
 .exact (a (jy.1 hs.2)).elim
 .exact h
def I8._M{R:ar->List AV->Prop}{size:Nat}{H:ar}{u:AV}(h:I8 R size H u):ug H u:=by
 have⟨_,_,_,q⟩:=h;exact q
def zC(H:ar)(u:List AV):Prop:=∃l c s w f so sf pv fv ps fs,u=AW l c s w pv f so sf fv/\bX mg 1 H pv ps/\(∀p∈ps,bX cI 1 H p.1 p.2/\Bytes p.2/\ug H p.1)/\bX dy 8 H fv fs/\(∀x∈fs,x.u)/\ug H fv
def wf_u8{a:Int}(h:(Lit.int .u8 a).wf=B4):0<=a/\a<256:=by
 simp[Lit.wf,Pl.min,Pl.max,Bj,Bi]at h;omega
def wf_u64{a:Int}(h:(Lit.int .u64 a).wf=B4):fH a:=by
 simp[Lit.wf,Pl.min,Pl.max,Bj,Bi]at h;unfold fH;omega
def xde{tC tB:Ma}(e:P.underlying tC=B1 (.slice tB))(uY:P.underlying tB=B1 (.int .u8))(g:P.cellsOf tB=1):tO P tC λ H l=>∃u,l=[u] /\ ∃bs:List Int,bX cI 1 H u bs/\Bytes bs/\ug H u:=by
 refine(Xd e (ZP (VG uY)).X6 (by rw[g];decide)).imp ?_ λ H l h=>?_
 .rintro H H' l ⟨u,b,xs,i,c,d⟩ f;exact⟨u,b,xs,i.em f,c,d.em f.au⟩
 .obtain ⟨u,rfl,b,i⟩:=h;have lt:=I8._M b;rw[g]at b;have⟨xs,c,d⟩:=Ys (enc:=cI) (Q:=λ x=>0<=x/\x<256) (λ l h=>by
   obtain⟨a,rfl,j⟩:=h;exact⟨a,rfl,by have:=wf_u8 j;omega⟩) b
  exact⟨u,rfl,xs,c,d,lt⟩
def xmu{tM tS tK tC tY tB tF tL v tU:Ma}{ms ss bs:Array Field}(uM:P.underlying tM=B1 (.struct ms))(I:ms.toList.map (·.type)=[tS,tK,tB,tF])(uS:P.underlying tS=B1 (.struct ss))(R:ss.toList.map (·.type)=[v,v,v,v])
 (Y:P.underlying tK=B1 (.slice tC)) (C:P.underlying tC=B1 (.slice tY)) (uY:P.underlying tY=B1 (.int .u8)) (uB:P.underlying tB=B1 (.struct bs)) (N:bs.toList.map (·.type)=[v,v,v]) (X:P.underlying tF=B1 (.slice tL)) (Z:P.underlying tL=B1 (.array 8 tU)) (uU:P.underlying tU=B1 (.int .u64)) (uN:P.underlying v=B1 (.int .i64))
 (D:P.cellsOf tC=1) (K:P.cellsOf tY=1) (E:P.cellsOf tL=8) (J:8*P.cellsOf tU=P.cellsOf tL) (S:Jg P 0 ms.toList=B4) (V:(ms.toList.map λ f=>P.cellsOf f.type).sum=P.cellsOf tM) (T:Jg P 0 ss.toList=B4) (W:(ss.toList.map λ f=>P.cellsOf f.type).sum=P.cellsOf tS)
 (oB:Jg P 0 bs.toList=B4) (U:(bs.toList.map λ f=>P.cellsOf f.type).sum=P.cellsOf tB):tO P tM zC:=by
 have hm:ms.toList.length=4:=by have:=congrArg List.length I;simpa using this
 have B:tO P tK λ H l=>∃u,l=[u] /\ ∃t:List (AV×List Int),bX mg 1 H u t /\ ∀p∈t,bX cI 1 H p.1 p.2/\Bytes p.2/\ug H p.1:=by
  refine(Xd Y (xde C uY K) (by rw[D];decide)).imp ?_ λ H l h=>?_
  .rintro H H' l ⟨u,m,xs,o,j⟩ f;exact⟨u,m,xs,o.em f,λ p q=>⟨(j p q).1.em f,(j p q).2.1,(j p q).2.2.em f.au⟩⟩
  .obtain ⟨u,rfl,m,o⟩:=h;rw[D]at m;have⟨xs,j,r⟩:=Ys (enc:=mg) (Q:=λ p=>bX cI 1 H p.1 p.2/\Bytes p.2/\ug H p.1) (λ l h=>by
    obtain⟨u,rfl,b,h⟩:=h;exact⟨(u,b),rfl,h⟩) m
   exact⟨u,rfl,xs,j,r⟩
 have O:tO P tF λ H l=>∃u,l=[u] /\ ∃fs:List L8,bX dy 8 H u fs/\(∀x∈fs,x.u)/\ug H u:=by
  refine(Xd X (ZP (xih Z (VG uU) J)).X6 (by rw[E];decide)).imp ?_ λ H l h=>?_
  .rintro H H' l ⟨u,m,xs,o,j,r⟩ f;exact⟨u,m,xs,o.em f,j,r.em f.au⟩
  .obtain ⟨u,rfl,m,o⟩:=h;have lt:=I8._M m;rw[E]at m;have⟨xs,j,r⟩:=Ys (enc:=dy) (Q:=λ x=>x.u) (λ l h=>by
    obtain⟨_,_,rfl,⟨a,rfl,qa⟩,_,_,rfl,⟨b,rfl,qb⟩,_,_,rfl,⟨c,rfl,qc⟩,_,_,rfl,⟨d,rfl,qd⟩,_,_,rfl,⟨e,rfl,qe⟩,_,_,rfl,⟨f,rfl,qf⟩,_,_,rfl,⟨g,rfl,qg⟩,_,_,rfl,⟨i,rfl,qi⟩,rfl⟩:=h;refine⟨⟨[a,b,c,d,e,f,g,i],rfl⟩,rfl,?_⟩;intro x z;have z:x∈[a,b,c,d,e,f,g,i]:=z;simp only[ji,Li,or_false]at z;rcases z with rfl|rfl|rfl|rfl|rfl|rfl|rfl|rfl<;>(refine wf_u64 ?_;assumption)) m
   exact⟨u,rfl,xs,j,r,lt⟩
 refine(q8j (Rs:=[λ H l=>CC (JV 4 λ _ l=>tV .i64 l) H l,λ H l=>∃u,l=[u] /\ ∃t:List (AV×List Int),bX mg 1 H u t /\ ∀p∈t,bX cI 1 H p.1 p.2/\Bytes p.2/\ug H p.1,λ H l=>CC (JV 3 λ _ l=>tV .i64 l) H l,λ H l=>∃u,l=[u] /\ ∃fs:List L8,bX dy 8 H u fs/\(∀x∈fs,x.u)/\ug H u]) uM (by rw[hm];rfl)
  (Z0 (f:=Field.type) (Q:=tO P) _ _ (by
   rw[I];intro x z;simp only[List.zip_cons_cons,List.zip_nil_right,ji,Li,or_false]at z;rcases z with rfl|rfl|rfl|rfl
   .exact CA (n:=4) uS R uN T W
   .exact B
   .exact CA (n:=3) uB N uN oB U
   .exact O)) S V).imp ?_ λ H l h=>?_
 .rintro H H' u ⟨l,c,s,w,f,so,sf,pv,fv,t,fs,m,o,j,r,A,L⟩ fr;exact⟨l,c,s,w,f,so,sf,pv,fv,t,fs,m,o.em fr,λ p q=>⟨(j p q).1.em fr,(j p q).2.1,(j p q).2.2.em fr.au⟩,r.em fr,A,L.em fr.au⟩
 .obtain ⟨_,_,rfl,⟨_,_,rfl,⟨a,rfl,_⟩,_,_,rfl,⟨b,rfl,_⟩,_,_,rfl,⟨c,rfl,_⟩,_,_,rfl,⟨d,rfl,_⟩,rfl⟩,_,_,rfl,⟨pv,rfl,t,m,o⟩,_,_,rfl,⟨_,_,rfl,⟨e,rfl,_⟩,_,_,rfl,⟨f,rfl,_⟩,_,_,rfl,⟨g,rfl,_⟩,rfl⟩,_,_,rfl,⟨fv,rfl,fs,j,r,A⟩,rfl⟩:=h;exact⟨a,b,c,d,e,f,g,pv,fv,t,fs,rfl,m,o,j,r,A⟩
end
end Go.Am
namespace Go.Am
open Lang Go.Proofs
variable{M:ak}[MK M]
def W1(nb:Nat)(H:ar)(w k:Nat)(x:Wo)(F:Nat->Prop):Prop:=∃Hb B cvs hv bs own ks V,Hb.au=nb/\eV Hb H w B cvs hv bs own ks V k x /\ ∀z,F z->fR H w B cvs hv bs ks z
section
variable{H H':ar}{nb w k:Nat}{x y:Wo}{F G:Nat->Prop}
def W1.lt(h:W1 nb H w k x F){z:Nat}(q:F z):z<H.au:=by
 have⟨Hb,B,a,b,bs,own,ks,V,e,r,f⟩:=h;exact(f z q).lt
def W1.sub(h:W1 nb H w k x F)(g:∀z,G z->F z):W1 nb H w k x G:=by
 have⟨Hb,B,a,b,bs,own,ks,V,e,r,f⟩:=h;exact⟨Hb,B,a,b,bs,own,ks,V,e,r,λ z q=>f z (g z q)⟩
def W1.low(h:W1 nb H w k x F):nb<=H.au:=by
 have⟨Hb,B,a,c,bs,own,ks,V,e,r,f⟩:=h;have:=r.b.lo B (.inl rfl);have:=r.b.lt;omega
def W1.below(h:W1 nb H w k x F):W1 nb H w k x (λ z=>F z\/z<nb):=by
 have nl:=h.low;have⟨Hb,B,a,c,bs,own,ks,V,e,r,f⟩:=h;refine⟨Hb,B,a,c,bs,own,ks,V,e,r,λ z q=>q.elim (f z) λ q=>⟨by omega,λ t=>by have:=r.b.lo z t;omega,λ t=>by have:=(r.wb z t).2;omega,λ i A t=>zi λ d=>by have:=r.lo i A t z (by omega) d;omega⟩⟩
def W1.yB(h:W1 nb H w k x F)(n:H.au<=H'.au)(f:∀z,z<H.au -> ¬F z->H'.get z=H.get z):W1 nb H' w k x (λ z=>F z\/(H.au<=z/\z<H'.au)):=by
 have⟨Hb,B,a,b,bs,own,ks,V,e,r,g⟩:=h;refine⟨H'.low Hb.au,B,a,b,bs,own,_,V,e,r.yB n λ z i q=>f z i λ t=>q (g z t),λ z q=>?_⟩;rcases q with q|⟨c,d⟩
 .exact (g z q).wide n (λ q=>.inl q) λ q=>.inl q
 .exact r.new c d
def W1.em(h:W1 nb H w k x F)(f:Fr Em H H'):W1 nb H' w k x (λ z=>F z\/(H.au<=z/\z<H'.au)):=h.yB f.au λ z a _=>f.ah z a id
structure RC(nb:Nat)(H:ar)(w k:Nat)(y:Wo)(F:Nat->Prop)(H':ar)(N:Nat->Prop):Prop where
 w:W1 nb H' w k y (λ z=>F z\/N z)
 n:H.au<=H'.au
 kp:∀z,F z->H'.get z=H.get z
 nw:∀z,N z->H.au<=z
def TI(h:W1 nb H w k x F){sv:AV}{a:List Int}(hs:bX cI 1 H sv a)(d:Bytes a)(hl:a.length<=3000)(g:a≠[]->F (aC sv))(hk:k+2*(bM a).length<=80000)(l:qK H)(p:kj<nb)(m:x.h.length<=50000)(n0:0<=x.n)(n1:x.n<=100000) :
 zk M OA [.ptr w 0,sv] H λ v H'=>aU ep yv 14 H' v (x.run (bM a)).2/\RC nb H w (k+2*(bM a).length) (x.run (bM a)).1 F H' (aN v):=by
 have⟨Hb,B,c,s,bs,own,ks,V,e,r,f⟩:=h;refine(xkd r hs d hl (λ q=>f _ (g q)) hk l (by omega) m n0 (by omega)).mono λ v H' q=>?_;have⟨b,hv',bs',aL,i,j,e',o,n',kp,ow,nw⟩:=q;exact⟨ow,⟨⟨b,B,c,hv',bs',aL,i,j,e'.trans e,o,λ z q=>q.elim (λ q=>(kp z (f z q)).1) λ q=>(nw z q).1⟩,n',λ z q=>(kp z (f z q)).2,λ z q=>(nw z q).2⟩⟩
def Kj(h:W1 nb H w k x F)(hk:k+1<=90000)(i:qK H)(m:kj<nb)(j:x.h.length<=100000)(n0:0<=x.n)(n1:x.n<=1000000)(a:Act) :
 zk M Yw [.ptr w 0,.agg a.enc] H λ v H'=>v=.agg (ep (x.act a).2)/\RC nb H w (k+2) (x.act a).1 F H' Em:=by
 have⟨Hb,B,b,o,bs,own,ks,V,e,r,f⟩:=h;refine(G' r hk i (by omega) j n0 n1 a).mono λ v H' q=>?_;have⟨c,hv',bs',aL,d,g,l,n',kp⟩:=q;exact⟨c,⟨⟨Hb,B,b,hv',bs',aL,d,g,e,l,λ z q=>q.elim (λ q=>(kp z (f z q)).1) OH⟩,n',λ z q=>(kp z (f z q)).2,λ z q=>q.elim⟩⟩
def RC.other{b w' k':Nat}{d:Wo}{c N:Nat->Prop}(p:RC nb H w k y F H' N)(h:W1 b H w' k' d c)(a:∀z,z<H.au->F z\/c z):W1 b H' w' k' d (λ z=>c z\/(H.au<=z/\z<H'.au)) :=
 h.yB p.n λ z f q=>p.kp z ((a z f).elim id λ e=>(q e).elim)
def ue(H:ar)(nw nv w w' k k':Nat)(x x':Wo)(L:Nat->Prop):Prop:=∃F F',W1 nw H w k x F/\W1 nv H w' k' x' F'/\(∀z,z<H.au->F z\/F' z) /\ ∀z,L z->F z/\F' z
def ue.swap{nw nv w' k':Nat}{c:Wo}{L:Nat->Prop}(h:ue H nw nv w w' k k' x c L):ue H nv nw w' w k' k c x L:=by
 have⟨F,d,a,b,ap,hl⟩:=h;exact⟨d,F,b,a,λ z q=>(ap z q).symm,λ z q=>(hl z q).symm⟩
def ue.em{nw nv w' k':Nat}{c:Wo}{L:Nat->Prop}(h:ue H nw nv w w' k k' x c L)(f:Fr Em H H'):ue H' nw nv w w' k k' x c (λ z=>L z\/(H.au<=z/\z<H'.au)):=by
 have⟨F,d,a,b,ap,hl⟩:=h;refine⟨_,_,a.em f,b.em f,λ z q=>?_,λ z q=>?_⟩
 .rcases xx z H.au with e|e
  .exact (ap z e).imp .inl .inl
  .exact .inl (.inr ⟨e,q⟩)
 .rcases q with q|q
  .exact ⟨.inl (hl z q).1,.inl (hl z q).2⟩
  .exact ⟨.inr q,.inr q⟩
def ue.loc{nw nv w' k':Nat}{d:Wo}{L U:Nat->Prop}(h:ue H nw nv w w' k k' x d L)(f:Fr U H H')(hu:∀z,U z->L z):ue H' nw nv w w' k k' x d (λ z=>L z\/(H.au<=z/\z<H'.au)):=by
 have⟨F,g,a,b,ap,hl⟩:=h;refine⟨_,_,a.yB f.au λ z c q=>f.ah z c λ e=>q (hl z (hu z e)).1,b.yB f.au λ z c q=>f.ah z c λ e=>q (hl z (hu z e)).2,λ z q=>?_,λ z q=>?_⟩
 .rcases xx z H.au with e|e
  .exact (ap z e).imp .inl .inl
  .exact .inl (.inr ⟨e,q⟩)
 .rcases q with q|q
  .exact ⟨.inl (hl z q).1,.inl (hl z q).2⟩
  .exact ⟨.inr q,.inr q⟩
def ue.fst{nw nv w' k' d:Nat}{f:Wo}{c L N:Nat->Prop}(a:W1 nw H w k x F)(b:W1 nv H w' k' f c)(ap:∀z,z<H.au->F z\/c z)(hl:∀z,L z->F z/\c z)(p:RC nw H w d y F H' N) :
 ue H' nw nv w w' d k' y f (λ z=>L z\/N z) /\ ∀z,L z->H'.get z=H.get z:=by
 refine⟨⟨_,_,p.w,p.other b ap,λ z q=>?_,λ z q=>?_⟩,λ z q=>p.kp z (hl z q).1⟩
 .rcases xx z H.au with e|e
  .exact (ap z e).imp .inl .inl
  .exact .inr (.inr ⟨e,q⟩)
 .rcases q with q|q
  .exact ⟨.inl (hl z q).1,.inl (hl z q).2⟩
  .exact ⟨.inr q,.inr ⟨p.nw z q,p.w.lt (.inr q)⟩⟩
def W1.core(h:W1 nb H w k x F){i:Nat}{c:Co}(b:x.cs[i]? = B1 c):∃p o f l sp cv rv,(∀K,C3 M B4 (.func TY) [.ptr w 0,.int .i64 (i:Int)] H K=K B4 (.ptr p 0) H)/\dU H o p f l sp cv rv .nils .nili c [] k:=by
 have⟨Hb,B,d,j,bs,own,ks,V,e,r,f⟩:=h;have g:=(qo.1 b).1;have hk:=r.kl;obtain⟨A,a⟩:∃A,ks[i]? = B1 A:=⟨_,qy (by omega)⟩
 exact⟨A.p,A.o,A.f,A.l,A.sp,A.cv,A.rv,PY r (by omega) (by rw[show((i:Int)).toNat=i by omega];exact a),(r.co i c A b a).1⟩
def HV(h:W1 nb H w k x F){i:Nat}{c:Co}(a:x.cs[i]? = B1 c):∀K,C3 M B4 (.func qmc) [.ptr w 0,.int .i64 (i:Int)] H K=K B4 (.int .i64 c.la.lane) H:=by
 obtain⟨p,o,f,l,sp,cv,rv,ha,hr⟩:=h.core (M:=M) a;refine dI (qwx ?_);simp only[aa,bc,qwy,ha,MC hr]
def sq(h:W1 nb H w k x F){i:Nat}{c:Co}(m:x.cs[i]? = B1 c):zk M qmd [.ptr w 0,.int .i64 (i:Int)] H λ v H'=>v=.agg (c.fi.rs.map uC)/\Fr Em H H':=by
 refine qwz ?_;obtain⟨H1,e1,a,n1,-⟩:=cE H (OR ((JV 8 (0:Int)).map uC) pN);obtain⟨p,o,f,l,sp,cv,rv,ha,hr⟩:=(h.em a).core (M:=M) m;simp only[aa,bc,qw0,z8,<-e1,ha];refine C3.q (Ld hr) λ v g⟨r,d⟩=>?_;subst r;obtain⟨t,s,ld,j,-⟩:=ND (H:=g) (n:=8) (z:=(JV 8 (0:Int)).map uC) (l:=c.fi.rs.map uC) (e:=pN) (b:=H.au) (by rw[d.ah _ (by omega) id,e1,xt]) (by simp) (by rw[xu];exact hr.fi.w.r8) (DI _);simp only[aa,bc,s,ld];exact(a.em d).trans j λ z(q:z=H.au)=>.inr (by omega)
end
end Go.Am
namespace Go.Am
open Lang Go.Proofs
variable{M:ak}[MK M]
def qK.at{H H':ar}(h:qK H)(n:H.au<=H'.au)(e:H'.get kj=H.get kj):qK H':=⟨by unfold ar.bP;rw[e];exact h.1,qn h.2 n⟩
def bX.low{α:Type}{enc:α->List AV}{size:Nat}{H H':ar}{u:AV}{xs:List α}(h:bX enc size H u xs)(n:H.au<=H'.au)(hl:xs≠[]->aC u<H.au)(e:xs≠[]->H'.get (aC u)=H.get (aC u)):bX enc size H' u xs:=by
 by_cases q:xs=[]
 .exact Sl.fr h (W:=λ _=>True) ⟨n,λ z _ t=>(t trivial).elim⟩ (.inl (by rw[q];rfl))
 .exact Sl.fr h (W:=λ z=>z≠aC u) ⟨n,λ z _ t=>by have t:=yt.1 t;rw[t];exact e q⟩ (.inr λ t=>t rfl)
def KC(ps:List (AV×List Int))(fs:List L8):Prop:=ps.length<=10/\fs.length<=100 /\ ∀p∈ps,p.2.length<=9000
def xii{H:ar}{l c s w f so sf:Int}{pv fv:AV}{a:List (AV×List Int)}{fs:List L8}(u:bX mg 1 H pv a)(m:∀p∈a,bX cI 1 H p.1 p.2)(D:bX dy 8 H fv fs) :
 zk M qu1 [.agg (AW l c s w pv f so sf fv)] H λ v H'=>∃b:Bool,v=.bool b/\Fr Em H H'/\(b=B2->KC a fs):=by
 refine q91 ?_;have⟨H1,e1,d,n1,t⟩:=cE H (OR (AW l c s w pv f so sf fv) Ll);have l4:Op.ae [.ptr H.au 4] H1=B1 pv:=vi t 4;have A:Op.ae [.ptr H.au 8] H1=B1 fv:=vi t 8;have pl:=(Sl.em u d).len;have fl:=(Sl.em D d).len
 by_cases j:(10:Int)<((a.length:Nat):Int)
 .simp only[aa,bc,NM,<-e1,l4,pl,xg j];exact⟨B4,rfl,d,λ q=>nomatch q⟩
 by_cases o:(100:Int)<((fs.length:Nat):Int)
 .simp only[aa,bc,NM,<-e1,l4,pl,j,A,fl,xg o];exact⟨B4,rfl,d,λ q=>nomatch q⟩
 simp only[aa,bc,NM,<-e1,l4,pl,j,A,fl,o];refine dD.intro (λ n E g=>∃i:Nat,E=[(3,.int .i64 (i:Int)),(2,.bool B2),(1,.ptr H.au 0),(0,.agg (AW l c s w pv f so sf fv))]/\g=H1/\n=a.length-i/\i<=a.length /\ ∀p∈a.take i,p.2.length<=9000) ?_ ?_
 .exact ⟨_,_,⟨0,rfl,rfl,rfl,x9 _,λ p q=>by rw[yq]at q;cases q⟩,by simp only[aa,bc]⟩
 rintro n E g ⟨i,rfl,rfl,rfl,J,ok⟩
 by_cases h:i<a.length
 .have q:(i:Int)<((a.length:Nat):Int):=by omega
  obtain⟨p,hp⟩:∃p,a[i]? = B1 p:=⟨_,qy h⟩
  have C:=Sl.em u d;have ix:=(show bX mg 1 g pv a from C).idx hp (z:=(i:Int)) rfl .i64;have ld:Op.ae [.ptr (aC pv) (cX 1 pv i)] g=B1 p.1:=(show bX mg 1 g pv a from C).iS _a hp (by decide);have B:=(Sl.em (m p (zj hp)) d).len;have I:aj .i64 ((i:Int)+1)=((i+1:Nat):Int):=by rw[kc (by omega) (by omega)];omega
  by_cases r:(9000:Int)<((p.2.length:Nat):Int)
  .simp only[aa,bc,NM,l4,pl,xg q,ix,ld,B,xg r];exact⟨B4,rfl,d,λ q=>nomatch q⟩
  .simp only[aa,bc,NM,l4,pl,xg q,ix,ld,B,r,I];refine⟨_,_,⟨i+1,rfl,rfl,h,λ p' e=>?_⟩,by simp only[aa,bc],by omega⟩;rw[FQ,hp]at e;rcases z6.1 e with e|e
   .exact ok p' e
   .rw [j0.1 (show p'∈[p]from e)];omega
 .have q:¬(i:Int)<((a.length:Nat):Int):=by omega
  simp only[aa,bc,NM,l4,pl,q];refine⟨B2,rfl,d,λ _=>⟨by omega,by omega,λ p q=>ok p ?_⟩⟩;rw[zp (by omega)];exact q
abbrev ToT:aR:=(.part 0 B5 .int (.part 1 (B1 11) (.part 0 B5 .int (.part 1 B5 .int (.part 2 B5 .int (.part 3 (B1 8) (.part 0 B5 .int (.part 1 B5 .int (.part 2 B5 .int (.part 3 B5 .int (.part 4 B5 .int (.part 5 B5 .int (.part 6 B5 .int (.part 7 B5 .int .nil)))))))) .nil)))) (.part 12 B5 .int (.part 13 B5 .int .nil))))
def PQ(t:To):aV ToT (.agg (ep t)) (.agg (ep t))=B1 true:=by
 have⟨e,⟨k,co,ln,⟨d,a⟩⟩,cd,b⟩:=t
 match d,a with
 |[d0,d1,d2,d3,d4,d5,d6,d7],_=>simp[ep,ao,dy,uW,aV,partAt,sO,kE,rT,iV,Pg]
def DU(t:To)(H:ar):Op.eq (.agg (.part 0 B5 .int (.part 1 (B1 11) (.part 0 B5 .int (.part 1 B5 .int (.part 2 B5 .int (.part 3 (B1 8) (.part 0 B5 .int (.part 1 B5 .int (.part 2 B5 .int (.part 3 B5 .int (.part 4 B5 .int (.part 5 B5 .int (.part 6 B5 .int (.part 7 B5 .int .nil)))))))) .nil)))) (.part 12 B5 .int (.part 13 B5 .int .nil))))) B4 [.agg (ep t),.agg (ep t)] H=B1 (.bool B2) :=
 Xr _ _ _ H B4 (PQ t)
def xig{H:ar}{a b:AV}{l:List To}(ha:bX ep 14 H a l)(hb:bX ep 14 H b l)(hl:l.length<=100000):zk M qu0 [a,b] H λ v H'=>v=.bool B4/\H'=H:=by
 refine q90 ?_;have la:=ha.len;have lb:=hb.len;simp only[aa,bc,Y6,la,lb];refine dD.intro (λ n E g=>∃i:Nat,E=[(5,.int .i64 (i:Int)),(4,.bool B2),(0,a),(1,b)]/\g=H/\n=l.length-i/\i<=l.length) ?_ ?_
 .exact ⟨_,_,⟨0,rfl,rfl,rfl,x9 _⟩,by simp only[aa,bc]⟩
 rintro n E g ⟨i,rfl,rfl,rfl,j⟩
 by_cases c:i<l.length
 .have q:(i:Int)<((l.length:Nat):Int):=by omega
  obtain⟨t,d⟩:∃t,l[i]? = B1 t:=⟨_,qy c⟩
  have ix:=ha.idx d (z:=(i:Int)) rfl .i64;have ld:=ha.av uf (by decide) d;have e:=hb.idx d (z:=(i:Int)) rfl .i64;have f:=hb.av uf (by decide) d;have h:aj .i64 ((i:Int)+1)=((i+1:Nat):Int):=by rw[kc (by omega) (by omega)];omega
  simp only[aa,bc,Y6,la,xg q,ix,ld,e,f,DU,h];exact⟨_,_,⟨i+1,rfl,rfl,c⟩,by simp only[aa,bc],by omega⟩
 .have q:¬(i:Int)<((l.length:Nat):Int):=by omega
  simp only[aa,bc,Y6,la,q]
def xlt{H:ar}{nb w k:Nat}{x:Wo}{F:Nat->Prop}(h:W1 nb H w k x F){i:Nat}{c:Co}(e:x.cs[i]? = B1 c):zk M qy8 [.ptr w 0,.int .i64 (i:Int)] H λ v H'=>v=.bool (decide (qD c))/\H'=H:=by
 refine xck ?_;have ln:=HV (M:=M) h e
 by_cases a:c.la.lane=1
 .have d:decide (qD c)=true:=ku (.inl a);simp only[aa,bc,Zu,ln,xg a,d]
 by_cases b:c.la.lane=2
 .have d:decide (qD c)=true:=ku (.inr b);simp only[aa,bc,Zu,ln,a,xg b,d]
 .have d:decide (qD c)=false:=kw λ q=>q.elim a b;simp only[aa,bc,Zu,ln,a,b,d]
end Go.Am
namespace Go.Am
open Lang Go.Proofs
variable{M:ak}[MK M]
def Pw(a:AV)(ha:a.cells=[a]):Op.buildSlice Xw 9 [.int .u8 0] [(0,1),(1,1),(2,1),(3,1),(4,1),(5,1),(6,1),(7,1),(8,1)] [.int .u8 0,a,.int .u8 0,.int .u8 1,.int .u8 0,.int .u8 0,.int .u8 0,a,.int .u8 0]=B1 (OR [.int .u8 0,a,.int .u8 0,.int .u8 1,.int .u8 0,.int .u8 0,.int .u8 0,a,.int .u8 0] Xw,Op.sliceTo 9 9):=by
 cases a<;>first|rfl|cases ha
def Dz(t:To)(H:ar):Op.eq (.agg (.part 0 B5 .int (.part 1 (B1 11) (.part 0 B5 .int (.part 1 B5 .int (.part 2 B5 .int (.part 3 (B1 8) (.part 0 B5 .int (.part 1 B5 .int (.part 2 B5 .int (.part 3 B5 .int (.part 4 B5 .int (.part 5 B5 .int (.part 6 B5 .int (.part 7 B5 .int .nil)))))))) .nil)))) (.part 12 B5 .int (.part 13 B5 .int .nil))))) B2 [.agg (ep t),.agg (ep t)] H=B1 (.bool B4):=oU _ _ _ H B4 (PQ t)
def Y0(rs:List Int)(h:rs.length=8)(H:ar):Op.eq (.agg (.part 0 B5 .int (.part 1 B5 .int (.part 2 B5 .int (.part 3 B5 .int (.part 4 B5 .int (.part 5 B5 .int (.part 6 B5 .int (.part 7 B5 .int .nil))))))))) B2 [.agg (rs.map uC),.agg (rs.map uC)] H=B1 (.bool B4):=by
 refine oU _ _ _ H B4 ?_
 match rs,h with
 |[d0,d1,d2,d3,d4,d5,d6,d7],_=>simp[uC,aV,partAt,kE,rT,iV,Pg]
def q6l{H:ar}{l c s wy f so sf:Int}{pv fv sv:AV}{ps:List (AV×List Int)}{fs:List L8}{a:List Int}{core:Int}(hal:∀H1,Fr Em H H1->zk M q8w [] H1 λ v H'=>v=.bool B4/\H'=H1)(hS:qK H)
 (hP:bX mg 1 H pv ps) (N:∀p∈ps,bX cI 1 H p.1 p.2/\Bytes p.2/\ug H p.1) (hF:bX dy 8 H fv fs) (hfu:∀x∈fs,x.u) (hfl:ug H fv) (hs:bX cI 1 H sv a) (hby:Bytes a) (hsl:ug H sv) :
 zk M ql6 [.agg (AW l c s wy pv f so sf fv),sv,.int .i64 core] H λ v _=>v=.bool true:=by
 refine qv1 ?_;have⟨H1,e1,f1,n1,g1⟩:=cE H (OR (AW l c s wy pv f so sf fv) Ll);simp only[aa,bc,yk,<-e1];refine C3.q (hal H1 f1) λ v X⟨t,C⟩=>?_;subst t;have C:=C.symm;subst C;have k9:Op.av 9 [.ptr H.au 0] H1=B1 (.agg (AW l c s wy pv f so sf fv)):=fq g1 rfl;simp only[aa,bc,yk,k9];refine C3.q (xii (Sl.em hP f1) (λ p q=>Sl.em (N p q).1 f1) (Sl.em hF f1)) λ v H2⟨b,t,f2,sm⟩=>?_;subst t;have F2:=f1.em f2;have sl:=(Sl.em hs F2).len;cases b with
 |true=>simp only[aa,bc]
 |false =>
 by_cases Q:(600:Int)<((a.length:Nat):Int)
 .simp only[aa,bc,sl,xg Q]
 have⟨I,f100,p9⟩:=sm rfl;have k4:∀{K:ar},K.get H.au=B1 (OR (AW l c s wy pv f so sf fv) Ll)->Op.av 4 [.ptr H.au 0] K=B1 (.agg (eE l c s wy)):=λ g=>by rw[tT (xf g) (by show 0+4<=9;decide)];rfl
 have k3:∀{K:ar},K.get H.au=B1 (OR (AW l c s wy pv f so sf fv) Ll)->Op.av 3 [.ptr H.au 5] K=B1 (.agg [.int .i64 f,.int .i64 so,.int .i64 sf]):=λ g=>by rw[tT (xf g) (by show 5+3<=9;decide)];rfl
 have g2:H2.get H.au=B1 (OR (AW l c s wy pv f so sf fv) Ll):=(f2.ah _ (by omega) id).trans g1;have j4:Op.ae [.ptr H.au 4] H2=B1 pv:=vi g2 4;have j8:Op.ae [.ptr H.au 8] H2=B1 fv:=vi g2 8;have D:∀{K:ar},Fr Em H K -> ∀p∈ps,bX cI 1 K p.1 p.2/\(p.2≠[]->aC p.1<K.au)/\p.2.length<=100000:=λ{K}fx p q =>
  ⟨Sl.em (N p q).1 fx,λ ne=>qn ((N p q).2.2.lt (N p q).1 ne) fx.au,by have:=p9 p q;omega⟩
 simp only[aa,bc,yk,sl,Q,k4 g2,j4,k3 g2,j8];refine C3.q (Zt (Sl.em hP F2) (D F2) (Sl.em hF F2) (λ q=>qn (hfl.lt hF q) F2.au) hfu) λ v H3⟨f3,r3⟩=>?_;have L:=F2.em f3;have g3:H3.get H.au=B1 (OR (AW l c s wy pv f so sf fv) Ll):=(f3.ah _ (by have:=f2.au;omega) id).trans g2;have j4':Op.ae [.ptr H.au 4] H3=B1 pv:=vi g3 4;have j8':Op.ae [.ptr H.au 8] H3=B1 fv:=vi g3 8;have nz:¬(2:Int)=0:=by decide
 have q0:¬ ¬(0:Int)=0:=λ q=>q rfl;rcases r3 with⟨no,rfl⟩|⟨ok,Hw,w,B,cvs,bs,own,ks,V,rfl,lw,r3⟩
 .simp only[aa,bc,aA,k4 g3,j4',k3 g3,j8'];refine C3.q (Zt (Sl.em hP L) (D L) (Sl.em hF L) (λ q=>qn (hfl.lt hF q) L.au) hfu) λ v H4⟨f4,r4⟩=>?_;rcases r4 with⟨no,rfl⟩|⟨ok,_,_,_,_,_,_,_,_,rfl,_⟩
  .simp only[aa,bc,yk,aA,xg nz]
  .simp only[aa,bc,yk,aA,xg nz]
 simp only[aa,bc,aA,k4 g3,j4',k3 g3,j8'];have j:W1 Hw.au H3 w 0 (QN l c s wy fs (ps.map CD) f so sf) Em:=⟨Hw,B,cvs,.nils,bs,own,ks,V,rfl,r3,λ z q=>q.elim⟩
 refine C3.q (Zt (Sl.em hP L) (D L) (Sl.em hF L) (λ q=>qn (hfl.lt hF q) L.au) hfu) λ v H4⟨f4,r4⟩=>?_;have F4:=L.em f4;rcases r4 with⟨no,rfl⟩|⟨-,Hv,w',B',cvs',bs',aL,ks',V',rfl,lw',r4⟩
 .exact (no ok).elim
 have g4:H4.get H.au=B1 (OR (AW l c s wy pv f so sf fv) Ll):=(f4.ah _ (by have:=f2.au;have:=f3.au;omega) id).trans g3;have m1:Op.ae [.ptr H.au 1] H4=B1 (.int .i64 c):=vi g4 1
 by_cases c0:core<0
 .simp only[aa,bc,yk,aA,q0,xg c0]
 by_cases cc:c<=core
 .simp only[aa,bc,yk,aA,q0,c0,m1,xg cc]
 simp only[aa,bc,yk,aA,q0,c0,m1,cc]
 -- the two worlds
 have n2:=f2.au;have n3:=f3.au;have n4:=f4.au;have hV:W1 Hv.au H4 w' 0 (QN l c s wy fs (ps.map CD) f so sf) (λ z=>Em z\/z<Hv.au):=(show W1 Hv.au H4 w' 0 _ Em from⟨Hv,B',cvs',.nils,bs',aL,ks',V',rfl,r4,λ z q=>q.elim⟩).below;have hW4:=(j.below.em f4)
 generalize O:QN l c s wy fs (ps.map CD) f so sf=x0 at *;have xn:x0.n=0:=by rw[<-O];rfl
 have xh:x0.h=[]:=by rw[<-O];rfl
 have hwi:x0.WI:=by rw[<-O];exact Lh ok.1.1
 have xc:x0.cs.length=c.toNat:=by rw[<-O];exact SF ..
 have gS:=hS.2;have al:=O9 a;have hS4:=hS.em F4;have hs4:=Sl.em hs F4;have lo:a≠[]->aC sv<H.au:=λ q=>hsl.lt hs q;have cc4:c<=4:=ok.1.1.1.2.2;obtain⟨i,rfl⟩:=jt (show 0<=core by omega);have pr4:ue H4 Hw.au Hv.au w w' 0 0 x0 x0 (λ z=>z<H1.au):=by
  refine⟨_,_,hW4,hV,λ z q=>?_,λ z q=>⟨.inl (.inr (by omega)),.inr (by omega)⟩⟩;rcases xx z Hv.au with e|e
  .exact .inr (.inr e)
  .exact .inl (.inr ⟨by omega,q⟩)
 have⟨F,F',j,hV,ap,m⟩:=pr4;refine C3.q (TI j hs4 hby (by omega) (λ q=>(m _ (by have:=lo q;omega)).1) (by omega) hS4 (by omega) (by rw[xh];exact x9 _) (by omega) (by omega)) λ ov H5⟨_,p5⟩=>?_;have⟨pr5,kp5⟩:=ue.fst j hV ap m p5;have hS5:=hS4.at p5.n (kp5 _ (by omega));have hs5:bX cI 1 H5 sv a:=bX.low (enc:=cI) hs4 p5.n (λ q=>by have:=lo q;omega) λ q=>kp5 _ (by have:=lo q;omega);simp only[aa,bc];have n5:=p5.n;clear p5 j hV ap m;have⟨F,F',hV,j,ap,m⟩:=pr5.swap;refine C3.q (TI hV hs5 hby (by omega) (λ q=>(m _ (.inl (by have:=lo q;omega))).1) (by omega) hS5 (by omega) (by rw[xh];exact x9 _) (by omega) (by omega)) λ ov' H6⟨_,p6⟩=>?_;have⟨pr6,kp6⟩:=ue.fst hV j ap m p6;have hS6:=hS5.at p6.n (kp6 _ (.inl (by omega)));have n6:=p6.n;clear p6 j hV ap m;have xn1:=Wo.Ei (bM a) x0;have hwi1:=Wo.WI.run (bM a) hwi;have xc1:=Wo.wQ (bM a) x0;have r:=Wo.D3 (bM a) x0;generalize hx1:(x0.run (bM a)).1=o at *;generalize hk1:0+2*(bM a).length=k1 at *;have hl1:(bM a).length<=200:=by omega
 obtain⟨c1,hc1⟩:∃c,o.cs[i]? = B1 c:=⟨_,qy (by omega)⟩
 simp only[aa,bc,yk];have⟨F,F',j,hV,ap,m⟩:=pr6.swap;refine C3.q (xlt j hc1) λ v X⟨t,C⟩=>?_;subst t;have C:=C.symm;subst C
 by_cases hd:qD c1
 .have d:decide (qD c1)=true:=ku hd;simp only[aa,bc,yk,d]
 have d:decide (qD c1)=false:=kw hd;have bd4:Op.build [.int .i64 0,.int .i64 0,.int .i64 0] [(0,1),(1,1)] [.int .i64 4,.int .i64 (i:Int)]=B1 (.agg (Act.enc ⟨4,(i:Int),0⟩)):=rfl;have Ah:Op.build [.int .i64 0,.int .i64 0,.int .i64 0] [(0,1)] [.int .i64 0]=B1 (.agg (Act.enc ⟨0,0,0⟩)):=rfl;simp only[aa,bc,yk,d,bd4];have ac4:o.act ⟨4,(i:Int),0⟩=({o with n:=o.n+1},iA 40):=by
  unfold Wo.act Wo.iM;simp only[show¬(4:Int)=1 by decide,show¬(4:Int)=2 by decide,show¬(4:Int)=3 by decide,vk,oO];rw[hwi1.ME hc1 hd]
 have ac0:o.act ⟨0,0,0⟩=({o with n:=o.n+1},iA 140):=rfl;refine C3.q (Kj j (by omega) hS6 (by omega) (by rw[xh]at r;simp at r;omega) (by omega) (by omega) ⟨4,(i:Int),0⟩) λ v H7⟨t,p7⟩=>?_;have⟨pr7,kp7⟩:=ue.fst j hV ap m p7;subst t;have hS7:=hS6.at p7.n (kp7 _ (.inl (.inl (by omega))));have n7:=p7.n;clear p7 j hV ap m;rw[ac4]at pr7⊢;have⟨H8,e8,f8,m8,g8⟩:=cE H7 (OR (ep (iA 0)) yv);obtain⟨H9,s9,-,f9,g9⟩:=ND (n:=14) g8 (uf _) (l:=ep (iA 40)) (uf _) (Sj _);have Z:Fr Em H7 H9:=f8.trans f9 λ z(q:z=H7.au)=>.inr (by omega);have n9:=Z.au;have m9:=f9.au;have pr9:=pr7.em Z;have hS9:=hS7.em Z;simp only[aa,bc,Ho,<-e8,s9,Ah];have⟨F,F',hV,j,ap,m⟩:=pr9.swap;refine C3.q (Kj hV (by omega) hS9 (by omega) (by rw[xh]at r;simp at r;omega) (by omega) (by omega) ⟨0,0,0⟩) λ v A⟨t,I⟩=>?_;have⟨J,T⟩:=ue.fst hV j ap m I;subst t;have hS10:=hS9.at I.n (T _ (.inl (.inl (.inl (.inl (by omega))))));have n10:=I.n;clear I j hV ap m;rw[ac0]at J;have x2n:({o with n:=o.n+1}:Wo).n=o.n+1:=rfl;have x2h:({o with n:=o.n+1}:Wo).h=o.h:=rfl;have x2c:({o with n:=o.n+1}:Wo).cs=o.cs:=rfl;simp only at J;generalize({o with n:=o.n+1}:Wo)=x2 at *;have gb10:A.get H7.au=B1 (OR (ep (iA 40)) yv):=(T _ (.inr ⟨qm _,by omega⟩)).trans g9;have wc:aj .u8 (i:Int)=(i:Int):=wrap_u8 (by omega) (by omega);have⟨H11,e11,Y,m11,g11⟩:=cE A (OR [.int .u8 0,.int .u8 (i:Int),.int .u8 0,.int .u8 1,.int .u8 0,.int .u8 0,.int .u8 0,.int .u8 (i:Int),.int .u8 0] Xw);obtain⟨more,hmo⟩:∃l:List Int,l=[0,(i:Int),0,1,0,0,0,(i:Int),0]:=⟨_,rfl⟩
 have S:bX cI 1 H11 (Op.sliceTo 9 9 A.au) more:=by
  rw[hmo];exact⟨rfl,rfl,qm _,.inr ⟨by omega,_,xf g11,rfl⟩⟩
 have hmb:Bytes more:=by
  rw[hmo];intro b q;simp only[ji,Li,or_false]at q;rcases q with rfl|rfl|rfl|rfl|rfl|rfl|rfl|rfl|rfl<;>omega
 have hml:more.length=9:=by rw[hmo];rfl
 have hma:=O9 more;have pr11:=J.em Y;have R:=hS10.em Y;have sb:aC (Op.sliceTo 9 9 A.au)=A.au:=rfl;simp only[aa,bc,yk,wc,Pw _ (show AV.cells (.int .u8 (i:Int))=_ from rfl),<-e11];have⟨F,F',j,hV,ap,m⟩:=pr11.swap;refine C3.q (TI j S hmb (by omega) (λ q=>(m _ (.inr ⟨by rw[sb];exact qm _,by rw[sb];omega⟩)).1) (by omega) R (by omega) (by rw[x2h];rw[xh]at r;simp at r;omega) (by omega) (by omega)) λ va H12⟨oa,p12⟩=>?_;have⟨pr12,E⟩:=ue.fst j hV ap m p12;have n12:=p12.n;have hS12:=R.at n12 (E _ (.inl (.inl (.inl (.inl (.inl (.inl (by omega))))))));have gb12:H12.get H7.au=B1 (OR (ep (iA 40)) yv):=(E _ (.inl (.inl (.inr ⟨qm _,by omega⟩)))).trans ((Y.ah _ (by omega) id).trans gb10);have hm12:bX cI 1 H12 (Op.sliceTo 9 9 A.au) more:=bX.low (enc:=cI) S n12 (λ _=>by rw[sb];omega) λ _=>E _ (.inr ⟨by rw[sb];exact qm _,by rw[sb];omega⟩);clear p12 j hV ap m;simp only[aa,bc,yk];have⟨F,F',hV,j,ap,m⟩:=pr12.swap;refine C3.q (TI hV hm12 hmb (by omega) (λ q=>(m _ (.inl (.inr ⟨by rw[sb];exact qm _,by rw[sb];omega⟩))).1) (by omega) hS12 (by omega) (by rw[x2h];rw[xh]at r;simp at r;omega) (by omega) (by omega)) λ vb H13⟨ob,p13⟩=>?_;have⟨pr13,U⟩:=ue.fst hV j ap m p13;have n13:=p13.n;have gb13:H13.get H7.au=B1 (OR (ep (iA 40)) yv):=(U _ (.inl (.inl (.inl (.inr ⟨qm _,by omega⟩))))).trans gb12;have rl:=Wo.tq (bM more) x2;have oa13:aU ep yv 14 H13 va (x2.run (bM more)).2:=Own.fr oa (W:=λ z=>¬aN va z) ⟨n13,λ z zl q=>U z (.inr (yt.1 q))⟩ λ z q e=>e q;clear p13 j hV ap m;have lb:=fq gb13 (uf _);have xc3:=Wo.wQ (bM more) x2;generalize(x2.run (bM more)).1=x3 at *;obtain⟨c3,hc3⟩:∃c,x3.cs[i]? = B1 c:=⟨_,qy (by rw[xc3,x2c];omega)⟩
 simp only[aa,bc,lb,Ho,JZ,Dz];refine C3.q (xig (aU.sl oa13) (aU.sl ob) (by omega)) λ v X⟨t,C⟩=>?_;subst t;have C:=C.symm;subst C;simp only[aa,bc];have⟨F,F',j,hV,ap,m⟩:=pr13.swap;refine C3.q (sq j hc3) λ v H14⟨t,f14⟩=>?_;subst t;obtain⟨p3,o3,_,_,_,_,_,_,hr3⟩:=j.core (M:=M) hc3;have r8:=hr3.fi.w.r8;simp only[aa,bc];refine C3.q (sq (hV.em f14) hc3) λ v H15⟨t,f15⟩=>?_;subst t;simp only[aa,bc,Y0 _ r8]
end Go.Am
