import Derived.Test.YtbpnpfalldaocaaGreatDoorAmCZe
import Derived.Test.YtbpnpfalldaocaaGreatDoorAmCZi
import Derived.Test.YtbpnpfalldaocaaGreatDoorAmCZl
import Derived.Test.YtbpnpfalldaocaaGreatDoorAmCZf
set_option linter.defProp false
set_option linter.unusedVariables false
set_option linter.unusedSimpArgs false
set_option linter.unusedSectionVars false
set_option maxRecDepth 100000
open Bool renaming false→B2,true→B4
open Go renaming DataW→MC,MemPlace→AA,Program→Fv,TypeId→IV,Value→Hm,World→J3
open Go.DataW renaming trod→Jv,weights→As,weightsEach→Aj
open List renaming range→Ig,replicate→Fh
open Option renaming none→B5,some→B1
open Nat renaming reduceEqDiff→bc
namespace Go.Am
open Go.RowKit
section
variable{P:Fv}
def Wt(P:Fv)(t:IV){Hh:Type}(d:MC Hh):Prop:=∀x∈As P t d,x<=reachBytes
theorem VO{a:Type}{e:IV}{x:Nat}{d:MC a}:∀{l:List (MC a)},d∈l->x∈As P e d->x∈MC.weightsAll P e l
 |y::l,h,hx=>by
  rw[MC.weightsAll,zr];rcases j8.1 h with rfl|h
  .grind
  .exact .inr (VO h hx)
def vK(P:Fv)(t:IV)(R:ar->List AV->Prop):Prop :=
 (∀H H' l,R H l->Fr Em H H'->R H' l) /\ ∀{Hh:Type}(enc:IV×Hm->Hh)(W:J3)(held:Bool)(fuel:Nat)(cs:List Hm)(d:MC Hh)(ps:List AA),
  Jv enc P W 0 (λ _=>B4) held fuel t cs=B1 (d,ps)->Wt P t d -> ∀(θ:Th)(n:Nat)(gl:GL),Good W θ n gl -> ∃θ' n' gl' l,Step W θ n gl θ' n' gl'/\bH (Lt n') θ' l cs/\R (kn gl' n') l
def Ux.σ{t:IV}{R:ar->List AV->Prop}(h:Ux P t R):vK P t R:=⟨h.1,λ enc W held fuel cs d e a _=>h.2 enc W held fuel cs d e a⟩
def Vb{e:IV}{R:ar->List AV->Prop}(hR:vK P e R){q:Type}(enc:IV×Hm->q)(W:J3)(held:Bool)(fuel:Nat):∀(a:List (List Hm)),(∀cs∈a,∃x,Jv enc P W 0 (λ _=>B4) held fuel e cs=B1 x/\Wt P e x.1) ->
 ∀(θ:Th)(n:Nat)(d:GL),Good W θ n d -> ∃(θ':Th)(n':Nat)(f:GL)(ls:List (List AV)),Step W θ n d θ' n' f/\bH (Lt n') θ' ls.flatten a.flatten/\ls.length=a.length /\ ∀(i:Nat)l cs,ls[i]? = B1 l->a[i]? = B1 cs->R (kn f n') l/\l.length=cs.length
 |[],_,θ,n,d,hg=>⟨θ,n,d,[],Step.refl hg,.nil,rfl,λ i l cs h=>by grind⟩
 |cs::a,h,θ,n,d,hg=>by
  have⟨x,r,hw⟩:=h cs (by simp);have⟨θ1,n1,g,l,s1,v1,t⟩:=hR.2 enc W held fuel cs x.1 x.2 r hw θ n d hg;have⟨θ2,n2,j,ls,s2,v2,v,y⟩:=Vb hR enc W held fuel a (by grind) θ1 n1 g s1.cU;refine⟨θ2,n2,j,l::ls,s1.trans s2,?_,by grind,λ i u cs' k p=>?_⟩
  .rw [List.flatten_cons,List.flatten_cons];exact(v1.up s2.ag λ b hb=>qj hb s2.le).app v2
  .cases i with
   |zero =>
    simp at k p;subst k;subst p;exact⟨hR.1 _ _ _ t s2.fr,v1.length.symm⟩
   |succ i=>grind
def ZT(P:Fv)(e:IV)(R:ar->List AV->Prop)(size:Nat)(H:ar)(u:AV):Prop:=MG R size H u /\ ∀k,eL u=B1 k->k*P.bytesOf e<=reachBytes
def xg4{t e:IV}{R:ar->List AV->Prop}(ht:P.underlying t=B1 (.slice e))(hR:vK P e R)(hs:0<P.cellsOf e):vK P t λ H l=>∃u,l=[u]/\ZT P e R (P.cellsOf e) H u:=by
 refine⟨λ H H' l⟨u,r,h2,h3⟩f=>⟨u,r,h2.em hR.1 f,h3⟩,?_⟩;intro Hh enc W held fuel B d ps h N θ n gl hg;cases fuel with
 |zero=>cases h
 |succ f =>
  have key:B=[.slice B5 0 0] \/ ∃a len cap,B=[.slice (B1 a) len cap]/\len<=cap/\(∀i,i<len -> ∃cs x,W.cells? 0 (a.add (i*P.cellsOf e)) (P.cellsOf e)=B1 cs/\Jv enc P W 0 (λ _=>B4) held f e cs=B1 x/\Wt P e x.1)/\len*P.bytesOf e<=reachBytes/\(len<cap -> ∃cs,W.cells? 0 (a.add (len*P.cellsOf e)) (P.cellsOf e)=B1 cs):=by
   simp only[Jv,ht]at h;split at h<;>first|(cases h;done)|skip
   all_goals first|(rename_i r;cases r;done)|skip
   .left;rfl
   .right;rename_i e' a len cap r;injection r with r;cases r
    split at h
    .rename_i hb;simp only[qd,rR,xh]at h;have⟨elems,he,rest,j,G⟩:=h;injection G with G _
     have hw1:=N ((elems.length+rest.length)*P.bytesOf e) (by grind [As]);have hel0:elems.length=len:=by have:=mapM_some_length he;simpa using this
     refine⟨a,len,cap,rfl,hb.2.1,λ i O=>?_,(by grind),λ hlt=>?_⟩
     .have hl:=mapM_some_length he;have:=mapM_some_get he i i (by grind);have y:i<elems.length:=by omega
      rw[xj y]at this;have⟨cs,q,A⟩:=qd.1 this;refine⟨cs,_,q,A,λ x hx=>N x ?_⟩
      grind [As,VO,List.mem_map_of_mem,List.getElem_mem]
     .have hl:=mapM_some_length j;have:=mapM_some_get j 0 0 (by grind);have y:0<rest.length:=by grind
      rw[xj y,zJ]at this
      grind [qd]
    .cases h
  rcases key with rfl|⟨a,len,cap,rfl,hlc,S,C,j⟩
  .exact ⟨θ,n,gl,[.nils],Step.refl hg,λ _ _=>rfl,.nils,rfl,⟨[],by simp,⟨by simp,rfl⟩,.inl rfl⟩,(λ k hk=>by cases hk;simp)⟩
  .have ⟨k,o,s⟩:=a
   by_cases h0:cap=0
   .subst h0;have:len=0:=by omega
    subst this;have Z:=Step.Ll hg k o (qP s);refine⟨_,_,_,[.eslice n],Z,.one ?_,.eslice n,rfl,⟨[],by simp,⟨by simp,rfl,zd n⟩,.inr (zd n)⟩,(λ k hk=>by cases hk;simp)⟩;intro θ' hθ;have⟨q,A,q3⟩:=θ.dY n k o (qP s);have⟨r1,r2,r3⟩:=hθ n (zd n)
    grind [aq,ae0]
   .have Y:s=none:=by
     by_cases z:len=0
     .subst z;have⟨cs,v⟩:=j (by omega);rw[yO]at v;exact We hs (by simpa[Addr.add]using v)
     .have ⟨cs,x,v,_,_⟩:=S 0 (by omega);rw[yO]at v;exact We hs (by simpa[Addr.add]using v)
    subst Y
    by_cases z:len=0
    .subst z;refine⟨_,_,_,[.slice n 0 0 cap],Step.bare hg k o,.one ?_,.slice n 0 0 cap,rfl,⟨[],by simp,⟨by simp,rfl,xu _,.inl rfl⟩,.inr (zd n)⟩,(λ k hk=>by cases hk;simp)⟩;have:=VR.slice (D:=Lt (n+1)) (θ:=θ.add n k o 0) (b:=n) (o:=0) (n:=0) (c:=cap) (zd n:Lt (n+1) n);have⟨q,A,_⟩:=θ.dY n k o 0
     grind [aq]
    .have hex:∀i:Nat,∃cs,i<len->W.cells? 0 ⟨k,o+i*P.cellsOf e,B5⟩ (P.cellsOf e)=B1 cs /\ ∃x,Jv enc P W 0 (λ _=>B4) held f e cs=B1 x/\Wt P e x.1:=λ i=>by
      by_cases O:i<len
      .grind [uM]
      .exact ⟨[],λ h=>(O h).elim⟩
     have⟨F,hF⟩:=Classical.axiomOfChoice hex
     let css:=(Ig len).map F
     have hcl:css.length=len:=by grind
     have hcg:∀(i:Nat)c,css[i]? = B1 c->i<len/\c=F i:=λ i c v=>by
      grind
     have⟨arr,e',fz,hh,_,_⟩:=PT hs (hF 0 (by omega)).1;have⟨arr',e2,fz2,g,_,hle⟩:=PT hs (hF (len-1) (by omega)).1;rw[hh]at g;injection g with g;injection g with q A q3;subst q
     have hmul:(len-1)*P.cellsOf e+P.cellsOf e=len*P.cellsOf e:=by rw[<-vq];grind
     have K:∀(i:Nat)c,css[i]? = B1 c->c=(arr.toList.drop (o+i*P.cellsOf e)).take (P.cellsOf e)/\c.length=P.cellsOf e:=λ i c v=>by
      grind [PT]
     have E:css.flatten=(arr.toList.drop o).take (len*P.cellsOf e):=by grind [Xr]
     have⟨θ1,n1,Q,ls,s1,v1,l1,r1⟩:=Vb hR enc W held f css (by grind) θ n gl hg;rw[E]at v1;have hsz:o+len*P.cellsOf e<=arr.size:=by omega
     have J:ls.length=len:=by omega
     have U:ls.flatten.length=len*P.cellsOf e:=by rw[<-v1.length,Is,HQ,Array.length_toList];omega
     have p:=Step.row (l:=ls.flatten) (k:=k) (off:=o) (pre:=arr.toList.take o) (cs:=(arr.toList.drop o).take (len*P.cellsOf e)) (post:=arr.toList.drop (o+len*P.cellsOf e)) (e:=e') (fz:=fz) s1.cU (by
      rw[hh];congr 2;have hq:arr.toList.take o++(arr.toList.drop o).take (len*P.cellsOf e)++arr.toList.drop (o+len*P.cellsOf e)=arr.toList:=by
       grind [FU,wo]
      rw[hq]) (by grind) v1
     refine⟨_,_,_,[.slice n1 0 len cap],s1.trans p,.one ?_,.slice n1 0 len cap,rfl,⟨ls,λ l hl=>?_,⟨by grind,J.symm,by omega,.inr ⟨zd n1,ls.flatten,qt (fz:=(0,0)) (e:=0) (ow:=B2) ?_,?_⟩⟩,.inr (zd n1)⟩,λ k hk=>by cases hk;exact C⟩
     .have:=VR.slice (D:=Lt (n1+1)) (θ:=θ1.add n1 k o 0) (b:=n1) (o:=0) (n:=len) (c:=cap) (zd n1:Lt (n1+1) n1);have⟨q,A,_⟩:=θ1.dY n1 k o 0
      grind [aq]
     .have ⟨i,O⟩:=List.mem_iff_getElem?.1 hl;have I:i<css.length:=by grind
      have⟨q,A⟩:=r1 i l css[i] O (by simp[I]);exact⟨hR.1 _ _ _ q p.fr,by rw[A];exact(K i _ (by simp[I])).2⟩
     .show (Cv ((n1,ls.flatten)::Q) .nil).get n1=_;rw[Cv,T.aH,qv rfl]
     .rw [J,tw,qv (by omega),kq,zh (by omega)]
def Cy:List (ar->List AV->Prop)->ar->List AV->Prop
 |[],_,l=>l=[]
 |R::Rs,H,l=>∃a b,l=a++b/\R H a/\Cy Rs H b
def Cy.em:∀{Rs:List (ar->List AV->Prop)},(∀R∈Rs,∀H H' l,R H l->Fr Em H H'->R H' l) -> ∀H H' l,Cy Rs H l->Fr Em H H'->Cy Rs H' l
 |[],_,_,_,_,h,_=>h
 |R::Rs,hm,H,H',l,⟨a,b,h1,h2,h3⟩,f=>⟨a,b,h1,hm R (by simp) _ _ _ h2 f,Cy.em (λ S d=>hm S (by grind)) _ _ _ h3 f⟩
def VE{r:Type}(enc:IV×Hm->r)(W:J3)(held:Bool)(fuel:Nat){cs:List Hm}:∀{fs:List (IV×Nat×(ar->List AV->Prop))}{k:Nat}{xs:List (MC r×List AA)},
 (∀f∈fs,vK P f.1 f.2.2)->(∀(j:Nat)f,fs[j]? = B1 f->f.2.1=k+((fs.take j).map λ f=>P.cellsOf f.1).sum) ->
 fs.mapM (λ f=>Jv enc P W 0 (λ _=>B4) held fuel f.1 ((cs.drop f.2.1).take (P.cellsOf f.1)))=B1 xs->(∀x∈Aj P (fs.map (·.1)) (xs.map (·.1)),x<=reachBytes) ->
 k+(fs.map λ f=>P.cellsOf f.1).sum<=cs.length -> ∀(θ:Th)(n:Nat)(d:GL),Good W θ n d ->
 ∃θ' n' e l,Step W θ n d θ' n' e/\bH (Lt n') θ' l ((cs.drop k).take ((fs.map λ f=>P.cellsOf f.1).sum))/\Cy (fs.map (·.2.2)) (kn e n') l
 |[],k,xs,_,_,_,_,_,θ,n,d,hg=>⟨θ,n,d,[],Step.refl hg,by simpa using bH.nil,rfl⟩
 |f::fs,k,xs,hf,ho,hm,hw,hl,θ,n,d,hg=>by
  simp only[List.mapM_cons,Option.bind_eq_bind,qd,Option.pure_def,qe]at hm;obtain⟨y,u,ys,q,rfl⟩:=hm;simp only[jm,Aj,zr]at hw;have t:f.2.1=k:=by have:=ho 0 f rfl;simpa using this
  have⟨θ1,n1,h,a,s1,v1,v⟩:=(hf f (by simp)).2 enc W held fuel _ y.1 y.2 u (λ x p=>hw x (.inl p)) θ n d hg;simp only[jm,List.sum_cons]at hl;have⟨θ2,n2,i,b,s2,v2,z⟩:=VE enc W held fuel (cs:=cs) (fs:=fs) (k:=k+P.cellsOf f.1) (by grind) (λ j g hg=>by
   have:=ho (j+1) g (by simpa using hg)
   grind) q (λ x p=>hw x (.inr p)) (by omega) θ1 n1 h s1.cU
  refine⟨θ2,n2,i,a++b,s1.trans s2,?_,a,b,rfl,(hf f (by simp)).1 _ _ _ v s2.fr,z⟩;rw[t]at v1;rw[jm,List.sum_cons,List.take_add,FU];exact(v1.up s2.ag λ b hb=>qj hb s2.le).app v2
def W7{H:Type}{g:IV->List Hm->Option (MC H×List AA)}{cs:List Hm}:∀{fs:List Field}{Rs:List (ar->List AV->Prop)},fs.length=Rs.length ->
 fs.mapM (λ f=>g f.type ((cs.drop f.offset).take (P.cellsOf f.type)))=((fs.zip Rs).map λ x=>(x.1.type,x.1.offset,x.2)).mapM (λ f=>g f.1 ((cs.drop f.2.1).take (P.cellsOf f.1)))
 |[],[],_=>rfl
 |f::fs,R::Rs,h=>by simp only[List.zip_cons_cons,jm,List.mapM_cons,W7 (fs:=fs) (Rs:=Rs) (by simpa using h)]
def χ{t:IV}{fs:Array Field}{Rs:List (ar->List AV->Prop)}(h:P.underlying t=B1 (.struct fs))(hn:fs.toList.length=Rs.length)(hR:∀x∈fs.toList.zip Rs,vK P x.1.type x.2)
 (ho:Lp P 0 fs.toList=B4) (I:(fs.toList.map λ f=>P.cellsOf f.type).sum=P.cellsOf t):vK P t λ H l=>Cy Rs H l:=by
 refine⟨Cy.em λ R p=>?_,?_⟩
 .have ⟨i,J⟩:=List.mem_iff_getElem?.1 p;have A:i<fs.toList.length:=by grind
  have C:(fs.toList.zip Rs)[i]? = B1 (fs.toList[i],R):=by grind
  exact(hR _ (xl C)).1
 intro D enc W held fuel cs d N e q θ n y hg;cases fuel with
 |zero=>cases e
 |succ f =>
  have hlen:cs.length=P.cellsOf t /\ ∃xs,fs.toList.mapM (λ g=>Jv enc P W 0 (λ _=>B4) held f g.type ((cs.drop g.offset).take (P.cellsOf g.type)))=B1 xs /\ ∀x∈Aj P (fs.toList.map (·.type)) (xs.map (·.1)),x<=reachBytes:=by
   simp only[Jv,h]at e;split at e
   .rename_i hl;have⟨xs,hm,a⟩:=xh.1 e;injection a with a _
    exact⟨hl,xs,hm,λ x K=>q x (by grind [As])⟩
   grind
  have⟨hl,xs,hm,hw⟩:=hlen;rw[W7 (Rs:=Rs) hn]at hm;have F:((fs.toList.zip Rs).map λ x=>(x.1.type,x.1.offset,x.2)).map (λ f=>P.cellsOf f.1)=fs.toList.map λ f=>P.cellsOf f.type:=by
   rw[Ep];have:((fs.toList.zip Rs).map λ x=>P.cellsOf x.1.type)=(fs.toList.zip Rs |>.map Prod.fst).map λ f=>P.cellsOf f.type:=by simp_all
   rw[List.map_fst_zip (by omega)]at this;exact this
  have E:((fs.toList.zip Rs).map λ x=>(x.1.type,x.1.offset,x.2)).map (·.1)=fs.toList.map (·.type):=by
   rw[Ep];have:((fs.toList.zip Rs).map λ x=>x.1.type)=(fs.toList.zip Rs |>.map Prod.fst).map (·.type):=by simp_all
   rw[List.map_fst_zip (by omega)]at this;exact this
  have G:((fs.toList.zip Rs).map λ x=>(x.1.type,x.1.offset,x.2)).map (·.2.2)=Rs:=by
   rw[Ep];have:((fs.toList.zip Rs).map λ x=>x.2)=Rs:=by grind [List.map_snd_zip]
   exact this
  have⟨θ',n',z,l,s,v,r⟩:=VE enc W held f (cs:=cs) (k:=0) (fs:=(fs.toList.zip Rs).map λ x=>(x.1.type,x.1.offset,x.2)) (by grind) (λ j g hg=>by
   simp only[xr,xh,List.getElem?_zip_eq_some]at hg;obtain⟨x,⟨u,B⟩,rfl⟩:=hg;have:=zV ho j x.1 u;simp_all) hm (by grind) (by grind) θ n y hg
  grind
end
end Go.Am
namespace Go.Am
open Go.RowKit
section
variable{P:Fv}
def vK.imp{t:IV}{R a:ar->List AV->Prop}(h:vK P t R)(hm:∀H H' l,a H l->Fr Em H H'->a H' l)(g:∀H l,R H l->a H l):vK P t a :=
 ⟨hm,λ enc W held fuel cs d j i hw θ n f hg=>by
  obtain⟨θ',n',e,l,s,v,r⟩:=h.2 enc W held fuel cs d j i hw θ n f hg;exact⟨θ',n',e,l,s,v,g _ _ r⟩⟩
def XL{α β:Type}{f:α->IV}{Q:IV -> β->Prop}:∀(l:List α)(R:List β),(∀x∈(l.map f).zip R,Q x.1 x.2) -> ∀x∈l.zip R,Q (f x.1) x.2
 |[],_,_,x,h=>by simp at h
 |_::_,[],_,x,h=>by simp at h
 |a::l,b::R,hq,x,h=>by
  rcases j8.1 h with rfl|h
  .exact hq (f a,b) (by simp)
  .exact XL l R (λ y d=>hq y (by simp[d])) x h
def Hl{a g:IV}{fs:Array Field}{n:Nat}(p:P.underlying a=B1 (.struct fs))(d:fs.toList.map (·.type)=Fh n g)(uN:P.underlying g=B1 (.int .i64))(j:Lp P 0 fs.toList=B4)(k:(fs.toList.map λ f=>P.cellsOf f.type).sum=P.cellsOf a) :
 vK P a λ H l=>Cy (Fh n λ _ l=>tL .i64 l) H l:=by
 have hn:fs.toList.length=n:=by have:=congrArg List.length d;simpa using this
 refine χ p (by rw[hn];simp) (XL (f:=Field.type) (Q:=vK P) _ _ ?_) j k;rw[d];intro x e;have h:=(List.of_mem_zip e).1;have i:=(List.of_mem_zip e).2;rw[jo h,jo i];exact(DN (zU uN)).σ
end
end Go.Am
namespace Go.Am
open Lang Ca
def Ye:∀(n:Nat)(f:Nat->Nat),(∀i,i<=n->f i<n) -> ∃i j,i<j/\j<=n/\f i=f j
 |0,f,h=>absurd (h 0 (qg 0)) (Nat.not_lt_zero _)
 |n+1,f,h=>by
  by_cases q:∃i,i<=n/\f i=f (n+1)
  .obtain ⟨i,a,b⟩:=q;exact⟨i,n+1,by omega,qg _,b⟩
  have ne:∀i,i<=n->f i≠f (n+1):=λ i a b=>q ⟨i,a,b⟩;have k:=h (n+1) (qg _);obtain⟨i,j,a,b,e⟩:=Ye n (λ i=>if f i<f (n+1)then f i else f i-1) λ i a=>by
   have d:=h i (by omega);have g:=ne i a;show(if f i<f (n+1)then f i else f i-1)<n;split<;>omega
  have d:=ne i (by omega);have g:=ne j b;refine⟨i,j,a,by omega,?_⟩;have e:(if f i<f (n+1)then f i else f i-1)=(if f j<f (n+1)then f j else f j-1):=e;split at e<;>split at e<;>omega
def Ca.Z(c:Ca):Prop:=∀e∈c.sl,e.st≠0->e.line=0->e.d=.zero/\e.w=B2
namespace Ca
section
variable{c:Ca}{L:Int}
def CI.uZ(h:CI L c)(B:L<=((c.cu*c.ways:Nat):Int)){line:Int}(u:0<=line)(v:line<L)(hp:c.pos line=B5):∃i,c.room line=B1 i/\(c.en i).st=0:=by
 unfold room;cases p:cY (c.free line) c.ways with
 |some k =>
  obtain⟨-,b,-⟩:=Fp p;unfold free at b;exact⟨_,rfl,by simpa using b⟩
 |none =>
  exfalso;have f:∀j,j<c.ways->(c.en (c.fr line+j)).st≠0:=λ j A q=>by
   have:=QP p j A;unfold free at this;rw[q]at this;cases this
  have hl:∀k:Int,0<=k->k<L->k.toNat / c.cu<c.ways:=λ k C D=>Nat.div_lt_of_lt_mul (by omega);obtain⟨i,j,a,b,e⟩:=Ye c.ways (λ i=>(if i<c.ways then(c.en (c.fr line+i)).line else line).toNat / c.cu) λ i d=>by
   show(if i<c.ways then(c.en (c.fr line+i)).line else line).toNat / c.cu<c.ways;split
   .rename_i q;obtain⟨-,x,y,-⟩:=h.ok _ (h.gI line q) (f i q);exact hl _ x y
   .exact hl _ u v
  have d:i<c.ways:=by omega
  have e:(if i<c.ways then(c.en (c.fr line+i)).line else line).toNat / c.cu=(if j<c.ways then(c.en (c.fr line+j)).line else line).toNat / c.cu:=e;rw[qv d]at e;obtain⟨-,x,y,z,-⟩:=h.ok _ (h.gI line d) (f i d);rw[h.sN line d]at z;have r:=Nat.div_add_mod (c.en (c.fr line+i)).line.toNat c.cu
  by_cases q:j<c.ways
  .rw [qv q]at e;obtain⟨-,E,F,t,-⟩:=h.ok _ (h.gI line q) (f j q);rw[h.sN line q]at t;have g:=Nat.div_add_mod (c.en (c.fr line+j)).line.toNat c.cu;rw[<-e,<-t,z,r]at g;have:=h.uq _ _ (h.gI line d) (h.gI line q) (f i d) (f j q) (by omega);omega
  .rw [qn q]at e;have g:=Nat.div_add_mod line.toNat c.cu;rw[<-e,z,r]at g;exact h.rB hp _ (h.gI line d) (f i d) (by omega)
theorem Z.en(h:c.Z)(i:Nat):(c.en i).st≠0->(c.en i).line=0->(c.en i).d=.zero/\(c.en i).w=false:=by
 unfold Ca.en;cases q:c.sl[i]? with
 |none=>exact λ w=>absurd rfl w
 |some e=>exact h e (xl q)
def Z.uJ(h:c.Z)(i:Nat){e:En}(he:e.st≠0->e.line=0->e.d=.zero/\e.w=B2){u:Int}:Ca.Z {c with us:=u,sl:=c.sl.set i e}:=λ x q=>(uy q).elim (h x) λ w=>w▸he
theorem Z.set(h:c.Z)(i:Nat){e:En}(he:e.st≠0->e.line=0->e.d=.zero/\e.w=B2):(c.set i e).Z:=λ x q=>(uy q).elim (h x) λ w=>w▸he
theorem Z.word(h:c.Z)(a:Nat):(c.word a).1.Z:=by
 unfold Ca.word;split
 .exact h
 .rename_i i _;exact h.uJ i (e:={c.en i with u:=c.us+1}) (h.en i)
def Z.M7(h:c.Z)(e:CI L c){a:Nat}(ha:a<8):(c.word a).2.getD 0=0:=by
 unfold Ca.word;split
 .rfl
 .rename_i i f;obtain⟨-,-,x,y,-⟩:=e.aX f;show((c.en i).d.get (a % 8))=0;rw[(h.en i x (by rw[y];omega)).1];have:∀k,k<8->L8.zero.get k=0:=by decide
  exact this _ (by omega)
def Z.Lh(h:c.Z)(l:Int):(c.mark l B2).Z:=by
 unfold Ca.mark;rw[qn (by decide)];split
 .exact h
 .rename_i i _;exact h.set i (e:={c.en i with r:=B4}) (h.en i)
def Qk(a:CI L c){l s:Int}{i:Nat}(h:c.kG l s=B1 i):(c.en i).line=l:=(a.aX (sE h).1).2.2.2.1
def Z.Kc(h:c.Z)(a:CI L c){l:Int}(hl:l≠0):(c.mark l B4).Z:=by
 unfold Ca.mark;rw[qv rfl];split
 .exact h
 .rename_i i d;have e:=Qk a d;split
  .exact h
  .exact h.set i λ _ q=>absurd (e.symm.trans q) hl
theorem Z.put(h:c.Z)(f:CI L c){a:Nat}(ha:8<=a)(y:Int):(c.put a y).Z:=by
 unfold Ca.put;split
 .exact h
 .rename_i i g;have e:=Qk f g;exact h.uJ i (e:={c.en i with u:=c.us+1,d:=(c.en i).d.put (a % 8) y}) λ _(q:(c.en i).line=0)=>by rw[e]at q;omega
theorem Z.nO(h:c.Z):c.aT.Z:=λ e q=>by
 obtain⟨x,d,rfl⟩:=CD.1 q;unfold Ca.nO;split
 .exact h x d
 .exact λ a b=>⟨(h x d a b).1,rfl⟩
theorem Z.back(h:c.Z):c.discard.Z:=λ e q=>by
 obtain⟨x,f,rfl⟩:=CD.1 q;unfold Ca.back;split
 .exact h x f
 .intro a b;obtain⟨d,w⟩:=h x f a b;exact⟨by show(if x.w=B4 then x.o else x.d)=_;rw[w,qn (by decide),d],rfl⟩
def Z.bn(h:c.Z)(a:CI L c){l:Int}{d:L8}(g:l=0->d=.zero):(c.bn l d).Z:=by
 unfold Ca.bn;split
 .exact h
 .rename_i i f;have e:=Qk a f;obtain⟨-,-,s,-⟩:=a.aX (sE f).1;exact h.set i λ _(q:(c.en i).line=0)=>⟨g (e.symm.trans q),(h.en i s q).2⟩
end
end Ca
namespace No
structure One(n:No):Prop where
 ni:n.NI
 bk:n.aR=[]
 sz:n.lines<=((n.c.cu*n.c.ways:Nat):Int)
 z:n.c.Z
section
variable{n:No}
def One.ask(h:n.One)(k l:Int):(n.ask k l).1.One/\(n.ask k l).1.live=n.live /\ ∀m∈(n.ask k l).2,m.k=k:=by
 refine⟨?_,?_,KZ⟩
 .unfold No.ask;split
  .exact h
  .exact ⟨⟨h.ni.ci,h.ni.pl⟩,h.bk,h.sz,h.z⟩
 .unfold No.ask;split<;>rfl
def Eh(c:Ca)(a:Nat):(c.word a).1.cu=c.cu/\(c.word a).1.ways=c.ways:=by
 unfold Ca.word;split<;>exact⟨rfl,rfl⟩
def mm(c:Ca)(l:Int)(w:Bool):(c.mark l w).cu=c.cu/\(c.mark l w).ways=c.ways:=by
 unfold Ca.mark;repeat' split
 all_goals exact⟨rfl,rfl⟩
def GU(c:Ca)(a:Nat)(y:Int):(c.put a y).cu=c.cu/\(c.put a y).ways=c.ways:=by
 unfold Ca.put;split<;>exact⟨rfl,rfl⟩
theorem One.load(h:n.One)(a:Int):(n.load a).1.One/\(n.load a).1.live=n.live/\(∀m∈(n.load a).2.2.2.1,m.k=1)/\(0<=a->a<8->(n.load a).2.1=0):=by
 have ni:=h.ni.load a;unfold No.load at ni⊢;split
 .split
  .obtain ⟨x,y,z⟩:=h.ask 1 (ln a);exact⟨x,y,z,λ _ _=>rfl⟩
  .rename_i q _ _ _;rw[qv q]at ni;have i:(if n.live=B4 then n.c.mark (ln a) B2 else n.c).Z/\CI n.lines (if n.live=B4 then n.c.mark (ln a) B2 else n.c)/\(if n.live=B4 then n.c.mark (ln a) B2 else n.c).cu=n.c.cu/\(if n.live=B4 then n.c.mark (ln a) B2 else n.c).ways=n.c.ways:=by
    split
    .exact ⟨h.z.Lh _,h.ni.ci.mark ..,mm ..⟩
    .exact ⟨h.z,h.ni.ci,rfl,rfl⟩
   generalize(if n.live=B4 then n.c.mark (ln a) B2 else n.c)=c at *;obtain⟨z,ci,d,e⟩:=i;obtain⟨f,g⟩:=Eh c a.toNat;refine⟨⟨?_,h.bk,?_,z.word _⟩,rfl,(λ _ w=>nomatch w),λ _ _=>z.M7 ci (by omega)⟩
   .rename_i w;rw[w]at ni;exact ni
   .show n.lines<=(((c.word a.toNat).1.cu*(c.word a.toNat).1.ways:Nat):Int);rw[f,g,d,e];exact h.sz
 .exact ⟨h,rfl,(λ _ w=>nomatch w),λ _ _=>rfl⟩
theorem One.store(h:n.One){a:Int}(ha:8<=a)(y:Int):(n.store a y).1.One/\(n.store a y).1.live=n.live /\ ∀m∈(n.store a y).2.2.1,m.k=2:=by
 have ni:=h.ni.store a y;unfold No.store at ni⊢;split
 .split
  .rename_i q w;rw[qv q,qv w]at ni;have i:(if n.live=B4 then n.c.mark (ln a) B4 else n.c).Z/\CI n.lines (if n.live=B4 then n.c.mark (ln a) B4 else n.c)/\(if n.live=B4 then n.c.mark (ln a) B4 else n.c).cu=n.c.cu/\(if n.live=B4 then n.c.mark (ln a) B4 else n.c).ways=n.c.ways:=by
    split
    .exact ⟨h.z.Kc h.ni.ci (by unfold ln;omega),h.ni.ci.mark ..,mm ..⟩
    .exact ⟨h.z,h.ni.ci,rfl,rfl⟩
   generalize(if n.live=B4 then n.c.mark (ln a) B4 else n.c)=c at *;obtain⟨z,ci,d,e⟩:=i;obtain⟨f,g⟩:=GU c a.toNat y;refine⟨⟨ni,h.bk,?_,z.put ci (by omega) y⟩,rfl,λ _ w=>nomatch w⟩;show n.lines<=(((c.put a.toNat y).cu*(c.put a.toNat y).ways:Nat):Int);rw[f,g,d,e];exact h.sz
  .exact h.ask 2 (ln a)
 .exact ⟨h,rfl,λ _ w=>nomatch w⟩
theorem One.begin(h:n.One):n.begin.One/\n.begin.live=true:=by
 unfold No.begin;split
 .rename_i q;exact⟨h,q⟩
 .exact ⟨⟨⟨h.ni.ci,λ q=>by cases q⟩,h.bk,h.sz,h.z⟩,rfl⟩
theorem One.aT(h:n.One):n.aT.One:=by
 unfold No.aT;split
 .exact ⟨⟨h.ni.ci.aT,λ _=>h.ni.ci.uY⟩,h.bk,h.sz,h.z.nO⟩
 .exact h
def One.abort(h:n.One)(k:Int):(n.abort k).1.One:=by
 unfold No.abort
 repeat' split
 .exact h
 .exact ⟨h.ni.iJ k,h.bk,h.sz,h.z.back⟩
 .exact h
def One.bh(h:n.One){m:Mg}(hk:m.k=14\/m.k=15)(f:m.line=0->m.d=.zero):(n.bh m).1.One/\(n.bh m).1.live=n.live /\ ∀o∈(n.bh m).2,o.k=7:=by
 have ni:=h.ni.bh m;unfold No.bh at ni⊢;split
 .exact ⟨h,rfl,λ _ w=>nomatch w⟩
 rename_i q;rw[qn q]at ni;rw[qn (show¬m.k=11 by omega),qn (show¬(m.k=12\/m.k=13)by omega),qn (show¬m.k=16 by omega)]at ni⊢;cases a:n.c.find m.line with
 |some x =>
  rw[a]at ni;refine⟨⟨ni,h.bk,?_,h.z.bn h.ni.ci f⟩,rfl,λ o w=>by rw[z4.1 w];rfl⟩;show n.lines<=(((n.c.bn m.line m.d).cu*(n.c.bn m.line m.d).ways:Nat):Int);have:(n.c.bn m.line m.d).cu=n.c.cu/\(n.c.bn m.line m.d).ways=n.c.ways:=by unfold Ca.bn;split<;>exact⟨rfl,rfl⟩
  rw[this.1,this.2];exact h.sz
 |none =>
  rw[a]at ni;have hp:n.c.pos m.line=none:=by
   unfold Ca.find at a;cases w:n.c.pos m.line with
   |none=>rfl
   |some k=>rw[w]at a;cases a
  obtain⟨i,hr,hs⟩:=h.ni.ci.uZ h.sz (show 0<=m.line by omega) (show m.line<n.lines by omega) hp;have e:∀st:Int,n.c.fill m.line st m.d=({n.c with us:=n.c.us+1,sl:=n.c.sl.set i ⟨m.line,st,B2,B2,m.d,.zero,n.c.us+1⟩},n.c.en i,0):=λ st=>by
   unfold Ca.fill;rw[hp];simp only;rw[hr]
  have g:No.fill {n with out:=⟨0,0,0,.zero⟩} m=({n with out:=⟨0,0,0,.zero⟩,c:={n.c with us:=n.c.us+1,sl:=n.c.sl.set i ⟨m.line,if m.k=15 then 2 else 1,B2,B2,m.d,.zero,n.c.us+1⟩}},[]):=by
   unfold No.fill No.kH No.dp;simp only[e];rw[qn (by decide),qn (λ q=>q.2 hs)]
  rw[g]at ni⊢;refine⟨⟨ni,h.bk,h.sz,h.z.uJ i λ _ q=>⟨f q,rfl⟩⟩,rfl,λ o w=>by rw[z4.1 w];rfl⟩
end
end No
structure De.One(x:De):Prop where
 ph:x.ph=0\/x.ph=4
 wt:x.wt=[]\/x.ph=4/\x.ow = -1/\x.wt.length=1
def Vy{s:Nat}(h:s<16)(d:∀c:Int,0<=c->c<4->hb s c=1->c<1):bT s 0=0:=by
 have a:=d 1 (by decide) (by decide);have b:=d 2 (by decide) (by decide);have c:=d 3 (by decide) (by decide);clear d;revert a b c h;revert s;unfold bT hb;simp only[show(0:Int).toNat=0 from rfl,show(1:Int).toNat=1 from rfl,show(2:Int).toNat=2 from rfl,show(3:Int).toNat=3 from rfl];intro s h a b c;split<;>omega
section
variable{x:De}{w:L8}{m:Mg}{l:Int}
def De.One.cH(h:x.wt=[]):(x.cH w).1.One/\((x.cH w).2.k=14\/(x.cH w).2.k=15)/\(x.cH w).2.d=w:=by
 unfold De.cH;split
 .exact ⟨⟨.inr rfl,.inl h⟩,.inl rfl,rfl⟩
 .exact ⟨⟨.inr rfl,.inl h⟩,.inr rfl,rfl⟩
theorem De.One.begin(hs:bT x.sh m.core=0)(ho:x.ow = -1)(h:x.wt=[]):(x.begin m w).1.One /\ ∀o∈(x.begin m w).2,(o.k=14\/o.k=15)/\o.d=w:=by
 unfold De.begin;rw[qn (by omega),qv (.inr hs)];obtain⟨a,b⟩:=De.One.cH (x:={x with un:=m,ask:=bT x.sh m.core}) (w:=w) h;exact⟨a,λ o q=>by rw[z4.1 q];exact b⟩
def De.One.bh(f:XI x 1 l)(h:x.One)(hk:m.k=1\/m.k=2\/m.k=7)(t:m.core=0):(x.bh w m).1.One/\(x.bh w m).2.1=w /\ ∀o∈(x.bh w m).2.2,(o.k=14\/o.k=15)/\o.d=w:=by
 have ow:=f.ow;have ds:bT x.sh m.core=0:=by rw[t];exact Vy f.sb f.tH
 unfold De.bh;split
 .exact ⟨h,rfl,λ _ q=>nomatch q⟩
 rename_i hm;have hm:x.may m:=vy.1 hm;unfold De.may at hm;split
 .rename_i g;rw[qv g]at hm;obtain⟨-,v,j⟩:=hm;have p:=h.ph;have o1:x.ow = -1:=by omega
  have wt:x.wt=[]:=by
   cases e:x.wt with
   |nil=>rfl
   |cons y r =>
    have i:y∈x.wt:=by rw[e];exact yd
    have:=f.wt y i;exact absurd ⟨y,i,by omega⟩ j
  split
  .exact ⟨⟨h.ph,.inr ⟨by show x.ph=4;omega,o1,by simp[wt]⟩⟩,rfl,λ _ q=>nomatch q⟩
  .obtain ⟨a,b⟩:=De.One.begin (x:=x) (m:={m with d:=.zero}) (w:=w) ds o1 wt;exact⟨a,rfl,b⟩
 rename_i g;rw[qn (show¬m.k=4 by omega),qn (show¬m.k=5 by omega),qn (show¬m.k=6 by omega),qn (show¬m.k=3 by omega)];split
 .rename_i e;exact⟨⟨.inl rfl,.inl e⟩,rfl,λ _ q=>nomatch q⟩
 .rename_i n r e;have wt:=h.wt;have hn:=f.wt n (by rw[e];exact yd);rw[e]at wt;have u:(n::r)=[]\/x.ph=4/\x.ow = -1/\(n::r).length=1:=wt;obtain⟨-,o1,l1⟩:=u.resolve_left (by simp);have hr:r=[]:=j6.1 (by rw[zy]at l1;omega);obtain⟨a,b⟩:=De.One.begin (x:={x with ph:=0,un:=⟨0,0,0,.zero⟩,wt:=r}) (m:=n) (w:=w) (by rw[show n.core=0 by omega];exact Vy f.sb f.tH) o1 hr;exact⟨a,rfl,b⟩
end
structure Bu.One(b:Bu):Prop where
 nn:b.ns.length=1
 n:∀n∈b.ns,n.One
 x:∀x∈b.l,x.One
 f:∀m∈b.fl,(m.k=1\/m.k=2\/m.k=7\/m.k=14\/m.k=15)/\(m.line=0->m.k=14\/m.k=15->m.d=.zero)
 m:∀w,b.m[0]? = B1 w->w=.zero
def Bu.nd(b:Bu):No:=(b.ns[0]?).getD ⟨0,0,⟨0,0,[],0⟩,⟨0,0,0,.zero⟩,[],B2,0⟩
section
variable{b:Bu}{V:Int->L8}
def Bu.One.nd(h:b.One):b.ns=[b.nd]/\b.nd.One:=by
 have hn:=h.nn;unfold Bu.nd
 match e:b.ns,hn with
 |[n],_=>exact⟨rfl,h.n n (by rw[e];exact yd)⟩
theorem Bu.One.put(h:b.One){r:No×List Mg}(a:r.1.One)(d:∀m∈r.2,m.k=1\/m.k=2\/m.k=7){f:List Mg}(g:∀m∈f,m∈b.fl):Bu.One {b with ns:=b.ns.set 0 r.1,fl:=f++r.2}/\Bu.nd {b with ns:=b.ns.set 0 r.1,fl:=f++r.2} = r.1:=by
 refine⟨⟨by rw[xw];exact h.nn,λ x q=>(uy q).elim (h.n x) λ e=>e▸a,h.x,λ m q=>?_,h.m⟩,?_⟩
 .rcases zr.1 q with q|q
  .exact h.f m (g m q)
  .have:=d m q;exact⟨by omega,λ _ w=>by omega⟩
 .unfold Bu.nd;rw[zf (by have:=h.nn;omega)];rfl
def Bu.One.pK(h:b.One)(hI:BuI b V)(i:Nat):(b.pK i).One/\(b.pK i).nd.live=b.nd.live:=by
 unfold Bu.pK;cases hm:b.fl[i]? with
 |none=>exact⟨h,rfl⟩
 |some m =>
  have he:∀o∈b.fl.eraseIdx i,o∈b.fl:=λ o q=>List.mem_of_mem_eraseIdx q;obtain⟨mk,u,ml⟩:=hI.mw m (xl hm);obtain⟨A,fd⟩:=h.f m (xl hm);rw[h.nn]at u;have d:m.core=0:=by omega
  simp only
  by_cases p:m.k<=7
  .rw [qv p];obtain⟨x,w,j,hw,g⟩:=hI.entry ml.1 ml.2;rw[j,hw];rw[h.nn]at g;obtain⟨a,e,o⟩:=De.One.bh (w:=w) g (h.x x (xl j)) (by omega) d;obtain⟨-,ho⟩:=ZL (w:=w) g (show 0<=m.core/\m.core<1 by omega) rfl;have z:m.line=0->w=.zero:=λ q=>h.m w (by rw[<-hw,q];rfl);refine⟨⟨h.nn,h.n,λ y q=>(uy q).elim (h.x y) λ e=>e▸a,λ y q=>?_,λ y q=>?_⟩,rfl⟩
   .rcases zr.1 q with q|q
    .exact h.f y (he y q)
    .obtain ⟨B,v⟩:=o y q;exact⟨by omega,λ l0 _=>by rw[v];exact z ((ho y q).l.symm.trans l0)⟩
   .have q:(b.m.set m.line.toNat (x.bh w m).2.1)[0]? = B1 y:=q;rw[e]at q
    by_cases l0:m.line.toNat=0
    .rw [l0]at hw q;rw[zf (qo.1 hw).1]at q;injection q with q;rw[<-q];exact h.m w hw
    .rw [zm l0]at q;exact h.m y q
  .rw [qn p];obtain⟨e,hn⟩:=h.nd;have t:b.ns[m.core.toNat]? = B1 b.nd:=by rw[d,e];rfl
   rw[t];obtain⟨a,l,o⟩:=hn.bh (m:=m) (by omega) λ q=>fd q (by omega);have:=h.put (r:=b.nd.bh m) a (λ y q=>.inr (.inr (o y q))) he;rw[d];exact⟨this.1,by rw[<-l];exact congrArg No.live this.2⟩
def Bu.One.call(h:b.One){x:Bt}(a:x.c=0)(i:x.k≠7)(e:(b.nd.call x).1.One)(g:∀m∈(b.nd.call x).2,m.k=1\/m.k=2\/m.k=7):(b.step x).One/\(b.step x).nd=(b.nd.call x).1:=by
 have d:b.ns[x.c.toNat]? = B1 b.nd:=by rw[a,h.nd.1];rfl
 unfold Bu.step;rw[qn i,qv (by omega),d];have:=h.put (r:=b.nd.call x) e g (f:=b.fl) λ _ q=>q;unfold Bu.put;rw[a];exact this
end
def SK(e:iW):Prop:=e.kind<=6->e.lane=1/\e.Ip=0/\(e.kind=6->e.code=7)
def KA(e:lW):Prop:=0<=e.kind/\e.kind<=7/\0<=e.addr
def KA.ite{p:Prop}[Decidable p]{a b:lW}(h:KA a)(g:KA b):KA (if p then a else b):=by split;exact h;exact g
def KA.of{k n r v a:Int}(d:0<=k)(e:k<=7)(ha:0<=a):KA ⟨k,n,r,v,a⟩:=⟨d,e,ha⟩
def GJ(i:iq)(rs:List Int)(pc:Int):KA (i.eM rs pc):=by
 have w:∀n,0<=aj .u64 n:=λ n=>(BL n).1;have z:KA gw:=⟨by decide,by decide,by decide⟩
 have g:∀q,KA (lH i pc q):=λ q=>.ite (.ite z (.of (by decide) (by decide) (by decide))) (.of (by decide) (by decide) (by decide));unfold iq.eM
 repeat' apply KA.ite
 all_goals first|exact z|exact g _|exact .of (by decide) (by decide) (by decide)|exact .of (by decide) (by decide) (w _)
namespace CS
structure Fs(s:CS):Prop where
 id:s.c.id=0
 eh:s.c.la.eh=[0,1,0,0,-1]
 gN:s.c.la.gN=La.gR
 b:s.b.One
 ln:s.c.la.lane=0\/s.c.la.lane=1
 ph:s.c.ph=0\/(s.c.ph=1\/s.c.ph=2\/s.c.ph=3)/\s.c.la.lane=1
 lv:s.c.la.lane=1->s.c.ph≠1->s.b.nd.live=B4
 o:∀e∈s.o,SK e
section
variable{s:CS}
def Fs.uO(h:s.Fs){k a v d:Int}(hk:k<=6->s.c.la.lane=1/\(k=6->d=7)):SK (uO s.c k a v d):=by
 unfold CS.uO;split
 .rename_i q;exact λ w=>by have:=(hk w).1;omega
 .rename_i q;refine λ w=>⟨(hk w).1,?_,(hk w).2⟩
  show La.tries _=0;unfold La.tries;rw[h.gN];decide
def Ot{l:List iW}{e x:iW}{P:iW->Prop}(h:∀y∈l,P y)(he:P e)(q:x∈l ++ [e]):P x:=(zr.1 q).elim (h x) λ q=>by rw[z4.1 q];exact he
def Fs.tell(h:s.Fs){k a v d:Int}(hk:k<=6->s.c.la.lane=1/\(k=6->d=7)):(s.tell k a v d).Fs:={h with o:=λ _ q=>Ot h.o (h.uO hk) q}
def FK(h:s.c.id=0):s.node=s.b.nd:=by unfold node;rw[h];rfl
def Fs.ld(h:s.Fs)(a:Int):(s.ld a).Fs/\(0<=a->a<8->(s.iX a).1=0):=by
 obtain⟨l1,l2,l3,l4⟩:=h.b.nd.2.load a;obtain⟨d,e⟩:=h.b.call (x:=⟨0,s.c.id,a,0,0⟩) h.id (show(0:Int)≠7 by decide) l1 λ m q=>.inl (l3 m q);refine⟨{h with b:=d,lv:=λ q w=>?_},λ q w=>?_⟩
 .show (s.b.step ⟨0,s.c.id,a,0,0⟩).nd.live=B4;rw[e];exact l2.trans (h.lv q w)
 .unfold iX;rw[FK h.id];exact l4 q w
def Fs.st(h:s.Fs){a:Int}(ha:8<=a)(v:Int):(s.st a v).Fs:=by
 obtain⟨l1,l2,l3⟩:=h.b.nd.2.store ha v;obtain⟨d,e⟩:=h.b.call (x:=⟨1,s.c.id,a,v,0⟩) h.id (show(1:Int)≠7 by decide) l1 λ m q=>.inr (.inl (l3 m q));refine{h with b:=d,lv:=λ q w=>?_};show(s.b.step ⟨1,s.c.id,a,v,0⟩).nd.live=B4;rw[e];exact l2.trans (h.lv q w)
def Fs.ft(h:s.Fs)(n:Int):(s.ft n).Fs:={h with}
def Fs.dE(h:s.Fs)(f:lW)(v:Int):(s.dE f v).Fs:=by
 have ln:=h.ln;have:=h.tell (k:=if s.c.la.lane=0 then 7 else 2) (a:=if CC s.c f.addr=B4 then 8+f.addr else 0) (v:=v) (d:=0) λ q=>by
  split at q
  .omega
  .rename_i w;exact⟨by omega,λ e=>by rw[qn w]at e;omega⟩
 exact{this with}
def Fs.kC(h:s.Fs)(f:lW)(a:Int):(s.kC f a).Fs:=by
 have ln:=h.ln;unfold CS.kC;rw[qn (by omega),qn (by omega)];simp only;split
 .exact (h.ld a).1.dE f _
 .exact (h.ld a).1
def Fs.stored(h:s.Fs){k:Int}(hk:k<=6->s.c.la.lane=1/\k≠6)(f:lW)(a:Int):(s.stored k f a).Fs:=by
 have:=h.tell (k:=k) (a:=a) (v:=f.value) (d:=0) λ q=>⟨(hk q).1,λ e=>absurd e (hk q).2⟩
 exact{this with}
def Fs.gU(h:s.Fs)(f:lW){a:Int}(ha:8<=a):(s.gU f a).Fs:=by
 have ln:=h.ln;have hs:=h.st ha f.value;unfold CS.gU;rw[qn (by omega),qn (by omega)];simp only;split
 .split
  .exact hs.stored (λ q=>absurd q (by decide)) f a
  .rename_i w;exact Fs.stored (s:={s.st a f.value with c:={(s.st a f.value).c with wrote:=B4}}) {hs with} (λ _=>⟨show s.c.la.lane=1 by omega,by decide⟩) f a
 .exact hs
def Fs.left(h:s.Fs){b:Bu}{c:Co}{o:List iW}(hb:b.One)(a:c.id=s.c.id)(d:c.la=s.c.la.leave)(f:c.ph=0)(ho:∀e∈o,SK e):Fs ⟨c,b,o⟩:=by
 have ln:=h.ln;have:s.c.la.leave.eh=s.c.la.eh/\s.c.la.leave.gN=La.gR/\s.c.la.leave.lane=0:=by
  unfold La.leave;split
  .rename_i q;exact⟨rfl,h.gN,q⟩
  .exact ⟨rfl,rfl,rfl⟩
 rw[<-d]at this;exact⟨a.trans h.id,this.1.trans h.eh,this.2.1,hb,.inl this.2.2,.inl f,λ q=>by have:=this.2.2;have q:c.la.lane=1:=q;omega,ho⟩
def Fs.cz(h:s.Fs)(hp:s.c.ph=0):s.cz.Fs:=by
 have ln:=h.ln;unfold CS.cz;split
 .exact {h with}
 rename_i q;rw[qn (by omega),qn (by omega)];obtain⟨f,-⟩:=h.b.call (x:=⟨5,s.c.id,7,0,0⟩) h.id (show(5:Int)≠7 by decide) (h.b.nd.2.abort 7) λ m q=>nomatch q;have e:=h.uO (k:=6) (a:=0) (v:=0) (d:=7) λ _=>⟨by omega,λ _=>rfl⟩
 exact Fs.left h f rfl rfl rfl λ x q=>Ot h.o e q
def Fs.ends(h:s.Fs)(hp:s.c.la.lane≠0):s.ends.Fs:=by
 have ln:=h.ln;unfold CS.ends;rw[qn (by omega),qn (by omega),qn (by omega)];obtain⟨f,-⟩:=h.b.call (x:=⟨4,s.c.id,0,0,0⟩) h.id (show(4:Int)≠7 by decide) h.b.nd.2.aT λ m q=>nomatch q;have e:=h.uO (k:=5) (a:=0) (v:=0) (d:=0) λ _=>⟨by omega,λ q=>by cases q⟩
 unfold dk az;simp only;split
 .exact Fs.left h f rfl rfl rfl h.o
 .exact Fs.left h f rfl rfl rfl λ x q=>Ot h.o e q
def Fs.mj(h:s.Fs)(hp:s.c.ph=0):s.mj.Fs:=by
 have ln:=h.ln;unfold CS.mj;split
 .split
  .exact {h with}
  .exact h.cz hp
 obtain⟨a,d,a0⟩:=GJ (s.c.code.getD s.c.fi.pc.toNat ⟨0,0,0,0,0⟩) s.c.fi.rs s.c.fi.pc;simp only;generalize(s.c.code.getD s.c.fi.pc.toNat ⟨0,0,0,0,0⟩).eM s.c.fi.rs s.c.fi.pc=f at *;split
 .exact h.cz hp
 rename_i n;split
 .exact {h with}
 split
 .exact {h with}
 split
 .exact h.ft _
 split
 .exact h.kC f _
 split
 .exact h.gU f (by omega)
 split
 .rename_i q;have l0:s.c.la.lane=0:=jj λ w=>n (by simp[w,q]);have e:s.c.la.enter.lane=1/\s.c.la.enter.eh=[0,1,0,0,-1]/\s.c.la.enter.gN=La.gR:=by
   unfold La.enter;rw[qv l0];exact⟨by show La.after s.c.la.eh 0=1;rw[h.eh];rfl,h.eh,rfl⟩
  exact⟨h.id,e.2.1,e.2.2,h.b,.inr e.1,.inr ⟨.inl rfl,e.1⟩,λ _ w=>absurd rfl w,h.o⟩
 .refine h.ends λ w=>n ?_;have:f.kind=6:=by omega
  simp[w,this]
def Fs.iH(h:s.Fs)(hp:s.c.la.lane=1):s.iH.Fs:=by
 unfold CS.iH;simp only;rw[qv hp];obtain⟨l1,l2⟩:=h.b.nd.2.begin;obtain⟨f,g⟩:=h.b.call (x:=⟨3,s.c.id,0,0,0⟩) h.id (show(3:Int)≠7 by decide) l1 λ m q=>nomatch q;have e:=h.uO (k:=1) (a:=0) (v:=0) (d:=0) λ _=>⟨hp,λ q=>by cases q⟩
 refine⟨h.id,h.eh,h.gN,f,h.ln,.inr ⟨.inr (.inl rfl),hp⟩,λ _ _=>?_,λ x q=>Ot h.o e q⟩;show(s.b.step ⟨3,s.c.id,0,0,0⟩).nd.live=B4;rw[g];exact l2
def Fs.act(h:s.Fs):s.act.Fs:=by
 unfold CS.act;rcases h.ph with p|⟨p|p|p,l⟩
 .rw [qv p];exact h.mj p
 .rw [qn (by omega),qv p];exact h.iH l
 .rw [qn (by omega),qn (by omega),qv p];obtain⟨a,z⟩:=h.ld 1;have z:=z (by decide) (by decide);simp only;split
  .rw [z,qn (λ q=>q rfl)];exact{a with ph:=.inr ⟨.inr (.inr rfl),l⟩,lv:=λ q _=>a.lv q (by show s.c.ph≠1;omega)}
  .exact a
 .rw [qn (by omega),qn (by omega),qn (by omega),qv p];obtain⟨a,z⟩:=h.ld 0;have z:=z (by decide) (by decide);simp only;split
  .rw [z,qn (by decide)];exact{a with ph:=.inl rfl,lv:=λ q _=>a.lv q (by show s.c.ph≠1;omega)}
  .exact a
def Fs.step(h:s.Fs):s.step.1.Fs:=by
 unfold CS.step;split
 .exact h
 split
 .exact h
 split
 .rename_i q;obtain⟨a,e,d⟩:=q;have ln:=h.ln;unfold La.og at a;have l1:s.c.la.lane=1:=by
   rcases ln with w|w
   .rw [w]at a;cases a
   .exact w
  rw[FK h.id,h.lv l1 e]at d;cases d
 .exact h.act
theorem Fs.cl(h:s.Fs):Fs ⟨s.c,s.b,[]⟩:={h with o:=λ _ q=>nomatch q}
def Fs.pK{c:Co}{b:Bu}{o:List iW}{V:Int->L8}(h:Fs ⟨c,b,o⟩)(hI:BuI b V)(i:Nat):Fs ⟨c,b.pK i,[]⟩:=by
 obtain⟨a,e⟩:=h.b.pK hI i;exact{h with b:=a,lv:=λ q w=>e.trans (h.lv q w),o:=λ _ q=>nomatch q}
end
end CS
end Go.Am
namespace Go.Am
open Lang Go.Proofs
variable{M:ak}[MK M]
section
variable{X:SX}{n n':Nat}{s:CS}{c:Co}{b:Bu}{H H':ar}{o:Nat->Nat}{rv ov:AV}{bs:Bs}{own:Nat->Nat}{V:Int->L8}
def PV{o:Nat->Nat}{k z:Nat}(h:bw o k 0 z≠0):z<k/\o z≠0:=by
 rcases xp z k with q|q
 .rw [vx q]at h;exact⟨q,h⟩
 .rw [mG q]at h;exact(h rfl).elim
def uz.lI(h:uz X n c b H o rv bs own V)(t:Bt)(y:fm t.v)(hp:kV X.Hb H X.B bs (b.step t) H'):∃g bw p,uz X (n+1) c (b.step t) H' (Go.Am.bw o H.au 0) rv g bw p/\Fr (iV X.B bs) H H':=by
 obtain⟨i,j,u,k,f⟩:=hp;have nx:H.au<=H'.au:=f.au;refine⟨i,j,_,⟨h.c.fr f (λ z d r e=>r (h.dj z e)) (λ z d=>vx d) (by omega),u,zF h.I t,Ai h.C t,h.U.step t y,by rw[af3];exact h.nn,λ z e=>?_,λ z d e=>?_,λ z d e=>?_,λ z e=>?_,h.fr.trans f λ z q=>?_⟩,f⟩
 .refine jj λ q=>?_;obtain⟨d,q⟩:=PV q;exact(k z e).elim (λ e=>q (h.dj z e)) (by omega)
 .obtain ⟨a,e⟩:=PV e;exact h.hb z a e
 .obtain ⟨a,e⟩:=PV e;exact h.go z a e
 .exact (k z e).elim (h.gb z) λ q=>.inr (xm h.fr.au q)
 .exact (h.gb z q).imp .inr id
def pP.em(h:pP X n s H ov)(f:Fr Em H H'):pP X n s H' ov:=by
 obtain⟨o,rv,bs,own,V,r,w,t⟩:=h;exact⟨_,rv,bs,own,V,r.em f,Own.em w f,λ z q=>(vx (Own.lt w z q)).trans (t z q)⟩
def uz.mono(h:uz X n c b H o rv bs own V)(hn:n<=n'):uz X n' c b H o rv bs own V :=
 {h with c:=h.c.fr (Fr.refl _) (λ _ _ _ w=>w) (λ _ _=>rfl) (by omega),C:=h.C.mono (by omega)}
def pP.mono(h:pP X n s H ov)(hn:n<=n'):pP X n' s H ov:=by
 obtain⟨o,rv,bs,own,V,r,w,t⟩:=h;exact⟨o,rv,bs,own,V,r.mono hn,w,t⟩
def Mv(h:pP X n s H ov)(d:s.Fs)(hn:X.k+n+1<=90000):xz M IW [.ptr X.B 0,.int .i64 0] H λ v H'=>∃e g,(∃m,v=.tuple [.agg (ao m),.int .i64 e])/\(e=0\/e≠0)/\pP X (n+1) {s with b:=g} H' ov/\CS.Fs {s with b:=g}:=by
 obtain⟨o,rv,bs,own,V,r,w,t⟩:=h;have hb:BB s.b:=r.C.bb r.I (by omega);cases hm:s.b.fl[0]? with
 |none =>
  have:s.b.fl.length=0:=by have:=List.getElem?_eq_none_iff.1 hm;omega
  refine(xcb (M:=M) r.b hb (i:=0) (by omega)).mono λ v H'⟨e,f⟩=>?_;exact⟨50,s.b,⟨_,e⟩,.inr (by decide),pP.em ⟨o,rv,bs,own,V,r.mono (jt _),w,t⟩ f,d⟩
 |some m =>
  refine(q6j (M:=M) r.b hb r.I (λ y q=>xm (r.C.wt y q) (by omega)) (i:=0) hm).mono λ v H'⟨e,hp⟩=>?_;have l0:0<s.b.fl.length:=(qo.1 hm).1;have es:s.b.step ⟨7,0,0,0,0⟩=s.b.pK 0:=by unfold Bu.step;rw[qv rfl,qv ⟨vE _,by show(0:Int)<_;omega⟩];rfl
  rw[<-es]at hp;obtain⟨a,bw,p,j,f⟩:=r.lI ⟨7,0,0,0,0⟩ bI hp;rw[es]at j;refine⟨0,s.b.pK 0,⟨_,e⟩,.inl rfl,⟨Go.Am.bw o H.au 0,rv,a,bw,p,j,Own.fr w f λ z q e=>?_,λ z q=>(vx (Own.lt w z q)).trans (t z q)⟩,?_⟩
  .have:=r.dj z e;have:=t z q;omega
  .have:=d.pK r.I 0;exact{this with o:=d.o}
end
end Go.Am
namespace Go.Am
open Lang Go.Proofs
variable{M:ak}[MK M]
section
variable{X:SX}{n:Nat}{s:CS}{H:ar}{ov:AV}
def xal(h:pP X n s H ov)(F:s.Fs)(hk:X.k+n+61<=90000):xz M SJ [.ptr X.B 0] H λ _ H'=>∃a,pP X (n+60) {s with b:=a} H' ov/\CS.Fs {s with b:=a}:=by
 refine q2m ?_;obtain⟨w0,w4,p,t⟩:=q2n M ⟨B5,SJ⟩;simp only[aa,bc,w0];refine dA.intro (λ nn E u=>∃(i:Nat)(a:Bu),E=[(2,.int .i64 (i:Int)),(0,.ptr X.B 0)]/\nn=60-i/\i<=60/\pP X (n+i) {s with b:=a} u ov/\CS.Fs {s with b:=a}) ?_ ?_
 .exact ⟨_,_,⟨0,s.b,rfl,rfl,xu _,h,F⟩,by simp only[aa,bc]⟩
 rintro nn E u ⟨i,a,rfl,rfl,N,r,f⟩;rcases xp i 60 with g|G
 .have j:(i:Int)<60:=by omega
  have K:aj .i64 ((i:Int)+1)=((i+1:Nat):Int):=by rw[jr (by omega) (by omega)];omega
  simp only[aa,bc,w4,qr j,p];refine C3.q (Mv (M:=M) r f (by omega)) λ v H1⟨e,y,⟨m,I⟩,he,d,z⟩=>?_;subst I;obtain⟨A,C,D,-,-⟩:=de H1 (OR (ao m) qy);have s2:Op.store 11 [.ptr H1.au 0,.agg (ao m)] (H1.alloc (OR (ao ⟨0,0,0,.zero⟩) qy))=B1 (.undef,A):=by rw[ir (xf H1 _) (x9 _) (x9 m) (wh m),xer,C]
  have d:=d.em D;rcases he with rfl|he
  .have J:¬ ¬(0:Int)=0:=λ q=>q rfl;simp only[aa,bc,aw,mZ,s2,J,t,K];exact⟨_,_,⟨i+1,y,rfl,rfl,g,d,z⟩,by simp only[aa,bc],by omega⟩
  .simp only[aa,bc,aw,mZ,s2,he];exact⟨y,d.mono (by omega),z⟩
 .have j:¬(i:Int)<60:=by omega
  simp only[aa,bc,w4,j];exact⟨a,r.mono (by omega),f⟩
end
def J2{l:Int}{code:List iq}(a:2<=l)(d:l<=32):CS.Fs ⟨FG 0 l code 1 0 0,jR l 1 8 4 [],[]⟩:=by
 have hn:(jR l 1 8 4 []).ns=[lE 0 l 8 4]:=rfl;have ci:(lE 0 l 8 4).NI:=ZB (cores:=1) ⟨⟨by decide,by decide,by decide,by decide⟩,by decide,by decide,by decide,a,by omega⟩;refine⟨rfl,rfl,rfl,⟨rfl,λ n q=>?_,λ x q=>?_,(λ m q=>nomatch q),λ w q=>?_⟩,.inl rfl,.inl rfl,λ q=>absurd (show(0:Int)=1 from q) (by decide),λ _ q=>nomatch q⟩
 .rw [hn]at q;rw[z4.1 q];exact⟨ci,rfl,by show l<=((8*4:Nat):Int);omega,λ e q=>by rw[jo (show e∈Fh (8*4) En.zero from q)];exact λ w=>absurd rfl w⟩
 .rw [jo (show x∈Fh l.toNat gV from q)];exact⟨.inl rfl,.inl rfl⟩
 .have:=xl (show(Fh l.toNat L8.zero)[0]? = B1 w from q);exact jo this
def j_{H:ar}{cv:AV}{code:List iq}{l st:Int}(hal:∀H1,Fr Em H H1->xz M q4a [] H1 λ v H'=>v=.bool B4/\H'=H1)(hS:tO H)
 (ha:eS fX 5 H cv code):xz M QN [cv,.int .i64 l,.int .i64 st] H λ v _=>v=.bool true:=by
 refine P' ?_;obtain⟨w0,w4,w8,w16,w54,G,w27,w53,w33,A,I,J⟩:=qvz M ⟨B5,QN⟩;simp only[aa,bc,w0];refine C3.q (hal H (Fr.refl H)) λ v Hh⟨hv,hh⟩=>?_;subst hv;subst hh;have bs:Op.build [.int .i64 0,.int .i64 0,.int .i64 0,.int .i64 0] [(0,1),(1,1),(2,1),(3,1)] [.int .i64 l,.int .i64 1,.int .i64 8,.int .i64 4]=B1 (.agg (iz l 1 8 4)):=rfl;have bb:Op.build [.int .i64 0,.int .i64 0,.int .i64 0] [(0,1)] [.int .i64 1]=B1 (.agg [.int .i64 1,.int .i64 0,.int .i64 0]):=rfl;simp only[aa,bc,w4,bs];refine C3.q (t_ (M:=M) l 1 8 4 (fv:=.nils) (fs:=[]) ⟨rfl,rfl⟩ λ q=>absurd rfl q) λ v N hb=>?_;have f2:Fr Em Hh N:=by rcases hb with⟨_,_,f⟩|⟨_,_,_,_,_,_,f⟩<;>exact f
 obtain⟨bv,be,rfl,hbe⟩:∃bv be,v=.tuple [bv,.int .i64 be]/\(be=0->(pZ l 1 8 4) /\ ∃B bs own,bv=.ptr B 0/\fK Hh N B bs (jR l 1 8 4 []) own):=by
  rcases hb with⟨_,q,_⟩|⟨q,B,bs,own,e,r,_⟩
  .exact ⟨_,_,q,λ q=>absurd q (by decide)⟩
  .exact ⟨_,_,e,λ _=>⟨q.1,B,bs,own,rfl,r⟩⟩
 simp only[aa,bc,aw,bb];refine C3.q (q6z (M:=M) (id:=0) (ln:=l) (f:=1) (s:=0) (o:=0) (Sl.em ha f2)) λ v K⟨hq,f3⟩=>?_;obtain⟨pv,U,rfl,hpe⟩:∃pv U,v=.tuple [pv,.int .i64 U]/\(U=0->Pn 0 code.length 1 0 0 l/\U7 N (FG 0 l code 1 0 0) (.tuple [pv,.int .i64 U]) K):=by
  rcases hq with⟨u,h6⟩|⟨_,q⟩
  .obtain ⟨p6,fl6,l6,sp6,F,e,h6'⟩:=h6;exact⟨_,_,e,λ _=>⟨u,p6,fl6,l6,sp6,F,rfl,h6'⟩⟩
  .exact ⟨_,_,q,λ q=>absurd q (by decide)⟩
 by_cases O:be=0
 case neg=>simp only[aa,bc,aw,w8,O]
 by_cases c1:U=0
 case neg=>simp only[aa,bc,aw,w8,O,c1]
 by_cases c2:32<l
 .simp only[aa,bc,aw,w8,O,c1,qr c2]
 obtain⟨u,B,bs,own,rfl,hB⟩:=hbe O;obtain⟨hok6,p,fl,la,sp,F,Q,hp6,ht6⟩:=hpe c1;injection Q with Q;injection Q with Q _;subst Q
 obtain⟨o6,ho6,hc6⟩:=ht6 λ _=>0;have hB3:=hB.em f3;obtain⟨X,C⟩:∃X:SX,X=⟨K,o6,iV B bs,p,fl,la,sp,B,F,Hh,0⟩:=⟨_,rfl⟩
 have z6:∀z,o6 z≠0->N.au<=z:=λ z q=>Nat.le_of_not_lt λ e=>q ((ho6 z e).trans rfl);have r0:pP X 0 ⟨FG 0 l code 1 0 0,jR l 1 8 4 [],[]⟩ K .nils:=by
  subst C;exact⟨o6,.nils,bs,own,λ _=>L8.zero,⟨hc6,hB3,xe1 [] u,xe0,xe2 (λ x q=>by cases q),by show(0:Int)<1;decide,λ z q=>jj λ w=>by have:=z6 z w;have:=hB.low q;omega,λ z zl q=>xm f2.au (z6 z q),λ z q e=>.inl ⟨q,e⟩,λ z q=>.inl q,Fr.refl _⟩,Own.nil ..,λ z q=>(q.1 rfl).elim⟩
 have eB:X.B=B:=by rw[C]
 have ep:X.p=p:=by rw[C]
 have ek:X.k=0:=by rw[C]
 have eX:X.H=K:=by rw[C]
 have y:tO K:=(hS.em f2).em f3;have oG:X.o kc=0:=jj λ q=>by
  have:N.au<=kc:=z6 _ (by rw[C]at q;exact q);have:=(hS.em f2).2;omega
 have wG:¬X.W kc:=λ q=>by
  have:iV B bs kc:=by rw[C]at q;exact q
  have:=hB.lo _ this;have:=hS.2;omega
 have n1:¬ ¬(0:Int)=0:=λ q=>q rfl;simp only[aa,bc,aw,w8,O,c1,c2,n1,w16];clear C;refine dA.intro (λ nn E g=>∃(i:Nat)(s:CS)(ov:AV),E=[(12,.int .i64 (i:Int)),(10,.ptr p 0),(8,.ptr B 0),(7,.bool B4),(2,.int .i64 st)]/\nn=600-i/\i<=600/\pP X (62*i) s g ov/\s.Fs) ?_ ?_
 .exact ⟨_,_,⟨0,_,_,rfl,rfl,xu _,r0,J2 (by have:=u.1.1.1;omega) (by omega)⟩,by simp only[aa,bc]⟩
 rintro nn E g ⟨i,s,ov0,rfl,rfl,hi,hr,hF⟩
 by_cases q0:(i:Int)<st
 case neg=>simp only[aa,bc,G,q0,w54]
 by_cases q1:(i:Int)<600
 case neg=>simp only[aa,bc,G,q0,q1,w54]
 obtain⟨o,rv,bs1,lK,V1,r,-⟩:=hr;have sG:tO g:=by
  have:g.get kc=K.get kc:=by rw[<-eX];exact r.fr.ah _ (by rw[eX];exact y.2) λ q=>q.elim (λ q=>q oG) wG
  exact⟨by unfold ar.bM;rw[this];exact y.1,qj y.2 (by rw[<-eX];exact r.fr.au)⟩
 have oG2:o kc=0:=jj λ q=>(r.go _ sG.2 q).elim (λ w=>w.2 oG) λ w=>by have:=y.2;rw[eX]at w;omega
 have D2:=GO (M:=M) r (by omega) sG oG2;have F1:=hF.cl.step;have ol:=CS.HT ⟨s.c,s.b,[]⟩;generalize CS.step ⟨s.c,s.b,[]⟩=D at *;have epv:X.pv=.iface Cx (.ptr B 0):=by unfold SX.pv;rw[eB]
 rw[ep,epv]at D2;simp only[aa,bc,G,qr q0,qr q1,w27];refine C3.q D2 λ v H4⟨ov,hv,h4⟩=>?_;subst hv;have st2:=xal (M:=M) h4 F1 (by omega);rw[eB]at st2;simp only[aa,bc,aw];refine C3.q st2 λ _ H5⟨b',h5,F5⟩=>?_;obtain⟨o5,rv5,bs5,T,V5,r5,w5,t5⟩:=h5;have sv:=bU.sl w5;have ln:=sv.len;have l3:D.1.o.length<=3:=by obtain⟨l,e,h,-⟩:=ol;rw[e,jh];exact h
 simp only[aa,bc,w33];refine dA.intro (λ nn E g=>∃(k:Nat),E=[(15,.int .i64 (k:Int)),(13,ov),(12,.int .i64 (i:Int)),(10,.ptr p 0),(8,.ptr B 0),(7,.bool B4),(2,.int .i64 st)]/\nn=D.1.o.length-k/\k<=D.1.o.length/\g=H5) ?_ ?_
 .exact ⟨_,_,⟨0,rfl,rfl,xu _,rfl⟩,by simp only[aa,bc]⟩
 rintro nn E g ⟨k,rfl,rfl,hk,rfl⟩;rcases xp k D.1.o.length with t|hge
 .obtain ⟨e,he⟩:∃e,D.1.o[k]? = B1 e:=⟨_,xj t⟩
  have Y:(k:Int)<((D.1.o.length:Nat):Int):=by omega
  have wk:aj .i64 ((k:Int)+1)=((k+1:Nat):Int):=by rw[jr (by omega) (by omega)];omega
  have ix:=sv.idx he (z:=(k:Int)) rfl .i64;have ev:=F1.o e (xl he);have k0:Op.ae [.ptr (aG ov) (cw 9 ov k)] g=B1 (.int .i64 e.kind):=sv.nj Oq he (by decide);have k4:Op.ae [.ptr (aG ov) (cw 9 ov k+4)] g=B1 (.int .i64 e.Ip):=sv.ae Oq he (j:=4) (by decide);have k5:Op.ae [.ptr (aG ov) (cw 9 ov k+5)] g=B1 (.int .i64 e.lane):=sv.ae Oq he (j:=5) (by decide);have k8:Op.ae [.ptr (aG ov) (cw 9 ov k+8)] g=B1 (.int .i64 e.code):=sv.ae Oq he (j:=8) (by decide)
  by_cases q6:e.kind<=6
  .obtain ⟨a,b,d⟩:=ev q6;rw[a]at k5;rw[b]at k4;have S:¬ ¬(1:Int)=1:=λ q=>q rfl;have R:¬ ¬(0:Int)=0:=λ q=>q rfl
   by_cases Z:e.kind=6
   .rw [d Z]at k8;have nn7:¬ ¬(7:Int)=7:=λ q=>q rfl;simp only[aa,bc,A,ln,qr Y,I,J,ix,k0,qr q6,k4,k5,k8,S,R,nn7,qr Z,wk];exact⟨_,_,⟨k+1,rfl,rfl,t⟩,by simp only[aa,bc],by omega⟩
   .simp only[aa,bc,A,ln,qr Y,I,J,ix,k0,qr q6,k4,k5,k8,S,R,Z,wk];exact⟨_,_,⟨k+1,rfl,rfl,t⟩,by simp only[aa,bc],by omega⟩
  .have Z:¬e.kind=6:=by omega
   simp only[aa,bc,A,ln,qr Y,I,J,ix,k0,q6,Z,wk];exact⟨_,_,⟨k+1,rfl,rfl,t⟩,by simp only[aa,bc],by omega⟩
 .have Y:¬(k:Int)<((D.1.o.length:Nat):Int):=by omega
  have wi:aj .i64 ((i:Int)+1)=((i+1:Nat):Int):=by rw[jr (by omega) (by omega)];omega
  simp only[aa,bc,A,ln,Y,w53,wi];exact⟨_,_,⟨i+1,{D.1 with b:=b'},ov,rfl,rfl,by omega,⟨o5,rv5,bs5,T,V5,by rw[show 62*(i+1)=62*i+2+60 by omega];exact r5,w5,t5⟩,F5⟩,by simp only[aa,bc],by omega⟩
end Go.Am
