import Derived.Test.YtgjdmncoonceaaaGreatDoorAmNZe
import Derived.Test.YtgjdmncoonceaaaGreatDoorAmNZn
import Derived.Test.YtgjdmncoonceaaaGreatDoorAmNZa
import Derived.Test.YtgjdmncoonceaaaGreatDoorAmNZf
set_option linter.defProp false
set_option linter.unusedVariables false
set_option linter.unusedSimpArgs false
set_option linter.unusedSectionVars false
set_option maxRecDepth 100000
open Bool renaming false→B2,true→B4
open False renaming elim→Nk
open Go renaming DataW→Qz,IntKind→P0,MemPlace→BE,Program→Kb,TypeId→ME,Value→M9,World→NU
open Go.DataW renaming trod→Of,weights→C4,weightsEach→C5
open List renaming drop_left'→Cj,find?_eq_none→CN,range→N8,replicate→Jm
open Nat renaming beq→J2,blt→PE
open Option renaming none→B5,some→B1
open Prod renaming snd→C9
open Nat renaming reduceEqDiff→bc
namespace Go.Am
open Go.RowKit
section
variable{P:Kb}
def Wt(P:Kb)(t:ME){Hh:Type}(d:Qz Hh):Prop:=∀x∈C4 P t d,x<=reachBytes
theorem _n{a:Type}{e:ME}{x:Nat}{d:Qz a}:∀{l:List (Qz a)},d∈l->x∈C4 P e d->x∈Qz.weightsAll P e l
 |y::l,h,hx=>by
  rw[Qz.weightsAll,ji];rcases kj.1 h with rfl|h
  .grind
  .exact .inr (_n h hx)
def sL(P:Kb)(t:ME)(R:ar->List AV->Prop):Prop :=
 (∀H H' l,R H l->Fr Em H H'->R H' l) /\ ∀{Hh:Type}(enc:ME×M9->Hh)(W:NU)(held:Bool)(fuel:Nat)(cs:List M9)(d:Qz Hh)(ps:List BE),
  Of enc P W 0 (λ _=>B4) held fuel t cs=B1 (d,ps)->Wt P t d -> ∀(θ:Th)(n:Nat)(gl:GL),Good W θ n gl -> ∃θ' n' gl' l,Step W θ n gl θ' n' gl'/\bM (Lt n') θ' l cs/\R (vh gl' n') l
def Yz.W7{t:ME}{R:ar->List AV->Prop}(h:Yz P t R):sL P t R:=⟨h.1,λ enc W held fuel cs d c a _=>h.2 enc W held fuel cs d c a⟩
def xh0{e:ME}{R:ar->List AV->Prop}(hR:sL P e R){o:Type}(enc:ME×M9->o)(W:NU)(held:Bool)(fuel:Nat):∀(a:List (List M9)),(∀cs∈a,∃x,Of enc P W 0 (λ _=>B4) held fuel e cs=B1 x/\Wt P e x.1) ->
 ∀(θ:Th)(n:Nat)(c:GL),Good W θ n c -> ∃(θ':Th)(n':Nat)(d:GL)(ls:List (List AV)),Step W θ n c θ' n' d/\bM (Lt n') θ' ls.flatten a.flatten/\ls.length=a.length /\ ∀(i:Nat)l cs,ls[i]? = B1 l->a[i]? = B1 cs->R (vh d n') l/\l.length=cs.length
 |[],_,θ,n,c,hg=>⟨θ,n,c,[],Step.refl hg,.nil,rfl,λ i l cs h=>by grind⟩
 |cs::a,h,θ,n,c,hg=>by
  have⟨x,r,hw⟩:=h cs (by simp);have⟨θ1,n1,f,l,s1,v1,t⟩:=hR.2 enc W held fuel cs x.1 x.2 r hw θ n c hg;have⟨θ2,n2,g,ls,s2,v2,v,z⟩:=xh0 hR enc W held fuel a (by grind) θ1 n1 f s1.dq;refine⟨θ2,n2,g,l::ls,s1.trans s2,?_,by grind,λ i u cs' j m=>?_⟩
  .rw [List.flatten_cons,List.flatten_cons];exact(v1.up s2.ag λ b hb=>qn hb s2.le).app v2
  .cases i with
   |zero =>
    simp at j m;subst j;subst m;exact⟨hR.1 _ _ _ t s2.fr,v1.length.symm⟩
   |succ i=>grind
def SlW(P:Kb)(e:ME)(R:ar->List AV->Prop)(size:Nat)(H:ar)(u:AV):Prop:=G1 R size H u /\ ∀k,eJ u=B1 k->k*P.bytesOf e<=reachBytes
def Ty{t e:ME}{R:ar->List AV->Prop}(ht:P.underlying t=B1 (.slice e))(hR:sL P e R)(hs:0<P.cellsOf e):sL P t λ H l=>∃u,l=[u]/\SlW P e R (P.cellsOf e) H u:=by
 refine⟨λ H H' l⟨u,v,h2,h3⟩f=>⟨u,v,h2.em hR.1 f,h3⟩,?_⟩;intro Hh enc W held fuel kY d ps h Q θ n gl hg;cases fuel with
 |zero=>cases h
 |succ f =>
  have key:kY=[.slice B5 0 0] \/ ∃a len cap,kY=[.slice (B1 a) len cap]/\len<=cap/\(∀i,i<len -> ∃cs x,W.cells? 0 (a.add (i*P.cellsOf e)) (P.cellsOf e)=B1 cs/\Of enc P W 0 (λ _=>B4) held f e cs=B1 x/\Wt P e x.1)/\len*P.bytesOf e<=reachBytes/\(len<cap -> ∃cs,W.cells? 0 (a.add (len*P.cellsOf e)) (P.cellsOf e)=B1 cs):=by
   simp only[Of,ht]at h;split at h<;>first|(cases h;done)|skip
   all_goals first|(rename_i v;cases v;done)|skip
   .left;rfl
   .right;rename_i e' a len cap v;injection v with v;cases v
    split at h
    .rename_i hb;simp only[qj,ux,xt]at h;have⟨elems,he,rest,j,K⟩:=h;injection K with K _
     have hw1:=Q ((elems.length+rest.length)*P.bytesOf e) (by grind [C4]);have hel0:elems.length=len:=by have:=mapM_some_length he;simpa using this
     refine⟨a,len,cap,rfl,hb.2.1,λ i S=>?_,(by grind),λ hlt=>?_⟩
     .have hl:=mapM_some_length he;have:=mapM_some_get he i i (by grind);have A:i<elems.length:=by omega
      rw[xf A]at this;have⟨cs,r,E⟩:=qj.1 this;refine⟨cs,_,r,E,λ x hx=>Q x ?_⟩
      grind [C4,_n,List.mem_map_of_mem,List.getElem_mem]
     .have hl:=mapM_some_length j;have:=mapM_some_get j 0 0 (by grind);have A:0<rest.length:=by grind
      rw[xf A,vq]at this
      grind [qj]
    .cases h
  rcases key with rfl|⟨a,len,cap,rfl,hlc,X,I,j⟩
  .exact ⟨θ,n,gl,[.nils],Step.refl hg,λ _ _=>rfl,.nils,rfl,⟨[],by simp,⟨by simp,rfl⟩,.inl rfl⟩,(λ k hk=>by cases hk;simp)⟩
  .have ⟨k,o,s⟩:=a
   by_cases h0:cap=0
   .subst h0;have:len=0:=by omega
    subst this;have hst:=Step.Rb hg k o (tG s);refine⟨_,_,_,[.eslice n],hst,.one ?_,.eslice n,rfl,⟨[],by simp,⟨by simp,rfl,zt n⟩,.inr (zt n)⟩,(λ k hk=>by cases hk;simp)⟩;intro θ' hθ;have⟨r,E,q3⟩:=θ.eR n k o (tG s);have⟨r1,r2,r3⟩:=hθ n (zt n)
    grind [az,ad2]
   .have Z:s=none:=by
     by_cases C:len=0
     .subst C;have⟨cs,z⟩:=j (by omega);rw[As]at z;exact u' hs (by simpa[Addr.add]using z)
     .have ⟨cs,x,z,_,_⟩:=X 0 (by omega);rw[As]at z;exact u' hs (by simpa[Addr.add]using z)
    subst Z
    by_cases C:len=0
    .subst C;refine⟨_,_,_,[.slice n 0 0 cap],Step.bare hg k o,.one ?_,.slice n 0 0 cap,rfl,⟨[],by simp,⟨by simp,rfl,xz _,.inl rfl⟩,.inr (zt n)⟩,(λ k hk=>by cases hk;simp)⟩;have:=VR.slice (D:=Lt (n+1)) (θ:=θ.add n k o 0) (b:=n) (o:=0) (n:=0) (c:=cap) (zt n:Lt (n+1) n);have⟨r,E,_⟩:=θ.eR n k o 0
     grind [az]
    .have hex:∀i:Nat,∃cs,i<len->W.cells? 0 ⟨k,o+i*P.cellsOf e,B5⟩ (P.cellsOf e)=B1 cs /\ ∃x,Of enc P W 0 (λ _=>B4) held f e cs=B1 x/\Wt P e x.1:=λ i=>by
      by_cases S:i<len
      .grind [zK]
      .exact ⟨[],λ h=>(S h).elim⟩
     have⟨F,hF⟩:=Classical.axiomOfChoice hex
     let css:=(N8 len).map F
     have hcl:css.length=len:=by grind
     have hcg:∀(i:Nat)c,css[i]? = B1 c->i<len/\c=F i:=λ i c z=>by
      grind
     have⟨arr,e',fz,hh,_,_⟩:=ZE hs (hF 0 (by omega)).1;have⟨arr',e2,fz2,g,_,hle⟩:=ZE hs (hF (len-1) (by omega)).1;rw[hh]at g;injection g with g;injection g with r E q3;subst r
     have hmul:(len-1)*P.cellsOf e+P.cellsOf e=len*P.cellsOf e:=by rw[<-vr];grind
     have O:∀(i:Nat)c,css[i]? = B1 c->c=(arr.toList.drop (o+i*P.cellsOf e)).take (P.cellsOf e)/\c.length=P.cellsOf e:=λ i c z=>by
      grind [ZE]
     have J:css.flatten=(arr.toList.drop o).take (len*P.cellsOf e):=by grind [E_]
     have⟨θ1,n1,U,ls,s1,v1,l1,r1⟩:=xh0 hR enc W held f css (by grind) θ n gl hg;rw[J]at v1;have hsz:o+len*P.cellsOf e<=arr.size:=by omega
     have N:ls.length=len:=by omega
     have Y:ls.flatten.length=len*P.cellsOf e:=by rw[<-v1.length,jq,j9,Array.length_toList];omega
     have m:=Step.row (l:=ls.flatten) (k:=k) (off:=o) (pre:=arr.toList.take o) (cs:=(arr.toList.drop o).take (len*P.cellsOf e)) (post:=arr.toList.drop (o+len*P.cellsOf e)) (e:=e') (fz:=fz) s1.dq (by
      rw[hh];congr 2;have hq:arr.toList.take o++(arr.toList.drop o).take (len*P.cellsOf e)++arr.toList.drop (o+len*P.cellsOf e)=arr.toList:=by
       grind [Gk,yr]
      rw[hq]) (by grind) v1
     refine⟨_,_,_,[.slice n1 0 len cap],s1.trans m,.one ?_,.slice n1 0 len cap,rfl,⟨ls,λ l hl=>?_,⟨by grind,N.symm,by omega,.inr ⟨zt n1,ls.flatten,xc (fz:=(0,0)) (e:=0) (ow:=B2) ?_,?_⟩⟩,.inr (zt n1)⟩,λ k hk=>by cases hk;exact I⟩
     .have:=VR.slice (D:=Lt (n1+1)) (θ:=θ1.add n1 k o 0) (b:=n1) (o:=0) (n:=len) (c:=cap) (zt n1:Lt (n1+1) n1);have⟨r,E,_⟩:=θ1.eR n1 k o 0
      grind [az]
     .have ⟨i,S⟩:=List.mem_iff_getElem?.1 hl;have L:i<css.length:=by grind
      have⟨r,E⟩:=r1 i l css[i] S (by simp[L]);exact⟨hR.1 _ _ _ r m.fr,by rw[E];exact(O i _ (by simp[L])).2⟩
     .show (Gi ((n1,ls.flatten)::U) .nil).get n1=_;rw[Gi,T.aJ,xg rfl]
     .rw [N,tj,xg (by omega),yv,zh (by omega)]
def DN:List (ar->List AV->Prop)->ar->List AV->Prop
 |[],_,l=>l=[]
 |R::Rs,H,l=>∃a b,l=a++b/\R H a/\DN Rs H b
def DN.em:∀{Rs:List (ar->List AV->Prop)},(∀R∈Rs,∀H H' l,R H l->Fr Em H H'->R H' l) -> ∀H H' l,DN Rs H l->Fr Em H H'->DN Rs H' l
 |[],_,_,_,_,h,_=>h
 |R::Rs,hm,H,H',l,⟨a,b,h1,h2,h3⟩,f=>⟨a,b,h1,hm R (by simp) _ _ _ h2 f,DN.em (λ S c=>hm S (by grind)) _ _ _ h3 f⟩
def _b{r:Type}(enc:ME×M9->r)(W:NU)(held:Bool)(fuel:Nat){cs:List M9}:∀{fs:List (ME×Nat×(ar->List AV->Prop))}{k:Nat}{xs:List (Qz r×List BE)},
 (∀f∈fs,sL P f.1 f.2.2)->(∀(j:Nat)f,fs[j]? = B1 f->f.2.1=k+((fs.take j).map λ f=>P.cellsOf f.1).sum) ->
 fs.mapM (λ f=>Of enc P W 0 (λ _=>B4) held fuel f.1 ((cs.drop f.2.1).take (P.cellsOf f.1)))=B1 xs->(∀x∈C5 P (fs.map (·.1)) (xs.map (·.1)),x<=reachBytes) ->
 k+(fs.map λ f=>P.cellsOf f.1).sum<=cs.length -> ∀(θ:Th)(n:Nat)(c:GL),Good W θ n c ->
 ∃θ' n' d l,Step W θ n c θ' n' d/\bM (Lt n') θ' l ((cs.drop k).take ((fs.map λ f=>P.cellsOf f.1).sum))/\DN (fs.map (·.2.2)) (vh d n') l
 |[],k,xs,_,_,_,_,_,θ,n,c,hg=>⟨θ,n,c,[],Step.refl hg,by simpa using bM.nil,rfl⟩
 |f::fs,k,xs,hf,ho,hm,hw,hl,θ,n,c,hg=>by
  simp only[List.mapM_cons,Option.bind_eq_bind,qj,Option.pure_def,qk]at hm;obtain⟨y,u,ys,o,rfl⟩:=hm;simp only[kh,C5,ji]at hw;have t:f.2.1=k:=by have:=ho 0 f rfl;simpa using this
  have⟨θ1,n1,e,a,s1,v1,v⟩:=(hf f (by simp)).2 enc W held fuel _ y.1 y.2 u (λ x m=>hw x (.inl m)) θ n c hg;simp only[kh,List.sum_cons]at hl;have⟨θ2,n2,h,b,s2,v2,z⟩:=_b enc W held fuel (cs:=cs) (fs:=fs) (k:=k+P.cellsOf f.1) (by grind) (λ j g hg=>by
   have:=ho (j+1) g (by simpa using hg)
   grind) o (λ x m=>hw x (.inr m)) (by omega) θ1 n1 e s1.dq
  refine⟨θ2,n2,h,a++b,s1.trans s2,?_,a,b,rfl,(hf f (by simp)).1 _ _ _ v s2.fr,z⟩;rw[t]at v1;rw[kh,List.sum_cons,List.take_add,Gk];exact(v1.up s2.ag λ b hb=>qn hb s2.le).app v2
def oM{H:Type}{g:ME->List M9->Option (Qz H×List BE)}{cs:List M9}:∀{fs:List Field}{Rs:List (ar->List AV->Prop)},fs.length=Rs.length ->
 fs.mapM (λ f=>g f.type ((cs.drop f.offset).take (P.cellsOf f.type)))=((fs.zip Rs).map λ x=>(x.1.type,x.1.offset,x.2)).mapM (λ f=>g f.1 ((cs.drop f.2.1).take (P.cellsOf f.1)))
 |[],[],_=>rfl
 |f::fs,R::Rs,h=>by simp only[List.zip_cons_cons,kh,List.mapM_cons,oM (fs:=fs) (Rs:=Rs) (by simpa using h)]
def _s{t:ME}{fs:Array Field}{Rs:List (ar->List AV->Prop)}(h:P.underlying t=B1 (.struct fs))(hn:fs.toList.length=Rs.length)(hR:∀x∈fs.toList.zip Rs,sL P x.1.type x.2)
 (ho:IH P 0 fs.toList=B4) (J:(fs.toList.map λ f=>P.cellsOf f.type).sum=P.cellsOf t):sL P t λ H l=>DN Rs H l:=by
 refine⟨DN.em λ R e=>?_,?_⟩
 .have ⟨i,K⟩:=List.mem_iff_getElem?.1 e;have A:i<fs.toList.length:=by grind
  have D:(fs.toList.zip Rs)[i]? = B1 (fs.toList[i],R):=by grind
  exact(hR _ (zg D)).1
 intro E enc W held fuel cs d N c m θ n u hg;cases fuel with
 |zero=>cases c
 |succ f =>
  have hlen:cs.length=P.cellsOf t /\ ∃xs,fs.toList.mapM (λ g=>Of enc P W 0 (λ _=>B4) held f g.type ((cs.drop g.offset).take (P.cellsOf g.type)))=B1 xs /\ ∀x∈C5 P (fs.toList.map (·.type)) (xs.map (·.1)),x<=reachBytes:=by
   simp only[Of,h]at c;split at c
   .rename_i hl;have⟨xs,hm,a⟩:=xt.1 c;injection a with a _
    exact⟨hl,xs,hm,λ x L=>m x (by grind [C4])⟩
   grind
  have⟨hl,xs,hm,hw⟩:=hlen;rw[oM (Rs:=Rs) hn]at hm;have e1:((fs.toList.zip Rs).map λ x=>(x.1.type,x.1.offset,x.2)).map (λ f=>P.cellsOf f.1)=fs.toList.map λ f=>P.cellsOf f.type:=by
   rw[Ba];have:((fs.toList.zip Rs).map λ x=>P.cellsOf x.1.type)=(fs.toList.zip Rs |>.map Prod.fst).map λ f=>P.cellsOf f.type:=by simp_all
   rw[List.map_fst_zip (by omega)]at this;exact this
  have I:((fs.toList.zip Rs).map λ x=>(x.1.type,x.1.offset,x.2)).map (·.1)=fs.toList.map (·.type):=by
   rw[Ba];have:((fs.toList.zip Rs).map λ x=>x.1.type)=(fs.toList.zip Rs |>.map Prod.fst).map (·.type):=by simp_all
   rw[List.map_fst_zip (by omega)]at this;exact this
  have e2:((fs.toList.zip Rs).map λ x=>(x.1.type,x.1.offset,x.2)).map (·.2.2)=Rs:=by
   rw[Ba];have:((fs.toList.zip Rs).map λ x=>x.2)=Rs:=by grind [List.map_snd_zip]
   exact this
  have⟨θ',n',z,l,s,v,r⟩:=_b enc W held f (cs:=cs) (k:=0) (fs:=(fs.toList.zip Rs).map λ x=>(x.1.type,x.1.offset,x.2)) (by grind) (λ j g hg=>by
   simp only[xm,xt,List.getElem?_zip_eq_some]at hg;obtain⟨x,⟨o,C⟩,rfl⟩:=hg;have:=E9 ho j x.1 o;simp_all) hm (by grind) (by grind) θ n u hg
  grind
end
end Go.Am
namespace Go.Am
open Go.RowKit
section
variable{P:Kb}
def sL.imp{t:ME}{R a:ar->List AV->Prop}(h:sL P t R)(hm:∀H H' l,a H l->Fr Em H H'->a H' l)(f:∀H l,R H l->a H l):sL P t a :=
 ⟨hm,λ enc W held fuel cs d j g hw θ n e hg=>by
  obtain⟨θ',n',c,l,s,v,r⟩:=h.2 enc W held fuel cs d j g hw θ n e hg;exact⟨θ',n',c,l,s,v,f _ _ r⟩⟩
def Xo{α β:Type}{f:α->ME}{Q:ME -> β->Prop}:∀(l:List α)(R:List β),(∀x∈(l.map f).zip R,Q x.1 x.2) -> ∀x∈l.zip R,Q (f x.1) x.2
 |[],_,_,x,h=>by simp at h
 |_::_,[],_,x,h=>by simp at h
 |a::l,b::R,hq,x,h=>by
  rcases kj.1 h with rfl|h
  .exact hq (f a,b) (by simp)
  .exact Xo l R (λ y c=>hq y (by simp[c])) x h
def ZJ{tS d:ME}{fs:Array Field}{n:Nat}(uS:P.underlying tS=B1 (.struct fs))(a:fs.toList.map (·.type)=Jm n d)(uN:P.underlying d=B1 (.int .i64))(h:IH P 0 fs.toList=B4)(j:(fs.toList.map λ f=>P.cellsOf f.type).sum=P.cellsOf tS) :
 sL P tS λ H l=>DN (Jm n λ _ l=>ub .i64 l) H l:=by
 have hn:fs.toList.length=n:=by have:=congrArg List.length a;simpa using this
 refine _s uS (by rw[hn];simp) (Xo (f:=Field.type) (Q:=sL P) _ _ ?_) h j;rw[a];intro x c;have e:=(List.of_mem_zip c).1;have g:=(List.of_mem_zip c).2;rw[vz e,vz g];exact(WW (YO uN)).W7
end
end Go.Am
namespace Go.Am
open Go.RowKit Lang
section
variable{P:Kb}
def Zr(l c s w:Int)(pv:AV)(f so sf:Int)(fv:AV):List AV:=[.int .i64 l,.int .i64 c,.int .i64 s,.int .i64 w,pv,.int .i64 f,.int .i64 so,.int .i64 sf,fv]
def vS(H:ar)(u:AV):Prop:=u=.nils\/aF u<H.au
def vS.em{H H':ar}{u:AV}(h:vS H u)(f:H.au<=H'.au):vS H' u:=h.imp id λ q=>qn q f
def vS.lt{α:Type}{enc:α->List AV}{size:Nat}{H:ar}{u:AV}{xs:List α}(h:vS H u)(hs:bX enc size H u xs)(a:xs≠[]):aF u<H.au:=by
 rcases h with rfl|h
 .exact (a (zy.1 hs.2)).elim
 .exact h
def G1.ltB{R:ar->List AV->Prop}{size:Nat}{H:ar}{u:AV}(h:G1 R size H u):vS H u:=by
 have⟨_,_,_,q⟩:=h;exact q
def kG(H:ar)(u:List AV):Prop:=∃l c s w f so sf pv fv ps fs,u=Zr l c s w pv f so sf fv/\bX lV 1 H pv ps/\(∀p∈ps,bX gR 1 H p.1 p.2/\Bytes p.2/\vS H p.1/\p.2.length<=reachBytes)/\bX cu 8 H fv fs/\(∀x∈fs,x.u)/\vS H fv/\ps.length<=reachBytes
def kG.em{H H':ar}{u:List AV}(h:kG H u)(fr:Fr Em H H'):kG H' u:=by
 have⟨l,c,s,w,f,so,r,pv,fv,o,fs,d,e,a,g,j,m,n⟩:=h;exact⟨l,c,s,w,f,so,r,pv,fv,o,fs,d,e.em fr,λ p q=>⟨(a p q).1.em fr,(a p q).2.1,(a p q).2.2.1.em fr.au,(a p q).2.2.2⟩,g.em fr,j,m.em fr.au,n⟩
def wf_u8{a:Int}(h:(Lit.int .u8 a).wf=B4):0<=a/\a<256:=by
 simp[Lit.wf,P0.min,P0.max,IntKind.bits,IntKind.signed]at h;omega
def wf_u64{a:Int}(h:(Lit.int .u64 a).wf=B4):fG a:=by
 simp[Lit.wf,P0.min,P0.max,IntKind.bits,IntKind.signed]at h;unfold fG;omega
def xnj{tC tB:ME}(j:P.underlying tC=B1 (.slice tB))(uY:P.underlying tB=B1 (.int .u8))(m:P.cellsOf tB=1)(o:0<P.bytesOf tB):sL P tC λ H l=>∃u,l=[u] /\ ∃bs:List Int,bX gR 1 H u bs/\Bytes bs/\vS H u/\bs.length<=reachBytes:=by
 refine(Ty j (WW (YO uY)).W7 (by rw[m];decide)).imp ?_ λ H l h=>?_
 .rintro H H' l ⟨u,c,xs,e,d,g,r⟩ f;exact⟨u,c,xs,e.em f,d,g.em f.au,r⟩
 .obtain ⟨u,rfl,c,e⟩:=h;have lt:=G1.ltB c;rw[m]at c;have⟨xs,d,g⟩:=SM (enc:=gR) (Q:=λ x=>0<=x/\x<256) (λ l h=>by
   obtain⟨a,rfl,n⟩:=h;exact⟨a,rfl,by have:=wf_u8 n;omega⟩) c
  exact⟨u,rfl,xs,d,g,lt,xy (Nat.le_mul_of_pos_right _ o) (e _ (Sl.eJ d))⟩
def xnl{tM tS tK tC tY tB tF tL t tU:ME}{ms ss bs:Array Field}(uM:P.underlying tM=B1 (.struct ms))(J:ms.toList.map (·.type)=[tS,tK,tB,tF])(uS:P.underlying tS=B1 (.struct ss))(S:ss.toList.map (·.type)=[t,t,t,t])
 (uK:P.underlying tK=B1 (.slice tC)) (D:P.underlying tC=B1 (.slice tY)) (uY:P.underlying tY=B1 (.int .u8)) (uB:P.underlying tB=B1 (.struct bs)) (O:bs.toList.map (·.type)=[t,t,t]) (Z:P.underlying tF=B1 (.slice tL)) (uL:P.underlying tL=B1 (.array 8 tU)) (uU:P.underlying tU=B1 (.int .u64)) (uN:P.underlying t=B1 (.int .i64))
 (E:P.cellsOf tC=1) (L:P.cellsOf tY=1) (bY:0<P.bytesOf tY) (bC:0<P.bytesOf tC) (I:P.cellsOf tL=8) (K:8*P.cellsOf tU=P.cellsOf tL) (T:IH P 0 ms.toList=B4) (X:(ms.toList.map λ f=>P.cellsOf f.type).sum=P.cellsOf tM) (U:IH P 0 ss.toList=B4) (Y:(ss.toList.map λ f=>P.cellsOf f.type).sum=P.cellsOf tS)
 (oB:IH P 0 bs.toList=B4) (W:(bs.toList.map λ f=>P.cellsOf f.type).sum=P.cellsOf tB):sL P tM kG:=by
 have hm:ms.toList.length=4:=by have:=congrArg List.length J;simpa using this
 have C:sL P tK λ H l=>∃u,l=[u] /\ ∃o:List (AV×List Int),bX lV 1 H u o/\(∀p∈o,bX gR 1 H p.1 p.2/\Bytes p.2/\vS H p.1/\p.2.length<=reachBytes)/\o.length<=reachBytes:=by
  refine(Ty uK (xnj D uY L bY) (by rw[E];decide)).imp ?_ λ H l h=>?_
  .rintro H H' l ⟨u,m,xs,r,j⟩ f;exact⟨u,m,xs,r.em f,λ p q=>⟨(j.1 p q).1.em f,(j.1 p q).2.1,(j.1 p q).2.2.1.em f.au,(j.1 p q).2.2.2⟩,j.2⟩
  .obtain ⟨u,rfl,m,r⟩:=h;rw[E]at m;have⟨xs,j,v⟩:=SM (enc:=lV) (Q:=λ p=>bX gR 1 H p.1 p.2/\Bytes p.2/\vS H p.1/\p.2.length<=reachBytes) (λ l h=>by
    obtain⟨u,rfl,b,h⟩:=h;exact⟨(u,b),rfl,h⟩) m
   exact⟨u,rfl,xs,j,v,xy (Nat.le_mul_of_pos_right _ bC) (r _ (Sl.eJ j))⟩
 have R:sL P tF λ H l=>∃u,l=[u] /\ ∃fs:List L8,bX cu 8 H u fs/\(∀x∈fs,x.u)/\vS H u:=by
  refine(Ty Z (WW (xi6 uL (YO uU) K)).W7 (by rw[I];decide)).imp ?_ λ H l h=>?_
  .rintro H H' l ⟨u,m,xs,r,j,v⟩ f;exact⟨u,m,xs,r.em f,j,v.em f.au⟩
  .obtain ⟨u,rfl,m,r⟩:=h;have lt:=G1.ltB m;rw[I]at m;have⟨xs,j,v⟩:=SM (enc:=cu) (Q:=λ x=>x.u) (λ l h=>by
    obtain⟨_,_,rfl,⟨a,rfl,qa⟩,_,_,rfl,⟨b,rfl,qb⟩,_,_,rfl,⟨c,rfl,qc⟩,_,_,rfl,⟨d,rfl,qd⟩,_,_,rfl,⟨e,rfl,qe⟩,_,_,rfl,⟨f,rfl,qf⟩,_,_,rfl,⟨g,rfl,qg⟩,_,_,rfl,⟨i,rfl,qi⟩,rfl⟩:=h;refine⟨⟨[a,b,c,d,e,f,g,i],rfl⟩,rfl,?_⟩;intro x z;have z:x∈[a,b,c,d,e,f,g,i]:=z;simp only[kj,Ob,or_false]at z;rcases z with rfl|rfl|rfl|rfl|rfl|rfl|rfl|rfl<;>(refine wf_u64 ?_;assumption)) m
   exact⟨u,rfl,xs,j,v,lt⟩
 refine(_s (Rs:=[λ H l=>DN (Jm 4 λ _ l=>ub .i64 l) H l,λ H l=>∃u,l=[u] /\ ∃o:List (AV×List Int),bX lV 1 H u o/\(∀p∈o,bX gR 1 H p.1 p.2/\Bytes p.2/\vS H p.1/\p.2.length<=reachBytes)/\o.length<=reachBytes,λ H l=>DN (Jm 3 λ _ l=>ub .i64 l) H l,λ H l=>∃u,l=[u] /\ ∃fs:List L8,bX cu 8 H u fs/\(∀x∈fs,x.u)/\vS H u]) uM (by rw[hm];rfl)
  (Xo (f:=Field.type) (Q:=sL P) _ _ (by
   rw[J];intro x z;simp only[List.zip_cons_cons,List.zip_nil_right,kj,Ob,or_false]at z;rcases z with rfl|rfl|rfl|rfl
   .exact ZJ (n:=4) uS S uN U Y
   .exact C
   .exact ZJ (n:=3) uB O uN oB W
   .exact R)) T X).imp ?_ λ H l h=>?_
 .exact λ H H' u h fr=>h.em fr
 .obtain ⟨_,_,rfl,⟨_,_,rfl,⟨a,rfl,_⟩,_,_,rfl,⟨b,rfl,_⟩,_,_,rfl,⟨c,rfl,_⟩,_,_,rfl,⟨d,rfl,_⟩,rfl⟩,_,_,rfl,⟨pv,rfl,o,m,r,A⟩,_,_,rfl,⟨_,_,rfl,⟨e,rfl,_⟩,_,_,rfl,⟨f,rfl,_⟩,_,_,rfl,⟨g,rfl,_⟩,rfl⟩,_,_,rfl,⟨fv,rfl,fs,j,v,N⟩,rfl⟩:=h;exact⟨a,b,c,d,e,f,g,pv,fv,o,fs,rfl,m,r,j,v,N,A⟩
end
end Go.Am
namespace Go.Am
open Lang Go.Proofs
variable{M:ak}[MK M]
def pk.at{H H':ar}(h:pk H)(n:H.au<=H'.au)(e:H'.get yt=H.get yt):pk H':=⟨by unfold ar.bV;rw[e];exact h.1,qn h.2 n⟩
def bX.low{α:Type}{enc:α->List AV}{size:Nat}{H H':ar}{u:AV}{xs:List α}(h:bX enc size H u xs)(n:H.au<=H'.au)(hl:xs≠[]->aF u<H.au)(e:xs≠[]->H'.get (aF u)=H.get (aF u)):bX enc size H' u xs:=by
 by_cases q:xs=[]
 .exact Sl.fr h (W:=λ _=>True) ⟨n,λ z _ t=>(t trivial).elim⟩ (.inl (by rw[q];rfl))
 .exact Sl.fr h (W:=λ z=>z≠aF u) ⟨n,λ z _ t=>by have t:=wq.1 t;rw[t];exact e q⟩ (.inr λ t=>t rfl)
def W1(nb:Nat)(H:ar)(w k:Nat)(x:Wo)(F:Nat->Prop):Prop:=∃Hb B cvs hv bs own ks V,Hb.au=nb/\fD Hb H w B cvs hv bs own ks V k x /\ ∀z,F z->lj H w B cvs hv bs ks z
section
variable{H H':ar}{nb w k:Nat}{x y:Wo}{F G:Nat->Prop}
def W1.lt(h:W1 nb H w k x F){z:Nat}(q:F z):z<H.au:=by
 have⟨Hb,B,a,c,bs,own,ks,V,e,r,f⟩:=h;exact(f z q).lt
def W1.sub(h:W1 nb H w k x F)(g:∀z,G z->F z):W1 nb H w k x G:=by
 have⟨Hb,B,a,c,bs,own,ks,V,e,r,f⟩:=h;exact⟨Hb,B,a,c,bs,own,ks,V,e,r,λ z q=>f z (g z q)⟩
def W1.low(h:W1 nb H w k x F):nb<=H.au:=by
 have⟨Hb,B,a,c,bs,own,ks,V,e,r,f⟩:=h;have:=r.b.lo B (.inl rfl);have:=r.b.lt;omega
def W1.below(h:W1 nb H w k x F):W1 nb H w k x (λ z=>F z\/z<nb):=by
 have nl:=h.low;have⟨Hb,B,a,c,bs,own,ks,V,e,r,f⟩:=h;refine⟨Hb,B,a,c,bs,own,ks,V,e,r,λ z q=>q.elim (f z) λ q=>⟨by omega,λ t=>by have:=r.b.lo z t;omega,λ t=>by have:=(r.wb z t).2;omega,λ i A t=>zp λ d=>by have:=r.lo i A t z (by omega) d;omega⟩⟩
def W1.Bm(h:W1 nb H w k x F)(n:H.au<=H'.au)(f:∀z,z<H.au -> ¬F z->H'.get z=H.get z):W1 nb H' w k x (λ z=>F z\/(H.au<=z/\z<H'.au)):=by
 have⟨Hb,B,a,c,bs,own,ks,V,e,r,g⟩:=h;refine⟨H'.low Hb.au,B,a,c,bs,own,_,V,e,r.Bm n λ z l q=>f z l λ t=>q (g z t),λ z q=>?_⟩;rcases q with q|⟨d,j⟩
 .exact (g z q).wide n (λ q=>.inl q) λ q=>.inl q
 .exact r.new d j
def W1.em(h:W1 nb H w k x F)(f:Fr Em H H'):W1 nb H' w k x (λ z=>F z\/(H.au<=z/\z<H'.au)):=h.Bm f.au λ z a _=>f.ah z a id
structure WtP(nb:Nat)(H:ar)(w k:Nat)(y:Wo)(F:Nat->Prop)(H':ar)(N:Nat->Prop):Prop where
 w:W1 nb H' w k y (λ z=>F z\/N z)
 n:H.au<=H'.au
 kp:∀z,F z->H'.get z=H.get z
 nw:∀z,N z->H.au<=z
def OO(h:W1 nb H w k x F)(hk:k+1<=90000)(l:pk H)(t:yt<nb)(m:x.h.length<=100000)(n0:0<=x.n)(n1:x.n<=1000000)(a:Act) :
 zd M TX [.ptr w 0,.agg a.enc] H λ v H'=>v=.agg (gQ (x.act a).2)/\WtP nb H w (k+2) (x.act a).1 F H' Em:=by
 have⟨Hb,B,c,u,bs,own,ks,V,e,r,f⟩:=h;refine(ag1 r hk l (by omega) m n0 n1 a).mono λ v H' q=>?_;have⟨d,hv',bs',aP,g,j,o,n',kp⟩:=q;exact⟨d,⟨⟨Hb,B,c,hv',bs',aP,g,j,e,o,λ z q=>q.elim (λ q=>(kp z (f z q)).1) Nk⟩,n',λ z q=>(kp z (f z q)).2,λ z q=>q.elim⟩⟩
def Om(H:ar)(nw nv w w' k k':Nat)(x x':Wo)(L:Nat->Prop):Prop:=∃F F',W1 nw H w k x F/\W1 nv H w' k' x' F'/\(∀z,z<H.au->F z\/F' z) /\ ∀z,L z->F z/\F' z
def Om.em{nw nv w' k':Nat}{c:Wo}{L:Nat->Prop}(h:Om H nw nv w w' k k' x c L)(f:Fr Em H H'):Om H' nw nv w w' k k' x c (λ z=>L z\/(H.au<=z/\z<H'.au)):=by
 have⟨F,d,a,b,ap,hl⟩:=h;refine⟨_,_,a.em f,b.em f,λ z q=>?_,λ z q=>?_⟩
 .rcases x9 z H.au with e|e
  .exact (ap z e).imp .inl .inl
  .exact .inl (.inr ⟨e,q⟩)
 .rcases q with q|q
  .exact ⟨.inl (hl z q).1,.inl (hl z q).2⟩
  .exact ⟨.inr q,.inr q⟩
def Om.loc{nw nv w' k':Nat}{d:Wo}{L U:Nat->Prop}(h:Om H nw nv w w' k k' x d L)(f:Fr U H H')(hu:∀z,U z->L z):Om H' nw nv w w' k k' x d (λ z=>L z\/(H.au<=z/\z<H'.au)):=by
 have⟨F,g,a,b,ap,hl⟩:=h;refine⟨_,_,a.Bm f.au λ z c q=>f.ah z c λ e=>q (hl z (hu z e)).1,b.Bm f.au λ z c q=>f.ah z c λ e=>q (hl z (hu z e)).2,λ z q=>?_,λ z q=>?_⟩
 .rcases x9 z H.au with e|e
  .exact (ap z e).imp .inl .inl
  .exact .inl (.inr ⟨e,q⟩)
 .rcases q with q|q
  .exact ⟨.inl (hl z q).1,.inl (hl z q).2⟩
  .exact ⟨.inr q,.inr q⟩
def W1.core(h:W1 nb H w k x F){i:Nat}{c:Co}(d:x.cs[i]? = B1 c):∃p o f l sp cv rv,(∀K,C3 M B4 (.func SG) [.ptr w 0,.int .i64 (i:Int)] H K=K B4 (.ptr p 0) H)/\dW H o p f l sp cv rv .nils .nili c [] k:=by
 have⟨Hb,B,g,m,bs,own,ks,V,e,r,f⟩:=h;have j:=(qo.1 d).1;have hk:=r.kl;obtain⟨A,a⟩:∃A,ks[i]? = B1 A:=⟨_,xf (by omega)⟩
 exact⟨A.p,A.o,A.f,A.l,A.sp,A.cv,A.rv,PL r (by omega) (by rw[show((i:Int)).toNat=i by omega];exact a),(r.co i c A d a).1⟩
end
end Go.Am
namespace Go.Am
open Lang Go.Proofs
variable{M:ak}[MK M]
def tu{α:Type}{enc:α->List AV}(h:∀x,aN (enc x)=B4)(l:List α):aN (l.flatMap enc)=true:=by
 rw[vg,List.all_flatMap,FV];intro x _;have:=h x;rw[vg]at this;exact this
def xe3{H:ar}{a:AV}{l:List fg}(ha:bX fg.enc 9 H a l)(hl:l.length<=100000):zd M qg0 [a] H λ v H'=>bX fg.enc 9 H' v l/\Fr Em H H':=by
 refine qn8 ?_
 by_cases hn:a=.nils
 .subst hn;simp only[aa,bc,qg4,ZG];exact⟨ha,Fr.refl _⟩
 .have c:Fr Em H (H.alloc (.row [] ju (0,0) B4)):=(Fr.refl H).alloc _;simp only[aa,bc,qg4,Wf ha hn,O0];refine Sv (e:=ju) (n:=0) (cells:=[]) ⟨rfl,.inl ⟨rfl,.inr ⟨H.au,rfl,by rw[xx];omega⟩⟩⟩ (Sl.em ha c) (tu (λ x=>rfl) _) (by omega) (by omega) (by omega) λ j h hv' d f=>?_;simp only[aa,bc];rw[yf,jp]at hv';exact⟨hv'.sl,c.trans d λ x g=>.inr (by rw[g.2];exact qm _)⟩
def Il{H:ar}{nb w k:Nat}{x:Wo}{F:Nat->Prop}(h:W1 nb H w k x F)(hl:x.h.length<=100000):zd M qjf [.ptr w 0] H λ v H'=>bX fg.enc 9 H' v x.h/\Fr Em H H':=by
 have⟨Hb,B,c,l,bs,own,ks,V,e,r,f⟩:=h;refine qr6 ?_;have g:Op.eq .ptr B2 [.ptr w 0,.nilp] H=B1 (.bool B2):=rfl;simp only[aa,bc,qr7,av,g,r.bj];refine C3.q (xe3 (aT.sl r.hl) hl) λ v j⟨a,d⟩=>?_;simp only[aa,bc];exact⟨a,d⟩
end Go.Am
namespace Go.Am
section
variable{α:Type}(P:List α->Bool)
def I6:Nat->List α->List α
 |0,l=>l
 |n+1,l=>I6 n (if P (l.eraseIdx n)=B4 then l.eraseIdx n else l)
def nT(l:List α):List α:=I6 P l.length l
def oX:Nat->List α->List α
 |0,l=>l
 |n+1,l=>oX n (nT P l)
def Dl(l:List α):Option Nat:=(N8 (l.length+1)).find? λ n=>P (l.take n)
def Zj:∀(n:Nat)(l:List α),(I6 P n l).Sublist l
 |0,l=>.refl l
 |n+1,l=>by
  rw[I6];refine(Zj n _).trans ?_;split
  .exact List.eraseIdx_sublist ..
  .exact .refl l
def xnq:∀(n:Nat)(l:List α),n<=l.length->(I6 P n l).length=l.length->I6 P n l=l /\ ∀i,i<n->P (l.eraseIdx i)=B2
 |0,l,_,_=>⟨rfl,λ i q=>by omega⟩
 |n+1,l,hn,h=>by
  rw[I6]at h⊢;cases q:P (l.eraseIdx n)with
  |true =>
   rw[q,xg rfl]at h;have a:=(Zj P n (l.eraseIdx n)).length_le;have b:=List.length_eraseIdx_of_lt (l:=l) (i:=n) (by omega);omega
  |false =>
   rw[q,qy (by decide)]at h;rw[qy (by decide)];have⟨a,b⟩:=xnq n l (by omega) h;refine⟨a,λ i c=>?_⟩
   by_cases e:i=n
   .rw [e];exact q
   .exact b i (by omega)
def US(l:List α):(nT P l).length<=l.length:=(Zj P _ l).length_le
def Wi{l:List α}(h:(nT P l).length=l.length):nT P l=l /\ ∀i,i<l.length->P (l.eraseIdx i)=false:=xnq P l.length l (qm _) h
def T3{l:List α}(h:nT P l=l):∀n,oX P n l=l
 |0=>rfl
 |n+1=>by rw[oX,h];exact T3 h n
def YK:∀(n:Nat)(l:List α),l.length<=n->nT P (oX P n l)=oX P n l
 |0,l,h=>by
  have:l=[]:=zy.1 (by omega);subst this;rfl
 |n+1,l,h=>by
  rw[oX]
  by_cases q:(nT P l).length=l.length
  .have e:=(Wi P q).1;rw[e,T3 P e,e]
  .have:=US P l;exact YK n _ (by omega)
def shr(l:List α):List α:=oX P (l.length+1) l
def xh4:∀(n m:Nat)(l:List α),oX P (n+m) l=oX P m (oX P n l)
 |0,m,l=>by rw[yf];rfl
 |n+1,m,l=>by rw[Nat.succ_add];exact xh4 n m _
def xnp{n:Nat}{l:List α}(h:l.length<=n):oX P n l=shr P l:=by
 have e:∀{m},l.length<=m->oX P m l=oX P l.length l:=λ{m}h=>by
  rw[show m=l.length+(m-l.length)by omega,xh4];exact T3 P (YK P _ l (qm _)) _
 rw[e h];exact(e (jx _)).symm
def GU(l:List α):nT P (shr P l)=shr P l:=YK P _ l (jx _)
def ah4(l:List α):shr P (nT P l)=shr P l:=by
 have:=US P l;rw[<-xnp P (n:=l.length) (l:=nT P l) this];rfl
def EY(l:List α){i:Nat}(h:i<(shr P l).length):P ((shr P l).eraseIdx i)=false:=(Wi P (by rw[GU])).2 i h
def xmg{l:List α}{n:Nat}(h:Dl P l=B1 n):n<=l.length/\P (l.take n)=B4 /\ ∀k,k<n->P (l.take k)=false:=by
 have⟨c,us,bs,e,d⟩:=List.find?_eq_some_iff_append.1 h;have hn:n<l.length+1:=M6.1 (e▸List.mem_append_right _ (vx ..));refine⟨by omega,c,λ k hk=>?_⟩;have hm:k∈us:=by
  have a:k∈us++n::bs:=e▸M6.2 (by omega);rcases ji.1 a with q|q
  .exact q
  .have s:(us++n::bs).Pairwise (· < ·):=e▸List.pairwise_lt_range;rcases kj.1 q with q|q
   .omega
   .have:=List.rel_of_pairwise_cons (List.pairwise_append.1 s).2.1 q;omega
 have:=d k hm
 simpa using this
def xmf{l:List α}{n:Nat}(h:n<=l.length)(hp:P (l.take n)=B4)(hn:∀k,k<n->P (l.take k)=B2):Dl P l=B1 n:=by
 cases e:Dl P l with
 |none =>
  have:=CN.1 e n (M6.2 (by omega));exact absurd hp this
 |some m =>
  have⟨a,b,c⟩:=xmg P e;rcases Nat.lt_trichotomy m n with q|q|q
  .rw [hn m q]at b;cases b
  .rw [q]
  .rw [c n q]at hp;cases hp
def GK{l:List α}(h:∀k,k<=l.length->P (l.take k)=B2):Dl P l=none:=CN.2 λ k hk=>by rw[h k (by have:=M6.1 hk;omega)];decide
end
end Go.Am
namespace Go.Am
open Go.Proofs Ca
open Lang (ints)
variable{M:ak}[MK M]
section
variable{H0 H:ar}{B:Nat}{s:Bs}{b:Bu}{own:Nat->Nat}
def xlz(h:eM H0 H B s b own){i:Nat}{w:L8}(hw:b.m[i]? = B1 w):zd M Vt [.ptr s.D 0,.int .i64 (i:Int)] H λ v H'=>v=.tuple [.agg (cu w),.int .i64 0]/\Fr Em H H':=by
 refine q0f ?_;obtain⟨w0,w2,c⟩:=q0g M ⟨B5,Vt⟩;obtain⟨a,e2⟩:∃X,X=H.alloc (OR (cu .zero) ja):=⟨_,rfl⟩
 have f:Fr Em H a:=by rw[e2];exact(Fr.refl H).alloc _
 have j:a.get H.au=B1 (OR (cu .zero) ja):=by rw[e2,xp]
 have d2:=h.d.em f;have n2:a.au=H.au+1:=by rw[e2,xx]
 have lm:Op.ae [.ptr s.D 0] a=B1 (.ptr s.mp 0):=zb (xc d2.row) 0;simp only[aa,bc,w0,lZ,<-e2,w2,yp,c,qt,lm];refine C3.q (π (M:=M) (w:=w) d2.me (n:=(i:Int)) (by omega) (by rw[Hi];exact hw)) λ v e⟨o,g⟩=>?_;rw[o];have l:e.get H.au=B1 (OR (cu .zero) ja):=by rw[g.ah _ (by omega) id];exact j
 have st:=fF l (yj _) (yj w) (uj w);have ln:=eF (xe e H.au (OR (cu w) ja)) (yj w);simp only[aa,bc,xj,st,ln];exact(f.trans g λ _ q=>q.elim).set (.inr (qm _)) _
def xju{r nb:Nat}{sv bv:AV}{n:No}{ks:List Nat}(h:de H0 H r nb sv bv n ks)(o:CI n.lines n.c)(line:Int):zd M ZZ [.ptr r 0,.int .i64 line] H λ v H'=>v=oE n.c line/\Fr Em H H':=by
 refine q0w ?_;obtain⟨w0,w2,g⟩:=q0x M ⟨B5,ZZ⟩;obtain⟨H1,e1⟩:∃X,X=H.alloc (OR (aw .zero) xk):=⟨_,rfl⟩
 have d:Fr Em H H1:=by rw[e1];exact(Fr.refl H).alloc _
 have m:H1.get H.au=B1 (OR (aw .zero) xk):=by rw[e1,xp]
 have n1:H1.au=H.au+1:=by rw[e1,xx]
 have l:=h.em d;simp only[aa,bc,w0,eZ,<-e1,w2,yp,g,qt,l.l2];refine C3.q (Rw (M:=M) l.ca o line) λ v a⟨t,f⟩=>?_;rw[t];have j:a.get H.au=B1 (OR (aw .zero) xk):=by rw[f.ah _ (by omega) id];exact m
 unfold oE;cases n.c.find line with
 |none =>
  have st:=fF j (z4 _) (z4 .zero) (ug _);have ln:=eF (xe a H.au (OR (aw .zero) xk)) (z4 .zero);simp only[aa,bc,xj,st,ln];exact(d.trans f λ _ q=>q.elim).set (.inr (qm _)) _
 |some e =>
  have st:=fF j (z4 _) (z4 e) (ug e);have ln:=eF (xe a H.au (OR (aw e) xk)) (z4 e);simp only[aa,bc,xj,st,ln];exact(d.trans f λ _ q=>q.elim).set (.inr (qm _)) _
end
def qQ(b:Bu)(line:Int)(i:Nat):List En:=(b.ns.take i).filterMap λ n=>n.c.find line
def AF(b:Bu)(line:Int):List (List AV):=(qQ b line b.ns.length).map λ e=>[.agg (aw e)]
def DE{b:Bu}{line:Int}{i:Nat}{n:No}(hn:b.ns[i]? = B1 n):qQ b line (i+1)=qQ b line i++(match n.c.find line with|none=>[]|some e=>[e]):=by
 unfold qQ;rw[ku,hn,List.filterMap_append];congr 1;show List.filterMap _ [n]=_;rw[List.filterMap_cons,List.filterMap_nil];cases n.c.find line<;>rfl
def IX(b:Bu)(line:Int){i:Nat}(a:i<=b.ns.length):∃r,qQ b line b.ns.length=qQ b line i++r:=by
 refine⟨(b.ns.drop i).filterMap λ n=>n.c.find line,?_⟩;unfold qQ;rw[zh (qm _),<-List.filterMap_append,yr]
def Rn{b:Bu}{line:Int}{i:Nat}{n:No}{e:En}(hn:b.ns[i]? = B1 n)(he:n.c.find line=B1 e):(AF b line)[(qQ b line i).length]? = B1 [.agg (aw e)]:=by
 have hl:=(qo.1 hn).1;obtain⟨r,hr⟩:=IX b line (i:=i+1) (by omega);unfold AF;rw[hr,DE hn,he,xm];show Option.map _ ((qQ b line i ++ [e]++r)[(qQ b line i).length]?)=_;rw[je,jd (qm _),Hj];rfl
section
variable{Hb H0:ar}{B p q:Nat}{s:Bs}{b:Bu}{own:Nat->Nat}{line:Int}
def hdO(Hb:ar)(B:Nat)(s:Bs)(p q:Nat)(z:Nat):Prop:=z<Hb.au\/z=p\/z=q\/gD B s z
def Ez(h:eM Hb H0 B s b own)(hb:BB b)(hp:H0.get p=B1 (OR [.ptr B 0] wQ))(hq:H0.get q=B1 (OR [.int .i64 line] cE))(hpl:p<H0.au)(hql:q<H0.au)(hbl:Hb.au<=H0.au) :
 rh M Lf [] [.ptr p 0,.ptr q 0] (hdO Hb B s p q) (λ _=>False) H0 (AF b line):=by
 intro Y R S g H1 hnx U Z hW0 loc locS step;obtain⟨p1,p2,p3⟩:=U p (.inl (.inr (.inl rfl)));obtain⟨q1,q2,q3⟩:=U q (.inl (.inr (.inr (.inl rfl))));have hN4:=hb.N4;have kp:∀{Hx:ar},Fr g H1 Hx->eM Hb Hx B s b own:=λ{Hx}f=>by
  have f0:Fr (λ z=>Hb.au<=z /\ ¬gD B s z) H0 Hx:=by
   refine⟨xy hnx f.au,λ z j hw=>?_⟩;have hk:hdO Hb B s p q z:=by
    by_cases w1:z<Hb.au
    .exact .inl w1
    .by_cases w2:gD B s z
     .exact .inr (.inr (.inr w2))
     .exact absurd ⟨by omega,w2⟩ hw
   obtain⟨-,k2,k3⟩:=U z (.inl hk);rw[f.ah z (by omega) k3,k2]
  exact h.fr f0 λ z w=>w
 suffices hs:zd M Lf [.fn (.yield Y) [] [],.ptr p 0,.ptr q 0] H1 (HS R S g (λ _=>False) H1 (AF b line).length)by
  obtain⟨v,H',hc,W',q1,q2,q3⟩:=hs.elim;exact⟨v,H',W',hc,q1,q2,q3⟩
 refine qz1 ?_;obtain⟨w0,w4,w10,J,I⟩:=qz2 M ⟨B5,Lf⟩;have lp:∀{Hx:ar},Fr g H1 Hx->Op.ae [.ptr p 0] Hx=B1 (.ptr B 0):=λ f=>by rw[zb (xc (by rw[f.ah _ (by omega) p3,p2];exact hp))];rfl
 have lq:∀{Hx:ar},Fr g H1 Hx->Op.ae [.ptr q 0] Hx=B1 (.int .i64 line):=λ f=>by rw[zb (xc (by rw[f.ah _ (by omega) q3,q2];exact hq))];rfl
 have r0:=Fr.refl (W:=g) H1;have T:=kp r0;have C:=T.nv.sl.len;rw[xr,T.al]at C;have hll:(AF b line).length=(qQ b line b.ns.length).length:=xr _;simp only[aa,bc,w0,lp r0,qt,T.l1,C];refine cK.intro (λ n E Hx=>∃(i:Nat)(V:Nat->Prop),E=[(13,.int .i64 (i:Int)),(12,.int .i64 ((b.ns.length:Nat):Int)),(11,s.nv),(0,.fn (.yield Y) [] []),(1,.ptr p 0),(2,.ptr q 0)]/\n=b.ns.length-i/\i<=b.ns.length/\JK R g H1 Hx (qQ b line i).length V) ?_ ?_
 .exact ⟨_,_,⟨0,g,rfl,rfl,xz _,⟨Z,λ b hb=>⟨hW0 b hb,.inl hb⟩,Fr.refl _⟩⟩,by simp only[aa,bc]⟩
 rintro n E Hx ⟨i,V,rfl,rfl,hi,hI⟩
 by_cases c1:(i:Int)<((b.ns.length:Nat):Int)
 .obtain ⟨nd,hn⟩:∃n,b.ns[i]? = B1 n:=⟨_,xf (by omega)⟩
  have hx:=kp hI.fr;obtain⟨A,hA,nr⟩:=hx.zM hn;have D:(s.ad.map Na.r)[i]? = B1 A.r:=by rw[xm,hA];rfl
  have ix:=hx.nv.sl.idx D (z:=(i:Int)) rfl .i64;have ld:=hx.nv.sl.jO Yh D (by decide);have ld:Op.ae [.ptr (aF s.nv) (cZ 1 s.nv i)] Hx=B1 (.ptr A.r 0):=ld;obtain⟨ni,-,-⟩:=hb.no _ nd hn;have wj:aj .i64 ((i:Int)+1)=((i+1:Nat):Int):=by rw[jk (by omega) (by omega)];omega
  simp only[aa,bc,w4,c1,w10,ix,ld,lq hI.fr];refine C3.q (xju (M:=M) nr ni.ci line) λ v d⟨hv,O⟩=>?_;rw[hv];have f03:Fr g H1 d:=hI.fr.trans O λ _ w=>w.elim;obtain⟨K,L⟩:∃X,X=d.alloc (OR (aw .zero) xk):=⟨_,rfl⟩
  have f4:Fr Em d K:=by rw[L];exact(Fr.refl d).alloc _
  have g4:K.get d.au=B1 (OR (aw .zero) xk):=by rw[L,xp]
  unfold oE;cases hf:nd.c.find line with
  |none =>
   have st:=fF g4 (z4 _) (z4 .zero) (ug .zero);have hs:=DE (line:=line) hn;rw[hf]at hs;simp only[zm]at hs;obtain⟨l,m⟩:∃X,X=K.set d.au (OR (aw .zero) xk):=⟨_,rfl⟩
   rw[<-m]at st;have Q:Fr Em d l:=by rw[m];exact f4.set (.inr (qm _)) _
   have a:Fr Em Hx l:=O.trans Q λ _ w=>w.elim;simp only[aa,bc,xj,eZ,<-L,st,I];simp only[aa,bc,J,wj];refine⟨_,_,⟨i+1,V,rfl,rfl,by omega,⟨?_,λ z j=>⟨qn (hI.hV z j).1 a.au,(hI.hV z j).2⟩,hI.fr.trans a λ _ w=>w.elim⟩⟩,by simp only[aa,bc],by omega⟩;rw[hs];exact loc _ V Hx l hI.hR (λ z j=>a.ah z (hI.hV z j).1 id) a.au
  |some e =>
   have st:=fF g4 (z4 _) (z4 e) (ug e);have hs:=DE (line:=line) hn;rw[hf]at hs;obtain⟨l,m⟩:∃X,X=K.set d.au (OR (aw e) xk):=⟨_,rfl⟩
   rw[<-m]at st;have g5:l.get d.au=B1 (OR (aw e) xk):=by rw[m,xe]
   have Q:Fr Em d l:=by rw[m];exact f4.set (.inr (qm _)) _
   have a:Fr Em Hx l:=O.trans Q λ _ w=>w.elim;have ld5:=eF g5 (z4 e);obtain⟨bb,H6,N,hr,hf6,u,ht,hs6⟩:=step _ [.agg (aw e)] (Rn hn hf) V l (loc _ V Hx l hI.hR (λ z j=>a.ah z (hI.hV z j).1 id) a.au) (λ z j=>⟨qn (hI.hV z j).1 a.au,(hI.hV z j).2⟩) ((hI.fr.trans a λ _ w=>w.elim).mono λ _ _ w=>.inl w);have o:Fr g H1 H6:=(hI.fr.trans a λ _ w=>w.elim).trans hf6 λ z w=>(hI.hV z w).2;have t:∀z,N z->z<H6.au/\(g z\/H1.au<=z):=λ z w=>⟨(u z w).1,(u z w).2.elim (λ w=>(hI.hV z w).2) λ w=>.inr (xy (xy hI.fr.au a.au) w)⟩
   simp only[aa,bc,xj,eZ,<-L,st,I,ld5];refine C3.tH hr ?_;cases bb with
   |true =>
    simp only[aa,bc];simp only[aa,bc,J,wj];exact⟨_,_,⟨i+1,N,rfl,rfl,by omega,⟨by rw[hs,qv];exact ht rfl,t,o⟩⟩,by simp only[aa,bc],by omega⟩
   |false =>
    simp only[aa,bc];exact⟨N,o.mono λ _ _ w=>.inl w,t,.inr (hs6 rfl)⟩
 .have hiw:i=b.ns.length:=by omega
  simp only[aa,bc,w4,c1];exact⟨V,hI.fr.mono λ _ _ w=>.inl w,hI.hV,.inl (by rw[hll,<-hiw];exact hI.hR)⟩
end
def Jc(j:Int)(m:Mg):Bool:=decide (m.line=j/\(m.k=3\/m.k=5))
def xX(fl:List Mg)(j:Int)(w:L8):L8:=match fl.find? (Jc j)with
 |some m=>m.d
 |none=>w
def rA(x:L8)(e:En):L8:=if e.st=2 then cond e.w e.o e.d else x
def Bu.Ni(b:Bu)(j:Nat):L8:=(qQ b j b.ns.length).foldl rA (xX b.fl j (b.m[j]?.getD .zero))
def Bu.vA(b:Bu)(a:Int):Int×Int:=if 0<=a/\a<8*b.l.length then((b.Ni (a.toNat / 8)).get (a.toNat % 8),0)else(0,2)
def HJ{fl:List Mg}{i:Nat}{m:Mg}{j:Int}{w:L8}(h:fl[i]? = B1 m)(hm:Jc j m=B4)(a:∀x∈fl.take i,Jc j x=B2):xX fl j w=m.d:=by
 have⟨hl,he⟩:=qo.1 h;have e:fl=fl.take i++(m::fl.drop (i+1)):=by rw[<-he,List.getElem_cons_drop hl,yr]
 have f:fl.find? (Jc j)=B1 m:=by
  rw[e,List.find?_append,CN.2 λ x c=>by rw[a x c];decide,List.find?_cons,hm];rfl
 unfold xX;rw[f]
def Ih{fl:List Mg}{j:Int}{w:L8}(a:∀x∈fl,Jc j x=B2):xX fl j w=w:=by
 unfold xX;rw[CN.2 λ x c=>by rw[a x c];decide]
section
variable{Hb H:ar}{B:Nat}{s:Bs}{b:Bu}{own:Nat->Nat}{V:Int->L8}
def xiv{H:ar}(B:Nat)(line:Int):zd M qs6 [.ptr B 0,.int .i64 line] H λ v H'=>v=.fn (.func Lf) [] [.ptr H.au 0,.ptr (H.au+1) 0]/\H'=(H.alloc (OR [.ptr B 0] wQ)).alloc (OR [.int .i64 line] cE):=by
 refine q7c ?_;obtain⟨H1,e1⟩:∃X,X=H.alloc (OR [.ptr B 0] wQ):=⟨_,rfl⟩
 have n1:H1.au=H.au+1:=by rw[e1,xx]
 have ca:AV.cells (.ptr B 0)=[.ptr B 0]:=rfl;have a:AV.cells (.int .i64 line)=[.int .i64 line]:=rfl;have mk:Op.bt Lf 0 [.ptr H.au 0,.ptr (H.au+1) 0]=B1 (.fn (.func Lf) [] [.ptr H.au 0,.ptr (H.au+1) 0]):=rfl;simp only[aa,bc,q7d,ca,a,<-e1,n1,mk];rfl
structure _E(x0:L8)(es:List En)(t i:Nat)(W:Nat->Prop)(Hx:ar):Prop where
 vt:W t
 ex:Hx.get t=B1 (OR (cu ((es.take i).foldl rA x0)) ja)
 lt:t<Hx.au
def Sc{H:ar}{t T:Nat}{e:En}(h:H.get t=B1 (OR (aw e) T)):Op.aq 8 [.ptr t 4] H=B1 (.agg (cu e.d))/\Op.aq 8 [.ptr t 12] H=B1 (.agg (cu e.o)):=by
 have hl:=z4 e;have e1:aw e=[.int .i64 e.line,.int .i64 e.st,.bool e.r,.bool e.w]++(cu e.d++(cu e.o ++ [.int .i64 e.u])):=rfl;constructor
 .rw [rU (xc h) (by omega),e1,Cj (by rfl),N7 (yj _)]
 .rw [rU (xc h) (by omega),e1,<-je,Cj (by rw[qv,yj];rfl),N7 (yj _)]
def xen(h:eM Hb H B s b own)(hl:b.l.length<=64){a:Int}(ha:¬(0<=a/\a<8*b.l.length)):zd M yu [.ptr B 0,.int .i64 a] H λ v H'=>v=.tuple [.int .u64 0,.int .i64 2]/\H'=H:=by
 refine Y' ?_;obtain⟨w0,D,wb,w2,A,e,g,j,m,t,n,u,o,z,r⟩:=Xw M ⟨B5,yu⟩;have C:aj .i64 (((b.l.length:Nat):Int)*8)=((b.l.length*8:Nat):Int):=by rw[jk (by omega) (by omega)];omega
 have c:Op.eq .ptr B2 [.ptr B 0,.nilp] H=B1 (.bool B2):=rfl
 by_cases d:a<0
 .simp only[aa,bc,w0,w2,e,c,xb d,uH]
 .have f:((b.l.length*8:Nat):Int)<=a:=by omega
  simp only[aa,bc,w0,w2,e,c,d,qt,h.l3,C,xb f,uH]
def q9j(h:eM Hb H B s b own)(hb:BB b)(hI:BuI b V)(hbl:Hb.au<=H.au){a:Nat}(ha:a<8*b.l.length)(hl:b.l.length<=64):zd M yu [.ptr B 0,.int .i64 (a:Int)] H λ v H'=>v=.tuple [.int .u64 ((b.Ni (a / 8)).get (a % 8)),.int .i64 0]/\Fr Em H H':=by
 refine Y' ?_;obtain⟨w0,wa,wb,w2,wb7,w3,w18,w22,w24,w47,K,w49,w35,w54,w46⟩:=Xw M ⟨B5,yu⟩;have hj:a / 8<b.l.length:=by omega
 obtain⟨wd,hwd⟩:∃x,b.m[a / 8]? = B1 x:=⟨_,xf (by rw[hI.ml];exact hj)⟩
 have q0:¬(a:Int)<0:=by omega
 have wm:aj .i64 (((b.l.length:Nat):Int)*8)=((b.l.length*8:Nat):Int):=by rw[jk (by omega) (by omega)];omega
 have q1:¬((b.l.length*8:Nat):Int)<=(a:Int):=by omega
 have qu:=Aa (a:=a) (by omega);have re:=LX (a:=a) (by omega);have pn:Op.eq .ptr B2 [.ptr B 0,.nilp] H=B1 (.bool B2):=rfl;simp only[aa,bc,w0,w2,w3,pn,q0,qt,h.l3,wm,q1,BA,w18,qu,re,h.l0];refine C3.q (xlz (M:=M) h hwd) λ v H1⟨hv,f1⟩=>?_;rw[hv];obtain⟨H2,e2⟩:∃X,X=H1.alloc (OR (cu .zero) ja):=⟨_,rfl⟩
 have f2:Fr Em H1 H2:=by rw[e2];exact(Fr.refl H1).alloc _
 have g2:H2.get H1.au=B1 (OR (cu .zero) ja):=by rw[e2,xp]
 have st2:=fF g2 (yj _) (yj wd) (uj wd);obtain⟨H3,e3⟩:∃X,X=H2.set H1.au (OR (cu wd) ja):=⟨_,rfl⟩
 rw[<-e3]at st2;have g3:H3.get H1.au=B1 (OR (cu wd) ja):=by rw[e3,xe]
 have n3:H3.au=H1.au+1:=by rw[e3,e2];rfl
 have f3:Fr Em H1 H3:=by rw[e3];exact f2.set (.inr (qm _)) _
 have f03:=f1.trans f3 λ _ q=>q.elim;have n1:=f1.au;generalize ht:H1.au=t at *
 -- behind the messages
 have rest:∀(Hx:ar)(x:L8)(E:Env)(Z:aD),(∀E D H',Z .ret E D H'=eG M [.tmp 4,.tmp 5] (uZ λ v H'=>v=.tuple [.int .u64 ((b.Ni (a / 8)).get (a % 8)),.int .i64 0]/\Fr Em H H') .ret E D H')->Fr Em H Hx->Hx.get t=B1 (OR (cu x) ja)->t<Hx.au->x=xX b.fl ((a / 8:Nat):Int) wd ->
  lk E 0=B1 (.ptr B 0)->lk E 6=B1 (.int .i64 ((a / 8:Nat):Int))->lk E 7=B1 (.int .i64 ((a % 8:Nat):Int))->lk E 8=B1 (.ptr t 0) ->
  W M ⟨B5,yu⟩ (JR yu 49) B4 Z E [] Hx:=by
  intro Hx x E Z hZ R gx hlt hx e0 e6 e7 e8;have hbx:=h.em R;simp only[aa,bc,w49,e0,e6];refine C3.q (xiv (M:=M) B ((a / 8:Nat):Int)) λ v n⟨hv,hh⟩=>?_;rw[hv];obtain⟨L,I⟩:∃X,X=Hx.alloc (OR [.ptr B 0] wQ):=⟨_,rfl⟩
  rw[<-I]at hh;have f4:Fr Em Hx L:=by rw[I];exact(Fr.refl Hx).alloc _
  have n4:L.au=Hx.au+1:=by rw[I,xx]
  have f5:Fr Em L n:=by rw[hh];exact(Fr.refl L).alloc _
  have n5:n.au=L.au+1:=by rw[hh,xx]
  have gp:n.get Hx.au=B1 (OR [.ptr B 0] wQ):=by rw[f5.ah _ (by omega) id,I,xp]
  have gq:n.get (Hx.au+1)=B1 (OR [.int .i64 ((a / 8:Nat):Int)] cE):=by rw[<-n4,hh,xp]
  have r:Fr Em Hx n:=f4.trans f5 λ _ q=>q.elim;have h5:=hbx.em r;have nx:=R.au;have gt5:n.get t=B1 (OR (cu x) ja):=by rw[r.ah _ hlt id];exact gx
  have hbw:∀z,gD B s z->z<H.au:=λ z q=>h.low q;refine iB.iter (fn:=Sy) (lp:=Q1) (pa:=ZL 0) (pb:=Ww 0) qt2 qkg.1 qkg.2 (by decide) qsp qsq
   (Ez (M:=M) (line:=((a / 8:Nat):Int)) h5 hb gp gq (by omega) (by omega) (by omega)) (λ i W Hy=>_E x (qQ b ((a / 8:Nat):Int) b.ns.length) t i W Hy) (λ _ _ _=>False) (λ z=>z=t) (qm _) ?_ ?_ ?_ ?_ ?_ ?_ ?_ ?_
  .rintro z ((q|q|q|q)|q)
   .exact ⟨by omega,rfl,by omega⟩
   .exact ⟨by omega,rfl,by omega⟩
   .exact ⟨by omega,rfl,by omega⟩
   .exact ⟨by have:=hbw z q;omega,rfl,by have:=hbw z q;omega⟩
   .exact q.elim
  .exact λ z hz=>by omega
  .exact ⟨rfl,gt5,by omega⟩
  .exact λ i W Ha Hb' j hs hn=>⟨j.vt,by rw[hs _ j.vt];exact j.ex,qn j.lt hn⟩
  .exact λ e W Ha Hb' j _ _=>j
  .intro C i lr lb xv U hL2 W g j hW hf6 hnL hL6 hgL;have U:((qQ b ((a / 8:Nat):Int) b.ns.length).map λ e=>[AV.agg (aw e)])[i]? = B1 xv:=U;rw[xm,xt]at U;obtain⟨e,he,rfl⟩:=U;refine⟨_,rfl,?_⟩;obtain⟨-,wa,wb,-,wb7,-⟩:=Xw M ⟨B1 C,yu⟩;obtain⟨H7,O⟩:∃X,X=g.alloc (OR (aw .zero) xk):=⟨_,rfl⟩
   have f7:Fr Em g H7:=by rw[O];exact(Fr.refl g).alloc _
   have g7:H7.get g.au=B1 (OR (aw .zero) xk):=by rw[O,xp]
   have st7:=fF g7 (z4 _) (z4 e) (ug e);obtain⟨H8,Q⟩:∃X,X=H7.set g.au (OR (aw e) xk):=⟨_,rfl⟩
   rw[<-Q]at st7;have f8:Fr Em g H8:=by rw[Q];exact f7.set (.inr (qm _)) _
   have g8:H8.get g.au=B1 (OR (aw e) xk):=by rw[Q,xe]
   have n8:H8.au=g.au+1:=by rw[Q,O];rfl
   simp only[aa,bc,wa,eZ,<-O,st7,AW];refine⟨by rw[f8.ah _ hL6 id];exact hgL,?_⟩;have gy:=j.ex;have hLt:C≠t:=λ q=>hnL (by rw[q];exact j.vt);have htl:=j.lt;obtain⟨A,e9⟩:∃X,X=H8.set C lb:=⟨_,rfl⟩
   rw[<-e9];have f9:Fr (On C) H8 A:=by rw[e9];exact(Fr.refl H8).set (W:=On C) (.inl rfl) _
   have n9:A.au=H8.au:=by rw[e9];rfl
   have gL9:A.get C=B1 lb:=by rw[e9];exact xe ..
   have g9:A.get g.au=B1 (OR (aw e) xk):=by rw[f9.ah _ (by omega) (λ(q:g.au=C)=>by omega)];exact g8
   have gt9:A.get t=B1 (OR (cu (((qQ b ((a / 8:Nat):Int) b.ns.length).take i).foldl rA x)) ja):=by rw[f9.ah _ (by omega) (λ(q:t=C)=>hLt q.symm),f8.ah _ htl id];exact gy
   have F9:Fr (λ z=>W z\/z=C) g A:=(f8.mono λ z _ q=>q.elim).trans f9 λ z q=>.inl (.inr q);have l1:Op.ae [.ptr g.au 1] A=B1 (.int .i64 e.st):=zb (xc g9) 1;have l3:Op.ae [.ptr g.au 3] A=B1 (.bool e.w):=zb (xc g9) 3;obtain⟨lD,lO⟩:=Sc g9;have tk:(qQ b ((a / 8:Nat):Int) b.ns.length).take (i+1)=(qQ b ((a / 8:Nat):Int) b.ns.length).take i ++ [e]:=by rw[ku,he];rfl
   have hV9:∀z,W z->z<A.au/\(W z\/g.au<=z):=λ z hz=>⟨by have:=(hW z hz).1;omega,.inl hz⟩
   have fo:((qQ b ((a / 8:Nat):Int) b.ns.length).take (i+1)).foldl rA x=rA (((qQ b ((a / 8:Nat):Int) b.ns.length).take i).foldl rA x) e:=by rw[tk,List.foldl_append];rfl
   generalize hy:((qQ b ((a / 8:Nat):Int) b.ns.length).take i).foldl rA x=y at *
   by_cases s2:e.st=2
   .have stD:=fF gt9 (yj _) (yj e.d) (uj e.d);obtain⟨f,N⟩:∃X,X=A.set t (OR (cu e.d) ja):=⟨_,rfl⟩
    rw[<-N]at stD;have f10:Fr (On t) A f:=by rw[N];exact(Fr.refl A).set (W:=On t) (.inl rfl) _
    have n10:f.au=A.au:=by rw[N];rfl
    have g10:f.get t=B1 (OR (cu e.d) ja):=by rw[N,xe]
    have gL10:f.get C=B1 lb:=by rw[f10.ah _ (by omega) hLt];exact gL9
    have F10:Fr (λ z=>W z\/z=C) g f:=F9.trans f10 λ z(q:z=t)=>.inl (.inl (by rw[q];exact j.vt));have hV10:∀z,W z->z<f.au/\(W z\/g.au<=z):=λ z hz=>⟨by have:=(hW z hz).1;omega,.inl hz⟩
    have h6t:g.au≠t:=by omega
    have g610:f.get g.au=B1 (OR (aw e) xk):=by rw[f10.ah _ (by omega) h6t];exact g9
    have Y:Op.ae [.ptr g.au 3] f=B1 (.bool e.w):=zb (xc g610) 3;obtain⟨-,lO'⟩:=Sc g610;cases hw:e.w with
    |false =>
     rw[hw]at Y;simp only[aa,bc,wb,l1,xb s2,wb7,lD,stD,Y,e8];exact⟨rfl,gL10,W,hV10,F10,.inl ⟨rfl,j.vt,by rw[fo];unfold rA;rw[xg s2,hw];exact g10,by omega⟩⟩
    |true =>
     rw[hw]at Y;have stO:=fF g10 (yj _) (yj e.o) (uj e.o);simp only[aa,bc,wb,l1,xb s2,wb7,lD,stD,Y,lO',stO,e8];exact⟨rfl,by rw[kw (nG hLt)];exact gL10,W,hV10,F10.set (.inl (.inl j.vt)) _,.inl ⟨rfl,j.vt,by rw[fo];unfold rA;rw[xg s2,hw];exact xe ..,by show t<f.au;omega⟩⟩
   .simp only[aa,bc,wb,l1,s2];exact⟨rfl,gL9,W,hV9,F9,.inl ⟨rfl,j.vt,by rw[fo];unfold rA;rw[qy s2];exact gt9,by omega⟩⟩
  .intro d W Hd hd1 hd2 hgd hfd hWd j;have gy:=j.ex;have hln:(AF b ((a / 8:Nat):Int)).length=(qQ b ((a / 8:Nat):Int) b.ns.length).length:=xr _;rw[zh (by rw[hln];exact qm _)]at gy;have ey:(qQ b ((a / 8:Nat):Int) b.ns.length).foldl rA x=b.Ni (a / 8):=by unfold Bu.Ni;rw[hwd,hx];rfl
   rw[ey]at gy;generalize b.Ni (a / 8)=y at *;have hdt:d≠t:=λ q=>by have:=(hWd _ j.vt).2.2;omega
   have h8:a % 8<8:=Nat.mod_lt _ (by decide);have ixd:Op.aU 8 1 [.ptr t 0,.int .i64 ((a % 8:Nat):Int)]=B1 (.ptr t (a % 8)):=by rw[OQ rfl h8,yf,LS]
   have ldd:Op.ae [.ptr t (a % 8)] Hd=B1 (.int .u64 (y.get (a % 8))):=by
    rw[zb (xc gy)];show(cu y)[a % 8]? = _;unfold cu L8.get;rw[xm];obtain⟨u,hu⟩:∃u,y.l[a % 8]? = B1 u:=⟨_,xf (by rw[y.h];exact h8)⟩
    rw[hu];rfl
   simp only[aa,bc,e7,e8,w54,ixd,ldd,hZ,J8];refine⟨hgd,?_⟩;exact((R.trans r λ _ q=>q.elim).trans (W':=λ x=>x=t\/False) hfd λ z q=>q.elim (λ q=>.inr (by omega)) Nk).set (.inr (by omega)) _
  .exact λ e d W Hd _ _ _ _ _ _ hS=>hS.elim
 have h3:=h.em f03;have hfl:b.fl.length<=900000:=hb.fl;have hln:=h3.fl.len zi;simp only[aa,bc,xj,lZ,<-e2,ht,st2,w22,w24,qt,h3.l2,hln];refine cK.intro (λ m E Hx=>∃i:Nat,m=b.fl.length-i/\i<=b.fl.length/\E=[(46,.int .i64 (i:Int)),(45,.int .i64 ((b.fl.length:Nat):Int)),(44,s.fv),(8,.ptr t 0),(7,.int .i64 ((a % 8:Nat):Int)),(6,.int .i64 ((a / 8:Nat):Int)),(0,.ptr B 0),(1,.int .i64 (a:Int))]/\Fr Em H3 Hx /\ ∀m∈b.fl.take i,Jc ((a / 8:Nat):Int) m=B2) ?_ ?_
 .exact ⟨_,_,⟨0,rfl,xz _,rfl,Fr.refl _,λ m hm=>by simp at hm⟩,by simp only[aa,bc]⟩
 rintro m E Hx ⟨i,rfl,hi,rfl,R,T⟩;have gx:Hx.get t=B1 (OR (cu wd) ja):=by rw[R.ah _ (by omega) id];exact g3
 have nx:=R.au
 by_cases q:(i:Int)<((b.fl.length:Nat):Int)
 .obtain ⟨c,S⟩:∃m,b.fl[i]? = B1 m:=⟨_,xf (by omega)⟩
  have hf:=(h3.em R).fl.sl zi;have ix:=hf.idx S (z:=(i:Int)) rfl .i64;have ld:=hf.aq zi (by decide) S;have wi:aj .i64 ((i:Int)+1)=((i+1:Nat):Int):=by rw[jk (by omega) (by omega)];omega
  obtain⟨L,I⟩:∃X,X=Hx.alloc (OR (ao ⟨0,0,0,.zero⟩) xq):=⟨_,rfl⟩
  have f4:Fr Em Hx L:=by rw[I];exact(Fr.refl Hx).alloc _
  have g4:L.get Hx.au=B1 (OR (ao ⟨0,0,0,.zero⟩) xq):=by rw[I,xp]
  have J:=fF g4 (zi _) (zi c) (qW c);obtain⟨n,e5⟩:∃X,X=L.set Hx.au (OR (ao c) xq):=⟨_,rfl⟩
  rw[<-e5]at J;have f5:Fr Em Hx n:=by rw[e5];exact f4.set (.inr (qm _)) _
  have g5:n.get Hx.au=B1 (OR (ao c) xq):=by rw[e5,xe]
  have n5:=f5.au;have l0:Op.ae [.ptr Hx.au 0] n=B1 (.int .i64 c.k):=zb (xc g5) 0;have l2:Op.ae [.ptr Hx.au 2] n=B1 (.int .i64 c.line):=zb (xc g5) 2;have l8:Op.aq 8 [.ptr Hx.au 3] n=B1 (.agg (cu c.d)):=by
   rw[rU (xc g5) (by rw[zi];decide),show ao c=[.int .i64 c.k,.int .i64 c.core,.int .i64 c.line]++(cu c.d ++ [])by rw[zm];rfl,Cj (by rfl),N7 (yj _)]
  have gt5:n.get t=B1 (OR (cu wd) ja):=by rw[f5.ah _ (by omega) id];exact gx
  have st8:=fF gt5 (yj _) (yj c.d) (uj c.d);have r:=R.trans f5 λ _ q=>q.elim;have tk:b.fl.take (i+1)=b.fl.take i ++ [c]:=by rw[ku,S];rfl
  have on:Jc ((a / 8:Nat):Int) c=B2 -> ∀m∈b.fl.take (i+1),Jc ((a / 8:Nat):Int) m=false:=λ hq m hm=>by
   rw[tk]at hm;rcases ji.1 hm with w|w
   .exact T m w
   .rw [jy.1 w];exact hq
  have found:(c.line=((a / 8:Nat):Int)/\(c.k=3\/c.k=5))->c.d=xX b.fl ((a / 8:Nat):Int) wd:=λ q=>(HJ S (yd q) T).symm;have F8:Fr Em H (n.set t (OR (cu c.d) ja)):=(f03.trans r λ _ q=>q.elim).set (.inr (by omega)) _
  by_cases ql:c.line=((a / 8:Nat):Int)
  .by_cases k3:c.k=3
   .simp only[aa,bc,K,q,w35,ix,ld,mZ,<-I,J,l2,xb ql,l0,xb k3,l8,st8,w47];refine rest _ c.d _ _ (λ _ _ _=>rfl) F8 (xe ..) (by show t<n.au;omega) (found ⟨ql,.inl k3⟩) ?_ ?_ ?_ ?_<;>rfl
   .by_cases k5:c.k=5
    .simp only[aa,bc,K,q,w35,ix,ld,mZ,<-I,J,l2,xb ql,l0,k3,xb k5,l8,st8,w47];refine rest _ c.d _ _ (λ _ _ _=>rfl) F8 (xe ..) (by show t<n.au;omega) (found ⟨ql,.inr k5⟩) ?_ ?_ ?_ ?_<;>rfl
    .simp only[aa,bc,K,q,w35,ix,ld,mZ,<-I,J,l2,xb ql,l0,k3,k5];simp only[aa,bc,w46,wi];exact⟨_,_,⟨i+1,rfl,by omega,rfl,r,on (kr λ w=>w.2.elim k3 k5)⟩,by simp only[aa,bc],by omega⟩
  .simp only[aa,bc,K,q,w35,ix,ld,mZ,<-I,J,l2,ql];simp only[aa,bc,w46,wi];exact⟨_,_,⟨i+1,rfl,by omega,rfl,r,on (kr λ w=>ql w.1)⟩,by simp only[aa,bc],by omega⟩
 .have e:i=b.fl.length:=by omega
  rw[e,zh (qm _)]at T;simp only[aa,bc,K,q,w47];refine rest Hx wd _ _ (λ _ _ _=>rfl) (f03.trans R λ _ q=>q.elim) gx (by omega) (Ih T).symm ?_ ?_ ?_ ?_<;>rfl
end
end Go.Am
namespace Go.Am
open Lang Go.Proofs
variable{M:ak}[MK M]
structure wE where
 kd:Int
 co:Int
 ad:Int
 v:Int
 n:Int
def gU(x:wE):List AV:=[.int .i64 x.kd,.int .i64 x.co,.int .i64 x.ad,.int .u64 x.v,.int .i64 x.n]
namespace Wo
def Mv(x:Wo)(a:Act):zL (x.act a).1.b=zL x.b:=by
 show zL (x.kF a).1.b=zL x.b;unfold kF qX qR fault
 repeat' split
 all_goals first|rfl|exact OU _ _|exact(CS.BJ _).ns
def xV(x:Wo)(i:Int):Bool×Bool:=if 0<=i then match x.cs[i.toNat]? with
 |some c=>(c.halted,c.yS)
 |none=>(B2,B2)
 else(B2,B2)
def cnt(x:Wo)(w:wE):Nat:=x.h.countP λ e=>decide (e.kind=w.ad/\e.core=w.co)
def SP(x:Wo)(w:wE):Bool:=if w.kd=1 then decide ((x.b.vA w.ad).2=0/\(x.b.vA w.ad).1=w.v)else if w.kd=2 then decide (w.n<=(x.cnt w:Int))else if w.kd=3 then(x.xV w.co).1 else(x.xV w.co).2
end Wo
section
variable{H H':ar}{nb w k:Nat}{x:Wo}{F:Nat->Prop}
def DF{o:Nat->Nat}{p f l sp:Nat}{cv rv a pv:AV}{c:Co}{os:List fg}(h:dW H o p f l sp cv rv a pv c os k):∀K,C3 M B4 (.func U3) [.ptr p 0] H K=K B4 (.tuple [.bool c.halted,.bool c.yS]) H:=by
 refine dA (Γ ?_);simp only[aa,bc,_R,av,CP h,h.bj]
def xjv:zd M U3 [.nilp] H λ v H'=>v=.tuple [.bool B2,.bool B2]/\H'=H:=by
 have a:∀H,Op.eq .ptr B2 [.nilp,.nilp] H=B1 (.bool B4):=λ _=>rfl;have nn:∀K,C3 M B4 (.func U1) [.nilp] H K=K B4 (.bool B4) H:=by
  refine dA (R_ ?_);simp only[aa,bc,qpy,a]
 refine Γ ?_;simp only[aa,bc,_R,nn]
def xn4(h:W1 nb H w k x F)(i:Int):∀K,C3 M B4 (.func Z1) [.ptr w 0,.int .i64 i] H K=K B4 (.tuple [.bool (x.xV i).1,.bool (x.xV i).2]) H:=by
 have no:¬(0<=i/\i<x.cs.length)->x.xV i=(B2,B2) -> ∀K,C3 M B4 (.func Z1) [.ptr w 0,.int .i64 i] H K=K B4 (.tuple [.bool (x.xV i).1,.bool (x.xV i).2]) H:=λ q e=>by
  have⟨Hb,B,j,g,bs,own,ks,V,e',r,f⟩:=h;refine dA (S' ?_);simp only[aa,bc,_B,a_ r q];refine C3.q xjv λ v X⟨g,m⟩=>?_;subst g;subst m;simp only[aa,bc,av,e]
 by_cases d:0<=i
 .cases a:x.cs[i.toNat]? with
  |some c =>
   obtain⟨p,o,f,l,sp,cv,rv,ha,hr⟩:=h.core (M:=M) a;rw[JP d]at ha;have e:x.xV i=(c.halted,c.yS):=by unfold Wo.xV;rw[xg d,a]
   rw[e];refine dA (S' ?_);simp only[aa,bc,_B,ha,DF hr,av]
  |none =>
   have:=List.getElem?_eq_none_iff.1 a;exact no (by omega) (by unfold Wo.xV;rw[xg d,a])
 .exact no (by omega) (by unfold Wo.xV;rw[qy d])
def KJ(h:W1 nb H w k x F)(hl:x.b.l.length<=64)(hk:k<=90000)(a:Int):zd M Ξ [.ptr w 0,.int .i64 a] H λ v H'=>v=.tuple [.int .u64 (x.b.vA a).1,.int .i64 (x.b.vA a).2]/\Fr Em H H':=by
 have⟨Hb,B,d,c,bs,own,ks,V,e,r,f⟩:=h;have g:Op.eq .ptr B2 [.ptr w 0,.nilp] H=B1 (.bool B2):=rfl;have bs':∀K,C3 M B4 (.func qnq) [.ptr w 0] H K=K B4 (.ptr B 0) H:=by
  refine dA (qzg ?_);simp only[aa,bc,qzh,av,g,r.bj]
 refine qqh ?_;simp only[aa,bc,qqi,bs'];refine C3.q (show zd M yu [.ptr B 0,.int .i64 a] H λ v H'=>v=.tuple [.int .u64 (x.b.vA a).1,.int .i64 (x.b.vA a).2]/\Fr Em H H' from by
  unfold Bu.vA
  by_cases q:0<=a/\a<8*x.b.l.length
  .rw [xg q];obtain⟨n,rfl⟩:=jm q.1;exact q9j r.b (r.C.bb r.I (by omega)) r.I (by have:=r.b.lo B (.inl rfl);have:=r.b.lt;omega) (by omega) hl
  .rw [qy q];exact(xen r.b hl q).mono λ v H'⟨a,b⟩=>⟨a,by rw[b];exact Fr.refl _⟩) λ v H'⟨c,f⟩=>?_
 subst c;simp only[aa,bc,av];exact f
end
end Go.Am
namespace Go.Am
open Lang Go.Proofs
variable{M:ak}[MK M]
def q4d{H:ar}{a:AV}{l:List Act}(ha:bX Act.enc 3 H a l)(hl:l.length<=100000):zd M qh9 [a] H λ v H'=>aT Act.enc tE 3 H' v l/\(∀z,aM v z->H.au<=z)/\Fr Em H H':=by
 refine qqc ?_
 by_cases hn:a=.nils
 .subst hn;simp only[aa,bc,qid,ZG];obtain rfl:l=[]:=zy.1 ha.2;exact⟨Own.nil ..,λ z q=>(q.1 rfl).elim,Fr.refl _⟩
 .have c:Fr Em H (H.alloc (.row [] tE (0,0) B4)):=(Fr.refl H).alloc _;simp only[aa,bc,qid,Wf ha hn,O0];refine Sv (e:=tE) (n:=0) (cells:=[]) ⟨rfl,.inl ⟨rfl,.inr ⟨H.au,rfl,by rw[xx];omega⟩⟩⟩ (Sl.em ha c) (tu Act.one _) (by omega) (by omega) (by omega) λ j h hv' f d=>?_;simp only[aa,bc];rw[yf,jp]at hv';exact⟨hv',λ z q=>(d z q).elim (λ q=>by rw[q.2];exact qm _) λ q=>by rw[xx]at q;omega,c.trans f λ x g=>.inr (by rw[g.2];exact qm _)⟩
def Pn{l:List Act}:(l.flatMap Act.enc).length=l.length*3:=by
 induction l with
 |nil=>rfl
 |cons a l ih=>rw[jz,qv,ih,zz,Act.len];omega
def xD(H:ar)(v:AV)(l:List Act):Prop:=bX Act.enc 3 H v l/\(l=[] \/ ∃b m rest,v=.gslice b 0 m 3 0 l.length/\b<H.au/\l.length<=m/\H.get b=B1 (.grown m 3 (l.flatMap Act.enc++rest) tE (0,0)))
def xD.of{H:ar}{v:AV}{l:List Act}(h:aT Act.enc tE 3 H v l):xD H v l:=by
 refine⟨aT.sl h,?_⟩;obtain⟨_,⟨a,_⟩|⟨b,rfl,c,d⟩⟩:=h
 .exact .inl (zy.1 a)
 .exact .inr ⟨b,_,[],rfl,c,qm _,by rw[zm];exact d⟩
def xD.em{H H':ar}{v:AV}{l:List Act}(h:xD H v l)(f:Fr Em H H'):xD H' v l :=
 ⟨Sl.em h.1 f,h.2.imp id λ⟨b,m,rest,a1,a2,a3,a4⟩=>⟨b,m,rest,a1,qn a2 f.au,a3,by rw[f.ah b a2 id];exact a4⟩⟩
def xlv{H:ar}{v:AV}{l:List Act}(h:aT Act.enc tE 3 H v l){i:Nat}(O:i<l.length)(hl:l.length<=100000):zd M tr [v,.int .i64 (i:Int),.int .i64 ((i+1:Nat):Int)] H λ r H'=>xD H' r (l.eraseIdx i)/\Fr (aM v) H H' /\ ∀z,aM r z->aM v z:=by
 obtain⟨_,⟨N,_⟩|⟨b,rfl,A,e⟩⟩:=h
 .omega
 obtain⟨l1,x,l2,rfl,rfl⟩:∃l1 x l2,l=l1++x::l2/\l1.length=i:=⟨l.take i,l[i],l.drop (i+1),by rw[List.getElem_cons_drop,yr],by rw[jq];omega⟩
 have er:(l1++x::l2).eraseIdx l1.length=l1++l2:=by rw[List.eraseIdx_append_of_length_le (qm _),Hj];rfl
 rw[er];obtain⟨n,hn⟩:∃n,n=(l1++x::l2).length:=⟨_,rfl⟩
 have nn:n=l1.length+l2.length+1:=by rw[hn,qv,zz];omega
 rw[<-hn]at e hl⊢;have cs:(l1++x::l2).flatMap Act.enc=l1.flatMap Act.enc++(x.enc++l2.flatMap Act.enc):=by rw[jr,jz]
 rw[cs]at e;have Q:=Pn (l:=l1);have R:=Pn (l:=l2);have S:=Act.len x;have e1:∀n,J2 n n=true:=λ n=>by simp
 have f:∀d m,bound B5 d m=B1 d:=λ _ _=>rfl;have a:∀{k mx d:Nat},k<=mx->bound (B1 (.int .i64 (k:Int))) d mx=B1 k:=λ q=>tP rfl q .i64;have g:∃y,Op.aA 3 [B1 0,B1 1,B1 2] [.gslice b 0 n 3 0 n,.int .i64 (l1.length:Int),.int .i64 ((l1.length+1:Nat):Int),.int .i64 (n:Int)]=B1 y:=⟨_,by
  simp only[Op.aA,arg,kA,zo,jc,qr,df,a (show n<=n-0 by omega),a (show l1.length+1<=n by omega),a (show l1.length<=l1.length+1 by omega),e1,ye (xz n),Gc (show¬n=l1.length by omega),z7,xu,zn];rfl⟩
 obtain⟨W,g⟩:=g;have C:Op.aA 3 [B5,B1 0,B5] [.gslice b 0 n 3 0 n,.int .i64 (l1.length:Int)]=B1 (.gslice b 0 n 3 0 l1.length):=by
  simp only[Op.aA,arg,kA,zo,qr,df,f,a (show l1.length<=n-0 by omega),e1,ye (show l1.length<=n-0 by omega),ye (xz _),z7,xu];rfl
 have D:Op.aA 3 [B1 0,B5,B5] [.gslice b 0 n 3 0 n,.int .i64 ((l1.length+1:Nat):Int)]=B1 (.gslice b (l1.length+1) n 3 0 (n-(l1.length+1))):=by
  simp only[yf,Op.aA,arg,kA,zo,qr,df,f,a (show l1.length+1<=n by omega),e1,ye (show l1.length+1<=n by omega),ye (show n<=n-0 by omega),z7,xu];rfl
 -- what was behind it comes up
 have L:∃H1 T,T.length=3/\Op.append tE 3 24 [.gslice b 0 n 3 0 l1.length,.gslice b (l1.length+1) n 3 0 (n-(l1.length+1))] H=B1 (.gslice b 0 n 3 0 (l1.length+l2.length),H1)/\H1.get b=B1 (.grown n 3 (l1.flatMap Act.enc++l2.flatMap Act.enc++T) tE (0,0))/\Fr (aM (.gslice b 0 n 3 0 n)) H H1/\b<H1.au:=by
  have lv:eJ (.gslice b (l1.length+1) n 3 0 (n-(l1.length+1)))=B1 l2.length:=by show B1 _=_;congr 1;omega
  have one:=tu Act.one l2;have u:=ye (show 0+l1.length<=n by omega)
  by_cases c:l2.length=0
  .obtain rfl:l2=[]:=zy.1 c;refine⟨H,x.enc,rfl,?_,by rw[e,je];rfl,Fr.refl _,A⟩;simp only[Op.append,lv,qr,firstCells,j6,J2,xu,aN,cN,u,vq]
  .have J:firstCells H 3 l2.length (.gslice b (l1.length+1) n 3 0 (n-(l1.length+1)))=B1 (l2.flatMap Act.enc):=by
    simp only[firstCells,Gc c,zn,e1,AZ (show l1.length+1<n by omega),z7,xu,ar.aq,Q6 e,qr,tj];rw[xg (by simp only[qv];omega),<-je,Cj (by rw[qv];omega),zh (by omega)]
   have st:H.store b ((0+l1.length)*3) (l2.flatMap Act.enc)=B1 (H.set b (.grown n 3 (l1.flatMap Act.enc++l2.flatMap Act.enc++(x.enc++l2.flatMap Act.enc).drop (l2.length*3)) tE (0,0))):=by
    simp only[ar.store,one,xu,e,show dB (0,0) ((0+l1.length)*3) (cQ (l2.flatMap Act.enc))=B4 by simp[dB],AH];rw[xg (by simp only[qv];omega),N7 (by omega),show(0+l1.length)*3+(l2.flatMap Act.enc).length=(l1.flatMap Act.enc).length+l2.length*3 by omega,wh];rfl
   refine⟨_,(x.enc++l2.flatMap Act.enc).drop (l2.length*3),by rw[j9,qv];omega,?_,xe ..,(Fr.refl H).set (.inl ⟨by simp,rfl⟩) _,A⟩;simp only[Op.append,lv,qr,J,one,xu,cN,Gc c,zn,e1,u,show PE 0 3=B4 from rfl,z7,ye (show 0+l1.length+l2.length<=n by omega),st]
 obtain⟨H1,T,U,ap,K,I,t⟩:=L;have j:∃alt,Op.aA 3 [B1 0,B1 1,B5] [.gslice b 0 n 3 0 (l1.length+l2.length),.int .i64 ((l1.length+l2.length:Nat):Int),.int .i64 (n:Int)]=B1 (.gslice b (l1.length+l2.length) n 3 alt 1):=⟨_,by
  simp only[yf,Op.aA,arg,kA,zo,jc,qr,df,a (show n<=n-0 by omega),a (show l1.length+l2.length<=n by omega),e1,ye (show n<=n-0 by omega),ye (xz _),z7,xu,show n-(l1.length+l2.length)=1 by omega];rfl⟩
 obtain⟨alt,j⟩:=j;have E:Op.bQ [.int .i64 0,.int .i64 0,.int .i64 0] [.gslice b (l1.length+l2.length) n 3 alt 1] H1=B1 (.tuple [],H1.set b (.grown n 3 (l1.flatMap Act.enc++l2.flatMap Act.enc ++ [.int .i64 0,.int .i64 0,.int .i64 0]) tE (0,0))):=by
  have st:H1.store b ((l1.length+l2.length)*3+0*3) [.int .i64 0,.int .i64 0,.int .i64 0]=B1 (H1.set b (.grown n 3 (l1.flatMap Act.enc++l2.flatMap Act.enc ++ [.int .i64 0,.int .i64 0,.int .i64 0]) tE (0,0))):=by
   simp only[ar.store,show aN [AV.int .i64 0,.int .i64 0,.int .i64 0]=B4 from rfl,xu,K,show dB (0,0) ((l1.length+l2.length)*3+0*3) (cQ [AV.int .i64 0,.int .i64 0,.int .i64 0])=B4 by simp[dB],AH];rw[xg (by simp only[qv,zz,j6];omega),N7 (by rw[qv];omega),jt (by simp only[qv,zz,j6];omega),zm];rfl
  have lv:eJ (.gslice b (l1.length+l2.length) n 3 alt 1)=B1 1:=rfl;have he:elemAt 3 (.gslice b (l1.length+l2.length) n 3 alt 1) 0=B1 (b,(l1.length+l2.length)*3+0*3):=by
   simp only[elemAt,show PE 0 1=B4 from rfl,e1,AZ (show l1.length+l2.length+0<n by omega),z7,xu]
  simp only[Op.bQ,lv,qr,show J2 1 0=B2 from rfl,zn,show[AV.int .i64 0,.int .i64 0,.int .i64 0].length=3 from rfl,he,show fK 1 [AV.int .i64 0,.int .i64 0,.int .i64 0]=[AV.int .i64 0,.int .i64 0,.int .i64 0]from rfl,st]
 have o:Op.ct [.gslice b 0 n 3 0 n]=B1 (.int .i64 (n:Int)):=rfl;have zL:Op.ct [.gslice b 0 n 3 0 (l1.length+l2.length)]=B1 (.int .i64 ((l1.length+l2.length:Nat):Int)):=rfl;have ne:¬((l1.length:Nat):Int)=((l1.length+1:Nat):Int):=by omega
 refine qo1 ?_;simp only[aa,bc,qo2,o,g,ne,C,D,ap,zL,j,E];refine⟨⟨⟨by rw[jr,qv,qv];omega,by rw[qv],rfl,by rw[qv];omega,.inr ⟨t,_,Q6 (xe ..),?_⟩⟩,.inr ⟨b,n,_,by rw[qv],t,by rw[qv];omega,by rw[xe,jr]⟩⟩,I.set (.inl ⟨by simp,rfl⟩) _,λ z q=>⟨by simp,q.2⟩⟩;rw[tj,xg (by simp only[qv,zz,j6];omega),As,yv,jr,N7 (by simp only[qv];omega)]
def qzx{H:ar}{a:AV}{l:List Act}(ha:bX Act.enc 3 H a l){i:Nat}(d:i<l.length)(hl:l.length<=100000):zd M S2 [a,.int .i64 (i:Int)] H λ r H'=>xD H' r (l.eraseIdx i)/\Fr Em H H' /\ ∀z,aM r z->H.au<=z/\z<H'.au:=by
 refine q1j ?_;simp only[aa,bc,q1k];refine C3.q (q4d ha hl) λ v H1⟨o,nw,f⟩=>?_;have e:aj .i64 ((i:Int)+1)=((i+1:Nat):Int):=by rw[jk (by omega) (by omega)];omega
 simp only[aa,bc,e];refine C3.q (xlv o d hl) λ r g⟨s,c,n2⟩=>?_;simp only[aa,bc];exact⟨s,f.trans c λ z q=>.inr (nw z q),λ z q=>⟨nw z (n2 z q),qn (Own.lt o z (n2 z q)) c.au⟩⟩
end Go.Am
namespace Go.Am
open Lang Go.Proofs
variable{M:ak}[MK M]
def u7(H:ar)(sv:List AV)(x0:Wo)(ok:Prop):Prop:=∃l c s wy f so sf pv fv ps fs,sv=Zr l c s wy pv f so sf fv/\bX lV 1 H pv ps/\(∀p∈ps,bX gR 1 H p.1 p.2/\vS H p.1/\p.2.length<=100000)/\bX cu 8 H fv fs/\(∀x∈fs,x.u)/\vS H fv/\x0=_S l c s wy fs (ps.map C9) f so sf/\ok=Yx l c s wy fs (ps.map C9).length f so sf
section
variable{H H':ar}{sv:List AV}{x0:Wo}{ok:Prop}
def u7.em(h:u7 H sv x0 ok)(f:Fr Em H H'):u7 H' sv x0 ok:=by
 have⟨l,c,s,t,f',so,r,pv,fv,o,fs,d,e,a,g,j,m,n⟩:=h;exact⟨l,c,s,t,f',so,r,pv,fv,o,fs,d,Sl.em e f,λ p q=>⟨Sl.em (a p q).1 f,(a p q).2.1.em f.au,(a p q).2.2⟩,Sl.em g f,j,m.em f.au,n⟩
def u7.len(h:u7 H sv x0 ok):sv.length=9:=by
 have⟨l,c,s,f,f',so,e,pv,fv,d,fs,a,_⟩:=h;rw[a];rfl
def u7.zero(h:u7 H sv x0 ok)(a:ok):x0.h=[]/\x0.n=0/\x0.b.l.length<=64:=by
 have⟨l,c,s,z,f',so,v,pv,fv,u,fs,g,j,m,o,r,t,e,f⟩:=h;subst e;rw[f]at a;refine⟨rfl,rfl,?_⟩;have d:=a.1.1.1.1.2;show(Jm l.toNat iM).length<=64;rw[zx];omega
def u7.new{b T:Nat}(h:u7 H sv x0 ok)(g:H.get b=B1 (OR sv T)):∃a p u q,Op.aq 4 [.ptr b 0] H=B1 a/\Op.ae [.ptr b 4] H=B1 p/\Op.aq 3 [.ptr b 5] H=B1 u/\Op.ae [.ptr b 8] H=B1 q /\
 zd M Zo [a,p,u,q] H λ v H'=>Fr Em H H'/\(¬ok/\v=.tuple [.nilp,.int .i64 2]\/ok /\ ∃w nb,v=.tuple [.ptr w 0,.int .i64 0]/\H.au<=nb/\W1 nb H' w 0 x0 Em):=by
 have⟨l,c,s,K,f',so,J,pv,fv,L,fs,o,t,d,m,A,C,D,E⟩:=h;subst o;refine⟨.agg (eD l c s K),pv,.agg [.int .i64 f',.int .i64 so,.int .i64 J],fv,by rw[rU (xc g) (by show 0+4<=9;decide)];rfl,y9 g 4,by rw[rU (xc g) (by show 5+3<=9;decide)];rfl,y9 g 8,?_⟩;refine(xk2 t (λ p q=>⟨(d p q).1,(d p q).2.1.lt (d p q).1,(d p q).2.2⟩) m (λ q=>C.lt m q) A).mono λ v H'⟨f,r⟩=>⟨f,?_⟩
 rw[D,E];rcases r with r|⟨r,Hb,w,B,j,bs,own,ks,V,e,n,I⟩
 .exact .inl r
 .exact .inr ⟨r,w,_,e,n,Hb,B,j,.nils,bs,own,ks,V,rfl,I,λ z q=>q.elim⟩
def yD(ok:Prop)(y:wE)(n:Nat):Prop:=ok/\1<=y.kd/\y.kd<=4/\n<=40
def A7{b T:Nat}{y:wE}(g:H.get b=B1 (OR (gU y) T)):Op.ae [.ptr b 0] H=B1 (.int .i64 y.kd)/\Op.ae [.ptr b 1] H=B1 (.int .i64 y.co)/\Op.ae [.ptr b 2] H=B1 (.int .i64 y.ad)/\Op.ae [.ptr b 3] H=B1 (.int .u64 y.v)/\Op.ae [.ptr b 4] H=B1 (.int .i64 y.n)/\Op.aq 5 [.ptr b 0] H=B1 (.agg (gU y)):=⟨y9 g 0,y9 g 1,y9 g 2,y9 g 3,y9 g 4,eF g rfl⟩
def MdQ(H:ar)(x0:Wo)(o:Prop)(v:AV)(H':ar):Prop:=Fr Em H H'/\(¬o/\v=.tuple [.nilp,.int .i64 2]\/o /\ ∃w nb,v=.tuple [.ptr w 0,.int .i64 0]/\H.au<=nb/\W1 nb H' w 0 x0 Em)
def Ω(h:u7 H sv x0 ok){lv:AV}{n:Nat}(hl:Op.ct [lv]=B1 (.int .i64 (n:Int)))(y:wE):zd M y0 [.agg sv,lv,.agg (gU y)] H (MdQ H x0 (yD ok y n)):=by
 refine xbp ?_;have⟨H1,e1,A,n1,C⟩:=cq H (OR sv wn);have⟨t,e2,c,n2,D⟩:=cq H1 (OR (gU y) zA);have j:=A.em c;have l:t.get H.au=B1 (OR sv wn):=(c.ah _ (by omega) id).trans C;obtain⟨a,p,u,q,K,I,J,L,hn⟩:=(h.em j).new (M:=M) l;simp only[aa,bc,Np,<-e1,<-e2,K,I,J,L];refine C3.q hn λ v z⟨o,r⟩=>?_;have F:=j.em o;have N:¬(2:Int)=0:=by decide
 have f:¬ ¬(0:Int)=0:=λ q=>q rfl;rcases r with⟨no,rfl⟩|⟨yes,w,nb,rfl,nn,hw⟩
 .simp only[aa,bc,Np,av,N];exact⟨F,.inl ⟨λ q=>no q.1,rfl⟩⟩
 have E:z.get H1.au=B1 (OR (gU y) zA):=(o.ah _ (by omega) id).trans D;obtain⟨e,-⟩:=A7 E
 by_cases d:y.kd<1
 .simp only[aa,bc,Np,av,f,e,xb d];exact⟨F,.inl ⟨λ q=>by have:=q.2.1;omega,rfl⟩⟩
 by_cases g:4<y.kd
 .simp only[aa,bc,Np,av,f,e,d,xb g];exact⟨F,.inl ⟨λ q=>by have:=q.2.2.1;omega,rfl⟩⟩
 by_cases m:(40:Int)<(n:Int)
 .simp only[aa,bc,Np,av,f,e,d,g,hl,xb m];exact⟨F,.inl ⟨λ q=>by have:=q.2.2.2;omega,rfl⟩⟩
 .simp only[aa,bc,Np,av,f,e,d,g,hl,m];exact⟨F,.inr ⟨⟨yes,by omega,by omega,by omega⟩,w,nb,rfl,by have:=j.au;omega,hw⟩⟩
end
section
variable{H H':ar}{nb w k:Nat}{x:Wo}{F:Nat->Prop}
def xfe(h:W1 nb H w k x F)(hl:x.h.length<=100000)(kd co:Int):zd M τ [.ptr w 0,.int .i64 kd,.int .i64 co] H λ v H'=>v=.int .i64 ((x.h.countP λ e=>decide (e.kind=kd/\e.core=co):Nat):Int)/\Fr Em H H':=by
 refine q6p ?_;simp only[aa,bc,QR];refine C3.q (Il h hl) λ r H1⟨hs,C⟩=>?_;have ln:=hs.len;simp only[aa,bc,ln];refine cK.intro (λ n E Hx=>∃i:Nat,E=[(13,.int .i64 (i:Int)),(12,.int .i64 ((x.h.length:Nat):Int)),(11,r),(7,.int .i64 (((x.h.take i).countP λ e=>decide (e.kind=kd/\e.core=co):Nat):Int)),(1,.int .i64 kd),(2,.int .i64 co)]/\Fr Em H1 Hx/\n=x.h.length-i/\i<=x.h.length) ?_ ?_
 .exact ⟨_,_,⟨0,rfl,Fr.refl _,rfl,xz _⟩,by simp only[aa,bc,yx,List.countP_nil]⟩
 rintro n E Hx ⟨i,rfl,f,rfl,I⟩
 by_cases a:i<x.h.length
 .have q:(i:Int)<((x.h.length:Nat):Int):=by omega
  obtain⟨e,he⟩:∃e,x.h[i]? = B1 e:=⟨_,xf a⟩
  have A:=Sl.em hs f;have ix:=(show bX fg.enc 9 Hx r x.h from A).idx he (z:=(i:Int)) rfl .i64;have ld:=(show bX fg.enc 9 Hx r x.h from A).aq xmb (by decide) he;have t:aj .i64 ((i:Int)+1)=((i+1:Nat):Int):=by rw[jk (by omega) (by omega)];omega
  have tk:x.h.take (i+1)=x.h.take i ++ [e]:=by rw[ku,he];rfl
  obtain⟨c,d⟩:∃c,c=(x.h.take i).countP λ e=>decide (e.kind=kd/\e.core=co):=⟨_,rfl⟩
  have cl:c<=i:=by rw[d];exact xy (List.countP_le_length) (by rw[jq];omega)
  have D:aj .i64 ((c:Int)+1)=((c+1:Nat):Int):=by rw[jk (by omega) (by omega)];omega
  have⟨m,e2,o,n2,u⟩:=cq Hx (OR e.enc ju);have s2:Op.store 9 [.ptr Hx.au 0,.agg e.enc] (Hx.alloc (OR [.int .i64 0,.int .i64 0,.int .i64 0,.int .i64 0,.int .i64 0,.int .i64 0,.int .i64 0,.int .u64 0,.int .i64 0] ju))=B1 (.undef,m):=by rw[fF (n:=9) (l:=[.int .i64 0,.int .i64 0,.int .i64 0,.int .i64 0,.int .i64 0,.int .i64 0,.int .i64 0,.int .u64 0,.int .i64 0]) (xp Hx _) rfl (xmb e) rfl,Kl,e2]
  have l0:Op.ae [.ptr Hx.au 0] m=B1 (.int .i64 e.kind):=y9 u 0;have l2:Op.ae [.ptr Hx.au 2] m=B1 (.int .i64 e.core):=y9 u 2
  by_cases g:e.kind=kd
  .by_cases j:e.core=co
   .simp only[aa,bc,QR,xb q,ix,ld,s2,l0,xb g,l2,xb j,<-d,D,t];refine⟨_,_,⟨i+1,rfl,f.em o,rfl,a⟩,by simp only[aa,bc,tk,List.countP_append,<-d];simp[g,j],by omega⟩
   .simp only[aa,bc,QR,xb q,ix,ld,s2,l0,xb g,l2,j,<-d,t];refine⟨_,_,⟨i+1,rfl,f.em o,rfl,a⟩,by simp only[aa,bc,tk,List.countP_append,<-d];simp[j],by omega⟩
  .simp only[aa,bc,QR,xb q,ix,ld,s2,l0,g,<-d,t];refine⟨_,_,⟨i+1,rfl,f.em o,rfl,a⟩,by simp only[aa,bc,tk,List.countP_append,<-d];simp[g],by omega⟩
 .have q:¬(i:Int)<((x.h.length:Nat):Int):=by omega
  simp only[aa,bc,QR,q];rw[zh (by omega)];exact⟨rfl,C.em f⟩
def Eu(h:W1 nb H w k x F)(z:x.h.length<=100000)(hl:x.b.l.length<=64)(hk:k<=90000)(y:wE):zd M VB [.ptr w 0,.agg (gU y)] H λ v H'=>v=.bool (x.SP y)/\Fr Em H H':=by
 refine xea ?_;have⟨H1,e1,d,n1,m⟩:=cq H (OR (gU y) zA);have⟨D,t,u,I,E,J⟩:=A7 m;have o:=h.em d;unfold Wo.SP;simp only[aa,bc,JV,<-e1,t,xn4 o y.co,av,D]
 by_cases a:y.kd=1
 .rw [xg a];simp only[aa,bc,JV,xb a,u];refine C3.q (KJ o hl hk y.ad) λ v j⟨r,e⟩=>?_;subst r;have n:j.get H.au=B1 (OR (gU y) zA):=(e.ah _ (by omega) id).trans m;obtain⟨-,-,-,A,-⟩:=A7 n
  by_cases c:(x.b.vA y.ad).2=0
  .simp only[aa,bc,JV,av,xb c,A];exact d.em e
  .simp only[aa,bc,JV,av,c];exact d.em e
 rw[qy a]
 by_cases f:y.kd=2
 .rw [xg f];simp only[aa,bc,JV,a,xb f,u,t,E];refine C3.q (xfe o z y.ad y.co) λ v j⟨r,e⟩=>?_;subst r;have n:j.get H.au=B1 (OR (gU y) zA):=(e.ah _ (by omega) id).trans m;obtain⟨-,-,-,-,C,-⟩:=A7 n;simp only[aa,bc,JV,C];exact⟨rfl,d.em e⟩
 rw[qy f]
 by_cases g:y.kd=3
 .rw [xg g];simp only[aa,bc,JV,a,f,xb g];exact d
 .rw [qy g];simp only[aa,bc,JV,a,f,g];exact d
end
end Go.Am
namespace Go.Am
open Lang Go.Proofs
variable{M:ak}[MK M]
def PW(x0:Wo)(y:wE)(l:List Act):Bool:=(x0.run l).1.SP y
def CW:∀(l:List Act)(x:Wo),zL (x.run l).1.b=zL x.b
 |[],x=>rfl
 |a::l,x=>(CW l _).trans (x.Mv a)
structure Bb(H0:ar)(nb w:Nat)(x0:Wo)(ls:List Act)(i:Nat)(Hx:ar):Prop where
 w:∃F,W1 nb Hx w (2*i) (x0.run (ls.take i)).1 F /\ ∀z,z<nb->F z
 fr:Fr Em H0 Hx
section
variable{H0 H H' Hx:ar}{nb w i:Nat}{x0:Wo}{ls:List Act}{sv:List AV}{ok:Prop}{lv:AV}
def Bb.em(h:Bb H0 nb w x0 ls i H)(f:Fr Em H H'):Bb H0 nb w x0 ls i H':=by
 have⟨F,a,b⟩:=h.w;exact⟨⟨_,a.em f,λ z q=>.inl (b z q)⟩,h.fr.em f⟩
def Bb.new(h:W1 nb H w 0 x0 Em)(f:Fr Em H0 H):Bb H0 nb w x0 ls 0 H:=⟨⟨_,h.below,λ z q=>.inr q⟩,f⟩
def Bb.do(h:Bb H0 nb w x0 ls i Hx){a:Act}(ha:ls[i]? = B1 a)(f:x0.h=[]/\x0.n=0/\x0.b.l.length<=64)(t:i<=1000)(d:pk H0)(hn:H0.au<=nb):zd M TX [.ptr w 0,.agg a.enc] Hx λ _ H'=>Bb H0 nb w x0 ls (i+1) H':=by
 have⟨F,g,c⟩:=h.w;have u:(ls.take i).length<=i:=by rw[jq];omega
 have m:=Wo.JA (ls.take i) x0;have j:=Wo.Dh (ls.take i) x0;have r:=d.2;rw[f.1,j6]at j;rw[f.2.1]at m;refine(OO g (by omega) (d.em h.fr) (by omega) (by omega) (by omega) (by omega) a).mono λ v H'⟨_,p⟩=>?_;have e:(x0.run (ls.take (i+1))).1=((x0.run (ls.take i)).1.act a).1:=by
  rw[ku,ha,show(B1 a).toList=[a]from rfl,Wo.yJ];rfl
 refine⟨⟨λ z=>F z\/Em z,by rw[e];exact p.w,λ z q=>.inl (c z q)⟩,xy h.fr.au p.n,λ z o q=>(p.kp z (c z (by omega))).trans (h.fr.ah z o q)⟩
def Bb.has(h:Bb H0 nb w x0 ls i Hx)(c:x0.h=[]/\x0.n=0/\x0.b.l.length<=64)(f:i<=1000)(y:wE):zd M VB [.ptr w 0,.agg (gU y)] Hx λ v H'=>v=.bool (PW x0 y (ls.take i))/\Fr Em Hx H':=by
 have⟨F,a,e⟩:=h.w;have g:(ls.take i).length<=i:=by rw[jq];omega
 have d:=Wo.Dh (ls.take i) x0;rw[c.1,j6]at d;have j:((x0.run (ls.take i)).1.b).l.length=x0.b.l.length:=congrArg C9 (CW (ls.take i) x0);exact Eu a (by omega) (by omega) (by omega) y
def HdQ(H:ar)(o:Prop)(b:Bool)(v:AV)(H':ar):Prop:=Fr Em H H'/\(¬o/\v=.tuple [.bool B2,.int .i64 2]\/o/\v=.tuple [.bool b,.int .i64 0])
def UR:[AV.int .i64 0,.int .i64 0,.int .i64 0]=Act.enc ⟨0,0,0⟩:=rfl
def S6(h:u7 H sv x0 ok)(hs:bX Act.enc 3 H lv ls)(O:pk H)(y:wE):zd M qth [.agg sv,lv,.agg (gU y)] H (HdQ H (yD ok y ls.length) (PW x0 y ls)):=by
 refine q79 ?_;have⟨H1,e1,I,n1,L⟩:=cq H (OR sv wn);have⟨l,e2,d,n2,o⟩:=cq H1 (OR (gU y) zA);have c:=I.em d;have R:Op.aq 9 [.ptr H.au 0] l=B1 (.agg sv):=eF ((d.ah _ (by omega) id).trans L) h.len;obtain⟨-,-,-,-,-,j⟩:=A7 o;have ln:=(Sl.em hs c).len;simp only[aa,bc,Lb,<-e1,<-e2,R,j];refine C3.q (Ω (h.em c) ln y) λ v Z⟨m,r⟩=>?_;have X:¬(2:Int)=0:=by decide
 have U:¬ ¬(0:Int)=0:=λ q=>q rfl;rcases r with⟨no,rfl⟩|⟨yes,w,nb,rfl,nn,hw⟩
 .simp only[aa,bc,Lb,av,X];exact⟨c.em m,.inl ⟨no,rfl⟩⟩
 have t:=h.zero yes.1;have S:=yes.2.2.2;simp only[aa,bc,Lb,av,U,ln];refine cK.intro (λ n E Hx=>∃i:Nat,E=[(24,.int .i64 (i:Int)),(23,.int .i64 ((ls.length:Nat):Int)),(22,lv),(8,.ptr w 0),(5,.ptr H1.au 0)]/\Bb l nb w x0 ls i Hx/\n=ls.length-i/\i<=ls.length) ?_ ?_
 .exact ⟨_,_,⟨0,rfl,.new hw m,rfl,xz _⟩,by simp only[aa,bc]⟩
 rintro n E Hx ⟨i,rfl,e,rfl,hi⟩
 by_cases f:i<ls.length
 .have q:(i:Int)<((ls.length:Nat):Int):=by omega
  obtain⟨a,ha⟩:∃a,ls[i]? = B1 a:=⟨_,xf f⟩
  have u:=Sl.em hs (c.em e.fr);have ix:=(show bX Act.enc 3 Hx lv ls from u).idx ha (z:=(i:Int)) rfl .i64;have ld:=(show bX Act.enc 3 Hx lv ls from u).aq Act.len (by decide) ha;have Y:aj .i64 ((i:Int)+1)=((i+1:Nat):Int):=by rw[jk (by omega) (by omega)];omega
  have⟨A,D,J,n4,N⟩:=cq Hx (OR a.enc tE);have W:Op.store 3 [.ptr Hx.au 0,.agg a.enc] (Hx.alloc (OR (Act.enc ⟨0,0,0⟩) tE))=B1 (.undef,A):=by rw[fF (xp Hx _) (Act.len _) (Act.len a) (Act.one a),Kl,D]
  have l4:=eF N (Act.len a);simp only[aa,bc,Lb,xb q,ix,ld,UR,W,l4];refine C3.q ((e.em J).do ha t (by omega) (O.em c) nn) λ v C g=>?_;simp only[aa,bc,Lb,Y];exact⟨_,_,⟨i+1,rfl,g,rfl,f⟩,by simp only[aa,bc],by omega⟩
 .have q:¬(i:Int)<((ls.length:Nat):Int):=by omega
  obtain⟨-,-,-,-,-,j⟩:=A7 (H:=Hx) (y:=y) (b:=H1.au) (T:=zA) ((e.fr.ah _ (by omega) id).trans o);simp only[aa,bc,Lb,q,j];refine C3.q (e.has t (by omega) y) λ v C⟨Q,K⟩=>?_;subst Q;rw[zh (by omega)];simp only[aa,bc,Lb];exact⟨(c.em e.fr).em K,.inr ⟨yes,rfl⟩⟩
def fsV(o:Option Nat):AV:=match o with
 |some n=>.tuple [.int .i64 (n:Int),.int .i64 0]
 |none=>.tuple [.int .i64 0,.int .i64 280]
def FsQ(H:ar)(o:Prop)(b:Option Nat)(v:AV)(H':ar):Prop:=Fr Em H H'/\(¬o/\v=.tuple [.int .i64 0,.int .i64 2]\/o/\v=fsV b)
def _V(h:u7 H sv x0 ok)(hs:bX Act.enc 3 H lv ls)(S:pk H)(y:wE):zd M D1 [.agg sv,lv,.agg (gU y)] H (FsQ H (yD ok y ls.length) (Dl (PW x0 y) ls)):=by
 refine q78 ?_;have⟨H1,e1,O,n1,R⟩:=cq H (OR sv wn);have⟨C,e2,g,n2,J⟩:=cq H1 (OR (gU y) zA);have d:=O.em g;have W:Op.aq 9 [.ptr H.au 0] C=B1 (.agg sv):=eF ((g.ah _ (by omega) id).trans R) h.len;obtain⟨-,-,-,-,-,u⟩:=A7 J;have ln:=(Sl.em hs d).len;simp only[aa,bc,Gx,<-e1,<-e2,W,u];refine C3.q (Ω (h.em d) ln y) λ v H3⟨I,r⟩=>?_;have Z:¬(2:Int)=0:=by decide
 have Y:¬ ¬(0:Int)=0:=λ q=>q rfl;rcases r with⟨no,rfl⟩|⟨yes,w,nb,rfl,nn,hw⟩
 .simp only[aa,bc,Gx,av,Z];exact⟨d.em I,.inl ⟨no,rfl⟩⟩
 have K:=h.zero yes.1;have X:=yes.2.2.2;have wl:aj .i64 (((ls.length:Nat):Int)+1)=((ls.length+1:Nat):Int):=by rw[jk (by omega) (by omega)];omega
 simp only[aa,bc,Gx,av,Y,ln,wl];refine cK.intro (λ n E Hx=>∃i:Nat,E=[(24,.int .i64 (i:Int)),(23,.int .i64 ((ls.length+1:Nat):Int)),(8,.ptr w 0),(5,.ptr H1.au 0),(1,lv)]/\Bb C nb w x0 ls (min i ls.length) Hx/\n=ls.length+1-i/\i<=ls.length+1 /\ ∀k,k<i->PW x0 y (ls.take k)=B2) ?_ ?_
 .exact ⟨_,_,⟨0,rfl,by rw[Nat.zero_min];exact .new hw I,rfl,xz _,λ k q=>by omega⟩,by simp only[aa,bc]⟩
 rintro n E Hx ⟨i,rfl,j,rfl,hi,f⟩
 by_cases l:i<ls.length+1
 .have q:(i:Int)<((ls.length+1:Nat):Int):=by omega
  rw[show min i ls.length=i by omega]at j;have N:aj .i64 ((i:Int)+1)=((i+1:Nat):Int):=by rw[jk (by omega) (by omega)];omega
  obtain⟨-,-,-,-,-,u⟩:=A7 (H:=Hx) (y:=y) (b:=H1.au) (T:=zA) ((j.fr.ah _ (by omega) id).trans J);simp only[aa,bc,Gx,xb q,u];refine C3.q (j.has K (by omega) y) λ v D⟨U,Q⟩=>?_;subst U;have c:=j.em Q;cases hp:PW x0 y (ls.take i)with
  |true =>
   simp only[aa,bc,Gx];exact⟨d.em c.fr,.inr ⟨yes,by rw[xmf _ (by omega) hp f];rfl⟩⟩
  |false =>
   have m:∀k,k<i+1->PW x0 y (ls.take k)=false:=λ k hk=>by
    by_cases e:k=i
    .rw [e];exact hp
    .exact f k (by omega)
   by_cases t:i<ls.length
   .have A:(i:Int)<((ls.length:Nat):Int):=by omega
    obtain⟨a,ha⟩:∃a,ls[i]? = B1 a:=⟨_,xf t⟩
    have L:=Sl.em hs (d.em c.fr);have ix:=(show bX Act.enc 3 D lv ls from L).idx ha (z:=(i:Int)) rfl .i64;have ld:=(show bX Act.enc 3 D lv ls from L).aq Act.len (by decide) ha;simp only[aa,bc,Gx,ln,xb A,ix,ld];refine C3.q (c.do ha K (by omega) (S.em d) nn) λ v H6 o=>?_;simp only[aa,bc,Gx,N];exact⟨_,_,⟨i+1,rfl,by rw[show min (i+1) ls.length=i+1 by omega];exact o,rfl,l,m⟩,by simp only[aa,bc],by omega⟩
   .have A:¬(i:Int)<((ls.length:Nat):Int):=by omega
    simp only[aa,bc,Gx,ln,A,N];exact⟨_,_,⟨i+1,rfl,by rw[show min (i+1) ls.length=i by omega];exact c,rfl,l,m⟩,by simp only[aa,bc],by omega⟩
 .have q:¬(i:Int)<((ls.length+1:Nat):Int):=by omega
  simp only[aa,bc,Gx,q];exact⟨d.em j.fr,.inr ⟨yes,by rw[GK _ λ k hk=>f k (by omega)];rfl⟩⟩
end
end Go.Am
namespace Go.Am
open Lang Go.Proofs
variable{M:ak}[MK M]
def Um(o:Prop)(b:Bool)(n:Int):Prop:=(¬o/\n=2)\/(o/\b=B2/\n=280)\/(o/\b=B4/\n=0)
def WtQ(H:ar)(o:Prop)(b:Bool)(v:AV)(H':ar):Prop:=Fr Em H H' /\ ∃n,v=.int .i64 n/\Um o b n
def Zf(I:Nat->Env->List aK->ar->Prop)(n:Nat)(Q:aD):aD:=λ e E D H=>match e with
 | .normal=>∃m E',I m E' D H/\uD E' E/\m<n
 |e=>Q e E D H
def QA{ctx:Ctx}{p:Kp×ai}{Q:aD}{E:Env}{D:List aK}{H:ar}(I:Nat->Env->List aK->ar->Prop)(j:∃n d,I n d D H/\uD d E)(h:∀n E D H,I n E D H->W M ctx p B4 (Zf I n Q) E D H):cK (W M ctx p) Q E D H:=by
 obtain⟨n,d,l,o⟩:=j;refine⟨I,⟨n,d,l,o.ss⟩,λ n E D H r=>W.mono (h n E D H r) λ e E D' H f=>?_⟩;cases e with
 |normal=>obtain⟨m,g,a,b,c⟩:=f;exact⟨m,g,a,b.ss,c⟩
 |_=>exact f
def xil(I:Nat->Env->List aK->ar->Prop)(D:List aK)(n:Nat)(Q:aD)(E:Env)(H:ar):Zf I n Q .normal E D H = ∃m a,I m a D H/\uD a E/\m<n:=rfl
def ah5(I:Nat->Env->List aK->ar->Prop)(D:List aK)(n:Nat)(Q:aD)(E:Env)(H:ar)(l:Nat):Zf I n Q (.exit l) E D H=Q (.exit l) E D H:=rfl
def Q_{rs:List ep}{Q:bI->ar->Prop}{E:Env}:∀{ds:List Nat}{H:ar},(∀d∈ds,H.get d=B1 (.deferred (B1 [])))->ds.Nodup->(∀H',H'.au=H.au->(∀z,z∉ds->H'.get z=H.get z)->eG M rs Q .ret E [] H')->eG M rs Q .ret E (ds.map aK.iz) H
 |[],H,_,_,h=>h H rfl λ _ _=>rfl
 |d::ds,H,hd,hn,h=>by
  rw[kh,xig];have⟨n1,n2⟩:=List.nodup_cons.1 hn;refine⟨hd d (vx ..),Q_ (λ e q=>?_) n2 λ H' a b=>h H' (a.trans (tI ..)) λ z q=>?_⟩
  .rw [kw λ w:d=e=>n1 (w▸q)];exact hd e (OA _ q)
  .rw [b z λ w=>q (OA _ w),kw λ w:d=z=>q (w▸vx ..)]
section
variable{H0 H H' Hx:ar}{nb w i:Nat}{x0:Wo}{ls:List Act}{sv:List AV}{ok:Prop}{lv:AV}
def _g(h:u7 H sv x0 ok)(hs:bX Act.enc 3 H lv ls)(l:pk H)(y:wE):zd M uF [.agg sv,lv,.agg (gU y)] H (WtQ H (yD ok y ls.length) (PW x0 y ls)):=by
 refine q6q ?_;have⟨H1,e1,f,n1,g⟩:=cq H (OR sv wn);have⟨e,e2,c,n2,j⟩:=cq H1 (OR (gU y) zA);have a:=f.em c;have n:Op.aq 9 [.ptr H.au 0] e=B1 (.agg sv):=eF ((c.ah _ (by omega) id).trans g) h.len;obtain⟨-,-,-,-,-,m⟩:=A7 j;simp only[aa,bc,UG,<-e1,<-e2,n,m];refine C3.q (S6 (h.em a) (Sl.em hs a) (l.em a) y) λ v t⟨d,r⟩=>?_;have o:¬(2:Int)=0:=by decide
 rcases r with⟨no,rfl⟩|⟨yes,rfl⟩
 .simp only[aa,bc,UG,av,o];exact⟨a.em d,_,rfl,.inl ⟨no,rfl⟩⟩
 .cases hp:PW x0 y ls with
  |true =>
   simp only[aa,bc,UG,av];exact⟨a.em d,_,rfl,.inr (.inr ⟨yes,rfl,rfl⟩)⟩
  |false =>
   simp only[aa,bc,UG,av];exact⟨a.em d,_,rfl,.inr (.inl ⟨yes,rfl,rfl⟩)⟩
def Ij(b:Bool):List AV:=[.bool b]
def ad6(b:Bool):(Ij b).length=1:=rfl
def jU(P:List Act->Bool)(ls:List Act):List Bool:=(N8 ls.length).map λ i=>!P (ls.eraseIdx i)
def yD.less{y:wE}{n m:Nat}(h:yD ok y n)(q:m<=n):yD ok y m:=⟨h.1,h.2.1,h.2.2.1,by have:=h.2.2.2;omega⟩
def NdQ(H:ar)(o:Prop)(P:List Act->Bool)(ls:List Act)(v:AV)(H':ar):Prop:=Fr Em H H'/\((∃n,v=.tuple [.nils,.int .i64 n]/\Um o (P ls) n/\n≠0)\/(o/\P ls=B4 /\ ∃nv,v=.tuple [nv,.int .i64 0]/\bX Ij 1 H' nv (jU P ls)))
def ν(h:u7 H sv x0 ok)(hs:bX Act.enc 3 H lv ls)(D:pk H)(y:wE):zd M nB [.agg sv,lv,.agg (gU y)] H (NdQ H (yD ok y ls.length) (PW x0 y) ls):=by
 refine q6m ?_;have⟨H1,e1,K,n1,N⟩:=cq H (OR sv wn);have⟨l,e2,g,n2,O⟩:=cq H1 (OR (gU y) zA);have d:=K.em g;have t:l.get H.au=B1 (OR sv wn):=(g.ah _ (by omega) id).trans N;have bx:∀{Hx:ar},Fr Em l Hx->Op.aq 9 [.ptr H.au 0] Hx=B1 (.agg sv)/\Op.aq 5 [.ptr H1.au 0] Hx=B1 (.agg (gU y)):=λ{Hx}f=>⟨eF ((f.ah _ (by omega) id).trans t) h.len,(A7 ((f.ah _ (by omega) id).trans O)).2.2.2.2.2⟩
 have ln:=(Sl.em hs d).len;simp only[aa,bc,Jh,<-e1,<-e2,bx (Fr.refl _)];refine C3.q (_g (h.em d) (Sl.em hs d) (D.em d) y) λ v Y⟨A,n,Q,hn⟩=>?_;subst Q
 by_cases n0:n=0
 case neg =>
  simp only[aa,bc,Jh,xb n0];exact⟨d.em A,.inl ⟨n,rfl,hn,n0⟩⟩
 subst n0;obtain⟨yes,hp⟩:yD ok y ls.length/\PW x0 y ls=true:=by rcases hn with⟨_,q⟩|⟨_,_,q⟩|⟨a,b,_⟩;cases q;cases q;exact⟨a,b⟩
 have R:=yes.2.2.2;simp only[aa,bc,Jh,ln];refine cK.intro (λ n E Hx=>∃(i:Nat)(j:AV),E=[(22,.int .i64 (i:Int)),(21,.int .i64 ((ls.length:Nat):Int)),(9,j),(5,.ptr H1.au 0),(3,.ptr H.au 0),(1,lv)]/\Fr Em l Hx/\aT Ij MH 1 Hx j ((jU (PW x0 y) ls).take i)/\(∀z,aM j z->l.au<=z)/\n=ls.length-i/\i<=ls.length) ?_ ?_
 .exact ⟨_,_,⟨0,.nils,rfl,A,by rw[yx];exact Own.nil ..,λ z q=>(q.1 rfl).elim,rfl,xz _⟩,by simp only[aa,bc]⟩
 rintro n E Hx ⟨i,j,rfl,m,ho,I,rfl,hi⟩;have nl:(jU (PW x0 y) ls).length=ls.length:=by unfold jU;rw[xr,zu]
 by_cases e:i<ls.length
 .have q:(i:Int)<((ls.length:Nat):Int):=by omega
  have W:aj .i64 ((i:Int)+1)=((i+1:Nat):Int):=by rw[jk (by omega) (by omega)];omega
  simp only[aa,bc,Jh,xb q,bx m];refine C3.q (qzx (Sl.em hs (d.em m)) e (by omega)) λ r Z⟨⟨T,_⟩,C,n4⟩=>?_;have c:=m.em C;simp only[aa,bc,Jh,bx c];have le:(ls.eraseIdx i).length=ls.length-1:=List.length_eraseIdx_of_lt e;refine C3.q (S6 (h.em (d.em c)) T (D.em (d.em c)) y) λ v H5⟨o,S⟩=>?_;rcases S with⟨no,_⟩|⟨_,rfl⟩
  .exact (no (yes.less (by omega))).elim
  have u:=Own.em (Own.em ho C) o;have tk:(jU (PW x0 y) ls).take (i+1)=(jU (PW x0 y) ls).take i ++ [!PW x0 y (ls.eraseIdx i)]:=by
   rw[ku];congr 1;unfold jU;rw[xm,jw e];rfl
  have tl:((jU (PW x0 y) ls).take i).length=i:=by rw[jq];omega
  simp only[aa,bc,Jh,av];refine aT.pM (bytes:=1) u (x:=.bool (!PW x0 y (ls.eraseIdx i))) (a:=!PW x0 y (ls.eraseIdx i)) rfl rfl rfl rfl (by decide) (by omega) (by omega) λ U H6 J L X=>?_;rw[<-tk]at J;have n5:=(c.em o).au;simp only[aa,bc,Jh,W];exact⟨_,_,⟨i+1,U,rfl,(c.em o).trans L λ z q=>.inr (I z q),J,λ z q=>(X z q).elim (I z) λ q=>by omega,rfl,e⟩,by simp only[aa,bc],by omega⟩
 .have q:¬(i:Int)<((ls.length:Nat):Int):=by omega
  rw[zh (by omega)]at ho;simp only[aa,bc,Jh,q];exact⟨d.em m,.inr ⟨yes,hp,j,rfl,aT.sl ho⟩⟩
def lS(n:Nat):List (List AV):=(N8 n).map λ j=>[.int .i64 ((n-1-j:Nat):Int)]
def xit{H0:ar}{p b n:Nat}(hp:H0.get p=B1 (OR [.ptr b 0] DK))(N:p<H0.au)(hn:n<=100000) :
 sI M Oe [] [.ptr p 0] (λ x=>x=p) (λ _=>False) (λ i H=>i=0 -> ∃v,Op.ae [.ptr b 0] H=B1 v/\Op.ct [v]=B1 (.int .i64 (n:Int))) H0 (lS n):=by
 intro Y R S c H1 L I f r loc C hI step;have⟨p1,Q,p3⟩:=I p (.inl rfl)
 suffices h:zd M Oe [.fn (.yield Y) [] [],.ptr p 0] H1 (HS R S c (λ _=>False) H1 (lS n).length)by
  have⟨v,H',J,W',T,U,W⟩:=h.elim;exact⟨v,H',W',J,T,U,W⟩
 refine q6o ?_;have lp:Op.ae [.ptr p 0] H1=B1 (.ptr b 0):=by rw[zb (xc (by rw[Q];exact hp))];rfl
 obtain⟨v,lb,ln⟩:=hI 0 c H1 f rfl;have D:(lS n).length=n:=by unfold lS;rw[xr,zu]
 have w1:aj .i64 ((n:Int)-1)=(n:Int)-1:=jk (by omega) (by omega);simp only[aa,bc,Pb,lp,qt,lb,ln,w1];refine cK.intro (λ m E Hx=>∃(i:Nat)(V:Nat->Prop)(z:Int),E=[(3,.int .i64 z),(0,.fn (.yield Y) [] [])]/\z=(n:Int)-1-i/\m=n-i/\i<=n/\JK R c H1 Hx i V) ?_ ?_
 .exact ⟨_,_,⟨0,c,(n:Int)-1,rfl,by omega,rfl,xz _,⟨f,λ b hb=>⟨r b hb,.inl hb⟩,Fr.refl _⟩⟩,by simp only[aa,bc]⟩
 rintro m E Hx ⟨i,V,z,rfl,hz,rfl,Z,a⟩;rcases x9 i n with u|K
 .have o:0<=z:=by omega
  have X:aj .i64 (z-1)=z-1:=jk (by omega) (by omega);have hg:(lS n)[i]? = B1 [.int .i64 z]:=by
   have e:((n-1-i:Nat):Int)=z:=by omega
   unfold lS;rw[xm,jw u];show B1 [AV.int .i64 ((n-1-i:Nat):Int)]=_;rw[e]
  have⟨bb,A,l,hr,t,j,O,hs⟩:=step _ _ hg V Hx a.hR a.hV (a.fr.mono λ _ _ q=>.inl q);have d:Fr c H1 A:=a.fr.trans t λ b q=>(a.hV b q).2;have g:∀b,l b->b<A.au/\(c b\/H1.au<=b):=λ b q=>⟨(j b q).1,(j b q).2.elim (λ w=>(a.hV b w).2) λ w=>.inr (xy a.fr.au w)⟩
  simp only[aa,bc,Pb,xb o];refine C3.tH hr ?_;cases bb with
  |true =>
   simp only[aa,bc,Pb,X];exact⟨_,_,⟨i+1,l,z-1,rfl,by omega,rfl,by omega,⟨O rfl,g,d⟩⟩,by simp only[aa,bc],by omega⟩
  |false =>
   simp only[aa,bc,Pb];exact⟨l,d.mono λ _ _ w=>.inl w,g,.inr (hs rfl)⟩
 .have o:¬0<=z:=by omega
  simp only[aa,bc,Pb,o];exact⟨V,a.fr.mono λ _ _ w=>.inl w,a.hV,.inl (by rw[D,show n=i by omega];exact a.hR)⟩
def xk9{H:ar}(b:Nat):zd M qve [.ptr b 0] H λ v H'=>v=.fn (.func Oe) [] [.ptr H.au 0]/\H'=H.alloc (OR [.ptr b 0] DK):=by
 refine xbn ?_;have mk:Op.bt Oe 0 [.ptr H.au 0]=B1 (.fn (.func Oe) [] [.ptr H.au 0]):=rfl;simp only[aa,bc,xbo,mk];rfl
def ShQ(H:ar)(o:Prop)(P:List Act->Bool)(ls:List Act)(v:AV)(H':ar):Prop:=Fr Em H H'/\((∃n,v=.tuple [.nils,.int .i64 n]/\Um o (P ls) n/\n≠0)\/(o/\P ls=B4 /\ ∃rv,v=.tuple [rv,.int .i64 0]/\xD H' rv (shr P ls) /\ ∀z,aM rv z->H.au<=z))
structure UI(P:List Act->Bool)(l0:List Act)(n2 b j:Nat)(V:Nat->Prop)(Hx:ar):Prop where
 vt:V b
 bx:∃v l,Hx.get b=B1 (OR [v] nO)/\xD Hx v l/\(∀z,aM v z->n2<=z/\V z/\z≠b)/\I6 P (l0.length-j) l=nT P l0/\l0.length-j<=l.length/\l.length<=l0.length/\(j=0->l=l0)/\P l=B4
 lt:b<Hx.au
def xD.fr{W:Nat->Prop}{v:AV}{l:List Act}(h:xD H v l)(f:Fr W H H')(hw:∀z,aM v z -> ¬W z):xD H' v l:=by
 refine⟨?_,h.2.imp id λ⟨b,m,rest,a1,a2,a3,a4⟩=>⟨b,m,rest,a1,qn a2 f.au,a3,by rw[f.ah b a2 (hw b (by rw[a1];exact⟨by simp,rfl⟩))];exact a4⟩⟩;rcases h.2 with rfl|⟨b,m,rest,rfl,_⟩
 .exact Sl.fr h.1 f (.inl rfl)
 .exact Sl.fr h.1 f (.inr (hw b ⟨by simp,rfl⟩))
def UI.loc{P:List Act->Bool}{l0:List Act}{n2 b j:Nat}{V:Nat->Prop}(h:UI P l0 n2 b j V H)(hs:∀x,V x->H'.get x=H.get x)(hn:H.au<=H'.au):UI P l0 n2 b j V H':=by
 obtain⟨v,l,c,d,a,e⟩:=h.bx;exact⟨h.vt,⟨v,l,by rw[hs _ h.vt];exact c,d.fr (W:=λ b=>¬V b) ⟨hn,λ b _ hw=>hs b (wq.1 hw)⟩ λ z q w=>w (a z q).2.1,a,e⟩,qn h.lt hn⟩
def q3g(h:u7 H sv x0 ok)(hs:bX Act.enc 3 H lv ls)(hS:pk H)(y:wE):zd M Qy [.agg sv,lv,.agg (gU y)] H (ShQ H (yD ok y ls.length) (PW x0 y) ls):=by
 refine q6n ?_;have⟨H1,e1,f1,n1,g1⟩:=cq H (OR sv wn);have⟨O,e2,f12,n2,g2⟩:=cq H1 (OR (gU y) zA);have C:=f1.em f12;have g1':O.get H.au=B1 (OR sv wn):=(f12.ah _ (by omega) id).trans g1;have bx:∀{Hx:ar},Fr Em O Hx->Op.aq 9 [.ptr H.au 0] Hx=B1 (.agg sv)/\Op.aq 5 [.ptr H1.au 0] Hx=B1 (.agg (gU y)):=λ{Hx}f=>⟨eF ((f.ah _ (by omega) id).trans g1') h.len,(A7 ((f.ah _ (by omega) id).trans g2)).2.2.2.2.2⟩
 simp only[aa,bc,Hp,<-e1,<-e2,bx (Fr.refl _)];refine C3.q (_g (h.em C) (Sl.em hs C) (hS.em C) y) λ v H3⟨f3,n,A,hn⟩=>?_;subst A
 by_cases n0:n=0
 case neg =>
  simp only[aa,bc,Hp,xb n0];exact⟨C.em f3,.inl ⟨n,rfl,hn,n0⟩⟩
 subst n0;obtain⟨yes,hp⟩:yD ok y ls.length/\PW x0 y ls=true:=by rcases hn with⟨_,q⟩|⟨_,_,q⟩|⟨a,b,_⟩;cases q;cases q;exact⟨a,b⟩
 have l40:=yes.2.2.2;simp only[aa,bc,Hp];refine C3.q (q4d (Sl.em hs (C.em f3)) (by omega)) λ cv c⟨oc,nc,f4⟩=>?_;have⟨H5,e5,f5,n5,g5⟩:=cq c (OR [cv] nO);have one:aB cv=true:=Sl.one (aT.sl oc);have s5:Op.store 1 [.ptr c.au 0,cv] (c.alloc (OR [.nils] nO))=B1 (.undef,H5):=by
  have st:=(At.new c [.nils] nO).st 0 one (by simp);rw[st,Kl,e5];rfl
 simp only[aa,bc,Hp,s5];obtain⟨P,eP⟩:∃P,P=PW x0 y:=⟨_,rfl⟩
 rw[<-eP]at hp⊢;have fx5:Fr Em O H5:=(f3.em f4).em f5;have m5:=(f3.em f4).au;refine QA (λ m E D Hx=>∃(K:Int)(v:AV)(l:List Act)(ds:List Nat),E=[(10,.int .i64 K),(9,.ptr c.au 0),(5,.ptr H1.au 0),(3,.ptr H.au 0)]/\D=ds.map aK.iz/\ds.Nodup/\(∀d∈ds,c.au<d/\d<Hx.au/\Hx.get d=B1 (.deferred (B1 [])))/\Fr Em O Hx/\Hx.get c.au=B1 (OR [v] nO)/\c.au<Hx.au/\xD Hx v l/\(∀z,aM v z->O.au<=z/\z≠c.au/\z∉ds/\z<Hx.au)/\l.length<=ls.length/\P l=B4/\shr P l=shr P ls/\(K=(l.length:Int)->nT P l=l)/\m=(if K=(l.length:Int)then 0 else l.length+1)) ?_ ?_
 .exact ⟨_,_,⟨-1,cv,ls,[],rfl,rfl,List.nodup_nil,λ d q=>(by cases q),fx5,g5,by omega,(xD.of oc).em f5,λ z q=>⟨by have:=nc z q;have:=f3.au;omega,by have:=Own.lt oc z q;omega,λ w=>(by cases w),by have:=Own.lt oc z q;omega⟩,qm _,hp,rfl,λ q=>by omega,rfl⟩,by simp only[aa,bc]⟩
 rintro m E D Hx ⟨K,v,l,ds,rfl,rfl,hnd,J,fx,gb,lb,wt,A,ll,hpl,hsh,hfx,rfl⟩;have l9:Op.ae [.ptr c.au 0] Hx=B1 v:=y9 gb 0;have ln:Op.ct [v]=B1 (.int .i64 (l.length:Int)):=wt.1.len
 by_cases hw:K=(l.length:Int)
 .simp only[aa,bc,Hp,l9,ln,xb hw,ah5];refine Q_ (λ d q=>(J d q).2.2) hnd λ H' nx kp=>?_;have es:shr P ls=l:=by rw[<-hsh];exact T3 P (hfx hw) _
  simp only[aa,bc];refine⟨⟨by have:=(C.em fx).au;omega,λ z zl _=>?_⟩,.inr ⟨yes,hp,v,rfl,?_,λ z q=>by have:=(A z q).1;have:=C.au;omega⟩⟩
  .rw [kp z λ w=>by have:=(J z w).1;have:=C.au;omega];exact(C.em fx).ah z zl id
  .rw [es];exact wt.fr (W:=λ z=>z∈ds) ⟨by omega,λ z _ q=>kp z q⟩ λ z q=>(A z q).2.2.1
 .simp only[aa,bc,Hp,l9,ln,hw];refine C3.q (xk9 c.au) λ bv H6⟨hbv,h6⟩=>?_;subst hbv;obtain⟨f6,n6,g6⟩:Fr Em Hx H6/\H6.au=Hx.au+1/\H6.get Hx.au=B1 (OR [.ptr c.au 0] DK):=by rw[h6];exact⟨(Fr.refl Hx).alloc _,xx ..,xp ..⟩
  have gb6:H6.get c.au=B1 (OR [v] nO):=(f6.ah _ lb id).trans gb;have wt6:=wt.em f6;simp only[aa,bc,Hp];refine iB.sK (fn:=SZ) (lp:=Pl) (pa:=VS 0) (pb:=ZK 0) q1i _q.1 _q.2 (by decide) qyq qyr
   (xit (n:=l.length) g6 (by omega) (by omega)) (λ j V Hy=>UI P l O.au c.au j V Hy) (λ _ _ _=>False) (λ z=>z=c.au\/aM v z) (qm _) ?_ ?_ ?_ ?_ ?_ ?_ ?_ ?_ ?_
  .rintro x (q|q)
   .exact ⟨by omega,rfl,λ w=>w.elim (by omega) λ w=>by have:=(A x w).2.2.2;omega⟩
   .exact q.elim
  .exact λ x q=>q.elim (by omega) λ q=>by have:=(A x q).2.2.2;omega
  .exact ⟨.inl rfl,⟨v,l,gb6,wt6,λ z q=>⟨(A z q).1,.inr q,(A z q).2.1⟩,rfl,qm _,qm _,λ _=>rfl,hpl⟩,by omega⟩
  .exact λ j V Ha Hb h hs hn=>h.loc hs hn
  .exact λ e V Ha Hb h _ _=>h
  .intro j V Hy o e0;obtain⟨R,u,a1,a2,_,_,_,_,a7,_⟩:=o.bx;have a7:=a7 e0;subst a7;exact⟨R,y9 a1 0,a2.1.len⟩
  .intro L j lr lbo x hx hL V N o hV hf7 hnL hL7 hgL;have bl:(lS l.length).length=l.length:=by unfold lS;rw[xr,zu]
   have hj:j<l.length:=by have:=(qo.1 hx).1;omega
   obtain⟨k,hk⟩:∃k,k=l.length-1-j:=⟨_,rfl⟩
   unfold lS at hx;rw[xm,jw hj]at hx;injection hx with hx
   have hx:[AV.int .i64 ((l.length-1-j:Nat):Int)]=x:=hx;subst hx;rw[<-hk];refine⟨_,rfl,?_⟩;obtain⟨-,wa,wb,-,wb3,-,wb11,-⟩:=Hp M ⟨B1 L,Qy⟩;simp only[aa,bc,wa,AW];refine⟨hgL,?_⟩;obtain⟨R,u,a1,a2,U,Y,a5,a6,a7,a8⟩:=o.bx;have hLb:L≠c.au:=λ q=>hnL (by rw[q];exact o.vt);have F7:Fr Em O N:=(fx.em f6).trans hf7 λ z q=>.inr (q.elim (λ q=>q.elim (λ q=>by omega) λ q=>(A z q).1) Nk);obtain⟨T,e8⟩:∃X,X=N.set L lbo:=⟨_,rfl⟩
   rw[<-e8];have I:Fr (On L) N T:=by rw[e8];exact b9 ..
   have n8:T.au=N.au:=by rw[e8];rfl
   have F8:Fr Em O T:=F7.trans I λ z(q:z=L)=>.inr (by have:=fx.au;omega);have gL8:T.get L=B1 lbo:=by rw[e8];exact xe ..
   have hB8:=o.loc (H':=T) (λ z q=>I.ah z (hV z q).1 λ(w:z=L)=>hnL (w▸q)) (by omega);have gb8:T.get c.au=B1 (OR [R] nO):=(I.ah _ o.lt λ(w:c.au=L)=>hLb w.symm).trans a1;have wt8:xD T R u:=a2.fr I λ z q(w:z=L)=>hnL (w▸(U z q).2.1);have ki:k<u.length:=by omega
   have er:I6 P k (if P (u.eraseIdx k)=B4 then u.eraseIdx k else u)=nT P l:=by rw[<-Y,show l.length-j=k+1 by omega];rfl
   have ej:l.length-(j+1)=k:=by omega
   have VL:∀z,V z->z<T.au/\(V z\/N.au<=z):=λ z q=>⟨by have:=(hV z q).1;omega,.inl q⟩
   simp only[aa,bc,wb,y9 gb8 0];refine C3.q (qzx wt8.1 ki (by omega)) λ r H9⟨w9,f9,nw9⟩=>?_;have F9:=F8.em f9;simp only[aa,bc,wb3,bx F9];have le:(u.eraseIdx k).length=u.length-1:=List.length_eraseIdx_of_lt ki;refine C3.q (S6 (h.em (C.em F9)) w9.1 (hS.em (C.em F9)) y) λ vv t⟨f10,r10⟩=>?_;rcases r10 with⟨no,_⟩|⟨_,rfl⟩
   .exact (no (yes.less (by omega))).elim
   have g:=f9.em f10;have n10:=g.au;have Z:t.get L=B1 lbo:=(g.ah L (by omega) id).trans gL8;rw[<-eP];have S:Fr (λ z=>V z\/z=L) N t:=(I.mono λ z _(q:z=L)=>.inr q).trans g λ z q=>q.elim;cases hpp:P (u.eraseIdx k)with
   |false =>
    rw[hpp,qy (by decide)]at er;simp only[aa,bc,av,wb11];refine⟨rfl,Z,V,λ z q=>⟨by have:=(VL z q).1;omega,.inl q⟩,S,.inl ⟨rfl,⟨o.vt,⟨R,u,(g.ah _ (by have:=o.lt;omega) id).trans gb8,wt8.em g,U,by rw[ej];exact er,by omega,a6,λ q=>by omega,a8⟩,by have:=o.lt;omega⟩⟩⟩
   |true =>
    rw[hpp,xg rfl]at er;have one:aB r=true:=Sl.one w9.1;have st:=(show At t c.au nO [R]from⟨(g.ah _ (by have:=o.lt;omega) id).trans gb8,by have:=o.lt;omega⟩).st 0 one (by simp);obtain⟨H11,Q⟩:∃X,X=t.set c.au (OR ([R].set 0 r) nO):=⟨_,rfl⟩
    rw[<-Q]at st;have f11:Fr (On c.au) t H11:=by rw[Q];exact b9 ..
    have n11:H11.au=t.au:=by rw[Q];rfl
    have nr:∀z,aM r z->N.au<=z:=λ z q=>by have:=(nw9 z q).1;omega
    have hb7:=o.lt;have rl:∀z,aM r z->z<t.au:=λ z q=>by have:=(nw9 z q).2;have:=f10.au;omega
    simp only[aa,bc,av,wb11,st];refine⟨rfl,(f11.ah L (by omega) hLb).trans Z,λ z=>V z\/aM r z,λ z q=>?_,(S.trans f11 λ z(q:z=c.au)=>.inl (.inl (by rw[q];exact o.vt))),.inl ⟨rfl,⟨.inl o.vt,⟨r,u.eraseIdx k,by rw[Q];exact xe ..,(w9.em f10).fr f11 λ z q(w:z=c.au)=>by have:=nr z q;omega,λ z q=>⟨by have:=nr z q;have:=F7.au;omega,.inr q,by have:=nr z q;omega⟩,by rw[ej];exact er,by omega,by omega,λ q=>by omega,hpp⟩,by omega⟩⟩⟩;rcases q with q|q
    .exact ⟨by have:=(VL z q).1;omega,.inl q⟩
    .exact ⟨by have:=rl z q;omega,.inr (nr z q)⟩
  .intro d V N hd1 hd2 hgd hfd hVd o;have bl:(lS l.length).length=l.length:=by unfold lS;rw[xr,zu]
   rw[bl]at o;obtain⟨R,u,a1,a2,U,Y,a5,a6,a7,a8⟩:=o.bx;have Y:u=nT P l:=by rw[<-Y,Hj];rfl
   have F7:Fr Em O N:=(fx.em f6).trans hfd λ z q=>.inr (q.elim (λ q=>q.elim (λ q=>by omega) λ q=>(A z q).1) Nk);have nfd:=hfd.au;simp only[aa,bc,Hp,BA,xil];refine⟨_,_,⟨(l.length:Int),R,u,d::ds,rfl,rfl,List.nodup_cons.2 ⟨λ q=>by have:=(J d q).2.1;omega,hnd⟩,λ e q=>?_,F7,a1,o.lt,a2,λ z q=>⟨(U z q).1,(U z q).2.2,λ w=>?_,(hVd z (U z q).2.1).1⟩,by omega,a8,by rw[Y,ah4];exact hsh,λ q=>?_,rfl⟩,by simp only[aa,bc],?_⟩
   .rcases kj.1 q with rfl|q
    .exact ⟨by omega,hd2,hgd⟩
    .have ⟨x1,x2,x3⟩:=J e q;exact⟨x1,by omega,(hfd.ah e (by omega) λ w=>w.elim (λ w=>w.elim (by omega) λ w=>(A e w).2.2.1 q) id).trans ((f6.ah e x2 id).trans x3)⟩
   .have ⟨y1,y2,y3⟩:=hVd z (U z q).2.1;rcases kj.1 w with e|w
    .exact y3 e
    .exact y2.elim (λ y=>y.elim (U z q).2.2 λ y=>(A z y).2.2.1 w) λ y=>by have:=(J z w).2.1;omega
   .have e:=(Wi P (l:=l) (by rw[<-Y];omega)).1;rw[Y,e];exact e
   .have:=US P l;rw[<-Y]at this;split<;>omega
  .exact λ e d V N _ _ _ _ _ _ o=>o.elim
end
end Go.Am
namespace Go.Am
open Lang Go.Proofs
variable{M:ak}[MK M]
section
open Go.RowKit
def Fg{P:Kb}{tL tA e:ME}{g:Array Field}(z:P.underlying tL=B1 (.slice tA))(uA:P.underlying tA=B1 (.struct g))(r:g.toList.map (·.type)=[e,e,e])(uN:P.underlying e=B1 (.int .i64))(t:IH P 0 g.toList=B4)(v:(g.toList.map λ f=>P.cellsOf f.type).sum=P.cellsOf tA)(j:P.cellsOf tA=3) :
 sL P tL λ H l=>∃u,l=[u] /\ ∃ls:List Act,bX Act.enc 3 H u ls:=by
 refine(Ty z (ZJ (n:=3) uA r uN t v) (by rw[j];decide)).imp ?_ λ H l h=>?_
 .rintro H H' l ⟨u,d,xs,m⟩ f;exact⟨u,d,xs,m.em f⟩
 .obtain ⟨u,rfl,d,m⟩:=h;rw[j]at d;have⟨xs,o,_⟩:=SM (enc:=Act.enc) (Q:=λ _=>True) (λ l h=>by
   obtain⟨_,_,rfl,⟨a,rfl,_⟩,_,_,rfl,⟨b,rfl,_⟩,_,_,rfl,⟨c,rfl,_⟩,rfl⟩:=h;exact⟨⟨a,b,c⟩,rfl,trivial⟩) d
  exact⟨u,rfl,xs,o⟩
end
def l_{n:Nat}:∀{l:List Nat},n∈l->n<=l.sum
 |a::l,h=>by
  rw[List.sum_cons];rcases kj.1 h with rfl|h
  .omega
  .have:=l_ h;omega
def GrQ(H:ar)(sv:List AV)(v:AV)(H':ar):Prop:=Fr Em H H'/\(v=.int .i64 1\/v=.int .i64 0 /\ ∃x0 ok,u7 H sv x0 ok)
def xii{H:ar}{sv:List AV}(h:kG H sv):zd M mo [.agg sv] H (GrQ H sv):=by
 have⟨l,c,s,S,f,so,Q,pv,fv,a,fs,T,O,j,N,D,C,W⟩:=h;subst T;refine xap ?_;have⟨H1,e1,m,n1,L⟩:=cq H (OR (Zr l c s S pv f so Q fv) wn);have l4:Op.ae [.ptr H.au 4] H1=B1 pv:=y9 L 4;have I:Op.ae [.ptr H.au 8] H1=B1 fv:=y9 L 8;have J:=Sl.em O m;have pl:=(show bX lV 1 H1 pv a from J).len;have fl:=(Sl.em N m).len;have R:reachBytes=140737488351232:=by decide
 -- so many bytes in the first ones
 obtain⟨d,g⟩:∃d:Nat->Nat,d=λ i=>((a.take i).map λ p=>p.2.length).sum:=⟨_,rfl⟩
 have s0:d 0=0:=by rw[g];rfl
 have ss:∀{i p},a[i]? = B1 p->d (i+1)=d i+p.2.length:=λ{i p}hp=>by
  rw[g];show(((a.take (i+1)).map λ p=>p.2.length).sum)=_;rw[ku,hp,Jg,List.sum_append];simp
 have sb:∀i,i<=10->d i<=i*reachBytes:=λ i=>by
  induction i with
  |zero=>intro _;rw[s0];exact xz _
  |succ i ih =>
   intro q;have:=ih (by omega);cases hp:a[i]? with
   |some p=>rw[ss hp];have:=(j p (zg hp)).2.2.2;rw[vr];omega
   |none =>
    have e:a.take (i+1)=a.take i:=by rw[ku,hp];simp
    have:d (i+1)=d i:=by rw[g];show((a.take (i+1)).map _).sum=_;rw[e]
    rw[this,vr];omega
 simp only[aa,bc,LU,<-e1];refine cK.intro (λ n E Hx=>∃(i:Nat)(z:Int),E=[(4,.int .i64 (i:Int)),(3,.int .i64 z),(1,.ptr H.au 0)]/\Hx=H1/\n=a.length-i/\i<=a.length/\(a.length<=10->z=(d i:Nat))) ?_ ?_
 .exact ⟨_,_,⟨0,0,rfl,rfl,rfl,xz _,λ _=>by rw[s0];rfl⟩,by simp only[aa,bc]⟩
 rintro n E Hx ⟨i,z,rfl,rfl,rfl,Z,u⟩
 by_cases o:i<a.length
 .have q:(i:Int)<((a.length:Nat):Int):=by omega
  obtain⟨p,hp⟩:∃p,a[i]? = B1 p:=⟨_,xf o⟩
  have ix:=(show bX lV 1 Hx pv a from J).idx hp (z:=(i:Int)) rfl .i64;have ld:Op.ae [.ptr (aF pv) (cZ 1 pv i)] Hx=B1 p.1:=(show bX lV 1 Hx pv a from J).jO xcq hp (by decide);have r:=j p (zg hp);have X:=(Sl.em r.1 m).len;have Y:aj .i64 ((i:Int)+1)=((i+1:Nat):Int):=by rw[jk (by omega) (by omega)];omega
  simp only[aa,bc,LU,l4,pl,xb q,ix,ld,X,Y];refine⟨_,_,⟨i+1,aj .i64 (z+(p.2.length:Int)),rfl,rfl,o,λ A=>?_⟩,by simp only[aa,bc],by omega⟩;have:=sb i (by omega);have:=ya reachBytes (show i<=10 by omega);have:=r.2.2.2;rw[u A,ss hp,jk (by omega) (by omega)];omega
 .have q:¬(i:Int)<((a.length:Nat):Int):=by omega
  have U:i=a.length:=by omega
  simp only[aa,bc,LU,l4,pl,q]
  by_cases t:(10:Int)<((a.length:Nat):Int)
  .simp only[aa,bc,LU,xb t];exact⟨m,.inl rfl⟩
  by_cases v:(100:Int)<((fs.length:Nat):Int)
  .simp only[aa,bc,LU,t,I,fl,xb v];exact⟨m,.inl rfl⟩
  by_cases K:(2000:Int)<z
  .simp only[aa,bc,LU,t,I,fl,v,xb K];exact⟨m,.inl rfl⟩
  .simp only[aa,bc,LU,t,I,fl,v,K];refine⟨m,.inr ⟨rfl,_,_,l,c,s,S,f,so,Q,pv,fv,a,fs,rfl,O,λ p w=>⟨(j p w).1,(j p w).2.2.1,?_⟩,N,D,C,rfl,rfl⟩⟩;have u:=u (by omega);have:p.2.length<=d a.length:=by
    rw[g];show _<=((a.take a.length).map λ p=>p.2.length).sum;rw[Le];exact l_ (F1.2 ⟨p,w,rfl⟩)
   rw[U]at u;omega
end Go.Am
namespace Go.Am
open Lang Go.Proofs
variable{M:ak}[MK M]
def jR:wE:=⟨2,0,5,0,0⟩
def NJ(x0:Wo)(l:List Act):PW x0 jR l=true:=by
 unfold PW Wo.SP jR;rw[qy (by decide),xg rfl];exact yd (Int.natCast_nonneg _)
def I4{α:Type}{P:List α->Bool}(h:∀l,P l=B4)(l:List α):shr P l=[]:=by
 rcases Nat.eq_zero_or_pos (shr P l).length with q|q
 .exact zy.1 q
 .have:=EY P l q;rw[h]at this;cases this
def qxc{H:ar}{sv:List AV}{lv:AV}{ls:List Act}(W:∀H1,Fr Em H H1->zd M q9m [] H1 λ v H'=>v=.bool B4/\H'=H1)(r:pk H)(hA:kG H sv)(hs:bX Act.enc 3 H lv ls) :
 zd M N' [.agg sv,lv] H λ v _=>v=.bool true:=by
 have Z:sv.length=9:=by have⟨_,_,_,_,_,_,_,_,_,_,_,e,_⟩:=hA;rw[e];rfl
 refine qrr ?_;have⟨H1,e1,R,n1,g1⟩:=cq H (OR sv wn);simp only[aa,bc,jj,<-e1];refine C3.q (W H1 R) λ v X⟨hv,Y⟩=>?_;subst hv;have Y:=Y.symm;subst Y;have bx:∀{Hx:ar},Fr Em H1 Hx->Op.aq 9 [.ptr H.au 0] Hx=B1 (.agg sv):=λ{Hx}f=>eF ((f.ah _ (by omega) id).trans g1) Z;simp only[aa,bc,jj,bx (Fr.refl _)];refine C3.q (xii (hA.em R)) λ v u⟨S,hv⟩=>?_;have A:¬(0:Int)<0:=by decide
 have Q:(0:Int)<1:=by decide
 rcases hv with rfl|⟨rfl,x0,ok,hg⟩
 .simp only[aa,bc,jj,xb Q]
 have F2:=R.em S;have ln:=(Sl.em hs F2).len
 by_cases C:(20:Int)<((ls.length:Nat):Int)
 .simp only[aa,bc,jj,A,ln,xb C]
 have bw:Op.build [.int .i64 0,.int .i64 0,.int .i64 0,.int .u64 0,.int .i64 0] [(0,1),(2,1)] [.int .i64 2,.int .i64 5]=B1 (.agg (gU jR)):=rfl;have⟨N,e3,T,n3,g3⟩:=cq u (OR (gU jR) zA);have s3:Op.store 5 [.ptr u.au 0,.agg (gU jR)] (u.alloc (OR [.int .i64 0,.int .i64 0,.int .i64 0,.int .u64 0,.int .i64 0] zA))=B1 (.undef,N):=by rw[fF (n:=5) (l:=[.int .i64 0,.int .i64 0,.int .i64 0,.int .u64 0,.int .i64 0]) (xp u _) rfl rfl rfl,Kl,e3]
 have b5:∀{Hx:ar},Fr Em N Hx->Op.aq 9 [.ptr H.au 0] Hx=B1 (.agg sv)/\Op.aq 5 [.ptr u.au 0] Hx=B1 (.agg (gU jR)):=λ{Hx}f=>⟨bx ((S.em T).em f),(A7 ((f.ah _ (by omega) id).trans g3)).2.2.2.2.2⟩
 have j:=F2.em T;have d:u7 N sv x0 ok:=hg.em (S.em T);simp only[aa,bc,jj,A,ln,C,bw,s3,b5 (Fr.refl _)];refine C3.q (S6 (lv:=.nils) (ls:=[]) d ⟨rfl,rfl⟩ (r.em j) jR) λ v H4⟨o,r4⟩=>?_;have K:=j.em o;have q0:¬ ¬(0:Int)=0:=λ q=>q rfl;have g:ls.length<=20:=by omega
 by_cases I:ok
 .have yes:∀{n},n<=20->yD ok jR n:=λ{n}q=>⟨I,by decide,by decide,by omega⟩
  obtain rfl:v=.tuple [.bool B4,.int .i64 0]:=by
   rcases r4 with⟨no,_⟩|⟨_,e⟩
   .exact (no (yes (by decide))).elim
   .rw [e,NJ]
  simp only[aa,bc,jj,av,b5 o];refine C3.q (q3g (d.em o) (Sl.em hs K) (r.em K) jR) λ v H5⟨U,r5⟩=>?_;have a:=o.em U;obtain⟨rv,rfl,hr⟩:∃rv,v=.tuple [rv,.int .i64 0]/\bX Act.enc 3 H5 rv []:=by
   rcases r5 with⟨n,e,h,n0⟩|⟨_,_,rv,e,h,_⟩
   .rcases h with⟨q,_⟩|⟨_,q,_⟩|⟨_,_,q⟩
    .exact (q (yes g)).elim
    .rw [NJ]at q;cases q
    .exact (n0 q).elim
   .exact ⟨rv,e,by have:=h.1;rw[I4 (NJ x0)]at this;exact this⟩
  simp only[aa,bc,jj,av,b5 a];refine C3.q (_V (d.em a) (Sl.em hs (j.em a)) (r.em (j.em a)) jR) λ v H6⟨L,r6⟩=>?_;have c:=a.em L;obtain rfl:v=.tuple [.int .i64 0,.int .i64 0]:=by
   rcases r6 with⟨no,_⟩|⟨_,e⟩
   .exact (no (yes g)).elim
   .rw [e,xmf (PW x0 jR) (n:=0) (xz _) (NJ ..) λ k q=>by omega];rfl
  simp only[aa,bc,jj,av,b5 c];refine C3.q (ν (d.em c) (Sl.em hs (j.em c)) (r.em (j.em c)) jR) λ v O⟨f7,r7⟩=>?_;obtain⟨nv,rfl,hn⟩:∃nv,v=.tuple [nv,.int .i64 0]/\bX Ij 1 O nv (jU (PW x0 jR) ls):=by
   rcases r7 with⟨n,e,h,n0⟩|⟨_,_,nv,e,h⟩
   .rcases h with⟨q,_⟩|⟨_,q,_⟩|⟨_,_,q⟩
    .exact (q (yes g)).elim
    .rw [NJ]at q;cases q
    .exact (n0 q).elim
   .exact ⟨nv,e,h⟩
  have nl:(jU (PW x0 jR) ls).length=ls.length:=by unfold jU;rw[xr,zu]
  have t:=hn.len;rw[nl]at t;have lr:Op.ct [rv]=B1 (.int .i64 0):=(hr.em ((L.em f7))).len;simp only[aa,bc,jj,av,q0,t];refine cK.intro (λ n E Hx=>∃i:Nat,E=[(82,.int .i64 (i:Int)),(81,.int .i64 ((ls.length:Nat):Int)),(14,.int .i64 0),(13,nv),(12,.int .i64 0),(11,.int .i64 0),(10,.int .i64 0),(9,rv),(7,.bool B4),(5,.bool B4),(1,lv)]/\Hx=O/\n=ls.length-i/\i<=ls.length) ?_ ?_
  .exact ⟨_,_,⟨0,rfl,rfl,rfl,xz _⟩,by simp only[aa,bc]⟩
  rintro n E Hx ⟨i,rfl,rfl,rfl,hi⟩
  by_cases D:i<ls.length
  .have q:(i:Int)<((ls.length:Nat):Int):=by omega
   have hx:(jU (PW x0 jR) ls)[i]? = B1 false:=by unfold jU;rw[xm,jw D,FI,NJ];rfl
   have ix:=hn.idx hx (z:=(i:Int)) rfl .i64;have ld:Op.ae [.ptr (aF nv) (cZ 1 nv i)] Hx=B1 (.bool B2):=hn.jO ad6 hx (by decide);have wi:aj .i64 ((i:Int)+1)=((i+1:Nat):Int):=by rw[jk (by omega) (by omega)];omega
   simp only[aa,bc,jj,xb q,ix,ld,wi];exact⟨_,_,⟨i+1,rfl,rfl,D⟩,by simp only[aa,bc],by omega⟩
  .have q:¬(i:Int)<((ls.length:Nat):Int):=by omega
   have ln7:Op.ct [lv]=B1 (.int .i64 ((ls.length:Nat):Int)):=ln;simp only[aa,bc,jj,q,lr,t,ln7]
 .have no:∀{n},¬yD ok jR n:=λ q=>I q.1;obtain rfl:v=.tuple [.bool B2,.int .i64 2]:=by
   rcases r4 with⟨_,e⟩|⟨q,_⟩
   .exact e
   .exact (no q).elim
  have J:∀{n:Int}{b m},Um (yD ok jR m) b n->n=2:=λ h=>by
   rcases h with⟨_,q⟩|⟨q,_⟩|⟨q,_⟩
   .exact q
   .exact (no q).elim
   .exact (no q).elim
  simp only[aa,bc,jj,av,b5 o];refine C3.q (q3g (d.em o) (Sl.em hs K) (r.em K) jR) λ v H5⟨U,r5⟩=>?_;have a:=o.em U;obtain rfl:v=.tuple [.nils,.int .i64 2]:=by
   rcases r5 with⟨n,e,h,n0⟩|⟨q,_⟩
   .rw [e,J h]
   .exact (no q).elim
  simp only[aa,bc,jj,av,b5 a];refine C3.q (_V (d.em a) (Sl.em hs (j.em a)) (r.em (j.em a)) jR) λ v H6⟨L,r6⟩=>?_;have c:=a.em L;obtain rfl:v=.tuple [.int .i64 0,.int .i64 2]:=by
   rcases r6 with⟨_,e⟩|⟨q,_⟩
   .exact e
   .exact (no q).elim
  simp only[aa,bc,jj,av,b5 c];refine C3.q (ν (d.em c) (Sl.em hs (j.em c)) (r.em (j.em c)) jR) λ v O⟨f7,r7⟩=>?_;obtain rfl:v=.tuple [.nils,.int .i64 2]:=by
   rcases r7 with⟨n,e,h,n0⟩|⟨q,_⟩
   .rw [e,J h]
   .exact (no q).elim
  have tz:¬(2:Int)=0:=by decide
  simp only[aa,bc,jj,av,xb tz]
end Go.Am
