import Derived.Test.YtpnpgihabgglcaaGreatDoorAmBZe
import Derived.Test.YtpnpgihabgglcaaGreatDoorAmBZm
import Derived.Test.YtpnpgihabgglcaaGreatDoorAmBZj
set_option linter.defProp false
set_option linter.unusedVariables false
set_option linter.unusedSimpArgs false
set_option linter.unusedSectionVars false
set_option maxRecDepth 100000
open Nat renaming reduceEqDiff→bc
namespace Go.Am
open Go.RowKit
section
variable{P:Program}
def Wt(P:Program)(t:TypeId){Hh:Type}(d:DataW Hh):Prop:=∀x∈DataW.weights P t d,x<=reachBytes
def YU{a:Type}{e:TypeId}{x:Nat}{d:DataW a}:∀{l:List (DataW a)},d∈l->x∈DataW.weights P e d->x∈DataW.weightsAll P e l
 |y::l,h,hx=>by
  rw[DataW.weightsAll,zu];rcases jg.1 h with rfl|h
  .exact .inl hx
  .exact .inr (YU h hx)
def tc(P:Program)(t:TypeId)(R:ar->List AV->Prop):Prop :=
 (∀H H' l,R H l->Fr Em H H'->R H' l) /\ ∀{Hh:Type}(enc:TypeId×Value->Hh)(W:World)(held:Bool)(fuel:Nat)(cs:List Value)(d:DataW Hh)(ps:List MemPlace),
  DataW.trod enc P W 0 (λ _=>true) held fuel t cs=some (d,ps)->Wt P t d -> ∀(θ:Th)(n:Nat)(gl:GL),Good W θ n gl -> ∃θ' n' gl' l,Step W θ n gl θ' n' gl'/\bL (Lt n') θ' l cs/\R (vc gl' n') l
def Ur.toW{t:TypeId}{R:ar->List AV->Prop}(h:Ur P t R):tc P t R:=⟨h.1,λ enc W held fuel cs d e a _=>h.2 enc W held fuel cs d e a⟩
def xfj{e:TypeId}{R:ar->List AV->Prop}(hR:tc P e R){q:Type}(enc:TypeId×Value->q)(W:World)(held:Bool)(fuel:Nat):∀(a:List (List Value)),(∀cs∈a,∃x,DataW.trod enc P W 0 (λ _=>true) held fuel e cs=some x/\Wt P e x.1) ->
 ∀(θ:Th)(n:Nat)(d:GL),Good W θ n d -> ∃(θ':Th)(n':Nat)(f:GL)(ls:List (List AV)),Step W θ n d θ' n' f/\bL (Lt n') θ' ls.flatten a.flatten/\ls.length=a.length /\ ∀(i:Nat)l cs,ls[i]? = some l->a[i]? = some cs->R (vc f n') l/\l.length=cs.length
 |[],_,θ,n,d,hg=>⟨θ,n,d,[],Step.refl hg,.nil,rfl,λ i l cs h=>by simp at h⟩
 |cs::a,h,θ,n,d,hg=>by
  obtain⟨x,v,hw⟩:=h cs (by simp);obtain⟨θ1,n1,g,l,s1,v1,C⟩:=hR.2 enc W held fuel cs x.1 x.2 v hw θ n d hg;obtain⟨θ2,n2,j,ls,s2,v2,y,A⟩:=xfj hR enc W held fuel a (λ c r=>h c (by simp[r])) θ1 n1 g s1.cZ;refine⟨θ2,n2,j,l::ls,s1.trans s2,?_,by simp[y],λ i w cs' m p=>?_⟩
  .rw [PZ,PZ];exact(v1.up s2.ag λ b hb=>qj hb s2.le).app v2
  .cases i with
   |zero =>
    simp at m p;subst m;subst p;exact⟨hR.1 _ _ _ C s2.fr,v1.length.symm⟩
   |succ i=>exact A i w cs' (by simpa using m) (by simpa using p)
def KF(P:Program)(e:TypeId)(R:ar->List AV->Prop)(size:Nat)(H:ar)(u:AV):Prop:=Qx R size H u /\ ∀k,fj u=some k->k*P.bytesOf e<=reachBytes
def Tv{t e:TypeId}{R:ar->List AV->Prop}(ht:P.underlying t=some (.slice e))(hR:tc P e R)(hs:0<P.cellsOf e):tc P t λ H l=>∃u,l=[u]/\KF P e R (P.cellsOf e) H u:=by
 refine⟨λ H H' l⟨u,r,h2,h3⟩f=>⟨u,r,h2.em hR.1 f,h3⟩,?_⟩;intro Hh enc W held fuel N d ps h hwt θ n gl hg;cases fuel with
 |zero=>cases h
 |succ f =>
  have key:N=[.slice none 0 0] \/ ∃a len cap,N=[.slice (some a) len cap]/\len<=cap/\(∀i,i<len -> ∃cs x,W.cells? 0 (a.add (i*P.cellsOf e)) (P.cellsOf e)=some cs/\DataW.trod enc P W 0 (λ _=>true) held f e cs=some x/\Wt P e x.1)/\len*P.bytesOf e<=reachBytes/\(len<cap -> ∃cs,W.cells? 0 (a.add (len*P.cellsOf e)) (P.cellsOf e)=some cs):=by
   simp only[DataW.trod,ht]at h;split at h<;>first|(cases h;done)|skip
   all_goals first|(rename_i r;cases r;done)|skip
   .left;rfl
   .right;rename_i e' a len cap r;injection r with r;injection r with r;subst r
    split at h
    .rename_i hb;simp only[qd,rj,xk]at h;obtain⟨elems,he,rest,C,y⟩:=h;injection y with y _
     have hw1:=hwt ((elems.length+rest.length)*P.bytesOf e) (by rw[<-y,DataW.weights,ht];simp);have hel0:elems.length=len:=by have:=mapM_some_length he;simpa using this
     refine⟨a,len,cap,rfl,hb.2.1,λ i m=>?_,xv (jz _ (by omega)) hw1,λ hlt=>?_⟩
     .have hl:=mapM_some_length he;have:=mapM_some_get he i i (by simp[m]);have q:i<elems.length:=by rw[hl];simpa using m
      rw[qt q]at this;obtain⟨cs,p,w⟩:=qd.1 this;refine⟨cs,_,p,w,λ x hx=>hwt x ?_⟩;rw[<-y,DataW.weights,ht];exact vw _ (zu.2 (.inl (YU (List.mem_map_of_mem (List.getElem_mem q)) hx)))
     .have hl:=mapM_some_length C;have:=mapM_some_get C 0 0 (by rw[yk (by omega)]);have q:0<rest.length:=by rw[hl];simp;omega
      rw[qt q,vh]at this;obtain⟨cs,p,w⟩:=qd.1 this;exact⟨cs,p⟩
    .cases h
  rcases key with rfl|⟨a,len,cap,rfl,hlc,X,O,C⟩
  .exact ⟨θ,n,gl,[.nils],Step.refl hg,λ _ _=>rfl,.nils,rfl,⟨[],by simp,⟨by simp,rfl⟩,.inl rfl⟩,(λ k hk=>by injection hk with hk;subst hk;simp)⟩
  .obtain ⟨k,o,s⟩:=a
   by_cases h0:cap=0
   .subst h0;have:len=0:=by omega
    subst this;have hst:=Step.Pt hg k o (sJ s);refine⟨_,_,_,[.eslice n],hst,.one ?_,.eslice n,rfl,⟨[],by simp,⟨by simp,rfl,zp n⟩,.inr (zp n)⟩,(λ k hk=>by injection hk with hk;subst hk;simp)⟩;intro θ' hθ;obtain⟨p,w,q3⟩:=θ.eE n k o (sJ s);obtain⟨r1,r2,r3⟩:=hθ n (zp n);simp only[az,r1,r2,r3,p,w,q3,CK]
   .have hsp:s=none:=by
     by_cases J:len=0
     .subst J;obtain⟨cs,v⟩:=C (by omega);rw[wv]at v;exact oS hs (by simpa[Addr.add]using v)
     .obtain ⟨cs,x,v,_,_⟩:=X 0 (by omega);rw[wv]at v;exact oS hs (by simpa[Addr.add]using v)
    subst hsp
    by_cases J:len=0
    .subst J;refine⟨_,_,_,[.slice n 0 0 cap],Step.bare hg k o,.one ?_,.slice n 0 0 cap,rfl,⟨[],by simp,⟨by simp,rfl,xy _,.inl rfl⟩,.inr (zp n)⟩,(λ k hk=>by injection hk with hk;subst hk;simp)⟩;have:=VR.slice (D:=Lt (n+1)) (θ:=θ.add n k o 0) (b:=n) (o:=0) (n:=0) (c:=cap) (zp n:Lt (n+1) n);obtain⟨p,w,_⟩:=θ.eE n k o 0
     simpa[az,p,w]using this
    .have hex:∀i:Nat,∃cs,i<len->W.cells? 0 ⟨k,o+i*P.cellsOf e,none⟩ (P.cellsOf e)=some cs /\ ∃x,DataW.trod enc P W 0 (λ _=>true) held f e cs=some x/\Wt P e x.1:=λ i=>by
      by_cases m:i<len
      .obtain ⟨cs,x,r,h2⟩:=X i m;rw[xD]at r;exact⟨cs,λ _=>⟨r,x,h2⟩⟩
      .exact ⟨[],λ h=>(m h).elim⟩
     obtain⟨F,hF⟩:=Classical.axiomOfChoice hex
     let css:=(List.range len).map F
     have U:css.length=len:=by simp[css]
     have S:∀(i:Nat)c,css[i]? = some c->i<len/\c=F i:=λ i c v=>by
      simp only[css,xj,xk]at v;obtain⟨j,Z,rfl⟩:=v;have m:i<len:=by have:=EE Z;simpa using this
      rw[yk m]at Z;injection Z with Z;subst Z
      exact⟨m,rfl⟩
     obtain⟨arr,e',fz,hh,_,_⟩:=TP hs (hF 0 (by omega)).1;obtain⟨K,e2,fz2,g,_,hle⟩:=TP hs (hF (len-1) (by omega)).1;rw[hh]at g;injection g with g;injection g with p w q3;subst p
     have hmul:(len-1)*P.cellsOf e+P.cellsOf e=len*P.cellsOf e:=by rw[<-uU];congr 1;omega
     have E:∀(i:Nat)c,css[i]? = some c->c=(arr.toList.drop (o+i*P.cellsOf e)).take (P.cellsOf e)/\c.length=P.cellsOf e:=λ i c v=>by
      obtain⟨m,rfl⟩:=S i c v;obtain⟨K,e2,fz2,g,h6,h7⟩:=TP hs (hF i m).1;rw[hh]at g;injection g with g;injection g with p w q3;subst p
      exact⟨h6,by rw[h6];simp;omega⟩
     have Q:css.flatten=(arr.toList.drop o).take (len*P.cellsOf e):=by rw[qxv E,U]
     obtain⟨θ1,n1,gl1,ls,s1,v1,l1,r1⟩:=xfj hR enc W held f css (λ c v=>by
      obtain⟨i,m⟩:=PT.1 v;obtain⟨q,rfl⟩:=S i c m;exact(hF i q).2) θ n gl hg
     rw[Q]at v1;have hsz:o+len*P.cellsOf e<=arr.size:=by omega
     have A:ls.length=len:=by rw[l1,U]
     have I:ls.flatten.length=len*P.cellsOf e:=by rw[<-v1.length,j9,ya,vi];omega
     have G:=Step.row (l:=ls.flatten) (k:=k) (off:=o) (pre:=arr.toList.take o) (cs:=(arr.toList.drop o).take (len*P.cellsOf e)) (post:=arr.toList.drop (o+len*P.cellsOf e)) (e:=e') (fz:=fz) s1.cZ (by
      rw[hh];congr 2;have hq:arr.toList.take o++(arr.toList.drop o).take (len*P.cellsOf e)++arr.toList.drop (o+len*P.cellsOf e)=arr.toList:=by
       rw[zm,<-IH,vg,vg]
      rw[hq]) (by simp;omega) v1
     refine⟨_,_,_,[.slice n1 0 len cap],s1.trans G,.one ?_,.slice n1 0 len cap,rfl,⟨ls,λ l hl=>?_,⟨by rw[I,A],A.symm,by rw[A];exact hlc,.inr ⟨zp n1,ls.flatten,qy (fz:=(0,0)) (e:=0) (ow:=false) ?_,?_⟩⟩,.inr (zp n1)⟩,λ k hk=>by injection hk with hk;subst hk;exact O⟩
     .have:=VR.slice (D:=Lt (n1+1)) (θ:=θ1.add n1 k o 0) (b:=n1) (o:=0) (n:=len) (c:=cap) (zp n1:Lt (n1+1) n1);obtain⟨p,w,_⟩:=θ1.eE n1 k o 0
      simpa[az,p,w]using this
     .obtain ⟨i,m⟩:=PT.1 hl;have Y:i<css.length:=by rw[<-l1];exact EE m
      obtain⟨p,w⟩:=r1 i l css[i] m (by simp[Y]);exact⟨hR.1 _ _ _ p G.fr,by rw[w];exact(E i _ (by simp[Y])).2⟩
     .show (EN ((n1,ls.flatten)::gl1) .nil).get n1=_;rw[EN,T.aI,qr rfl]
     .rw [A,u9,qr (by omega),yi,zg (by omega)]
def zA:List (ar->List AV->Prop)->ar->List AV->Prop
 |[],_,l=>l=[]
 |R::Rs,H,l=>∃a b,l=a++b/\R H a/\zA Rs H b
def zA.em:∀{Rs:List (ar->List AV->Prop)},(∀R∈Rs,∀H H' l,R H l->Fr Em H H'->R H' l) -> ∀H H' l,zA Rs H l->Fr Em H H'->zA Rs H' l
 |[],_,_,_,_,h,_=>h
 |R::Rs,hm,H,H',l,⟨a,b,h1,h2,h3⟩,f=>⟨a,b,h1,hm R (by simp) _ _ _ h2 f,zA.em (λ S d=>hm S (by simp[d])) _ _ _ h3 f⟩
def xbm{r:Type}(enc:TypeId×Value->r)(W:World)(held:Bool)(fuel:Nat){cs:List Value}:∀{fs:List (TypeId×Nat×(ar->List AV->Prop))}{k:Nat}{xs:List (DataW r×List MemPlace)},
 (∀f∈fs,tc P f.1 f.2.2)->(∀(j:Nat)f,fs[j]? = some f->f.2.1=k+((fs.take j).map λ f=>P.cellsOf f.1).sum) ->
 fs.mapM (λ f=>DataW.trod enc P W 0 (λ _=>true) held fuel f.1 ((cs.drop f.2.1).take (P.cellsOf f.1)))=some xs->(∀x∈DataW.weightsEach P (fs.map (·.1)) (xs.map (·.1)),x<=reachBytes) ->
 k+(fs.map λ f=>P.cellsOf f.1).sum<=cs.length -> ∀(θ:Th)(n:Nat)(d:GL),Good W θ n d ->
 ∃θ' n' e l,Step W θ n d θ' n' e/\bL (Lt n') θ' l ((cs.drop k).take ((fs.map λ f=>P.cellsOf f.1).sum))/\zA (fs.map (·.2.2)) (vc e n') l
 |[],k,xs,_,_,_,_,_,θ,n,d,hg=>⟨θ,n,d,[],Step.refl hg,by simpa using bL.nil,rfl⟩
 |f::fs,k,xs,hf,ho,hm,hw,hl,θ,n,d,hg=>by
  simp only[List.mapM_cons,Option.bind_eq_bind,qd,Option.pure_def,qe]at hm;obtain⟨y,w,ys,q,rfl⟩:=hm;simp only[jk,DataW.weightsEach,zu]at hw;have v:f.2.1=k:=by have:=ho 0 f rfl;simpa using this
  obtain⟨θ1,n1,h,a,s1,v1,A⟩:=(hf f (by simp)).2 enc W held fuel _ y.1 y.2 w (λ x p=>hw x (.inl p)) θ n d hg;simp only[jk,List.sum_cons]at hl;obtain⟨θ2,n2,m,b,s2,v2,C⟩:=xbm enc W held fuel (cs:=cs) (fs:=fs) (k:=k+P.cellsOf f.1) (λ g hg=>hf g (by simp[hg])) (λ j g hg=>by
   have:=ho (j+1) g (by simpa using hg);simp only[List.take_succ_cons,jk,List.sum_cons]at this;omega) q (λ x p=>hw x (.inr p)) (by omega) θ1 n1 h s1.cZ
  refine⟨θ2,n2,m,a++b,s1.trans s2,?_,a,b,rfl,(hf f (by simp)).1 _ _ _ A s2.fr,C⟩;rw[v]at v1;rw[jk,List.sum_cons,List.take_add,IH];exact(v1.up s2.ag λ b hb=>qj hb s2.le).app v2
def Zk{H:Type}{g:TypeId->List Value->Option (DataW H×List MemPlace)}{cs:List Value}:∀{fs:List Field}{Rs:List (ar->List AV->Prop)},fs.length=Rs.length ->
 fs.mapM (λ f=>g f.type ((cs.drop f.offset).take (P.cellsOf f.type)))=((fs.zip Rs).map λ x=>(x.1.type,x.1.offset,x.2)).mapM (λ f=>g f.1 ((cs.drop f.2.1).take (P.cellsOf f.1)))
 |[],[],_=>rfl
 |f::fs,R::Rs,h=>by simp only[List.zip_cons_cons,jk,List.mapM_cons,Zk (fs:=fs) (Rs:=Rs) (by simpa using h)]
def q63{t:TypeId}{fs:Array Field}{Rs:List (ar->List AV->Prop)}(h:P.underlying t=some (.struct fs))(hn:fs.toList.length=Rs.length)(hR:∀x∈fs.toList.zip Rs,tc P x.1.type x.2)
 (ho:GA P 0 fs.toList=true) (D:(fs.toList.map λ f=>P.cellsOf f.type).sum=P.cellsOf t):tc P t λ H l=>zA Rs H l:=by
 refine⟨zA.em λ R q=>?_,?_⟩
 .obtain ⟨i,E⟩:=PT.1 q;have w:i<fs.toList.length:=by rw[hn];exact EE E
  have K:(fs.toList.zip Rs)[i]? = some (fs.toList[i],R):=by rw[List.getElem?_zip_eq_some];exact⟨by simp[qt w],E⟩
  exact(hR _ (za K)).1
 intro N enc W held fuel cs d O e y θ n I hg;cases fuel with
 |zero=>cases e
 |succ f =>
  have hlen:cs.length=P.cellsOf t /\ ∃xs,fs.toList.mapM (λ g=>DataW.trod enc P W 0 (λ _=>true) held f g.type ((cs.drop g.offset).take (P.cellsOf g.type)))=some xs /\ ∀x∈DataW.weightsEach P (fs.toList.map (·.type)) (xs.map (·.1)),x<=reachBytes:=by
   simp only[DataW.trod,h]at e;split at e
   .rename_i hl;obtain⟨xs,hm,a⟩:=xk.1 e;injection a with a _
    exact⟨hl,xs,hm,λ x A=>y x (by rw[<-a,DataW.weights,h];exact A)⟩
   .cases e
  obtain⟨hl,xs,hm,hw⟩:=hlen;rw[Zk (Rs:=Rs) hn]at hm;have m:((fs.toList.zip Rs).map λ x=>(x.1.type,x.1.offset,x.2)).map (λ f=>P.cellsOf f.1)=fs.toList.map λ f=>P.cellsOf f.type:=by
   rw[wo];have:((fs.toList.zip Rs).map λ x=>P.cellsOf x.1.type)=(fs.toList.zip Rs |>.map Prod.fst).map λ f=>P.cellsOf f.type:=by rw[wo];rfl
   rw[List.map_fst_zip (by omega)]at this;exact this
  have F:((fs.toList.zip Rs).map λ x=>(x.1.type,x.1.offset,x.2)).map (·.1)=fs.toList.map (·.type):=by
   rw[wo];have:((fs.toList.zip Rs).map λ x=>x.1.type)=(fs.toList.zip Rs |>.map Prod.fst).map (·.type):=by rw[wo];rfl
   rw[List.map_fst_zip (by omega)]at this;exact this
  have G:((fs.toList.zip Rs).map λ x=>(x.1.type,x.1.offset,x.2)).map (·.2.2)=Rs:=by
   rw[wo];have:((fs.toList.zip Rs).map λ x=>x.2)=Rs:=by rw[List.map_snd_zip (by omega)]
   exact this
  obtain⟨θ',n',p,l,s,v,r⟩:=xbm enc W held f (cs:=cs) (k:=0) (fs:=(fs.toList.zip Rs).map λ x=>(x.1.type,x.1.offset,x.2)) (λ g hg=>by
   obtain⟨x,A,rfl⟩:=FO.1 hg;exact hR x A) (λ j g hg=>by
   simp only[xj,xk,List.getElem?_zip_eq_some]at hg;obtain⟨x,⟨C,J⟩,rfl⟩:=hg;have:=BA ho j x.1 C;rw[List.map_take,m,<-List.map_take];exact this) hm (by rw[F];exact hw) (by rw[m,D,hl];omega) θ n I hg
  rw[G]at r;rw[m,D,yi,zg (by omega)]at v;exact⟨θ',n',p,l,s,v,r⟩
end
end Go.Am
namespace Go.Am
open Go.RowKit Lang
section
variable{P:Program}
def tc.imp{t:TypeId}{R a:ar->List AV->Prop}(h:tc P t R)(hm:∀H H' l,a H l->Fr Em H H'->a H' l)(g:∀H l,R H l->a H l):tc P t a :=
 ⟨hm,λ enc W held fuel cs d m j hw θ n f hg=>by
  obtain⟨θ',n',e,l,s,v,r⟩:=h.2 enc W held fuel cs d m j hw θ n f hg;exact⟨θ',n',e,l,s,v,g _ _ r⟩⟩
def U0{α β:Type}{f:α->TypeId}{Q:TypeId -> β->Prop}:∀(l:List α)(R:List β),(∀x∈(l.map f).zip R,Q x.1 x.2) -> ∀x∈l.zip R,Q (f x.1) x.2
 |[],_,_,x,h=>by simp at h
 |_::_,[],_,x,h=>by simp at h
 |a::l,b::R,hq,x,h=>by
  rcases jg.1 h with rfl|h
  .exact hq (f a,b) (by simp)
  .exact U0 l R (λ y d=>hq y (by simp[d])) x h
def Tl{tS e:TypeId}{fs:Array Field}{n:Nat}(uS:P.underlying tS=some (.struct fs))(a:fs.toList.map (·.type)=List.replicate n e)(uN:P.underlying e=some (.int .i64))(j:GA P 0 fs.toList=true)(m:(fs.toList.map λ f=>P.cellsOf f.type).sum=P.cellsOf tS) :
 tc P tS λ H l=>zA (List.replicate n λ _ l=>pW .i64 l) H l:=by
 have hn:fs.toList.length=n:=by have:=congrArg List.length a;simpa using this
 refine q63 uS (by rw[hn];simp) (U0 (f:=Field.type) (Q:=tc P) _ _ ?_) j m;rw[a];intro x d;have g:=(List.of_mem_zip d).1;have h:=(List.of_mem_zip d).2;rw[wg g,wg h];exact(Fh (C2 uN)).toW
def wB(H:ar)(u:List AV):Prop:=∃l c s w f so sf cv ps,u=xE l c s w cv f so sf/\dU nH 1 H cv ps /\ ∀p∈ps,dU fk 5 H p.1 p.2
def Dx{tM tS D tC tI tB m:TypeId}{ms ss is bs:Array Field}(uM:P.underlying tM=some (.struct ms))(I:ms.toList.map (·.type)=[tS,D,tB])(uS:P.underlying tS=some (.struct ss))(O:ss.toList.map (·.type)=[m,m,m,m])
 (Z:P.underlying D=some (.slice tC)) (E:P.underlying tC=some (.slice tI)) (uI:P.underlying tI=some (.struct is)) (hI:is.toList.map (·.type)=[m,m,m,m,m]) (uB:P.underlying tB=some (.struct bs)) (N:bs.toList.map (·.type)=[m,m,m]) (uN:P.underlying m=some (.int .i64))
 (F:P.cellsOf tC=1) (G:P.cellsOf tI=5) (S:GA P 0 ms.toList=true) (X:(ms.toList.map λ f=>P.cellsOf f.type).sum=P.cellsOf tM) (T:GA P 0 ss.toList=true) (Y:(ss.toList.map λ f=>P.cellsOf f.type).sum=P.cellsOf tS)
 (R:GA P 0 is.toList=true) (W:(is.toList.map λ f=>P.cellsOf f.type).sum=P.cellsOf tI) (oB:GA P 0 bs.toList=true) (U:(bs.toList.map λ f=>P.cellsOf f.type).sum=P.cellsOf tB):tc P tM wB:=by
 have hm:ms.toList.length=3:=by have:=congrArg List.length I;simpa using this
 have A:tc P tC λ H l=>∃u,l=[u] /\ ∃code:List gP,dU fk 5 H u code:=by
  refine(Tv E (Tl (n:=5) uI hI uN R W) (by rw[G];decide)).imp ?_ λ H l h=>?_
  .rintro H H' l ⟨u,j,xs,r⟩ f;exact⟨u,j,xs,r.em f⟩
  .obtain ⟨u,rfl,j,r⟩:=h;rw[G]at j;obtain⟨xs,y,_⟩:=XL (enc:=fk) (Q:=λ _=>True) (λ l h=>by
    obtain⟨_,_,rfl,⟨a,rfl,_⟩,_,_,rfl,⟨b,rfl,_⟩,_,_,rfl,⟨c,rfl,_⟩,_,_,rfl,⟨d,rfl,_⟩,_,_,rfl,⟨e,rfl,_⟩,rfl⟩:=h;exact⟨⟨a,b,c,d,e⟩,rfl,trivial⟩) j
   exact⟨u,rfl,xs,y⟩
 have C:tc P D λ H l=>∃u,l=[u] /\ ∃v:List (AV×List gP),dU nH 1 H u v /\ ∀p∈v,dU fk 5 H p.1 p.2:=by
  refine(Tv Z A (by rw[F];decide)).imp ?_ λ H l h=>?_
  .rintro H H' l ⟨u,j,xs,r,y⟩ f;exact⟨u,j,xs,r.em f,λ p q=>(y p q).em f⟩
  .obtain ⟨u,rfl,j,r⟩:=h;rw[F]at j;obtain⟨xs,y,K⟩:=XL (enc:=nH) (Q:=λ p=>dU fk 5 H p.1 p.2) (λ l h=>by
    obtain⟨u,rfl,code,h⟩:=h;exact⟨(u,code),rfl,h⟩) j
   exact⟨u,rfl,xs,y,K⟩
 refine(q63 (Rs:=[λ H l=>zA (List.replicate 4 λ _ l=>pW .i64 l) H l,λ H l=>∃u,l=[u] /\ ∃v:List (AV×List gP),dU nH 1 H u v /\ ∀p∈v,dU fk 5 H p.1 p.2,λ H l=>zA (List.replicate 3 λ _ l=>pW .i64 l) H l]) uM (by rw[hm];rfl)
  (U0 (f:=Field.type) (Q:=tc P) _ _ (by
   rw[I];intro x J;simp only[List.zip_cons_cons,List.zip_nil_right,jg,NX,or_false]at J;rcases J with rfl|rfl|rfl
   .exact Tl (n:=4) uS O uN T Y
   .exact C
   .exact Tl (n:=3) uB N uN oB U)) S X).imp ?_ λ H l h=>?_
 .rintro H H' u ⟨l,c,s,w,f,so,sf,cv,v,j,r,y⟩ fr;exact⟨l,c,s,w,f,so,sf,cv,v,j,r.em fr,λ p q=>(y p q).em fr⟩
 .obtain ⟨_,_,rfl,⟨_,_,rfl,⟨a,rfl,_⟩,_,_,rfl,⟨b,rfl,_⟩,_,_,rfl,⟨c,rfl,_⟩,_,_,rfl,⟨d,rfl,_⟩,rfl⟩,_,_,rfl,⟨cv,rfl,v,j,r⟩,_,_,rfl,⟨_,_,rfl,⟨e,rfl,_⟩,_,_,rfl,⟨f,rfl,_⟩,_,_,rfl,⟨g,rfl,_⟩,rfl⟩,rfl⟩:=h;exact⟨a,b,c,d,e,f,g,cv,v,rfl,j,r⟩
end
end Go.Am
namespace Go.Am
open Lang
namespace CS
structure Sm(s t:CS):Prop where
 b:t.c.blocks=s.c.blocks
 p:t.c.fi.pt=s.c.fi.pt
 l:t.c.la.lane=s.c.la.lane
 o:∃l,t.o=s.o++l /\ ∀e∈l,e.kind≠6
structure Go(s t:CS):Prop where
 b:t.c.blocks=s.c.blocks
 o:∃l,t.o=s.o++l /\ ∀e∈l,e.kind=6->s.c.la.lane≠0 /\ ∀y,s.c.fi.pt=some y->t.c.fi.rs=y.1/\t.c.fi.pc=y.2
 p:(t.c.fi.pt=s.c.fi.pt/\(t.c.la.lane=s.c.la.lane\/s.c.la.lane≠0/\0<t.c.la.lane)/\(t.c.ph=0\/t.c.ph=s.c.ph\/s.c.la.lane≠0))\/t.c.fi.pt=none/\t.c.la.lane=0/\t.c.ph=0
section
variable{s t u:CS}
def Sm.rf(b:t.c.blocks=s.c.blocks)(p:t.c.fi.pt=s.c.fi.pt)(l:t.c.la.lane=s.c.la.lane)(o:t.o=s.o):Sm s t:=⟨b,p,l,[],by rw[o,zf],λ _ h=>nomatch h⟩
def Sm.trans(h:Sm s t)(g:Sm t u):Sm s u:=by
 obtain⟨l,e,q⟩:=h.o;obtain⟨m,f,r⟩:=g.o;exact⟨g.b.trans h.b,g.p.trans h.p,g.l.trans h.l,l++m,by rw[f,e,zm],λ e w=>(zu.1 w).elim (q e) (r e)⟩
def Sm.ite{p:Prop}[Decidable p](h:Sm s t)(g:Sm s u):Sm s (if p then t else u):=by split;exact h;exact g
def Go.ite{p:Prop}[Decidable p](h:Go s t)(g:Go s u):Go s (if p then t else u):=by split;exact h;exact g
def Sm.go(h:Sm s t)(q:t.c.ph=0\/t.c.ph=s.c.ph\/s.c.la.lane≠0):Go s t:=by
 obtain⟨l,e,r⟩:=h.o;exact⟨h.b,⟨l,e,λ x w k=>(r x w k).elim⟩,.inl ⟨h.p,.inl h.l,q⟩⟩
def Go.rf(b:t.c.blocks=s.c.blocks)(p:t.c.fi.pt=s.c.fi.pt)(l:t.c.la.lane=s.c.la.lane)(o:t.o=s.o)(q:t.c.ph=0\/t.c.ph=s.c.ph\/s.c.la.lane≠0):Go s t:=(Sm.rf b p l o).go q
def Sm.then(h:Sm s t)(g:Go t u)(q:s.c.la.lane≠0\/t.c.ph=s.c.ph):Go s u:=by
 obtain⟨l,e,r⟩:=h.o;obtain⟨m,f,w⟩:=g.o;refine⟨g.b.trans h.b,⟨l++m,by rw[f,e,zm],λ x y k=>?_⟩,?_⟩
 .rcases zu.1 y with y|y
  .exact (r x y k).elim
  .have:=w x y k;rw[h.l,h.p]at this;exact this
 .rcases g.p with⟨d,j,a⟩|p
  .rw [h.p]at d;rw[h.l]at j a;exact .inl ⟨d,j,a.elim .inl λ a=>.inr (a.elim (λ a=>q.elim .inr λ q=>.inl (a.trans q)) .inr)⟩
  .exact .inr p
def Ng{k a v d:Int}(hk:k≠6):Sm s (s.tell k a v d):=⟨rfl,rfl,rfl,[DJ s.c k a v d],rfl,λ e h=>by
 rw[jr.1 h];unfold DJ;split<;>exact hk⟩
def ZX(f:Fi)(n:Int):(f.jump n).pt=f.pt:=by unfold Fi.jump;split<;>rfl
def Lu(f:Fi)(i v:Int):(f.set i v).pt=f.pt:=by unfold Fi.set;split<;>rfl
def Sb(n:Int):Sm s (s.fp n):=.rf rfl (ZX ..) rfl rfl
def zX(i v:Int):Sm s (s.fi (·.set i v)):=.rf rfl (Lu ..) rfl rfl
def Q7(f:mI)(v:Int):Sm s (s.ey f v):=(Ng (by split<;>decide)).trans ((zX f.oA v).trans (Sb _))
def Rr{k:Int}(hk:k≠6)(f:mI)(a:Int):Sm s (s.stored k f a):=(Ng hk).trans (Sb _)
def Z3:Sm s s.aw:=by
 unfold aw;exact(Sm.ite (.rf rfl rfl rfl rfl) (Ng (by decide))).trans (.rf rfl rfl rfl rfl)
def xe1(x:La):x.leave.lane=0:=by unfold La.leave;split;assumption;rfl
def DE{t:CS}(h:Sm s t)(n:Int):Go s (t.leave.fp n):=by
 obtain⟨l,e,r⟩:=h.o;exact⟨h.b,⟨l,e,λ x w k=>(r x w k).elim⟩,.inr ⟨ZX ..,xe1 _,rfl⟩⟩
def QX:Go s s.cD:=DE Z3 _
def Sm.on{s t u:CS}(g:Sm t u)(h:Sm s t):Sm s u:=h.trans g
def Ss(f:Fi){y:List Int×Int}(h:f.pt=some y):f.restore.rs=y.1/\f.restore.pc=y.2/\f.restore.pt=f.pt:=by
 obtain⟨r,p⟩:=y;unfold Fi.restore;rw[h];exact⟨rfl,rfl,rfl⟩
def LD(f:Fi):f.restore.pt=f.pt:=by unfold Fi.restore;split<;>simp[*]
def Vj(h:s.c.la.lane≠0):Go s s.breaks :=
 ⟨rfl,⟨[DJ s.c 6 0 0 7],rfl,λ e w k=>⟨h,λ y q=>⟨(Ss _ q).1,(Ss _ q).2.1⟩⟩⟩,.inr ⟨rfl,xe1 _,rfl⟩⟩
def Ws(b:List Int)(l:Int):0<La.after b l:=by
 unfold La.after
 repeat' split
 all_goals decide
def zU{x:La}{d:Int}(h:x.lane≠0):(x.abort d).lane=x.lane\/0<(x.abort d).lane:=by
 unfold La.abort;simp only
 repeat' split
 all_goals first|exact .inl rfl|exact .inr (Ws x.fG 2)|exact .inr (Ws x.fG x.lane)
def xev(h:s.c.la.lane≠0)(d:Int):Go s (s.abort d) :=
 ⟨rfl,⟨[DJ s.c 6 0 0 d],rfl,λ e w k=>⟨h,λ y q=>⟨(Ss _ q).1,(Ss _ q).2.1⟩⟩⟩,.inl ⟨LD _,(zU h).imp id λ q=>⟨h,q⟩,.inr (.inr h)⟩⟩
def rV(k n v o:Int):Sm s (s.kK k n v o):=.rf rfl rfl rfl rfl
def YV:Go s s.cU:=by
 unfold cU
 by_cases h:s.c.la.lane=0
 .rw [qr h];exact .rf rfl rfl rfl rfl (.inr (.inl rfl))
 rw[qo h]
 repeat' split
 .exact .rf rfl rfl rfl rfl (.inr (.inr h))
 .exact .rf rfl rfl rfl rfl (.inr (.inr h))
 .exact (rV ..).then (Vj h) (.inl h)
def Sm.ah(h:Sm s t)(q:t.c.ph=s.c.ph):Go s t:=h.go (.inr (.inl q))
def Cr(f:mI)(a:Int):Go s (s.kR f a):=by
 unfold kR;simp only
 by_cases h:s.c.la.lane=3
 .have n:s.c.la.lane≠0:=by rw[h];decide
  rw[qr h];exact .ite (.rf rfl rfl rfl rfl (.inr (.inr n))) (Sm.go (Sm.on (Q7 ..) (.rf rfl rfl rfl rfl)) (.inr (.inr n)))
 .rw [qo h];split
  .exact (Q7 ..).ah rfl
  .exact .ite (Sm.ah (Sm.on (Q7 ..) (rV ..)) rfl) ((rV ..).ah rfl)
def xjs(f:mI)(a:Int):Go s (s.ib f a):=by
 unfold ib;simp only
 by_cases h:s.c.la.lane=3
 .have n:s.c.la.lane≠0:=by rw[h];decide
  rw[qr h];exact .ite (.rf rfl rfl rfl rfl (.inr (.inr n))) (Sm.go (Sm.on (Rr (by decide) ..) (.rf rfl rfl rfl rfl)) (.inr (.inr n)))
 .rw [qo h];refine .ite (Sm.ah (Sm.on (Rr (by decide) ..) (.rf rfl rfl rfl rfl)) rfl) (.ite (.ite (Sm.ah (Sm.on (Rr (by decide) ..) (rV ..)) rfl) ?_) ((rV ..).ah rfl));exact Sm.ah (Sm.on (Rr (by decide) ..) (.rf rfl rfl rfl rfl)) rfl
def G4:Go s s.ends:=by
 unfold ends;simp only;have n:∀{k:Int},k≠0->s.c.la.lane=k->s.c.la.lane≠0:=λ h e=>e▸h
 by_cases d:s.c.la.lane=3
 .rw [qr d];exact .rf rfl rfl rfl rfl (.inr (.inr (n (by decide) d)))
 rw[qo d]
 by_cases f:s.c.la.lane=4
 .rw [qr f];exact .rf rfl rfl rfl rfl (.inr (.inr (n (by decide) f)))
 rw[qo f]
 by_cases a:s.c.la.lane=2/\s.c.wrote=true
 .rw [qr a];exact .rf rfl rfl rfl rfl (.inr (.inr (n (by decide) a.1)))
 rw[qo a];exact(rV ..).then QX (.inr rfl)
def xjq(h:s.c.la.lane≠0):Go s s.iS:=by
 unfold iS;simp only;have a:Sm s {(s.tell 1 0 0 0)with c:={(s.tell 1 0 0 0).c with aR:=[],done:=0,wrote:=false,said:=false}}:=(Ng (by decide)).trans (.rf rfl rfl rfl rfl);refine .ite ?_ (.ite ?_ (.ite ?_ ?_))
 all_goals exact Sm.go (Sm.trans a (.rf rfl rfl rfl rfl)) (.inr (.inr h))
def D8(h:s.c.la.lane≠0):Go s s.nI:=by
 unfold nI;simp only;refine .ite ((rV ..).go (.inr (.inr h))) (.ite ?_ ?_)
 .exact Sm.go (Sm.trans (Sm.trans (rV 2 0 (aj .u64 (s.c.seq+1)) s.c.seq) (Ng (k:=4) (a:=0) (v:=0) (d:=0) (by decide))) (.rf rfl rfl rfl rfl)) (.inl rfl)
 .exact Go.rf rfl rfl rfl rfl (.inr (.inr h))
def xjr(h:s.c.la.lane≠0):Go s s.eL:=by
 unfold eL;refine .ite (xev h _) (.ite (.rf rfl rfl rfl rfl (.inl rfl)) (.ite ?_ (.ite QX (Vj h))));exact Sm.go (Sm.on (Q7 ..) (.rf rfl rfl rfl rfl)) (.inl rfl)
def D4(h:s.c.la.lane≠0)(v:Int)(q:Bool):Go s (s.given v q):=by
 unfold given;simp only;have d:Sm s {s with c:={s.c with held:=s.c.held ||q && decide (s.c.so.want.a=0),so:=s.c.so.eM v q}}:=.rf rfl rfl rfl rfl;generalize({s with c:={s.c with held:=s.c.held ||q && decide (s.c.so.want.a=0),so:=s.c.so.eM v q}}:CS)=t at *;have hu:Sm s (if s.c.so.aC=true/\(s.c.so.eM v q).aC=false then t.aw else t):=.ite (d.trans Z3) d;generalize(if s.c.so.aC=true/\(s.c.so.eM v q).aC=false then t.aw else t)=u at *;have hw:Sm s (if s.c.so.points<u.c.so.points then u.tell 4 0 0 0 else u):=.ite (hu.trans (Ng (by decide))) hu;generalize(if s.c.so.points<u.c.so.points then u.tell 4 0 0 0 else u)=w at *;exact .ite (hw.go (.inr (.inr h))) (hw.then (xjr (by rw[hw.l];exact h)) (.inl h))
def Ap(h:s.c.la.lane≠0):Go s s.nC:=by
 unfold nC;simp only;have b:∀{k n v o},Go s (s.kK k n v o):=λ{k n v o}=>(rV k n v o).ah rfl;have g:∀{k n v o x q},Go s ((s.kK k n v o).given x q):=λ{k n v o x q}=>(rV k n v o).then (D4 (s:=s.kK k n v o) h x q) (.inl h)
 exact .ite (.ite g b) (.ite (.ite g b) (.ite (.ite g b) (.rf rfl rfl rfl rfl (.inr (.inl rfl)))))
def zP(h:s.c.la.lane≠0):Go s s.aK:=by
 unfold aK gB;simp only;split
 .exact .ite (.rf rfl rfl rfl rfl (.inr (.inl rfl))) ((rV ..).ah rfl)
 .exact .ite ((rV ..).then QX (.inl h)) ((rV ..).ah rfl)
structure JB(c:Co):Prop where
 pt:c.la.lane=0↔c.fi.pt=none
 l0:0<=c.la.lane
 ph:c.ph≠0->c.la.lane≠0
def Bg(s t:CS):Prop:=t.c.blocks=aj .i64 (s.c.blocks+1)/\t.c.fi.pt=some (t.c.fi.rs,t.c.fi.pc)/\0<t.c.la.lane/\t.o=s.o
def Eb(h:JB s.c):Go s s.lP\/Bg s s.lP:=by
 unfold lP;simp only
 by_cases e:(s.c.code.length:Int)<=s.c.fi.pc
 .rw [qr e];exact .inl (.ite (.rf rfl rfl rfl rfl (.inr (.inl rfl))) YV)
 rw[qo e];generalize(s.c.code.getD s.c.fi.pc.toNat ⟨0,0,0,0,0⟩).fJ s.c.fi.rs s.c.fi.pc=f
 by_cases a:(f.kind=3\/f.kind=4)/\Ek s.c f.addr=false\/f.kind=0\/s.c.la.lane≠0/\f.kind=5\/s.c.la.lane=0/\f.kind=6\/s.c.la.lane≠0/\f.kind=7
 .rw [qr a];exact .inl YV
 rw[qo a]
 by_cases g:f.kind=7
 .rw [qr g];exact .inl (.rf rfl rfl rfl rfl (.inr (.inl rfl)))
 rw[qo g]
 by_cases j:f.kind=1
 .rw [qr j];exact .inl (((zX ..).trans (Sb ..)).ah rfl)
 rw[qo j]
 by_cases l:f.kind=2
 .rw [qr l];exact .inl ((Sb ..).ah rfl)
 rw[qo l]
 by_cases m:f.kind=3
 .rw [qr m];exact .inl (Cr ..)
 rw[qo m]
 by_cases n:f.kind=4
 .rw [qr n];exact .inl (xjs ..)
 rw[qo n]
 by_cases d:f.kind=5
 .rw [qr d];have l0:s.c.la.lane=0:=xz λ q=>a (.inr (.inr (.inl ⟨q,d⟩)));refine .inr ⟨rfl,rfl,?_,rfl⟩;show 0<(La.enter s.c.la).lane;unfold La.enter;rw[qr l0];exact Ws ..
 .rw [qo d];exact .inl G4
def KH(h:JB s.c):Go s s.act\/Bg s s.act:=by
 unfold act
 by_cases a:s.c.ph=0
 .rw [qr a];exact Eb h
 rw[qo a];have n:=h.ph a;have k:∀{t:CS},Sm s t->Go s t:=λ h=>h.go (.inr (.inr n));refine .inl (.ite (xjq n) (.ite ?_ (.ite ?_ (.ite ?_ (.ite (D8 n) (.ite (Ap n) (.ite ?_ (.ite ((rV ..).then QX (.inl n)) (.ite (zP n) (.ite ?_ (.rf rfl rfl rfl rfl (.inr (.inl rfl)))))))))))))
 .exact .ite (.ite (k (.rf rfl rfl rfl rfl)) (k (.rf rfl rfl rfl rfl))) (k (rV ..))
 .exact .ite (.ite (k (.rf rfl rfl rfl rfl)) (k (.rf rfl rfl rfl rfl))) (k (rV ..))
 .exact .ite (k (.rf rfl rfl rfl rfl)) (k (rV ..))
 .exact .ite (k (.rf rfl rfl rfl rfl)) (k (rV ..))
 .exact .ite ((rV ..).then (Vj n) (.inl n)) (k (rV ..))
def GJ(h:JB s.c):Go s s.step.1\/Bg s s.step.1:=by
 unfold step;split
 .exact .inl (.rf rfl rfl rfl rfl (.inr (.inl rfl)))
 split
 .exact .inl (.rf rfl rfl rfl rfl (.inr (.inl rfl)))
 split
 .rename_i q;refine .inl (xev (λ e=>?_) _);have:=q.1;unfold La.py at this;rw[e]at this;exact absurd this (by decide)
 .exact KH h
def Go.jb(h:JB s.c)(g:Go s t):JB t.c:=by
 rcases g.p with⟨p,l,q⟩|⟨p,l,q⟩
 .rcases l with l|⟨l,m⟩
  .exact ⟨by rw[l,p];exact h.pt,by rw[l];exact h.l0,λ n=>by rw[l];exact q.elim (λ q=>(n q).elim) λ q=>q.elim (λ q=>h.ph (q▸n)) id⟩
  .exact ⟨⟨λ e=>by omega,λ e=>by rw[p]at e;exact(l (h.pt.2 e)).elim⟩,by omega,λ _=>by omega⟩
 .exact ⟨⟨λ _=>p,λ _=>l⟩,by omega,λ n=>(n q).elim⟩
def Bg.jb(g:Bg s t):JB t.c:=⟨⟨λ e=>by have:=g.2.2.1;omega,λ e=>by rw[g.2.1]at e;cases e⟩,by have:=g.2.2.1;omega,λ _=>by have:=g.2.2.1;omega⟩
end
end CS
end Go.Am
namespace Go.Am
open Lang Go.Proofs
structure Lw where
 r:List Int
 p:Int
 n:Int
def mQ(c:Co)(x:Lw):Lw:=if x.n<=c.blocks-1 then⟨c.fi.rs,c.fi.pc,c.blocks⟩else x
structure JC(c:Co)(x:Lw):Prop where
 j:CS.JB c
 n:x.n=c.blocks
 y:∀y,c.fi.pt=some y->y.1=x.r/\y.2=x.p
def Gk{s:CS}{x:Lw}(h:JC s.c x)(d:0<=s.c.blocks)(m:s.c.blocks<=90000):JC s.step.1.c (mQ s.step.1.c x)/\0<=s.step.1.c.blocks/\s.step.1.c.blocks<=s.c.blocks+1 /\
 ∃l,s.step.1.o=s.o++l /\ ∀e∈l,e.kind=6->s.step.1.c.fi.rs=(mQ s.step.1.c x).r/\s.step.1.c.fi.pc=(mQ s.step.1.c x).p:=by
 have hn:=h.n;rcases CS.GJ h.j with g|g
 .have a:mQ s.step.1.c x=x:=by unfold mQ;rw[g.b];exact qo (by omega)
  rw[a];refine⟨⟨g.jb h.j,h.n.trans g.b.symm,λ y e=>?_⟩,by rw[g.b];exact d,by rw[g.b];omega,?_⟩
  .rcases g.p with⟨p,-,-⟩|⟨p,-,-⟩
   .exact h.y y (p.symm.trans e)
   .rw [p]at e;cases e
  .obtain ⟨l,e,q⟩:=g.o;refine⟨l,e,λ f w k=>?_⟩;obtain⟨n0,r⟩:=q f w k;cases hp:s.c.fi.pt with
   |none=>exact(n0 (h.j.pt.2 hp)).elim
   |some y=>rw[(h.y y hp).1.symm,(h.y y hp).2.symm];exact r y hp
 .have v:s.step.1.c.blocks=s.c.blocks+1:=by rw[g.1,jw (by omega) (by omega)]
  have a:mQ s.step.1.c x=⟨s.step.1.c.fi.rs,s.step.1.c.fi.pc,s.step.1.c.blocks⟩:=by unfold mQ;exact qr (by omega)
  rw[a];exact⟨⟨g.jb,rfl,λ y e=>by rw[g.2.1]at e;injection e with e;subst e;exact⟨rfl,rfl⟩⟩,by omega,by omega,[],by rw[g.2.2.2,zf],λ e w=>nomatch w⟩
def td(k:Nat)(cs:List Co)(L:List Lw):List Lw:=L.mapIdx λ i x=>if i<k then match cs[i]? with
 |some c=>mQ c x
 |none=>x
 else x
def JY(k:Nat)(cs:List Co)(L:List Lw)(i:Nat):(td k cs L)[i]? = (L[i]?).map λ x=>if i<k then match cs[i]? with
 |some c=>mQ c x
 |none=>x
 else x:=by unfold td;rw[List.getElem?_mapIdx]
def LQ(k:Nat)(cs:List Co)(L:List Lw):(td k cs L).length=L.length:=List.length_mapIdx
def CA(cs:List Co)(L:List Lw):td 0 cs L=L:=by
 apply jy;intro i;rw[JY];simp
def Dq{k:Nat}{cs:List Co}{L:List Lw}{c:Co}{x:Lw}(d:cs[k]? = some c)(a:L[k]? = some x):td (k+1) cs L=(td k cs L).set k (mQ c x)/\(td k cs L)[k]? = some x:=by
 have hl:=(qk.1 a).1;refine⟨?_,by rw[JY,a,ww,qo (DF k)]⟩;apply jy;intro i
 by_cases w:i=k
 .subst w;rw[xp (by rw[LQ];exact hl),JY,a,ww,qr (zp i),d]
 .rw [xu (λ e=>w e.symm),JY,JY]
  by_cases q:i<k
  .simp only[qr q,qr (show i<k+1 by omega)]
  .simp only[qo q,qo (show¬i<k+1 by omega)]
structure JJ(k:Nat)(cs:List Co)(L:List Lw):Prop where
 l4:L.length=4
 c4:cs.length<=4
 j:∀(i:Nat)c,cs[i]? = some c -> ∃x,L[i]? = some x/\JC c x/\0<=c.blocks/\c.blocks<=k
def JJ.step{k:Nat}{b:Bu}{cs cs':List Co}{o:List ic}{L:List Lw}(h:JJ k cs L)(pl:Pl b cs cs' o)(y:∀(i:Nat)c,cs[i]? = some c->c.id=i)(hk:k<=90000):JJ (k+1) cs' (td cs'.length cs' L) /\ ∀e∈o,∃(i:Nat)(c:Co)(x:Lw),cs'[i]? = some c/\e.core=(i:Int)/\(td cs'.length cs' L)[i]? = some x/\(e.kind=6->c.fi.rs=x.r/\c.fi.pc=x.p):=by
 have G:∀{i:Nat}{c:Co}{x:Lw},cs'[i]? = some c->L[i]? = some x->(td cs'.length cs' L)[i]? = some (mQ c x):=λ{i c x}d f=>by
  rw[JY,f,ww,qr (qk.1 d).1,d]
 rcases pl with⟨rfl,rfl⟩|⟨i,c,d,rfl,rfl⟩
 .refine ⟨⟨by rw[LQ];exact h.l4,h.c4,λ i c d=>?_⟩,λ e w=>nomatch w⟩;obtain⟨x,f,j,g,N⟩:=h.j i c d;have v:mQ c x=x:=qo (by have:=j.n;omega);exact⟨x,by rw[G d f,v],j,g,by omega⟩
 .have I:=(qk.1 d).1;obtain⟨x,f,j,g,N⟩:=h.j i c d;obtain⟨R,O,F,l,Q,ev⟩:=Gk (s:=⟨c,b,[]⟩) j g (show c.blocks<=90000 by omega);have F:_<=c.blocks+1:=F;obtain⟨l2,m,-,C⟩:=CS.Ee ⟨c,b,[]⟩;generalize(CS.step ⟨c,b,[]⟩).1=t at *;refine⟨⟨by rw[LQ];exact h.l4,by rw[xg];exact h.c4,λ J E a=>?_⟩,λ e w=>?_⟩
  .by_cases q:J=i
   .subst q;have e:=a;rw[xp I]at e;injection e with e;subst e
    exact⟨_,G a f,R,O,by omega⟩
   .have e:=a;rw[xu (λ e=>q e.symm)]at e;obtain⟨D,A,K,d0,d1⟩:=h.j J E e;have v:mQ E D=D:=qo (by have:=K.n;omega);exact⟨D,by rw[G a A,v],K,d0,by omega⟩
  .have a:(cs.set i t.c)[i]? = some t.c:=xp I;exact⟨i,t.c,_,a,(C e (by rw[m]at w;exact w)).trans (y i c d),G a f,ev e (by rw[Q]at w;exact w)⟩
def e8(l:List Int):List AV:=(List.range 8).map λ i=>uC (l.getD i 0)
def TK(l:List Int):(e8 l).length=8:=by unfold e8;simp
def wC:∀{l:List Int},l.length=8->e8 l=l.map uC
 |[a,b,c,d,e,f,g,h],_=>rfl
def sZ(L:List Lw):List (List AV×Nat):=[(L.flatMap λ x=>e8 x.r,tP),(L.map λ x=>.int .i64 x.p,mf),(L.map λ x=>.int .i64 x.n,mf)]
def JS{L:List Lw}{k:Nat}{x:Lw}(d:L[k]? = some x){r:List Int}(hr:r.length=8)(p n:Int) :
 sZ (L.set k ⟨r,p,n⟩)=(((sZ L).set 2 ((L.map λ x=>AV.int .i64 x.n).set k (.int .i64 n),mf)).set 0 ((L.flatMap λ x=>e8 x.r).take (k*8)++r.map uC++(L.flatMap λ x=>e8 x.r).drop (k*8+8),tP)).set 1 ((L.map λ x=>AV.int .i64 x.p).set k (.int .i64 p),mf):=by
 have a:=PB (f:=λ x:Lw=>e8 x.r) (λ x=>TK x.r) L d ⟨r,p,n⟩;rw[show e8 (Lw.r ⟨r,p,n⟩)=r.map uC from wC hr]at a;unfold sZ;rw[a,Lq,Lq];rfl
section
variable{M:ak}[MK M]{Hb H H1:ar}{B k i z:Nat}{bs:Bs}{own:Nat->Nat}{ks:List Ck}{V:Int->L8}{b:Bu}{cs:List Co}{c:Co}{cvs:AV}{L:List Lw}{x:Lw}
def LR.pk(h:LR Hb H1 H B bs own ks V k b cs cvs z (sZ L))(l4:L.length=4)(a:L[i]? = some x):(∀q:Int,q=i->Op.aP 4 8 [.ptr z 0,.int .i64 q]=some (.ptr z (i*8))/\Op.aP 4 1 [.ptr (z+1) 0,.int .i64 q]=some (.ptr (z+1) i)/\Op.aP 4 1 [.ptr (z+2) 0,.int .i64 q]=some (.ptr (z+2) i))/\Op.aq 8 [.ptr z (i*8)] H=some (.agg (e8 x.r))/\Op.ae [.ptr (z+1) i] H=some (.int .i64 x.p)/\Op.ae [.ptr (z+2) i] H=some (.int .i64 x.n):=by
 have d:i<4:=by have:=(qk.1 a).1;omega
 have a0:=(h.bx 0 _ rfl).1;have g:=(h.bx 1 _ rfl).1;have j:=(h.bx 2 _ rfl).1;have hs:∀x:Lw,(e8 x.r).length=8:=λ x=>TK x.r;have e:((L.flatMap λ x=>e8 x.r).drop (i*8)).take 8=e8 x.r:=by
  rw[Va hs];have:=qxt hs (L.drop i) 1;rw[Nat.one_mul]at this;rw[this,List.take_one,List.head?_drop,a];simp
 refine⟨λ q f=>⟨by rw[Jj f d,j4],by rw[Jj f d,j4,IY],by rw[Jj f d,j4,IY]⟩,?_,?_,?_⟩
 .have q:=a0.fm (k:=i*8) (n:=8) (by show _<=(L.flatMap _).length;rw[Dg hs,l4];omega);exact q.trans (congrArg (λ l=>some (AV.agg l)) e)
 .refine (g.ld i).trans ?_;show(L.map _)[i]? = _;rw[xj,a];rfl
 .refine (j.ld i).trans ?_;show(L.map _)[i]? = _;rw[xj,a];rfl
def LR.cJ{X:List (List AV×Nat)}{x:List AV×Nat}(h:LR Hb H1 H B bs own ks V k b cs cvs z X)(a:X[i]? = some x){j:Nat}{v:AV}(d:av v=true)(e:j<x.1.length)(f:i<3) :
 ∃H',Op.store 1 [.ptr (z+i) j,v] H=some (.undef,H')/\Fr (λ y=>z<=y/\y<z+3) H H'/\LR Hb H1 H' B bs own (wide ks H.au) V k b cs cvs z (X.set i (x.1.set j v,x.2)) :=
 ⟨_,(h.bx i x a).1.st j d e,(cE ..).mono λ y _(q:y=_)=>by subst q;exact⟨by omega,by omega⟩,h.set a _⟩
def LR.st8{X:List (List AV×Nat)}{x:List AV×Nat}(h:LR Hb H1 H B bs own ks V k b cs cvs z X)(a:X[0]? = some x){j:Nat}{r:List Int}(hr:r.length=8)(d:j+8<=x.1.length) :
 ∃H',Op.store 8 [.ptr z j,.agg (r.map uC)] H=some (.undef,H')/\Fr (λ y=>z<=y/\y<z+3) H H'/\LR Hb H1 H' B bs own (wide ks H.au) V k b cs cvs z (X.set 0 (x.1.take j++r.map uC++x.1.drop (j+8),x.2)) :=
 ⟨_,(h.bx 0 x a).1.gI (by show(r.map uC).length=8;rw[xm];exact hr) d (LY r),(cE ..).mono λ y _(q:y=_)=>by subst q;exact⟨by omega,by omega⟩,h.set a _⟩
end
end Go.Am
namespace Go.Am
open Lang Go.Proofs
variable{M:ak}[MK M]
section
variable{Hb H H1:ar}{B k i z:Nat}{bs:Bs}{own:Nat->Nat}{ks:List Ck}{V:Int->L8}{b:Bu}{cs:List Co}{c:Co}{cvs ov lv:AV}{L:List Lw}{x:Lw}
def qZ(i z B:Nat)(cvs lv:AV):Env:=[(15,.int .i64 (i:Int)),(14,.ptr (z+2) 0),(13,.ptr (z+1) 0),(12,.ptr z 0),(7,cvs),(6,.ptr B 0),(5,.bool true),(1,lv)]
def Kl(x:Fi)(h:Tn (x.rs,x.pc))(a:∀y,x.pt=some y->y.1.length=8):∃(r:List Int)(q:Int),Jm x=.tuple [.agg (r.map uC),.int .i64 q,.bool x.pt.isSome]/\r.length=8 /\ ∀y,x.pt=some y->r=y.1/\q=y.2:=by
 unfold Jm;cases hp:x.pt with
 |none=>exact⟨_,_,rfl,by simp,λ y e=>nomatch e⟩
 |some y=>exact⟨_,_,rfl,a y hp,λ d e=>by injection e with e;subst e;exact⟨rfl,rfl⟩⟩
def OX{Q:aF}(h:LR Hb H1 H B bs own ks V k b cs cvs z (sZ L))(l4:L.length=4)(hc:cs[i]? = some c)(hx:L[i]? = some x)(F:JC c x)(j:Nat)
 (hQ:∀H' R v20 U T,Fr Em H H'->LR Hb H1 H' B bs own R V k b cs cvs z (sZ L)->Q .normal ((20,v20)::(19,U)::(18,T)::(17,.int .i64 (i:Int))::(16,ov)::qZ j z B cvs lv) [] H') :
 W M ⟨none,jj⟩ (EH jj 58) true Q ((17,.int .i64 (i:Int))::(16,ov)::qZ j z B cvs lv) [] H:=by
 obtain⟨A,f,-,ix,ld,ldz⟩:=h.core hc;obtain⟨pv,-,p⟩:=f.fi.at';have p8:∀y,c.fi.pt=some y->y.1.length=8:=λ y e=>by rw[e]at p;exact p.1.r8
 unfold qZ;obtain⟨-,-,-,-,-,-,-,-,-,-,-,-,-,-,-,-,-,X,-⟩:=RO M ⟨none,jj⟩;simp only[aa,bc,X,ix,ld];refine C3.q (Gn (M:=M) f) λ v G⟨hv,I⟩=>?_;obtain⟨r,q,ep,r8,K⟩:=Kl c.fi f.fi.w p8;rw[ep]at hv;subst hv;have h2:=h.em I;obtain⟨H3,e3,f3,-,g3⟩:=bX G (OR ((List.replicate 8 (0:Int)).map uC) lV);obtain⟨g,s4,S,f4,-⟩:=tT (n:=8) g3 (by simp) (l:=r.map uC) (by rw[xm];exact r8) (LY r);have d:Fr Em G g:=f3.trans f4 λ y(e:y=G.au)=>.inr (by omega);have E:=h2.em d;obtain⟨A4,m,-,C,D,-⟩:=E.core hc;obtain⟨bi,Y,Z,b2⟩:=E.pk l4 hx;obtain⟨N,O,ix2⟩:=bi _ rfl;have ln:=JZ (M:=M) m;have J:decide (0<c.la.lane)=c.fi.pt.isSome:=by
  have:=F.j.l0;cases hp:c.fi.pt with
  |none=>rw[F.j.pt.2 hp];rfl
  |some y =>
   have:c.la.lane≠0:=λ e=>by rw[F.j.pt.1 e]at hp;cases hp
   exact ke (by omega)
 have a:Op.eq rE.bool true [.bool c.fi.pt.isSome,.bool (decide (0<c.la.lane))] g=some (.bool false):=by rw[J];cases c.fi.pt.isSome<;>rfl
 cases hp:c.fi.pt with
 |none =>
  have a:Op.eq rE.bool true [.bool false,.bool (decide (0<c.la.lane))] g=some (.bool false):=by rw[hp]at a;exact a
  simp only[aa,bc,aA,z8,<-e3,s4,C,D,ln,Option.isSome,a];exact hQ _ _ _ _ _ (I.em d) E
 |some y =>
  have a:Op.eq rE.bool true [.bool true,.bool (decide (0<c.la.lane))] g=some (.bool false):=by rw[hp]at a;exact a
  obtain⟨rfl,rfl⟩:=K y hp;obtain⟨y1,y2⟩:=F.y y hp;have ev:Op.eq (.agg (.part 0 none .int (.part 1 none .int (.part 2 none .int (.part 3 none .int (.part 4 none .int (.part 5 none .int (.part 6 none .int (.part 7 none .int .nil))))))))) true [.agg (y.1.map uC),.agg (y.1.map uC)] g=some (.bool false):=(NF r8 r8 g).trans (by simp);rw[<-y1,wC r8]at Y;rw[<-y2]at Z;have nq:¬y.2≠y.2:=λ q=>q rfl;simp only[aa,bc,aA,z8,<-e3,s4,C,D,ln,Option.isSome,a,S,N,Y,ev,O,Z,nq];exact hQ _ _ _ _ _ (I.em d) E
def Bj{Q:aF}(h:LR Hb H1 H B bs own ks V k b cs cvs z (sZ L))(l4:L.length=4)(c4:cs.length<=4)(hj:∀(i:Nat)c,cs[i]? = some c -> ∃x,L[i]? = some x/\JC c (mQ c x)/\0<=c.blocks/\c.blocks<=90000)(j:Nat)
 (hQ:∀H' a,LR Hb H1 H' B bs own a V k b cs cvs z (sZ (td cs.length cs L))->Fr (λ y=>z<=y/\y<z+3) H H'->W M ⟨none,jj⟩ (EH jj 68) true Q ((17,.int .i64 (cs.length:Nat))::(16,ov)::qZ j z B cvs lv) [] H') :
 W M ⟨none,jj⟩ (EH jj 35) true Q ((16,ov)::qZ j z B cvs lv) [] H:=by
 obtain⟨-,-,-,-,-,-,-,-,-,-,w35,-,f,-,G,-,w67,-,-⟩:=RO M ⟨none,jj⟩;simp only[aa,bc,w35];refine dg.intro (λ nn E g=>∃(i:Nat)(a:List Ck),E=(17,.int .i64 (i:Int))::(16,ov)::qZ j z B cvs lv/\nn=cs.length-i/\i<=cs.length/\LR Hb H1 g B bs own a V k b cs cvs z (sZ (td i cs L))/\Fr (λ y=>z<=y/\y<z+3) H g) ?_ ?_
 .exact ⟨_,_,⟨0,ks,rfl,rfl,xy _,by rw[CA];exact h,Fr.refl _⟩,by unfold qZ;simp only[aa,bc]⟩
 rintro nn E g ⟨i,kx,rfl,rfl,hi,m,N⟩;have ln:=m.len;rcases xr i cs.length with D|hge
 .obtain ⟨c,l⟩:∃c,cs[i]? = some c:=⟨_,qt D⟩
  obtain⟨x,hL,jx,b0,b1⟩:=hj i c l;obtain⟨O,hu⟩:=Dq l hL;have p:(td i cs L).length=4:=by rw[LQ];exact l4
  have wi:aj .i64 ((i:Int)+1)=((i+1:Nat):Int):=by rw[jw (by omega) (by omega)];omega
  have J:(i:Int)<((cs.length:Nat):Int):=by omega
  have T:(td (i+1) cs L)[i]? = some (mQ c x):=by rw[O,xp (by rw[p];omega)]
  -- what is left to do
  have fin:∀I ky,LR Hb H1 I B bs own ky V k b cs cvs z (sZ (td (i+1) cs L))->Fr (λ y=>z<=y/\y<z+3) H I->W M ⟨none,jj⟩ (EH jj 58) true (eB 3 (eG (W M ⟨none,jj⟩ (EH jj 67)) (Jx (λ nn E g=>∃(i:Nat)(a:List Ck),E=(17,.int .i64 (i:Int))::(16,ov)::qZ j z B cvs lv/\nn=cs.length-i/\i<=cs.length/\LR Hb H1 g B bs own a V k b cs cvs z (sZ (td i cs L))/\Fr (λ y=>z<=y/\y<z+3) H g) [] (cs.length-i) (eB 2 (eG (W M ⟨none,jj⟩ (EH jj 68)) Q))))) ((17,.int .i64 (i:Int))::(16,ov)::qZ j z B cvs lv) [] I:=λ I ky hy FY=>by
   refine OX hy (by rw[LQ];exact l4) l T jx j λ H' a v20 v19 v18 f' h'=>?_;unfold qZ;simp only[aa,bc,w67,wi];exact⟨_,_,⟨i+1,a,rfl,rfl,D,h',FY.trans f' λ y q=>q.elim⟩,by simp only[aa,bc],by omega⟩
  obtain⟨A,R,-,ix,ld,ldz⟩:=m.core l;obtain⟨bi,-,-,b2⟩:=m.pk p hu;obtain⟨U,X,F⟩:=bi _ rfl;have hb:=HA (M:=M) R;have wb:aj .i64 (c.blocks-1)=c.blocks-1:=jw (by omega) (by omega);have wc:aj .i64 (c.blocks-1+1)=c.blocks:=by rw[jw (by omega) (by omega)];omega
  by_cases K:x.n<=c.blocks-1
  .unfold qZ;obtain⟨H2,s2,f2,h2⟩:=m.cJ (i:=2) rfl (j:=i) (v:=.int .i64 c.blocks) rfl (by show i<(List.map _ _).length;rw[xm,p];omega) (by decide);obtain⟨A2,d,-,iy2,Z,-⟩:=h2.core l;have ld2':=ldz (f2.mono λ y _ q=>q.1);simp only[aa,bc,f,ln,J,G,ix,ld,hb,wb,F,b2,K,wc,s2,Z];refine C3.q (BH (M:=M) d) λ v H3⟨hv,f3⟩=>?_;subst hv;have h3:=h2.em f3;obtain⟨H4,s4,f4,h4⟩:=h3.st8 rfl (j:=i*8) d.fi.w.r8 (by show i*8+8<=(List.flatMap _ _).length;rw[Dg (enc:=λ x:Lw=>e8 x.r) (size:=8) (λ x=>TK x.r),p];omega);obtain⟨A4,C,-,Y,ld4,-⟩:=h4.core l;have S:=Oy (M:=M) C;obtain⟨H5,s5,f5,h5⟩:=h4.cJ (i:=1) rfl (j:=i) (v:=.int .i64 c.fi.pc) rfl (by show i<(List.map _ _).length;rw[xm,p];omega) (by decide);simp only[aa,bc,U,s4,Y,ld4,S,X,s5];have ex:=JS hu d.fi.w.r8 c.fi.pc c.blocks;rw[show(⟨c.fi.rs,c.fi.pc,c.blocks⟩:Lw)=mQ c x from(qr K).symm,<-O]at ex;exact fin _ _ (Eq.mpr (congrArg (LR Hb H1 H5 B bs own _ V k b cs cvs z) ex) h5) ((((N.trans f2 λ y q=>.inl q).trans f3 λ y q=>q.elim).trans f4 λ y q=>.inl q).trans f5 λ y q=>.inl q)
  .have e:td (i+1) cs L=td i cs L:=by
    rw[O,show mQ c x=x from qo K];apply jy;intro y
    by_cases w:y=i
    .subst w;rw[xp (by rw[p];omega),hu]
    .rw [xu (λ e=>w e.symm)]
   unfold qZ at *;simp only[aa,bc,f,ln,J,G,ix,ld,hb,wb,F,b2,K];exact fin _ kx (e▸m) N
 .have J:¬(i:Int)<((cs.length:Nat):Int):=by omega
  have ie:i=cs.length:=by omega
  subst ie;unfold qZ at *;simp only[aa,bc,f,ln,J];exact hQ _ _ m N
end
end Go.Am
namespace Go.Am
open Lang Go.Proofs
variable{M:ak}[MK M]
def Pl.len{b:Bu}{cs cs':List Co}{o:List ic}(h:Pl b cs cs' o):o.length<=3:=by
 rcases h with⟨-,rfl⟩|⟨i,c,-,-,rfl⟩
 .exact xy _
 .obtain ⟨l,e,h,-⟩:=CS.Ee ⟨c,b,[]⟩;rw[e];exact h
section
variable{Hb H H1:ar}{B k i z:Nat}{bs:Bs}{own:Nat->Nat}{ks:List Ck}{V:Int->L8}{b:Bu}{cs:List Co}{c:Co}{cvs ov lv v17:AV}{L:List Lw}{x:Lw}{o:List ic}
def JA{Q:aF}(h:LR Hb H1 H B bs own ks V k b cs cvs z (sZ L))(l4:L.length=4)(ow:dU ic.enc 9 H ov o)(o3:o.length<=3)(N:∀e∈o,∃(i:Nat)(c:Co)(x:Lw),cs[i]? = some c/\e.core=(i:Int)/\L[i]? = some x/\(e.kind=6->c.fi.rs=x.r/\c.fi.pc=x.p))(j:Nat)
 (hQ:∀H' d Y,LR Hb H1 H' B bs own d V k b cs cvs z (sZ L)->Q .normal ((21,Y)::(17,v17)::(16,ov)::qZ j z B cvs lv) [] H') :
 W M ⟨none,jj⟩ (EH jj 68) true Q ((17,v17)::(16,ov)::qZ j z B cvs lv) [] H:=by
 obtain⟨-,-,-,-,-,-,-,-,-,-,-,Z,-,f,-,F,-,-,G⟩:=RO M ⟨none,jj⟩;simp only[aa,bc,Z];refine dg.intro (λ nn E g=>∃(i:Nat)(d:List Ck),E=(21,.int .i64 (i:Int))::(17,v17)::(16,ov)::qZ j z B cvs lv/\nn=o.length-i/\i<=o.length/\LR Hb H1 g B bs own d V k b cs cvs z (sZ L)/\Fr Em H g) ?_ ?_
 .exact ⟨_,_,⟨0,ks,rfl,rfl,xy _,h,Fr.refl _⟩,by unfold qZ;simp only[aa,bc]⟩
 rintro nn E g ⟨i,kx,rfl,rfl,hi,D,J⟩;have so:dU ic.enc 9 g ov o:=Sl.em ow J;have ln:=so.len;unfold qZ at *;rcases xr i o.length with a|hge
 .obtain ⟨e,he⟩:∃e,o[i]? = some e:=⟨_,qt a⟩
  have wi:aj .i64 ((i:Int)+1)=((i+1:Nat):Int):=by rw[jw (by omega) (by omega)];omega
  have I:(i:Int)<((o.length:Nat):Int):=by omega
  have ix:=so.idx he (z:=(i:Int)) rfl .i64;obtain⟨m,c,x,hc,em,hL,h6⟩:=N e (za he);have k0:Op.ae [.ptr (aH ov) (cF 9 ov i)] g=some (.int .i64 e.kind):=so.kP (enc:=ic.enc) (size:=9) oI he (by decide);have k2:Op.ae [.ptr (aH ov) (cF 9 ov i+2)] g=some (.int .i64 (m:Int)):=(so.ae (enc:=ic.enc) (size:=9) oI he (j:=2) (by decide)).trans (by rw[<-em];rfl)
  by_cases X:e.kind=6
  .obtain ⟨e1,e2⟩:=h6 X;obtain⟨A,y,-,iy,ld,ldz⟩:=D.core hc;obtain⟨bi,b0,-,-⟩:=D.pk l4 hL;obtain⟨R,S,-⟩:=bi _ rfl;simp only[aa,bc,f,ln,I,F,ix,k2,k0,X,iy,ld,R,b0];refine C3.q (BH (M:=M) y) λ v H2⟨hv,f2⟩=>?_;subst hv;have K:=D.em f2;obtain⟨A2,C,-,T,U,-⟩:=K.core hc;obtain⟨-,l,n,-⟩:=K.pk l4 hL;have O:=Oy (M:=M) C;have r8:c.fi.rs.length=8:=y.fi.w.r8;have ev:Op.eq (.agg (.part 0 none .int (.part 1 none .int (.part 2 none .int (.part 3 none .int (.part 4 none .int (.part 5 none .int (.part 6 none .int (.part 7 none .int .nil))))))))) true [.agg (c.fi.rs.map uC),.agg (c.fi.rs.map uC)] H2=some (.bool false):=(NF r8 r8 H2).trans (by simp);rw[<-e1,wC r8]at l;rw[<-e2]at n;have nq:¬c.fi.pc≠c.fi.pc:=λ q=>q rfl;rw[<-e1,wC r8];simp only[aa,bc,l,ev,T,U,S,n,O,nq,G,wi];exact⟨_,_,⟨i+1,_,rfl,rfl,a,K,J.em f2⟩,by simp only[aa,bc],by omega⟩
  .simp only[aa,bc,f,ln,I,F,ix,k2,k0,X,G,wi];exact⟨_,_,⟨i+1,_,rfl,rfl,a,D,J⟩,by simp only[aa,bc],by omega⟩
 .have I:¬(i:Int)<((o.length:Nat):Int):=by omega
  simp only[aa,bc,f,ln,I];exact hQ _ _ _ D
def L0:List Lw:=List.replicate 4 ⟨List.replicate 8 0,0,0⟩
def bx0:sZ L0=[(List.replicate 32 (.int .u64 0),tP),([.int .i64 0,.int .i64 0,.int .i64 0,.int .i64 0],mf),([.int .i64 0,.int .i64 0,.int .i64 0,.int .i64 0],mf)]:=rfl
def JJ.zero{l f so sf:Int}{qs:List (List gP)}(g:qs.length<=4):JJ 0 (Ba l f so sf qs qs.length) L0:=by
 refine⟨rfl,by rw[XB];exact g,λ i c a=>?_⟩;have d:=(qk.1 a).1;rw[XB]at d;unfold Ba at a;rw[xj,yk d]at a;injection a with a;subst a
 exact⟨⟨List.replicate 8 0,0,0⟩,List.getElem?_replicate_of_lt (by omega),⟨⟨⟨λ _=>rfl,λ _=>rfl⟩,wn _,λ q=>(q rfl).elim⟩,rfl,λ y e=>nomatch e⟩,wn _,wn _⟩
def q9p{H:ar}{l c s w f so sf:Int}{cv lv:AV}{R:List (AV×List gP)}{n:List Ac}(hal:∀H1,Fr Em H H1->zd M q7i [] H1 λ v H'=>v=.bool true/\H'=H1)(hS:uQ H)
 (hP:dU nH 1 H cv R) (hps:∀p∈R,dU fk 5 H p.1 p.2) (ha:dU pR 3 H lv n):zd M jj [.agg (xE l c s w cv f so sf),lv] H λ v _=>v=.bool true:=by
 refine qyw ?_;obtain⟨w0,w4,w6,w14,w18,w20,w91,S,w31,w90,-,-,-,-,-,-,-,-,-⟩:=RO M ⟨none,jj⟩;obtain⟨H1,e1,I,n1,g1⟩:=bX H (OR (xE l c s w cv f so sf) yp);have k8:Op.aq 8 [.ptr H.au 0] H1=some (.agg (xE l c s w cv f so sf)):=fm g1 rfl;simp only[aa,bc,w0,<-e1];refine C3.q (hal H1 I) λ v X⟨hv,hh⟩=>?_;subst hv;subst hh;simp only[aa,bc,w4,k8];refine C3.q (xkc (M:=M) (l:=l) (c:=c) (s:=s) (w:=w) (f:=f) (so:=so) (sf:=sf) (Sl.em hP I) λ p q=>Sl.em (hps p q) I) λ v g⟨f2,hm⟩=>?_;rcases hm with⟨q,rfl⟩|⟨Hb,B,cvs,bs,own,ks,V,x,y,rfl,hok,hlen,-,hb2,hr,oc,J⟩
 .simp only[aa,bc,aA,w6]
 have al:=(show dU pR 3 g lv n from Sl.em ha (I.em f2)).len
 by_cases q5:(500:Int)<((n.length:Nat):Int)
 .simp only[aa,bc,aA,w6,al,q5]
 obtain⟨H3,e3,f3,n3,-⟩:=bX g (OR (List.replicate 32 (.int .u64 0)) tP);obtain⟨H4,Y,f4,-,-⟩:=bX H3 (OR [.int .i64 0,.int .i64 0,.int .i64 0,.int .i64 0] mf);obtain⟨D,Z,f5,-,-⟩:=bX H4 (OR [.int .i64 0,.int .i64 0,.int .i64 0,.int .i64 0] mf);have n4:H4.au=g.au+2:=by rw[Y,xx,n3]
 have n5:D.au=g.au+3:=by rw[Z,xx,n4]
 have C:Fr Em g D:=(f3.em f4).em f5;have hB:Hb.au<=g.au:=by have:=hr.r.lo B (.inl rfl);have:=hr.r.lt;omega
 have FH:Fr Em H g:=I.em f2;have X5:LR Hb g D B bs own (wide ks g.au) V 0 (iU l c s w []) (Ba l f so sf (R.map Prod.snd) (R.map Prod.snd).length) cvs g.au (sZ L0):=by
  refine⟨hr.em C,by rw[Ip];exact Own.em oc C,λ y q=>⟨(J y q).1.em C.au,(J y q).1.lt⟩,C.mono λ _ _ q=>q.elim,λ i x e=>?_,hB⟩;rw[bx0]at e;have g3:D.get g.au=some (OR (List.replicate 32 (.int .u64 0)) tP):=by rw[(f4.em f5).ah _ (by omega) id,e3,xf]
  have g4:D.get (g.au+1)=some (OR [.int .i64 0,.int .i64 0,.int .i64 0,.int .i64 0] mf):=by rw[f5.ah _ (by omega) id,Y,<-n3,xf]
  have g5:D.get (g.au+2)=some (OR [.int .i64 0,.int .i64 0,.int .i64 0,.int .i64 0] mf):=by rw[Z,<-n4,xf]
  have hi:=(qk.1 e).1;have hi:i<3:=hi;refine⟨?_,hr.new (by omega) (by omega)⟩;rcases(show i=0\/i=1\/i=2 by omega)with rfl|rfl|rfl
  .injection e with e;subst e;exact⟨g3,by omega⟩
  .injection e with e;subst e;exact⟨g4,by omega⟩
  .injection e with e;subst e;exact⟨g5,by omega⟩
 have G:=e3.symm;simp only[List.replicate]at G;simp only[aa,bc,aA,w6,al,q5,w14,G,w18,<-Y,<-Z,w20];have q4:(R.map Prod.snd).length<=4:=by have:=hok.1.2.2;omega
 refine dg.intro (λ nn E T=>∃(i:Nat)(bs:Bs)(own:Nat->Nat)(ks:List Ck)(V:Int->L8)(b:Bu)(cs:List Co)(L:List Lw),E=qZ i g.au B cvs lv/\nn=n.length-i/\i<=n.length/\LR Hb g T B bs own ks V (2*i) b cs cvs g.au (sZ L)/\JJ i cs L) ?_ ?_
 .exact ⟨_,_,⟨0,bs,own,_,V,_,_,L0,rfl,rfl,xy _,X5,JJ.zero q4⟩,by unfold qZ;simp only[aa,bc,n3,n4]⟩
 rintro nn E T ⟨i,bs,own,ks,V,b,cs,L,rfl,rfl,hi,O,hj⟩;have FX:Fr Em H T:=FH.trans O.F λ y q=>.inr (by omega);have sa:dU pR 3 T lv n:=Sl.em ha FX;unfold qZ;rcases xr i n.length with N|hge
 .obtain ⟨a,Q⟩:∃a,n[i]? = some a:=⟨_,qt N⟩
  have wi:aj .i64 ((i:Int)+1)=((i+1:Nat):Int):=by rw[jw (by omega) (by omega)];omega
  have q0:(i:Int)<((n.length:Nat):Int):=by omega
  have ix:=sa.idx Q (z:=(i:Int)) rfl .i64;have ld:=sa.aq xjd (by decide) Q;simp only[aa,bc,S,al,q0,w31,ix,ld];refine C3.q (xkp (M:=M) O.m O.oc (by omega) (hS.em FX) (by have:=hS.2;omega) a) λ ov H6 hp=>?_;obtain⟨b',cs',o,W,aS,ks',V',h6,pl,ow,ns⟩:=O.PC hp;have hid:∀(i:Nat)c,cs[i]? = some c->c.id=i:=λ i c hc=>by
   obtain⟨A,-,h,-⟩:=O.core hc;exact h
  obtain⟨j',ev⟩:=hj.step pl hid (by omega);have c4:=j'.c4;have K:=hj.l4;simp only[aa,bc];refine Bj h6 K c4 (λ m d hd=>?_) i λ H7 ks7 h7 f7=>?_
  .obtain ⟨x,hx',jx,b0,b1⟩:=j'.j m d hd;have hm:=hx';rw[JY]at hm;obtain⟨x0,h0,U⟩:=xk.1 hm;rw[qr (qk.1 hd).1,hd]at U;have U:mQ d x0=x:=U;exact⟨x0,h0,U▸jx,b0,by omega⟩
  .have so7:dU ic.enc 9 H7 ov o:=a9.sl (Own.fr ow f7 λ y q e=>by
    obtain⟨m,rfl⟩:∃m,y=g.au+m:=⟨y-g.au,by omega⟩
    have:m<(sZ L).length:=by show m<3;omega
    exact ns m _ (qt this) q)
   refine JA h7 (by rw[LQ];exact K) so7 pl.len ev i λ H8 ks8 v21 h8=>?_;unfold qZ;simp only[aa,bc,w90,wi];exact⟨_,_,⟨i+1,W,aS,ks8,V',b',cs',_,rfl,rfl,N,h8,j'⟩,by simp only[aa,bc],by omega⟩
 .have q0:¬(i:Int)<((n.length:Nat):Int):=by omega
  simp only[aa,bc,S,al,q0,w91]
end
end Go.Am
